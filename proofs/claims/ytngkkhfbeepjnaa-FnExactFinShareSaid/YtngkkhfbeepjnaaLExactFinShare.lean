/-
  The program's FinShare returns what the reference's returns, for every argument. No condition.
-/
import Derived.Test.YtngkkhfbeepjnaaRows
import Derived.Test.YtngkkhfbeepjnaaPost
import Derived.Test.YtngkkhfbeepjnaaExp
namespace Go.Proofs.Ytngkkhfbeepjnaa
set_option linter.unusedVariables false
set_option linter.unusedSimpArgs false
open Go.ChangeShapes Go.WideShapes Go.ChangeAt Go.RowKit Go.Joins Go.ChangeMaps Fl

theorem walk_FnExactFinShare (a : Nat) (wa : (Lit.float .f32 a).wf = true) (b : Nat) (wb : (Lit.float .f32 b).wf = true) (c : Nat) (wc : (Lit.float .f32 c).wf = true) (d : Nat) (wd : (Lit.float .f32 d).wf = true) (w : World) :
    Calls Try.prog 7 #[.float .f32 a, .float .f32 b, .float .f32 c, .float .f32 d] w fun e w' => e = .returned (.bool true) ∧ Below w.heap.size w w' := by
  have ha : IsF .f32 a (cl .f32 a) := IsF.of (lt_of_wf wa)
  have hb : IsF .f32 b (cl .f32 b) := IsF.of (lt_of_wf wb)
  have hc : IsF .f32 c (cl .f32 c) := IsF.of (lt_of_wf wc)
  have hd : IsF .f32 d (cl .f32 d) := IsF.of (lt_of_wf wd)
  generalize cl .f32 a = u at ha
  generalize cl .f32 b = v at hb
  generalize cl .f32 c = x at hc
  generalize cl .f32 d = y at hd
  go_enter Try.func7, Try.ntmps7
  go_wp2_with fail
  refine (sFinShare_any _ _ _ _ _ _ _ _ ha hb hc hd _).mono ?_
  rintro e w1 ⟨r1, n1, rfl, q1, rfl⟩
  go_wp2_with fail
  refine (iFinShare_any _ _ _ _ _ _ _ _ ha hb hc hd _).mono ?_
  rintro e w2 ⟨r2, rfl, q2, hB⟩
  have hB0 : Below w.heap.size w w2 := ((below_draws w n1).trans (hB.mono (Nat.le_refl _)))
  generalize (if (posF u && posF v && posF x && posF y) = true then chkF (finV (finM u v x y)) else some 0) = sv at *
  generalize (posF u && posF v && posF x && posF y && finF (finV (finM u v x y))) = sb at *
  clear hB
  go_wp2_with (first | (refine wpList_far rfl rfl (by first | exact .inl rfl | exact .inr (.inl rfl) | exact .inr (.inr (.inl rfl)) | exact .inr (.inr (.inr rfl))) rfl rfl (by first | assumption | exact isF_ofInt _ _ | exact IsF.lit (by decide +kernel)) (by first | assumption | exact isF_ofInt _ _ | exact IsF.lit (by decide +kernel)) ?_; intro r n hr) | (refine wpList_fcmp rfl rfl (by first | exact .inl rfl | exact .inr (.inl rfl) | exact .inr (.inr (.inl rfl)) | exact .inr (.inr (.inr (.inl rfl))) | exact .inr (.inr (.inr (.inr (.inl rfl)))) | exact .inr (.inr (.inr (.inr (.inr rfl))))) rfl rfl (by first | assumption | exact isF_ofInt _ _ | exact IsF.lit (by decide +kernel)) (by first | assumption | exact isF_ofInt _ _ | exact IsF.lit (by decide +kernel)) (by first | assumption | exact rfl) ?_) | (first | (refine wpList_fsame rfl rfl rfl (congrArg Option.isSome Try.underlying22) Try.underlying22 ?_) | (refine wpList_fsame rfl rfl rfl (congrArg Option.isSome Try.underlying32) Try.underlying32 ?_)) | (refine wpList_fwid rfl rfl rfl (congrArg Option.isSome Try.underlying22) Try.underlying32 (by assumption) ?_; intro r n hr) | (refine wpList_fnar rfl rfl rfl (congrArg Option.isSome Try.underlying32) Try.underlying22 (by assumption) (by assumption) ?_; intro r n hr) | (refine wpList_fneg rfl rfl rfl (by assumption) ?_; intro r hr) | (go_at_call 13; refine (sameFloat_any _ _ _ (by assumption) (by assumption) _).mono ?_; rintro e w3 ⟨n3, rfl, rfl⟩))
  go_ret
  exact ⟨rfl, by (repeat' first | assumption | exact Below.refl _ _ | refine B_drew ?_ _ | refine Below.drew ?_ | refine Below.alloc ?_ (by first | exact Nat.le_refl _ | (simp; done) | (simp; omega)) _)⟩
theorem laidOut_FnExactFinShare : laidOutB Try.prog = true := by kernel_rfl
theorem contract_FnExactFinShare (H : Type) (enc : TypeId × Value → H) (W : World) (base : Nat) (args : Array Value) (ds gs : List (DataW H)) (before : List MemPlace)
    (hval : ∀ (j : Nat) t v, Try.f7.params[j]? = some t → args[j]? = some v → Value.okWide Try.prog W .any base t v)
    (hW : DataW.Whole enc Try.prog Try.f7.params.toList Rows.fnExactFinShareSpec.vars false W args.toList ds gs before) :
    Calls Try.prog 7 args W fun e W' => ∃ v, e = .returned v ∧ Rows.fnExactFinShareSpec.post enc Try.prog Try.f7 false true false false W args v W' := by
  have hW' := hW
  obtain ⟨p, q, hA0, hV, rfl, hfz, hnd⟩ := hW
  have hA : DataW.TrodAll enc Try.prog W 0 (fun _ => true) true Try.f7.params.toList args.toList ds p := hA0
  rw [Try.params7] at hA hval
  obtain ⟨v0, vs0, d0, ds0, p0, q0, hargs, rfl, rfl, h0, r0⟩ := trodAll_cons hA
  obtain ⟨v1, vs1, d1, ds1, p1, q1, rfl, rfl, rfl, h1, r1⟩ := trodAll_cons r0
  obtain ⟨v2, vs2, d2, ds2, p2, q2, rfl, rfl, rfl, h2, r2⟩ := trodAll_cons r1
  obtain ⟨v3, vs3, d3, ds3, p3, q3, rfl, rfl, rfl, h3, r3⟩ := trodAll_cons r2
  obtain ⟨rfl, rfl, rfl⟩ := trodAll_nil r3
  obtain rfl : args = #[v0, v1, v2, v3] := by cases args; simp_all
  obtain ⟨rfl, rfl⟩ := trodVars_none hV
  obtain ⟨a0, rfl, rfl, rfl, w0⟩ := open_float Try.underlying22 (hval 0 22 v0 rfl rfl) h0
  obtain ⟨a1, rfl, rfl, rfl, w1⟩ := open_float Try.underlying22 (hval 1 22 v1 rfl rfl) h1
  obtain ⟨a2, rfl, rfl, rfl, w2⟩ := open_float Try.underlying22 (hval 2 22 v2 rfl rfl) h2
  obtain ⟨a3, rfl, rfl, rfl, w3⟩ := open_float Try.underlying22 (hval 3 22 v3 rfl rfl) h3
  clear hA0
  simp only [List.append_nil] at hW'
  refine (walk_FnExactFinShare (w := W) a0 w0 a1 w1 a2 w2 a3 w3).mono fun e W' ⟨he, hb⟩ => ?_
  subst he
  exact ⟨_, rfl, post_of_below (pa := ([] ++ ([] ++ ([] ++ ([] ++ []))))) (pv := []) hW' (fun _ _ _ => (trodAll_cons_mk (shut_bool Try.underlying4 _) trodAll_mk0)) (fun sp hsp => (trodAll_cons_mk (shut_float Try.underlying22 w0) (trodAll_cons_mk (shut_float Try.underlying22 w1) (trodAll_cons_mk (shut_float Try.underlying22 w2) (trodAll_cons_mk (shut_float Try.underlying22 w3) trodAll_mk0))))) (fun _ _ => rfl) (by simp) hb (ok_one (by kernel_rfl) rfl (okWide_bool_mk Try.underlying4 _))⟩

theorem own_FnExactFinShare : ownKnob Try.prog.godebug = none := by kernel_rfl
set_option maxRecDepth 100000 in
theorem lifted_FnExactFinShare (os : Os) (started : os.Started) (H : Type) (enc : TypeId × Value → H) :
    ReturnsInHanded {} Try.checked os 7 .any (Rows.fnExactFinShareSpec.pre6 enc Try.prog Try.f7 Rows.fnExactFinShareRow.domain false) (Rows.fnExactFinShareSpec.post enc Try.prog Try.f7 false true false false) := by
  refine returnsInHanded_of_change (C := Try.checked) own_FnExactFinShare started (by kernel_rfl) Try.func7
    (ChangeSpec.witness6 (enc := enc) (C := Try.checked) false ⟨#[], #[.float .f32 0, .float .f32 0, .float .f32 0, .float .f32 0], []⟩ 8 (by kernel_rfl) (by kernel_rfl) (by kernel_rfl) (by kernel_rfl)) ?_
  intro W base args ds gs before hval hW _ _
  exact contract_FnExactFinShare H enc W base args ds gs before hval hW
theorem over_FnExactFinShare : Rows.fnExactFinShareRow.holds Try.pinned (OpenSpec.ofChange Rows.fnExactFinShareSpec) :=
  OpenClaim.holds_of_wide 7 Try.f7 rfl rfl rfl rfl rfl rfl rfl ⟨rfl, rfl, rfl, rfl, rfl⟩ rfl rfl rfl rfl rfl (by kernel_rfl) Try.func7 (by kernel_rfl)
    (of_decide_eq_true (by kernel_rfl)) (by unfold Func.isWrapper; first | (rw [if_pos (by decide +kernel)]; kernel_rfl) | (rw [if_neg (by decide +kernel)]; exact ⟨rfl, rfl⟩))
    (fun os started H enc _ => lifted_FnExactFinShare os started H enc)
theorem proved_FnExactFinShare : Rows.FnExactFinShareSaid := over_FnExactFinShare
#print axioms proved_FnExactFinShare
end Go.Proofs.Ytngkkhfbeepjnaa
