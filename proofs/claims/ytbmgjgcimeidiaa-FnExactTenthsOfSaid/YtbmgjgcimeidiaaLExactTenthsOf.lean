/-
  The program's TenthsOf returns what the reference's returns, for every argument. No condition.
-/
import Derived.Test.YtbmgjgcimeidiaaRows
import Derived.Test.YtbmgjgcimeidiaaPost
import Derived.Test.YtbmgjgcimeidiaaTen
namespace Go.Proofs.Ytbmgjgcimeidiaa
set_option linter.unusedVariables false
set_option linter.unusedSimpArgs false
open Go.ChangeShapes Go.WideShapes Go.ChangeAt Go.RowKit Go.Joins Go.ChangeMaps Fl

theorem walk_FnExactTenthsOf (a : Nat) (wa : (Lit.float .f32 a).wf = true) (w : World) :
    Calls Try.prog 7 #[.float .f32 a] w fun e w' => e = .returned (.bool true) ∧ Below w.heap.size w w' := by
  have ha : IsF .f32 a (cl .f32 a) := IsF.of (lt_of_wf wa)
  generalize cl .f32 a = u at ha
  go_enter Try.func7, Try.ntmps7
  go_wp2_with fail
  refine (sTenthsOf_any _ _ ha _).mono ?_
  rintro e w1 ⟨n1, rfl, rfl⟩
  go_wp2_with fail
  refine (iTenthsOf_any _ _ ha _).mono ?_
  rintro e w2 ⟨rfl, hB⟩
  have hB0 : Below w.heap.size w w2 := ((below_draws w n1).trans (hB.mono (Nat.le_refl _)))
  generalize tenV u = sv at *
  generalize posF u = sb at *
  clear hB
  go_wp2_with (first | (refine wpList_far rfl rfl (by first | exact .inl rfl | exact .inr (.inl rfl) | exact .inr (.inr (.inl rfl)) | exact .inr (.inr (.inr rfl))) rfl rfl (by first | assumption | exact isF_ofInt _ _ | exact IsF.lit (by decide +kernel)) (by first | assumption | exact isF_ofInt _ _ | exact IsF.lit (by decide +kernel)) ?_; intro r n hr) | (refine wpList_fcmp rfl rfl (by first | exact .inl rfl | exact .inr (.inl rfl) | exact .inr (.inr (.inl rfl)) | exact .inr (.inr (.inr (.inl rfl))) | exact .inr (.inr (.inr (.inr (.inl rfl)))) | exact .inr (.inr (.inr (.inr (.inr rfl))))) rfl rfl (by first | assumption | exact isF_ofInt _ _ | exact IsF.lit (by decide +kernel)) (by first | assumption | exact isF_ofInt _ _ | exact IsF.lit (by decide +kernel)) (by first | assumption | exact rfl) ?_) | (first | (refine wpList_fsame rfl rfl rfl (congrArg Option.isSome Try.underlying22) Try.underlying22 ?_) | (refine wpList_fsame rfl rfl rfl (congrArg Option.isSome Try.underlying25) Try.underlying25 ?_)) | (refine wpList_fwid rfl rfl rfl (congrArg Option.isSome Try.underlying22) Try.underlying25 (by assumption) ?_; intro r n hr) | (refine wpList_fnar rfl rfl rfl (congrArg Option.isSome Try.underlying25) Try.underlying22 (by assumption) (by assumption) ?_; intro r n hr) | (refine wpList_fneg rfl rfl rfl (by assumption) ?_; intro r hr))
  go_ret
  exact ⟨rfl, by (repeat' first | assumption | exact Below.refl _ _ | refine B_drew ?_ _ | refine Below.drew ?_ | refine Below.alloc ?_ (by first | exact Nat.le_refl _ | (simp; done) | (simp; omega)) _)⟩
theorem laidOut_FnExactTenthsOf : laidOutB Try.prog = true := by kernel_rfl
theorem contract_FnExactTenthsOf (H : Type) (enc : TypeId × Value → H) (W : World) (base : Nat) (args : Array Value) (ds gs : List (DataW H)) (before : List MemPlace)
    (hval : ∀ (j : Nat) t v, Try.f7.params[j]? = some t → args[j]? = some v → Value.okWide Try.prog W .any base t v)
    (hW : DataW.Whole enc Try.prog Try.f7.params.toList Rows.fnExactTenthsOfSpec.vars false W args.toList ds gs before) :
    Calls Try.prog 7 args W fun e W' => ∃ v, e = .returned v ∧ Rows.fnExactTenthsOfSpec.post enc Try.prog Try.f7 false true false false W args v W' := by
  have hW' := hW
  obtain ⟨p, q, hA0, hV, rfl, hfz, hnd⟩ := hW
  have hA : DataW.TrodAll enc Try.prog W 0 (fun _ => true) true Try.f7.params.toList args.toList ds p := hA0
  rw [Try.params7] at hA hval
  obtain ⟨v0, vs0, d0, ds0, p0, q0, hargs, rfl, rfl, h0, r0⟩ := trodAll_cons hA
  obtain ⟨rfl, rfl, rfl⟩ := trodAll_nil r0
  obtain rfl : args = #[v0] := by cases args; simp_all
  obtain ⟨rfl, rfl⟩ := trodVars_none hV
  obtain ⟨a0, rfl, rfl, rfl, w0⟩ := open_float Try.underlying22 (hval 0 22 v0 rfl rfl) h0
  clear hA0
  simp only [List.append_nil] at hW'
  refine (walk_FnExactTenthsOf (w := W) a0 w0).mono fun e W' ⟨he, hb⟩ => ?_
  subst he
  exact ⟨_, rfl, post_of_below (pa := ([] ++ [])) (pv := []) hW' (fun _ _ _ => (trodAll_cons_mk (shut_bool Try.underlying4 _) trodAll_mk0)) (fun sp hsp => (trodAll_cons_mk (shut_float Try.underlying22 w0) trodAll_mk0)) (fun _ _ => rfl) (by simp) hb (ok_one (by kernel_rfl) rfl (okWide_bool_mk Try.underlying4 _))⟩

theorem own_FnExactTenthsOf : ownKnob Try.prog.godebug = none := by kernel_rfl
set_option maxRecDepth 100000 in
theorem lifted_FnExactTenthsOf (os : Os) (started : os.Started) (H : Type) (enc : TypeId × Value → H) :
    ReturnsInHanded {} Try.checked os 7 .any (Rows.fnExactTenthsOfSpec.pre6 enc Try.prog Try.f7 Rows.fnExactTenthsOfRow.domain false) (Rows.fnExactTenthsOfSpec.post enc Try.prog Try.f7 false true false false) := by
  refine returnsInHanded_of_change (C := Try.checked) own_FnExactTenthsOf started (by kernel_rfl) Try.func7
    (ChangeSpec.witness6 (enc := enc) (C := Try.checked) false ⟨#[], #[.float .f32 0], []⟩ 8 (by kernel_rfl) (by kernel_rfl) (by kernel_rfl) (by kernel_rfl)) ?_
  intro W base args ds gs before hval hW _ _
  exact contract_FnExactTenthsOf H enc W base args ds gs before hval hW
theorem over_FnExactTenthsOf : Rows.fnExactTenthsOfRow.holds Try.pinned (OpenSpec.ofChange Rows.fnExactTenthsOfSpec) :=
  OpenClaim.holds_of_wide 7 Try.f7 rfl rfl rfl rfl rfl rfl rfl ⟨rfl, rfl, rfl, rfl, rfl⟩ rfl rfl rfl rfl rfl (by kernel_rfl) Try.func7 (by kernel_rfl)
    (of_decide_eq_true (by kernel_rfl)) (by unfold Func.isWrapper; first | (rw [if_pos (by decide +kernel)]; kernel_rfl) | (rw [if_neg (by decide +kernel)]; exact ⟨rfl, rfl⟩))
    (fun os started H enc _ => lifted_FnExactTenthsOf os started H enc)
theorem proved_FnExactTenthsOf : Rows.FnExactTenthsOfSaid := over_FnExactTenthsOf
#print axioms proved_FnExactTenthsOf
end Go.Proofs.Ytbmgjgcimeidiaa
