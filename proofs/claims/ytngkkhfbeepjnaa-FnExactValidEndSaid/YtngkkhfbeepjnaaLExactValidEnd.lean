/-
  The program's ValidEnd returns what the reference's returns, for every argument. No condition.
-/
import Derived.Test.YtngkkhfbeepjnaaRows
import Derived.Test.YtngkkhfbeepjnaaPost
import Derived.Test.YtngkkhfbeepjnaaVend
namespace Go.Proofs.Ytngkkhfbeepjnaa
set_option linter.unusedVariables false
set_option linter.unusedSimpArgs false
open Go.ChangeShapes Go.WideShapes Go.ChangeAt Go.RowKit Go.Joins Go.ChangeMaps Fl

set_option maxHeartbeats 1000000 in
theorem walk_FnExactValidEnd (k : Int) (wk : (Lit.int .i64 k).wf = true) (a : Nat) (wa : (Lit.float .f32 a).wf = true) (c : Nat) (wc : (Lit.float .f32 c).wf = true) (w : World) :
    Calls Try.prog 3 #[.agg #[.int .i64 k, .float .f32 a, .float .f32 c]] w fun e w' => e = .returned (.bool true) ∧ Below w.heap.size w w' := by
  have ha : IsF .f32 a (cl .f32 a) := IsF.of (lt_of_wf wa)
  have hc : IsF .f32 c (cl .f32 c) := IsF.of (lt_of_wf wc)
  generalize cl .f32 a = u at ha
  generalize cl .f32 c = v at hc
  clear wk wa wc
  generalize hs : validEndB k u v = sb
  have HS := Lib.hid hs
  clear hs
  go_enter Try.func3, Try.ntmps3
  go_wp2_with fail
  refine (toEnd_below _ _ _ _).mono ?_
  rintro e w1 ⟨rfl, hb1⟩
  obtain ⟨hc1, hf1⟩ := bcell hb1
  go_wp2_with fail
  refine (sValidEnd_any _ _ _ _ _ ha hc _).mono ?_
  rintro e w2 ⟨rfl, hb2⟩
  rw [HS.out]
  have hb12 := B_trans hb1 hb2
  obtain ⟨hc2, hf2⟩ := bcell hb12
  clear hc1 hf1 hb1 hb2
  go_wp2_with fail
  refine (toEnd_below _ _ _ _).mono ?_
  rintro e w3 ⟨rfl, hb3⟩
  go_wp2_with fail
  refine (iValidEnd_any _ _ _ _ _ ha hc _).mono ?_
  rintro e w4 ⟨rfl, hb4⟩
  rw [HS.out]
  go_wp2_with fail
  go_ret
  exact ⟨rfl, B_trans ((Below.refl _ _).alloc (Nat.le_refl _) _) (B_trans hb12 (B_trans hb3 hb4))⟩
theorem laidOut_FnExactValidEnd : laidOutB Try.prog = true := by kernel_rfl
theorem contract_FnExactValidEnd (H : Type) (enc : TypeId × Value → H) (W : World) (base : Nat) (args : Array Value) (ds gs : List (DataW H)) (before : List MemPlace)
    (hval : ∀ (j : Nat) t v, Try.f3.params[j]? = some t → args[j]? = some v → Value.okWide Try.prog W .any base t v)
    (hW : DataW.Whole enc Try.prog Try.f3.params.toList Rows.fnExactValidEndSpec.vars false W args.toList ds gs before) :
    Calls Try.prog 3 args W fun e W' => ∃ v, e = .returned v ∧ Rows.fnExactValidEndSpec.post enc Try.prog Try.f3 false true false false W args v W' := by
  have hW' := hW
  obtain ⟨p, q, hA0, hV, rfl, hfz, hnd⟩ := hW
  have hA : DataW.TrodAll enc Try.prog W 0 (fun _ => true) true Try.f3.params.toList args.toList ds p := hA0
  rw [Try.params3] at hA hval
  obtain ⟨v0, vs0, d0, ds0, p0, q0, hargs, rfl, rfl, h0, r0⟩ := trodAll_cons hA
  obtain ⟨rfl, rfl, rfl⟩ := trodAll_nil r0
  obtain rfl : args = #[v0] := by cases args; simp_all
  obtain ⟨rfl, rfl⟩ := trodVars_none hV
  have hlt0 : ∀ x ∈ p0, x.block < W.heap.size := fun x hx => hW'.lt x (by simp [hx])
  have hk0 := h0
  obtain ⟨x0a, x0b, x0c, y0a, y0b, y0c, n0, rfl, rfl, rfl, t0a, t0b, t0c⟩ := open_agg3 Try.underlying24 (by kernel_rfl) (by kernel_rfl) (hval 0 24 v0 rfl rfl) h0
  obtain ⟨e0a, c0a, _, w0a⟩ := DataW.trod_int Try.underlying2 t0a
  obtain ⟨e0b, c0b, _, w0b⟩ := trod_float Try.underlying22 t0b
  obtain ⟨e0c, c0c, _, w0c⟩ := trod_float Try.underlying22 t0c
  obtain rfl := List.singleton_inj.1 c0a
  obtain rfl := List.singleton_inj.1 c0b
  obtain rfl := List.singleton_inj.1 c0c
  clear hA0
  simp only [List.append_nil] at hW'
  refine (walk_FnExactValidEnd (w := W) e0a w0a e0b w0b e0c w0c).mono fun e W' ⟨he, hb⟩ => ?_
  subst he
  exact ⟨_, rfl, post_of_below (pa := (_ ++ [])) (pv := []) hW' (fun _ _ _ => (trodAll_cons_mk (shut_bool Try.underlying4 _) trodAll_mk0)) (fun sp hsp => (trodAll_cons_mk (trod_keep laidOut_FnExactValidEnd (by kernel_rfl) (of_decide_eq_true (by kernel_rfl)) hk0 hb hlt0 (fun x hx => hsp x (by simp_all))) trodAll_mk0)) (fun _ _ => rfl) (by simp) hb (ok_one (by kernel_rfl) rfl (okWide_bool_mk Try.underlying4 _))⟩

theorem own_FnExactValidEnd : ownKnob Try.prog.godebug = none := by kernel_rfl
set_option maxRecDepth 100000 in
theorem lifted_FnExactValidEnd (os : Os) (started : os.Started) (H : Type) (enc : TypeId × Value → H) :
    ReturnsInHanded {} Try.checked os 3 .any (Rows.fnExactValidEndSpec.pre6 enc Try.prog Try.f3 Rows.fnExactValidEndRow.domain false) (Rows.fnExactValidEndSpec.post enc Try.prog Try.f3 false true false false) := by
  refine returnsInHanded_of_change (C := Try.checked) own_FnExactValidEnd started (by kernel_rfl) Try.func3
    (ChangeSpec.witness6 (enc := enc) (C := Try.checked) false ⟨#[], #[.agg #[.int .i64 0, .float .f32 0, .float .f32 0]], []⟩ 8 (by kernel_rfl) (by kernel_rfl) (by kernel_rfl) (by kernel_rfl)) ?_
  intro W base args ds gs before hval hW _ _
  exact contract_FnExactValidEnd H enc W base args ds gs before hval hW
theorem over_FnExactValidEnd : Rows.fnExactValidEndRow.holds Try.pinned (OpenSpec.ofChange Rows.fnExactValidEndSpec) :=
  OpenClaim.holds_of_wide 3 Try.f3 rfl rfl rfl rfl rfl rfl rfl ⟨rfl, rfl, rfl, rfl, rfl⟩ rfl rfl rfl rfl rfl (by kernel_rfl) Try.func3 (by kernel_rfl)
    (of_decide_eq_true (by kernel_rfl)) (by unfold Func.isWrapper; first | (rw [if_pos (by decide +kernel)]; kernel_rfl) | (rw [if_neg (by decide +kernel)]; exact ⟨rfl, rfl⟩))
    (fun os started H enc _ => lifted_FnExactValidEnd os started H enc)
theorem proved_FnExactValidEnd : Rows.FnExactValidEndSaid := over_FnExactValidEnd
#print axioms proved_FnExactValidEnd
end Go.Proofs.Ytngkkhfbeepjnaa
