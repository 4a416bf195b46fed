/-
  The program's PhasorOf returns what the reference's returns, for every argument. No condition.
-/
import Derived.Test.YtbmgjgcimeidiaaRows
import Derived.Test.YtbmgjgcimeidiaaPost
import Derived.Test.YtbmgjgcimeidiaaPha
namespace Go.Proofs.Ytbmgjgcimeidiaa
set_option linter.unusedVariables false
set_option linter.unusedSimpArgs false
open Go.ChangeShapes Go.WideShapes Go.ChangeAt Go.RowKit Go.Joins Go.ChangeMaps Fl

theorem sPhasorOf_of (b : Nat) (w : World) (u v : Option Nat) (h : ∀ w', Calls Try.prog 28 #[.float .f64 b] w' (RetC w' u v)) : Calls Try.prog 13 #[.float .f64 b] w (RetC w u v) := by
  have H := Lib.hid h
  clear h
  go_enter Try.func13, Try.ntmps13
  go_wp2_with (first | (go_at_call 28; refine (H.out _).mono ?_; rintro e w' ⟨r, s, n, rfl, hr, hs, rfl⟩))
  go_ret
  exact ⟨_, _, _, rfl, by assumption, by assumption, rfl⟩
theorem both_FnExactPhasorOf (a : Nat) (v : Option Nat) (h : IsF .f64 a v) : ∃ u1 u2, (∀ w', Calls Try.prog 28 #[.float .f64 a] w' (RetC w' u1 u2)) ∧ ∀ w', Calls Try.prog 14 #[.float .f64 a] w' (RetC w' u1 u2) := by
  rcases fin_cases h with rfl | ⟨rfl, hf⟩ | ⟨rfl, hi⟩
  · have c1 : cmpF .neq .f64 (ar .sub .f64 none none) (some 0) = true := rfl
    exact ⟨none, none, fun w' => l01Phasor_nan a none h c1 w', fun w' => iPhasor_nan a none h c1 w'⟩
  · change Fl.Fin D a at hf
    by_cases hs : Small a
    · obtain ⟨q, c, hq, hJ, hc, fc, uc⟩ := ph_all (bd_frac hs.1 (small_lt hs))
      obtain ⟨d, hd, sd, _⟩ := compl fc uc
      have e : p2 1074 ≤ p2 1075 := by decide +kernel
      have sc := small_p2 fc (Nat.le_trans uc e)
      exact ⟨_, _, fun w' => l01Phasor_fin a hs h q c d hq hJ hc sc hd sd w', fun w' => iPhasor_fin a hs h q c d hq hJ hc sc hd sd w'⟩
    · exact ⟨some 1065353216, some 0, fun w' => l01Phasor_huge a h hf hs w', fun w' => iPhasor_huge a h hf hs w'⟩
  · have c1 : cmpF .neq .f64 (ar .sub .f64 (some a) (some a)) (some 0) = true := by rw [sub_inf hi]; rfl
    exact ⟨none, none, fun w' => l01Phasor_nan a _ h c1 w', fun w' => iPhasor_nan a _ h c1 w'⟩
theorem walk_FnExactPhasorOf (a : Nat) (wa : (Lit.float .f64 a).wf = true) (w : World) :
    Calls Try.prog 5 #[.float .f64 a] w fun e w' => e = .returned (.bool true) ∧ Below w.heap.size w w' := by
  have ha : IsF .f64 a (cl .f64 a) := IsF.of (lt_of_wf wa)
  obtain ⟨u1, u2, H1, H2⟩ := both_FnExactPhasorOf a _ ha
  have K1 := Lib.hid H1
  have K2 := Lib.hid H2
  clear H1 H2 ha
  go_enter Try.func5, Try.ntmps5
  go_wp2_with fail
  refine (sPhasorOf_of _ _ _ _ K1.out).mono ?_
  rintro e w1 ⟨r1, s1, n1, rfl, q1, p1, rfl⟩
  go_wp2_with fail
  refine (K2.out _).mono ?_
  rintro e w2 ⟨r2, s2, n2, rfl, q2, p2, rfl⟩
  go_wp2_with (first | (refine wpList_cwid rfl rfl rfl (congrArg Option.isSome Try.underlying27) Try.underlying30 (by assumption) (by assumption) ?_; intro r s n hr hs) | (go_at_call 15; refine (sameComplex_any _ _ _ _ _ _ (by assumption) (by assumption) (by assumption) (by assumption) _).mono ?_; rintro e w' ⟨n, rfl, rfl⟩))
  go_ret
  exact ⟨rfl, below_draws _ _⟩
theorem laidOut_FnExactPhasorOf : laidOutB Try.prog = true := by kernel_rfl
theorem contract_FnExactPhasorOf (H : Type) (enc : TypeId × Value → H) (W : World) (base : Nat) (args : Array Value) (ds gs : List (DataW H)) (before : List MemPlace)
    (hval : ∀ (j : Nat) t v, Try.f5.params[j]? = some t → args[j]? = some v → Value.okWide Try.prog W .any base t v)
    (hW : DataW.Whole enc Try.prog Try.f5.params.toList Rows.fnExactPhasorOfSpec.vars false W args.toList ds gs before) :
    Calls Try.prog 5 args W fun e W' => ∃ v, e = .returned v ∧ Rows.fnExactPhasorOfSpec.post enc Try.prog Try.f5 false true false false W args v W' := by
  have hW' := hW
  obtain ⟨p, q, hA0, hV, rfl, hfz, hnd⟩ := hW
  have hA : DataW.TrodAll enc Try.prog W 0 (fun _ => true) true Try.f5.params.toList args.toList ds p := hA0
  rw [Try.params5] at hA hval
  obtain ⟨v0, vs0, d0, ds0, p0, q0, hargs, rfl, rfl, h0, r0⟩ := trodAll_cons hA
  obtain ⟨rfl, rfl, rfl⟩ := trodAll_nil r0
  obtain rfl : args = #[v0] := by cases args; simp_all
  obtain ⟨rfl, rfl⟩ := trodVars_none hV
  obtain ⟨a0, rfl, rfl, rfl, w0⟩ := open_float Try.underlying25 (hval 0 25 v0 rfl rfl) h0
  clear hA0
  simp only [List.append_nil] at hW'
  refine (walk_FnExactPhasorOf (w := W) a0 w0).mono fun e W' ⟨he, hb⟩ => ?_
  subst he
  exact ⟨_, rfl, post_of_below (pa := ([] ++ [])) (pv := []) hW' (fun _ _ _ => (trodAll_cons_mk (shut_bool Try.underlying4 _) trodAll_mk0)) (fun sp hsp => (trodAll_cons_mk (shut_float Try.underlying25 w0) trodAll_mk0)) (fun _ _ => rfl) (by simp) hb (ok_one (by kernel_rfl) rfl (okWide_bool_mk Try.underlying4 _))⟩

theorem own_FnExactPhasorOf : ownKnob Try.prog.godebug = none := by kernel_rfl
set_option maxRecDepth 100000 in
theorem lifted_FnExactPhasorOf (os : Os) (started : os.Started) (H : Type) (enc : TypeId × Value → H) :
    ReturnsInHanded {} Try.checked os 5 .any (Rows.fnExactPhasorOfSpec.pre6 enc Try.prog Try.f5 Rows.fnExactPhasorOfRow.domain false) (Rows.fnExactPhasorOfSpec.post enc Try.prog Try.f5 false true false false) := by
  refine returnsInHanded_of_change (C := Try.checked) own_FnExactPhasorOf started (by kernel_rfl) Try.func5
    (ChangeSpec.witness6 (enc := enc) (C := Try.checked) false ⟨#[], #[.float .f64 0], []⟩ 8 (by kernel_rfl) (by kernel_rfl) (by kernel_rfl) (by kernel_rfl)) ?_
  intro W base args ds gs before hval hW _ _
  exact contract_FnExactPhasorOf H enc W base args ds gs before hval hW
theorem over_FnExactPhasorOf : Rows.fnExactPhasorOfRow.holds Try.pinned (OpenSpec.ofChange Rows.fnExactPhasorOfSpec) :=
  OpenClaim.holds_of_wide 5 Try.f5 rfl rfl rfl rfl rfl rfl rfl ⟨rfl, rfl, rfl, rfl, rfl⟩ rfl rfl rfl rfl rfl (by kernel_rfl) Try.func5 (by kernel_rfl)
    (of_decide_eq_true (by kernel_rfl)) (by unfold Func.isWrapper; first | (rw [if_pos (by decide +kernel)]; kernel_rfl) | (rw [if_neg (by decide +kernel)]; exact ⟨rfl, rfl⟩))
    (fun os started H enc _ => lifted_FnExactPhasorOf os started H enc)
theorem proved_FnExactPhasorOf : Rows.FnExactPhasorOfSaid := over_FnExactPhasorOf
#print axioms proved_FnExactPhasorOf
end Go.Proofs.Ytbmgjgcimeidiaa
