/-
  The program's SumNumbers returns what the reference's returns, for every argument. No condition.
-/
import Derived.Test.YtlbaenajpfiiiaaRows
import Derived.Test.YtlbaenajpfiiiaaPost
import Derived.Test.YtlbaenajpfiiiaaSlc
namespace Go.Proofs.Ytlbaenajpfiiiaa
set_option linter.unusedVariables false
set_option linter.unusedSimpArgs false
open Go.ChangeShapes Go.WideShapes Go.ChangeAt Go.RowKit Go.Joins Go.ChangeMaps Fl

theorem walk_FnExactSumNumbers (w : World) (v : Value) (bs : List Nat) (h : FSl .f32 w v bs) :
    Calls Try.prog 8 #[v] w fun e w' => e = .returned (.bool true) ∧ Below w.heap.size w w' := by
  have h' := h
  obtain ⟨ao, cap, rfl, hm⟩ := h.len
  have hbits := h.bits
  have HB := Lib.hid hbits
  clear hbits
  by_cases hl : bs.length ≤ 1048576
  · go_enter Try.func8, Try.ntmps8
    go_wp2_with fail
    refine (toFloat32S_any _ _ _ h' hl).mono ?_
    rintro e w1 ⟨rfl, hr1, hb1, hs1⟩
    have f1 := FSl_of_row hr1 hl HB.out
    have a1 := h'.below hb1
    go_wp2_with fail
    refine (sSumNumbers_any _ _ _ f1).mono ?_
    rintro e w2 ⟨r1, n1, rfl, q1, rfl⟩
    go_wp2_with fail
    refine (toFloat32S_any _ _ _ (a1.drewN _) hl).mono ?_
    rintro e w3 ⟨rfl, hr3, hb3, hs3⟩
    have f3 := FSl_of_row hr3 hl HB.out
    have a3 := (a1.drewN n1).below hb3
    have B3 := B_trans (B_drew hb1 n1) hb3
    go_wp2_with fail
    refine (iSumNumbers_any _ _ _ f3).mono ?_
    rintro e w4 ⟨r2, n2, rfl, q2, rfl⟩
    generalize (if bs.length ≤ 256 then sumF bs bs.length else some 0) = sv at *
    go_wp2_with (first | (refine wpList_far rfl rfl (by first | exact .inl rfl | exact .inr (.inl rfl) | exact .inr (.inr (.inl rfl)) | exact .inr (.inr (.inr rfl))) rfl rfl (by first | assumption | exact isF_ofInt _ _ | exact IsF.lit (by decide +kernel)) (by first | assumption | exact isF_ofInt _ _ | exact IsF.lit (by decide +kernel)) ?_; intro r n hr) | (refine wpList_fcmp rfl rfl (by first | exact .inl rfl | exact .inr (.inl rfl) | exact .inr (.inr (.inl rfl)) | exact .inr (.inr (.inr (.inl rfl))) | exact .inr (.inr (.inr (.inr (.inl rfl)))) | exact .inr (.inr (.inr (.inr (.inr rfl))))) rfl rfl (by first | assumption | exact isF_ofInt _ _ | exact IsF.lit (by decide +kernel)) (by first | assumption | exact isF_ofInt _ _ | exact IsF.lit (by decide +kernel)) (by first | assumption | exact rfl) ?_) | (first | (refine wpList_fsame rfl rfl rfl (congrArg Option.isSome Try.underlying22) Try.underlying22 ?_) | (refine wpList_fsame rfl rfl rfl (congrArg Option.isSome Try.underlying26) Try.underlying26 ?_)) | (refine wpList_fwid rfl rfl rfl (congrArg Option.isSome Try.underlying22) Try.underlying26 (by assumption) ?_; intro r n hr) | (refine wpList_fnar rfl rfl rfl (congrArg Option.isSome Try.underlying26) Try.underlying22 (by assumption) (by assumption) ?_; intro r n hr) | (refine wpList_fneg rfl rfl rfl (by assumption) ?_; intro r hr))
    refine (sameFloat_any _ _ _ (by assumption) (by assumption) _).mono ?_
    rintro e w5 ⟨n5, rfl, rfl⟩
    go_wp2_with fail
    refine (toFloat32S_any _ _ _ (a3.drewN _) hl).mono ?_
    rintro e w6 ⟨rfl, hr6, hb6, hs6⟩
    have f6 := FSl_of_row hr6 hl HB.out
    have f3' := (f3.drewN _).below hb6
    go_wp2_with fail
    refine (eqFloat32S_any _ _ _ _ _ f3' f6 rfl (fun _ _ => rfl)).mono ?_
    rintro e w7 ⟨n7, rfl, rfl⟩
    go_wp2_with fail
    go_ret
    exact ⟨rfl, B_drew (B_trans (B_drew B3 _) hb6) _⟩
  · go_enter Try.func8, Try.ntmps8
    go_wp2_with fail
    go_ret
    exact ⟨rfl, Below.refl _ _⟩
theorem laidOut_FnExactSumNumbers : laidOutB Try.prog = true := by kernel_rfl
theorem contract_FnExactSumNumbers (H : Type) (enc : TypeId × Value → H) (W : World) (base : Nat) (args : Array Value) (ds gs : List (DataW H)) (before : List MemPlace)
    (hval : ∀ (j : Nat) t v, Try.f8.params[j]? = some t → args[j]? = some v → Value.okWide Try.prog W .any base t v)
    (hW : DataW.Whole enc Try.prog Try.f8.params.toList Rows.fnExactSumNumbersSpec.vars false W args.toList ds gs before) :
    Calls Try.prog 8 args W fun e W' => ∃ v, e = .returned v ∧ Rows.fnExactSumNumbersSpec.post enc Try.prog Try.f8 false true false false W args v W' := by
  have hW' := hW
  obtain ⟨p, q, hA0, hV, rfl, hfz, hnd⟩ := hW
  have hA : DataW.TrodAll enc Try.prog W 0 (fun _ => true) true Try.f8.params.toList args.toList ds p := hA0
  rw [Try.params8] at hA hval
  obtain ⟨v0, vs0, d0, ds0, p0, q0, hargs, rfl, rfl, h0, r0⟩ := trodAll_cons hA
  obtain ⟨rfl, rfl, rfl⟩ := trodAll_nil r0
  obtain rfl : args = #[v0] := by cases args; simp_all
  obtain ⟨rfl, rfl⟩ := trodVars_none hV
  have hlt0 : ∀ x ∈ p0, x.block < W.heap.size := fun x hx => hW'.lt x (by simp [hx])
  obtain ⟨sa0, sl0, sc0, rfl⟩ := okWide_slice Try.underlying36 (hval 0 36 v0 rfl rfl)
  obtain ⟨bs0, hs0⟩ : ∃ bs, FSl .f32 W (.slice sa0 sl0 sc0) bs := by
    obtain ⟨fuel, hf⟩ := h0
    exact open_floats Try.underlying36 Try.underlying22 (by kernel_rfl) hf
  clear hA0
  simp only [List.append_nil] at hW'
  refine (walk_FnExactSumNumbers (w := W) _ bs0 hs0).mono fun e W' ⟨he, hb⟩ => ?_
  subst he
  exact ⟨_, rfl, post_of_below (pa := (p0 ++ [])) (pv := []) hW' (fun _ _ _ => (trodAll_cons_mk (shut_bool Try.underlying4 _) trodAll_mk0)) (fun sp hsp => (trodAll_cons_mk (trod_keep laidOut_FnExactSumNumbers (by kernel_rfl) (of_decide_eq_true (by kernel_rfl)) h0 hb hlt0 (fun x hx => hsp x (by simp [hx]))) trodAll_mk0)) (fun _ _ => rfl) (by simp) hb (ok_one (by kernel_rfl) rfl (okWide_bool_mk Try.underlying4 _))⟩

theorem own_FnExactSumNumbers : ownKnob Try.prog.godebug = none := by kernel_rfl
set_option maxRecDepth 100000 in
theorem lifted_FnExactSumNumbers (os : Os) (started : os.Started) (H : Type) (enc : TypeId × Value → H) :
    ReturnsInHanded {} Try.checked os 8 .any (Rows.fnExactSumNumbersSpec.pre6 enc Try.prog Try.f8 Rows.fnExactSumNumbersRow.domain false) (Rows.fnExactSumNumbersSpec.post enc Try.prog Try.f8 false true false false) := by
  refine returnsInHanded_of_change (C := Try.checked) own_FnExactSumNumbers started (by kernel_rfl) Try.func8
    (ChangeSpec.witness6 (enc := enc) (C := Try.checked) false ⟨#[], #[.slice none 0 0], []⟩ 8 (by kernel_rfl) (by kernel_rfl) (by kernel_rfl) (by kernel_rfl)) ?_
  intro W base args ds gs before hval hW _ _
  exact contract_FnExactSumNumbers H enc W base args ds gs before hval hW
theorem over_FnExactSumNumbers : Rows.fnExactSumNumbersRow.holds Try.pinned (OpenSpec.ofChange Rows.fnExactSumNumbersSpec) :=
  OpenClaim.holds_of_wide 8 Try.f8 rfl rfl rfl rfl rfl rfl rfl ⟨rfl, rfl, rfl, rfl, rfl⟩ rfl rfl rfl rfl rfl (by kernel_rfl) Try.func8 (by kernel_rfl)
    (of_decide_eq_true (by kernel_rfl)) (by unfold Func.isWrapper; first | (rw [if_pos (by decide +kernel)]; kernel_rfl) | (rw [if_neg (by decide +kernel)]; exact ⟨rfl, rfl⟩))
    (fun os started H enc _ => lifted_FnExactSumNumbers os started H enc)
theorem proved_FnExactSumNumbers : Rows.FnExactSumNumbersSaid := over_FnExactSumNumbers
#print axioms proved_FnExactSumNumbers
end Go.Proofs.Ytlbaenajpfiiiaa
