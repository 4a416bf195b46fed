/-
  Contracts: the sine of turns in the reference; SineTurns at both sides.
-/
import Derived.Test.YtbmgjgcimeidiaaTrig
namespace Go.Proofs.Ytbmgjgcimeidiaa
set_option linter.unusedVariables false
set_option linter.unusedSimpArgs false
open Go.RowKit Fl

theorem bigK : I D 4841369599423283200 = (U D 4841369599423283200 : Int) ∧ Fl.Fin D 4841369599423283200 ∧ I D 14064741636278059008 = -(U D 4841369599423283200 : Int) ∧ Fl.Fin D 14064741636278059008 :=
  ⟨by decide +kernel, by unfold Fl.Fin; decide +kernel, by decide +kernel, by unfold Fl.Fin; decide +kernel⟩
theorem geqK {b : Nat} (hf : Fl.Fin D b) : cmpF .geq .f64 (some b) (some 4841369599423283200) = decide ((U D 4841369599423283200 : Int) ≤ I D b) := by
  obtain ⟨k1, k2, _, _⟩ := bigK
  have e : ord .f64 (some b) (some 4841369599423283200) = some (compare (I D b) (I D 4841369599423283200)) := order_fin hf k2
  unfold cmpF
  simp only [e, k1]
  generalize (U D 4841369599423283200 : Int) = y
  generalize I D b = x
  rcases Int.lt_trichotomy x y with h | h | h
  · rw [Int.compare_eq_lt.2 h, decide_eq_false (by omega)]; rfl
  · subst h; simp
  · rw [Int.compare_eq_gt.2 h, decide_eq_true (by omega)]; rfl
theorem leqK {b : Nat} (hf : Fl.Fin D b) : cmpF .leq .f64 (some b) (some 14064741636278059008) = decide (I D b ≤ -(U D 4841369599423283200 : Int)) := by
  obtain ⟨_, _, k1, k2⟩ := bigK
  have e : ord .f64 (some b) (some 14064741636278059008) = some (compare (I D b) (I D 14064741636278059008)) := order_fin hf k2
  unfold cmpF
  simp only [e, k1]
  generalize -(U D 4841369599423283200 : Int) = y
  generalize I D b = x
  rcases Int.lt_trichotomy x y with h | h | h
  · rw [Int.compare_eq_lt.2 h, decide_eq_true (by omega)]; rfl
  · subst h; simp
  · rw [Int.compare_eq_gt.2 h, decide_eq_false (by omega)]; rfl
theorem abs_geqK {b : Nat} (hf : Fl.Fin D b) : cmpF .geq .f64 (absF (some b)) (some 4841369599423283200) = decide (U D 4841369599423283200 ≤ U D (rg D b)) := by
  have hf2 : Fl.Fin D (low63 b) := by unfold Fl.Fin; rw [rg_low63]; exact hf
  show cmpF .geq .f64 (some (low63 b)) _ = _
  rw [geqK hf2, I_low63]
  rw [decide_eq_decide]
  omega
theorem small_facts {b : Nat} (h : Small b) : cmpF .geq .f64 (some b) (some 4841369599423283200) = false ∧ cmpF .leq .f64 (some b) (some 14064741636278059008) = false ∧ cmpF .geq .f64 (absF (some b)) (some 4841369599423283200) = false ∧
    cmpF .neq .f64 (ar .sub .f64 (some b) (some b)) (some 0) = false := by
  obtain ⟨hf, hU⟩ := h
  rw [geqK hf, leqK hf, abs_geqK hf, sub_self (k := .f64) hf]
  have hI : I D b = (U D (rg D b) : Int) ∨ I D b = -(U D (rg D b) : Int) := by unfold I; cases sg D b <;> simp
  refine ⟨decide_eq_false ?_, decide_eq_false ?_, decide_eq_false ?_, by decide +kernel⟩ <;> omega
theorem huge_facts {b : Nat} (hf : Fl.Fin D b) (h : ¬ Small b) : (cmpF .geq .f64 (some b) (some 4841369599423283200) = true ∨ cmpF .geq .f64 (some b) (some 4841369599423283200) = false ∧ cmpF .leq .f64 (some b) (some 14064741636278059008) = true) ∧ cmpF .geq .f64 (absF (some b)) (some 4841369599423283200) = true ∧
    cmpF .neq .f64 (ar .sub .f64 (some b) (some b)) (some 0) = false := by
  have hU : U D 4841369599423283200 ≤ U D (rg D b) := by
    rcases Nat.lt_or_ge (U D (rg D b)) (U D 4841369599423283200) with h1 | h1
    · exact absurd ⟨hf, h1⟩ h
    · exact h1
  rw [geqK hf, leqK hf, abs_geqK hf, sub_self (k := .f64) hf]
  have hI : I D b = (U D (rg D b) : Int) ∨ I D b = -(U D (rg D b) : Int) := by unfold I; cases sg D b <;> simp
  have h0 : 0 < U D 4841369599423283200 := by decide +kernel
  refine ⟨?_, decide_eq_true hU, by decide +kernel⟩
  rcases hI with hI | hI
  · exact .inl (decide_eq_true (by omega))
  · exact .inr ⟨decide_eq_false (by omega), decide_eq_true (by omega)⟩

theorem k_small : ∀ j : Nat, j < 8 → 2 * (8 - (j : Int)) * (2 * (8 - (j : Int)) + 1) ≤ 1000 ∧ 0 ≤ 2 * (8 - (j : Int)) * (2 * (8 - (j : Int)) + 1) := by decide +kernel
set_option maxHeartbeats 8000000 in
theorem l01SineWide_any (b : Nat) (h : Small b) (hb : IsF .f64 b (some b)) (w : World) : Calls Try.prog 41 #[.float .f64 b] w (RetF w .f64 (sinV (some b))) := by
  have ho := isF_oneD
  obtain ⟨g1, g2, _, g3⟩ := small_facts h
  have hn := (tz_fin h.1).choose_spec.1
  have hts := tz_small h
  have hb1 : -9223372036854775808 ≤ tz b := by omega
  have hb2 : tz b ≤ 9223372036854775807 := by omega
  have Hv := Lib.hid (show sinV (some b) = sinF (if cmpF .lss .f64 (ar .sub .f64 (some b) (ofInt .f64 (tz b))) (some 0) then ar .add .f64 (ar .sub .f64 (some b) (ofInt .f64 (tz b))) (some 4607182418800017408) else ar .sub .f64 (some b) (ofInt .f64 (tz b))) from rfl)
  rw [Hv.out]
  clear Hv hts
  generalize tz b = t at *
  have Hn := Lib.hid hn
  clear hn
  cases c0 : cmpF .lss .f64 (ar .sub .f64 (some b) (ofInt .f64 t)) (some 0)
  · simp only [Bool.false_eq_true, if_false, if_true]
    cases c1 : cmpF .geq .f64 (ar .sub .f64 (some b) (ofInt .f64 t)) (some 4602678819172646912)
    · cases c2 : cmpF .gtr .f64 (ar .sub .f64 (some b) (ofInt .f64 t)) (some 4598175219545276416)
      · have H1 : sin1 (ar .sub .f64 (some b) (ofInt .f64 t)) = (ar .sub .f64 (some b) (ofInt .f64 t)) := by unfold sin1; rw [c1]; rfl
        have H2 : sin2 (ar .sub .f64 (some b) (ofInt .f64 t)) = (ar .sub .f64 (some b) (ofInt .f64 t)) := by unfold sin2; rw [H1, c2]; rfl
        have H3 : sin3 (ar .sub .f64 (some b) (ofInt .f64 t)) = (ar .mul .f64 (ar .sub .f64 (some b) (ofInt .f64 t)) (some 4618760256179416344)) := by unfold sin3; rw [H2]
        have Hs := Lib.hid (show sinF (ar .sub .f64 (some b) (ofInt .f64 t)) = ar .mul .f64 (ar .mul .f64 (ar .sub .f64 (some b) (ofInt .f64 t)) (some 4618760256179416344)) (sinP (ar .mul .f64 (ar .mul .f64 (ar .sub .f64 (some b) (ofInt .f64 t)) (some 4618760256179416344)) (ar .mul .f64 (ar .sub .f64 (some b) (ofInt .f64 t)) (some 4618760256179416344))) 8) by unfold sinF sin4; rw [c1, H3]; rfl)
        clear H1 H2 H3
        rw [Hs.out]
        clear Hs
        go_enter Try.func41, Try.ntmps41
        go_wp2_with (first | (refine wpList_far rfl rfl (by first | exact .inl rfl | exact .inr (.inl rfl) | exact .inr (.inr (.inl rfl)) | exact .inr (.inr (.inr rfl))) rfl rfl (by first | assumption | exact isF_ofInt _ _ | exact IsF.lit (by decide +kernel)) (by first | assumption | exact isF_ofInt _ _ | exact IsF.lit (by decide +kernel)) ?_; intro r n hr) | (refine wpList_fcmp rfl rfl (by first | exact .inl rfl | exact .inr (.inl rfl) | exact .inr (.inr (.inl rfl)) | exact .inr (.inr (.inr (.inl rfl))) | exact .inr (.inr (.inr (.inr (.inl rfl)))) | exact .inr (.inr (.inr (.inr (.inr rfl))))) rfl rfl (by first | assumption | exact isF_ofInt _ _ | exact IsF.lit (by decide +kernel)) (by first | assumption | exact isF_ofInt _ _ | exact IsF.lit (by decide +kernel)) (by first | assumption | exact rfl) ?_) | (first | (refine wpList_fsame rfl rfl rfl (congrArg Option.isSome Try.underlying22) Try.underlying22 ?_) | (refine wpList_fsame rfl rfl rfl (congrArg Option.isSome Try.underlying25) Try.underlying25 ?_)) | (refine wpList_fwid rfl rfl rfl (congrArg Option.isSome Try.underlying22) Try.underlying25 (by assumption) ?_; intro r n hr) | (refine wpList_fnar rfl rfl rfl (congrArg Option.isSome Try.underlying25) Try.underlying22 (by assumption) (by assumption) ?_; intro r n hr) | (refine wpList_fneg rfl rfl rfl (by assumption) ?_; intro r hr) | (refine wpList_toInt rfl rfl rfl (congrArg Option.isSome Try.underlying25) Try.underlying2 Hn.out hb1 hb2 ?_))
        clear c0 c1 c2 g1 g2 g3
        generalize (ar .mul .f64 (ar .sub .f64 (some b) (ofInt .f64 t)) (some 4618760256179416344)) = z at *
        go_simp
        go_loopw [7, 8] (fun q k wr => ∃ (j rq m : Nat), j ≤ 8 ∧ q = .float .f64 rq ∧ k = .int .i64 (8 - (j : Int)) ∧ wr = w.drewN m ∧ IsF .f64 rq (sinP (ar .mul .f64 z z) j)) (fun _ k _ => (intOf k).toNat)
        case atStart => exact ⟨0, _, _, by omega, rfl, rfl, rfl, ho⟩
        case round =>
          obtain ⟨j, rq, m, hj, rfl, rfl, rfl, hq⟩ := hrel
          by_cases hlt : j < 8
          · have Hm := Lib.hid (show 2 * (8 - (j : Int)) * (2 * (8 - (j : Int)) + 1) ≤ 1000 ∧ 0 ≤ 2 * (8 - (j : Int)) * (2 * (8 - (j : Int)) + 1) from k_small j hlt)
            have hm1 := Hm.out.1
            have hm2 := Hm.out.2
            go_wp2_with (first | (refine wpList_far rfl rfl (by first | exact .inl rfl | exact .inr (.inl rfl) | exact .inr (.inr (.inl rfl)) | exact .inr (.inr (.inr rfl))) rfl rfl (by first | assumption | exact isF_ofInt _ _ | exact IsF.lit (by decide +kernel)) (by first | assumption | exact isF_ofInt _ _ | exact IsF.lit (by decide +kernel)) ?_; intro r n hr) | (refine wpList_fcmp rfl rfl (by first | exact .inl rfl | exact .inr (.inl rfl) | exact .inr (.inr (.inl rfl)) | exact .inr (.inr (.inr (.inl rfl))) | exact .inr (.inr (.inr (.inr (.inl rfl)))) | exact .inr (.inr (.inr (.inr (.inr rfl))))) rfl rfl (by first | assumption | exact isF_ofInt _ _ | exact IsF.lit (by decide +kernel)) (by first | assumption | exact isF_ofInt _ _ | exact IsF.lit (by decide +kernel)) (by first | assumption | exact rfl) ?_) | (first | (refine wpList_fsame rfl rfl rfl (congrArg Option.isSome Try.underlying22) Try.underlying22 ?_) | (refine wpList_fsame rfl rfl rfl (congrArg Option.isSome Try.underlying25) Try.underlying25 ?_)) | (refine wpList_fwid rfl rfl rfl (congrArg Option.isSome Try.underlying22) Try.underlying25 (by assumption) ?_; intro r n hr) | (refine wpList_fnar rfl rfl rfl (congrArg Option.isSome Try.underlying25) Try.underlying22 (by assumption) (by assumption) ?_; intro r n hr) | (refine wpList_fneg rfl rfl rfl (by assumption) ?_; intro r hr))
            all_goals
              go_roundw
              case rel => exact ⟨j + 1, _, _, by omega, rfl, by go_num, rfl, by assumption⟩
              case measure => simp [intOf]; omega
          · obtain rfl : j = 8 := by omega
            go_wp2_with (first | (refine wpList_far rfl rfl (by first | exact .inl rfl | exact .inr (.inl rfl) | exact .inr (.inr (.inl rfl)) | exact .inr (.inr (.inr rfl))) rfl rfl (by first | assumption | exact isF_ofInt _ _ | exact IsF.lit (by decide +kernel)) (by first | assumption | exact isF_ofInt _ _ | exact IsF.lit (by decide +kernel)) ?_; intro r n hr) | (refine wpList_fcmp rfl rfl (by first | exact .inl rfl | exact .inr (.inl rfl) | exact .inr (.inr (.inl rfl)) | exact .inr (.inr (.inr (.inl rfl))) | exact .inr (.inr (.inr (.inr (.inl rfl)))) | exact .inr (.inr (.inr (.inr (.inr rfl))))) rfl rfl (by first | assumption | exact isF_ofInt _ _ | exact IsF.lit (by decide +kernel)) (by first | assumption | exact isF_ofInt _ _ | exact IsF.lit (by decide +kernel)) (by first | assumption | exact rfl) ?_) | (first | (refine wpList_fsame rfl rfl rfl (congrArg Option.isSome Try.underlying22) Try.underlying22 ?_) | (refine wpList_fsame rfl rfl rfl (congrArg Option.isSome Try.underlying25) Try.underlying25 ?_)) | (refine wpList_fwid rfl rfl rfl (congrArg Option.isSome Try.underlying22) Try.underlying25 (by assumption) ?_; intro r n hr) | (refine wpList_fnar rfl rfl rfl (congrArg Option.isSome Try.underlying25) Try.underlying22 (by assumption) (by assumption) ?_; intro r n hr) | (refine wpList_fneg rfl rfl rfl (by assumption) ?_; intro r hr))
            go_ret
            exact ⟨_, _, rfl, by assumption, rfl⟩
      · have H1 : sin1 (ar .sub .f64 (some b) (ofInt .f64 t)) = (ar .sub .f64 (some b) (ofInt .f64 t)) := by unfold sin1; rw [c1]; rfl
        have H2 : sin2 (ar .sub .f64 (some b) (ofInt .f64 t)) = (ar .sub .f64 (some 4602678819172646912) (ar .sub .f64 (some b) (ofInt .f64 t))) := by unfold sin2; rw [H1, c2]; rfl
        have H3 : sin3 (ar .sub .f64 (some b) (ofInt .f64 t)) = (ar .mul .f64 (ar .sub .f64 (some 4602678819172646912) (ar .sub .f64 (some b) (ofInt .f64 t))) (some 4618760256179416344)) := by unfold sin3; rw [H2]
        have Hs := Lib.hid (show sinF (ar .sub .f64 (some b) (ofInt .f64 t)) = ar .mul .f64 (ar .mul .f64 (ar .sub .f64 (some 4602678819172646912) (ar .sub .f64 (some b) (ofInt .f64 t))) (some 4618760256179416344)) (sinP (ar .mul .f64 (ar .mul .f64 (ar .sub .f64 (some 4602678819172646912) (ar .sub .f64 (some b) (ofInt .f64 t))) (some 4618760256179416344)) (ar .mul .f64 (ar .sub .f64 (some 4602678819172646912) (ar .sub .f64 (some b) (ofInt .f64 t))) (some 4618760256179416344))) 8) by unfold sinF sin4; rw [c1, H3]; rfl)
        clear H1 H2 H3
        rw [Hs.out]
        clear Hs
        go_enter Try.func41, Try.ntmps41
        go_wp2_with (first | (refine wpList_far rfl rfl (by first | exact .inl rfl | exact .inr (.inl rfl) | exact .inr (.inr (.inl rfl)) | exact .inr (.inr (.inr rfl))) rfl rfl (by first | assumption | exact isF_ofInt _ _ | exact IsF.lit (by decide +kernel)) (by first | assumption | exact isF_ofInt _ _ | exact IsF.lit (by decide +kernel)) ?_; intro r n hr) | (refine wpList_fcmp rfl rfl (by first | exact .inl rfl | exact .inr (.inl rfl) | exact .inr (.inr (.inl rfl)) | exact .inr (.inr (.inr (.inl rfl))) | exact .inr (.inr (.inr (.inr (.inl rfl)))) | exact .inr (.inr (.inr (.inr (.inr rfl))))) rfl rfl (by first | assumption | exact isF_ofInt _ _ | exact IsF.lit (by decide +kernel)) (by first | assumption | exact isF_ofInt _ _ | exact IsF.lit (by decide +kernel)) (by first | assumption | exact rfl) ?_) | (first | (refine wpList_fsame rfl rfl rfl (congrArg Option.isSome Try.underlying22) Try.underlying22 ?_) | (refine wpList_fsame rfl rfl rfl (congrArg Option.isSome Try.underlying25) Try.underlying25 ?_)) | (refine wpList_fwid rfl rfl rfl (congrArg Option.isSome Try.underlying22) Try.underlying25 (by assumption) ?_; intro r n hr) | (refine wpList_fnar rfl rfl rfl (congrArg Option.isSome Try.underlying25) Try.underlying22 (by assumption) (by assumption) ?_; intro r n hr) | (refine wpList_fneg rfl rfl rfl (by assumption) ?_; intro r hr) | (refine wpList_toInt rfl rfl rfl (congrArg Option.isSome Try.underlying25) Try.underlying2 Hn.out hb1 hb2 ?_))
        clear c0 c1 c2 g1 g2 g3
        generalize (ar .mul .f64 (ar .sub .f64 (some 4602678819172646912) (ar .sub .f64 (some b) (ofInt .f64 t))) (some 4618760256179416344)) = z at *
        go_simp
        go_loopw [7, 8] (fun q k wr => ∃ (j rq m : Nat), j ≤ 8 ∧ q = .float .f64 rq ∧ k = .int .i64 (8 - (j : Int)) ∧ wr = w.drewN m ∧ IsF .f64 rq (sinP (ar .mul .f64 z z) j)) (fun _ k _ => (intOf k).toNat)
        case atStart => exact ⟨0, _, _, by omega, rfl, rfl, rfl, ho⟩
        case round =>
          obtain ⟨j, rq, m, hj, rfl, rfl, rfl, hq⟩ := hrel
          by_cases hlt : j < 8
          · have Hm := Lib.hid (show 2 * (8 - (j : Int)) * (2 * (8 - (j : Int)) + 1) ≤ 1000 ∧ 0 ≤ 2 * (8 - (j : Int)) * (2 * (8 - (j : Int)) + 1) from k_small j hlt)
            have hm1 := Hm.out.1
            have hm2 := Hm.out.2
            go_wp2_with (first | (refine wpList_far rfl rfl (by first | exact .inl rfl | exact .inr (.inl rfl) | exact .inr (.inr (.inl rfl)) | exact .inr (.inr (.inr rfl))) rfl rfl (by first | assumption | exact isF_ofInt _ _ | exact IsF.lit (by decide +kernel)) (by first | assumption | exact isF_ofInt _ _ | exact IsF.lit (by decide +kernel)) ?_; intro r n hr) | (refine wpList_fcmp rfl rfl (by first | exact .inl rfl | exact .inr (.inl rfl) | exact .inr (.inr (.inl rfl)) | exact .inr (.inr (.inr (.inl rfl))) | exact .inr (.inr (.inr (.inr (.inl rfl)))) | exact .inr (.inr (.inr (.inr (.inr rfl))))) rfl rfl (by first | assumption | exact isF_ofInt _ _ | exact IsF.lit (by decide +kernel)) (by first | assumption | exact isF_ofInt _ _ | exact IsF.lit (by decide +kernel)) (by first | assumption | exact rfl) ?_) | (first | (refine wpList_fsame rfl rfl rfl (congrArg Option.isSome Try.underlying22) Try.underlying22 ?_) | (refine wpList_fsame rfl rfl rfl (congrArg Option.isSome Try.underlying25) Try.underlying25 ?_)) | (refine wpList_fwid rfl rfl rfl (congrArg Option.isSome Try.underlying22) Try.underlying25 (by assumption) ?_; intro r n hr) | (refine wpList_fnar rfl rfl rfl (congrArg Option.isSome Try.underlying25) Try.underlying22 (by assumption) (by assumption) ?_; intro r n hr) | (refine wpList_fneg rfl rfl rfl (by assumption) ?_; intro r hr))
            all_goals
              go_roundw
              case rel => exact ⟨j + 1, _, _, by omega, rfl, by go_num, rfl, by assumption⟩
              case measure => simp [intOf]; omega
          · obtain rfl : j = 8 := by omega
            go_wp2_with (first | (refine wpList_far rfl rfl (by first | exact .inl rfl | exact .inr (.inl rfl) | exact .inr (.inr (.inl rfl)) | exact .inr (.inr (.inr rfl))) rfl rfl (by first | assumption | exact isF_ofInt _ _ | exact IsF.lit (by decide +kernel)) (by first | assumption | exact isF_ofInt _ _ | exact IsF.lit (by decide +kernel)) ?_; intro r n hr) | (refine wpList_fcmp rfl rfl (by first | exact .inl rfl | exact .inr (.inl rfl) | exact .inr (.inr (.inl rfl)) | exact .inr (.inr (.inr (.inl rfl))) | exact .inr (.inr (.inr (.inr (.inl rfl)))) | exact .inr (.inr (.inr (.inr (.inr rfl))))) rfl rfl (by first | assumption | exact isF_ofInt _ _ | exact IsF.lit (by decide +kernel)) (by first | assumption | exact isF_ofInt _ _ | exact IsF.lit (by decide +kernel)) (by first | assumption | exact rfl) ?_) | (first | (refine wpList_fsame rfl rfl rfl (congrArg Option.isSome Try.underlying22) Try.underlying22 ?_) | (refine wpList_fsame rfl rfl rfl (congrArg Option.isSome Try.underlying25) Try.underlying25 ?_)) | (refine wpList_fwid rfl rfl rfl (congrArg Option.isSome Try.underlying22) Try.underlying25 (by assumption) ?_; intro r n hr) | (refine wpList_fnar rfl rfl rfl (congrArg Option.isSome Try.underlying25) Try.underlying22 (by assumption) (by assumption) ?_; intro r n hr) | (refine wpList_fneg rfl rfl rfl (by assumption) ?_; intro r hr))
            go_ret
            exact ⟨_, _, rfl, by assumption, rfl⟩
    · cases c2 : cmpF .gtr .f64 (ar .sub .f64 (ar .sub .f64 (some b) (ofInt .f64 t)) (some 4602678819172646912)) (some 4598175219545276416)
      · have H1 : sin1 (ar .sub .f64 (some b) (ofInt .f64 t)) = (ar .sub .f64 (ar .sub .f64 (some b) (ofInt .f64 t)) (some 4602678819172646912)) := by unfold sin1; rw [c1]; rfl
        have H2 : sin2 (ar .sub .f64 (some b) (ofInt .f64 t)) = (ar .sub .f64 (ar .sub .f64 (some b) (ofInt .f64 t)) (some 4602678819172646912)) := by unfold sin2; rw [H1, c2]; rfl
        have H3 : sin3 (ar .sub .f64 (some b) (ofInt .f64 t)) = (ar .mul .f64 (ar .sub .f64 (ar .sub .f64 (some b) (ofInt .f64 t)) (some 4602678819172646912)) (some 4618760256179416344)) := by unfold sin3; rw [H2]
        have Hs := Lib.hid (show sinF (ar .sub .f64 (some b) (ofInt .f64 t)) = neg .f64 (ar .mul .f64 (ar .mul .f64 (ar .sub .f64 (ar .sub .f64 (some b) (ofInt .f64 t)) (some 4602678819172646912)) (some 4618760256179416344)) (sinP (ar .mul .f64 (ar .mul .f64 (ar .sub .f64 (ar .sub .f64 (some b) (ofInt .f64 t)) (some 4602678819172646912)) (some 4618760256179416344)) (ar .mul .f64 (ar .sub .f64 (ar .sub .f64 (some b) (ofInt .f64 t)) (some 4602678819172646912)) (some 4618760256179416344))) 8)) by unfold sinF sin4; rw [c1, H3]; rfl)
        clear H1 H2 H3
        rw [Hs.out]
        clear Hs
        go_enter Try.func41, Try.ntmps41
        go_wp2_with (first | (refine wpList_far rfl rfl (by first | exact .inl rfl | exact .inr (.inl rfl) | exact .inr (.inr (.inl rfl)) | exact .inr (.inr (.inr rfl))) rfl rfl (by first | assumption | exact isF_ofInt _ _ | exact IsF.lit (by decide +kernel)) (by first | assumption | exact isF_ofInt _ _ | exact IsF.lit (by decide +kernel)) ?_; intro r n hr) | (refine wpList_fcmp rfl rfl (by first | exact .inl rfl | exact .inr (.inl rfl) | exact .inr (.inr (.inl rfl)) | exact .inr (.inr (.inr (.inl rfl))) | exact .inr (.inr (.inr (.inr (.inl rfl)))) | exact .inr (.inr (.inr (.inr (.inr rfl))))) rfl rfl (by first | assumption | exact isF_ofInt _ _ | exact IsF.lit (by decide +kernel)) (by first | assumption | exact isF_ofInt _ _ | exact IsF.lit (by decide +kernel)) (by first | assumption | exact rfl) ?_) | (first | (refine wpList_fsame rfl rfl rfl (congrArg Option.isSome Try.underlying22) Try.underlying22 ?_) | (refine wpList_fsame rfl rfl rfl (congrArg Option.isSome Try.underlying25) Try.underlying25 ?_)) | (refine wpList_fwid rfl rfl rfl (congrArg Option.isSome Try.underlying22) Try.underlying25 (by assumption) ?_; intro r n hr) | (refine wpList_fnar rfl rfl rfl (congrArg Option.isSome Try.underlying25) Try.underlying22 (by assumption) (by assumption) ?_; intro r n hr) | (refine wpList_fneg rfl rfl rfl (by assumption) ?_; intro r hr) | (refine wpList_toInt rfl rfl rfl (congrArg Option.isSome Try.underlying25) Try.underlying2 Hn.out hb1 hb2 ?_))
        clear c0 c1 c2 g1 g2 g3
        generalize (ar .mul .f64 (ar .sub .f64 (ar .sub .f64 (some b) (ofInt .f64 t)) (some 4602678819172646912)) (some 4618760256179416344)) = z at *
        go_simp
        go_loopw [7, 8] (fun q k wr => ∃ (j rq m : Nat), j ≤ 8 ∧ q = .float .f64 rq ∧ k = .int .i64 (8 - (j : Int)) ∧ wr = w.drewN m ∧ IsF .f64 rq (sinP (ar .mul .f64 z z) j)) (fun _ k _ => (intOf k).toNat)
        case atStart => exact ⟨0, _, _, by omega, rfl, rfl, rfl, ho⟩
        case round =>
          obtain ⟨j, rq, m, hj, rfl, rfl, rfl, hq⟩ := hrel
          by_cases hlt : j < 8
          · have Hm := Lib.hid (show 2 * (8 - (j : Int)) * (2 * (8 - (j : Int)) + 1) ≤ 1000 ∧ 0 ≤ 2 * (8 - (j : Int)) * (2 * (8 - (j : Int)) + 1) from k_small j hlt)
            have hm1 := Hm.out.1
            have hm2 := Hm.out.2
            go_wp2_with (first | (refine wpList_far rfl rfl (by first | exact .inl rfl | exact .inr (.inl rfl) | exact .inr (.inr (.inl rfl)) | exact .inr (.inr (.inr rfl))) rfl rfl (by first | assumption | exact isF_ofInt _ _ | exact IsF.lit (by decide +kernel)) (by first | assumption | exact isF_ofInt _ _ | exact IsF.lit (by decide +kernel)) ?_; intro r n hr) | (refine wpList_fcmp rfl rfl (by first | exact .inl rfl | exact .inr (.inl rfl) | exact .inr (.inr (.inl rfl)) | exact .inr (.inr (.inr (.inl rfl))) | exact .inr (.inr (.inr (.inr (.inl rfl)))) | exact .inr (.inr (.inr (.inr (.inr rfl))))) rfl rfl (by first | assumption | exact isF_ofInt _ _ | exact IsF.lit (by decide +kernel)) (by first | assumption | exact isF_ofInt _ _ | exact IsF.lit (by decide +kernel)) (by first | assumption | exact rfl) ?_) | (first | (refine wpList_fsame rfl rfl rfl (congrArg Option.isSome Try.underlying22) Try.underlying22 ?_) | (refine wpList_fsame rfl rfl rfl (congrArg Option.isSome Try.underlying25) Try.underlying25 ?_)) | (refine wpList_fwid rfl rfl rfl (congrArg Option.isSome Try.underlying22) Try.underlying25 (by assumption) ?_; intro r n hr) | (refine wpList_fnar rfl rfl rfl (congrArg Option.isSome Try.underlying25) Try.underlying22 (by assumption) (by assumption) ?_; intro r n hr) | (refine wpList_fneg rfl rfl rfl (by assumption) ?_; intro r hr))
            all_goals
              go_roundw
              case rel => exact ⟨j + 1, _, _, by omega, rfl, by go_num, rfl, by assumption⟩
              case measure => simp [intOf]; omega
          · obtain rfl : j = 8 := by omega
            go_wp2_with (first | (refine wpList_far rfl rfl (by first | exact .inl rfl | exact .inr (.inl rfl) | exact .inr (.inr (.inl rfl)) | exact .inr (.inr (.inr rfl))) rfl rfl (by first | assumption | exact isF_ofInt _ _ | exact IsF.lit (by decide +kernel)) (by first | assumption | exact isF_ofInt _ _ | exact IsF.lit (by decide +kernel)) ?_; intro r n hr) | (refine wpList_fcmp rfl rfl (by first | exact .inl rfl | exact .inr (.inl rfl) | exact .inr (.inr (.inl rfl)) | exact .inr (.inr (.inr (.inl rfl))) | exact .inr (.inr (.inr (.inr (.inl rfl)))) | exact .inr (.inr (.inr (.inr (.inr rfl))))) rfl rfl (by first | assumption | exact isF_ofInt _ _ | exact IsF.lit (by decide +kernel)) (by first | assumption | exact isF_ofInt _ _ | exact IsF.lit (by decide +kernel)) (by first | assumption | exact rfl) ?_) | (first | (refine wpList_fsame rfl rfl rfl (congrArg Option.isSome Try.underlying22) Try.underlying22 ?_) | (refine wpList_fsame rfl rfl rfl (congrArg Option.isSome Try.underlying25) Try.underlying25 ?_)) | (refine wpList_fwid rfl rfl rfl (congrArg Option.isSome Try.underlying22) Try.underlying25 (by assumption) ?_; intro r n hr) | (refine wpList_fnar rfl rfl rfl (congrArg Option.isSome Try.underlying25) Try.underlying22 (by assumption) (by assumption) ?_; intro r n hr) | (refine wpList_fneg rfl rfl rfl (by assumption) ?_; intro r hr))
            go_ret
            exact ⟨_, _, rfl, by assumption, rfl⟩
      · have H1 : sin1 (ar .sub .f64 (some b) (ofInt .f64 t)) = (ar .sub .f64 (ar .sub .f64 (some b) (ofInt .f64 t)) (some 4602678819172646912)) := by unfold sin1; rw [c1]; rfl
        have H2 : sin2 (ar .sub .f64 (some b) (ofInt .f64 t)) = (ar .sub .f64 (some 4602678819172646912) (ar .sub .f64 (ar .sub .f64 (some b) (ofInt .f64 t)) (some 4602678819172646912))) := by unfold sin2; rw [H1, c2]; rfl
        have H3 : sin3 (ar .sub .f64 (some b) (ofInt .f64 t)) = (ar .mul .f64 (ar .sub .f64 (some 4602678819172646912) (ar .sub .f64 (ar .sub .f64 (some b) (ofInt .f64 t)) (some 4602678819172646912))) (some 4618760256179416344)) := by unfold sin3; rw [H2]
        have Hs := Lib.hid (show sinF (ar .sub .f64 (some b) (ofInt .f64 t)) = neg .f64 (ar .mul .f64 (ar .mul .f64 (ar .sub .f64 (some 4602678819172646912) (ar .sub .f64 (ar .sub .f64 (some b) (ofInt .f64 t)) (some 4602678819172646912))) (some 4618760256179416344)) (sinP (ar .mul .f64 (ar .mul .f64 (ar .sub .f64 (some 4602678819172646912) (ar .sub .f64 (ar .sub .f64 (some b) (ofInt .f64 t)) (some 4602678819172646912))) (some 4618760256179416344)) (ar .mul .f64 (ar .sub .f64 (some 4602678819172646912) (ar .sub .f64 (ar .sub .f64 (some b) (ofInt .f64 t)) (some 4602678819172646912))) (some 4618760256179416344))) 8)) by unfold sinF sin4; rw [c1, H3]; rfl)
        clear H1 H2 H3
        rw [Hs.out]
        clear Hs
        go_enter Try.func41, Try.ntmps41
        go_wp2_with (first | (refine wpList_far rfl rfl (by first | exact .inl rfl | exact .inr (.inl rfl) | exact .inr (.inr (.inl rfl)) | exact .inr (.inr (.inr rfl))) rfl rfl (by first | assumption | exact isF_ofInt _ _ | exact IsF.lit (by decide +kernel)) (by first | assumption | exact isF_ofInt _ _ | exact IsF.lit (by decide +kernel)) ?_; intro r n hr) | (refine wpList_fcmp rfl rfl (by first | exact .inl rfl | exact .inr (.inl rfl) | exact .inr (.inr (.inl rfl)) | exact .inr (.inr (.inr (.inl rfl))) | exact .inr (.inr (.inr (.inr (.inl rfl)))) | exact .inr (.inr (.inr (.inr (.inr rfl))))) rfl rfl (by first | assumption | exact isF_ofInt _ _ | exact IsF.lit (by decide +kernel)) (by first | assumption | exact isF_ofInt _ _ | exact IsF.lit (by decide +kernel)) (by first | assumption | exact rfl) ?_) | (first | (refine wpList_fsame rfl rfl rfl (congrArg Option.isSome Try.underlying22) Try.underlying22 ?_) | (refine wpList_fsame rfl rfl rfl (congrArg Option.isSome Try.underlying25) Try.underlying25 ?_)) | (refine wpList_fwid rfl rfl rfl (congrArg Option.isSome Try.underlying22) Try.underlying25 (by assumption) ?_; intro r n hr) | (refine wpList_fnar rfl rfl rfl (congrArg Option.isSome Try.underlying25) Try.underlying22 (by assumption) (by assumption) ?_; intro r n hr) | (refine wpList_fneg rfl rfl rfl (by assumption) ?_; intro r hr) | (refine wpList_toInt rfl rfl rfl (congrArg Option.isSome Try.underlying25) Try.underlying2 Hn.out hb1 hb2 ?_))
        clear c0 c1 c2 g1 g2 g3
        generalize (ar .mul .f64 (ar .sub .f64 (some 4602678819172646912) (ar .sub .f64 (ar .sub .f64 (some b) (ofInt .f64 t)) (some 4602678819172646912))) (some 4618760256179416344)) = z at *
        go_simp
        go_loopw [7, 8] (fun q k wr => ∃ (j rq m : Nat), j ≤ 8 ∧ q = .float .f64 rq ∧ k = .int .i64 (8 - (j : Int)) ∧ wr = w.drewN m ∧ IsF .f64 rq (sinP (ar .mul .f64 z z) j)) (fun _ k _ => (intOf k).toNat)
        case atStart => exact ⟨0, _, _, by omega, rfl, rfl, rfl, ho⟩
        case round =>
          obtain ⟨j, rq, m, hj, rfl, rfl, rfl, hq⟩ := hrel
          by_cases hlt : j < 8
          · have Hm := Lib.hid (show 2 * (8 - (j : Int)) * (2 * (8 - (j : Int)) + 1) ≤ 1000 ∧ 0 ≤ 2 * (8 - (j : Int)) * (2 * (8 - (j : Int)) + 1) from k_small j hlt)
            have hm1 := Hm.out.1
            have hm2 := Hm.out.2
            go_wp2_with (first | (refine wpList_far rfl rfl (by first | exact .inl rfl | exact .inr (.inl rfl) | exact .inr (.inr (.inl rfl)) | exact .inr (.inr (.inr rfl))) rfl rfl (by first | assumption | exact isF_ofInt _ _ | exact IsF.lit (by decide +kernel)) (by first | assumption | exact isF_ofInt _ _ | exact IsF.lit (by decide +kernel)) ?_; intro r n hr) | (refine wpList_fcmp rfl rfl (by first | exact .inl rfl | exact .inr (.inl rfl) | exact .inr (.inr (.inl rfl)) | exact .inr (.inr (.inr (.inl rfl))) | exact .inr (.inr (.inr (.inr (.inl rfl)))) | exact .inr (.inr (.inr (.inr (.inr rfl))))) rfl rfl (by first | assumption | exact isF_ofInt _ _ | exact IsF.lit (by decide +kernel)) (by first | assumption | exact isF_ofInt _ _ | exact IsF.lit (by decide +kernel)) (by first | assumption | exact rfl) ?_) | (first | (refine wpList_fsame rfl rfl rfl (congrArg Option.isSome Try.underlying22) Try.underlying22 ?_) | (refine wpList_fsame rfl rfl rfl (congrArg Option.isSome Try.underlying25) Try.underlying25 ?_)) | (refine wpList_fwid rfl rfl rfl (congrArg Option.isSome Try.underlying22) Try.underlying25 (by assumption) ?_; intro r n hr) | (refine wpList_fnar rfl rfl rfl (congrArg Option.isSome Try.underlying25) Try.underlying22 (by assumption) (by assumption) ?_; intro r n hr) | (refine wpList_fneg rfl rfl rfl (by assumption) ?_; intro r hr))
            all_goals
              go_roundw
              case rel => exact ⟨j + 1, _, _, by omega, rfl, by go_num, rfl, by assumption⟩
              case measure => simp [intOf]; omega
          · obtain rfl : j = 8 := by omega
            go_wp2_with (first | (refine wpList_far rfl rfl (by first | exact .inl rfl | exact .inr (.inl rfl) | exact .inr (.inr (.inl rfl)) | exact .inr (.inr (.inr rfl))) rfl rfl (by first | assumption | exact isF_ofInt _ _ | exact IsF.lit (by decide +kernel)) (by first | assumption | exact isF_ofInt _ _ | exact IsF.lit (by decide +kernel)) ?_; intro r n hr) | (refine wpList_fcmp rfl rfl (by first | exact .inl rfl | exact .inr (.inl rfl) | exact .inr (.inr (.inl rfl)) | exact .inr (.inr (.inr (.inl rfl))) | exact .inr (.inr (.inr (.inr (.inl rfl)))) | exact .inr (.inr (.inr (.inr (.inr rfl))))) rfl rfl (by first | assumption | exact isF_ofInt _ _ | exact IsF.lit (by decide +kernel)) (by first | assumption | exact isF_ofInt _ _ | exact IsF.lit (by decide +kernel)) (by first | assumption | exact rfl) ?_) | (first | (refine wpList_fsame rfl rfl rfl (congrArg Option.isSome Try.underlying22) Try.underlying22 ?_) | (refine wpList_fsame rfl rfl rfl (congrArg Option.isSome Try.underlying25) Try.underlying25 ?_)) | (refine wpList_fwid rfl rfl rfl (congrArg Option.isSome Try.underlying22) Try.underlying25 (by assumption) ?_; intro r n hr) | (refine wpList_fnar rfl rfl rfl (congrArg Option.isSome Try.underlying25) Try.underlying22 (by assumption) (by assumption) ?_; intro r n hr) | (refine wpList_fneg rfl rfl rfl (by assumption) ?_; intro r hr))
            go_ret
            exact ⟨_, _, rfl, by assumption, rfl⟩
  · simp only [Bool.false_eq_true, if_false, if_true]
    cases c1 : cmpF .geq .f64 (ar .add .f64 (ar .sub .f64 (some b) (ofInt .f64 t)) (some 4607182418800017408)) (some 4602678819172646912)
    · cases c2 : cmpF .gtr .f64 (ar .add .f64 (ar .sub .f64 (some b) (ofInt .f64 t)) (some 4607182418800017408)) (some 4598175219545276416)
      · have H1 : sin1 (ar .add .f64 (ar .sub .f64 (some b) (ofInt .f64 t)) (some 4607182418800017408)) = (ar .add .f64 (ar .sub .f64 (some b) (ofInt .f64 t)) (some 4607182418800017408)) := by unfold sin1; rw [c1]; rfl
        have H2 : sin2 (ar .add .f64 (ar .sub .f64 (some b) (ofInt .f64 t)) (some 4607182418800017408)) = (ar .add .f64 (ar .sub .f64 (some b) (ofInt .f64 t)) (some 4607182418800017408)) := by unfold sin2; rw [H1, c2]; rfl
        have H3 : sin3 (ar .add .f64 (ar .sub .f64 (some b) (ofInt .f64 t)) (some 4607182418800017408)) = (ar .mul .f64 (ar .add .f64 (ar .sub .f64 (some b) (ofInt .f64 t)) (some 4607182418800017408)) (some 4618760256179416344)) := by unfold sin3; rw [H2]
        have Hs := Lib.hid (show sinF (ar .add .f64 (ar .sub .f64 (some b) (ofInt .f64 t)) (some 4607182418800017408)) = ar .mul .f64 (ar .mul .f64 (ar .add .f64 (ar .sub .f64 (some b) (ofInt .f64 t)) (some 4607182418800017408)) (some 4618760256179416344)) (sinP (ar .mul .f64 (ar .mul .f64 (ar .add .f64 (ar .sub .f64 (some b) (ofInt .f64 t)) (some 4607182418800017408)) (some 4618760256179416344)) (ar .mul .f64 (ar .add .f64 (ar .sub .f64 (some b) (ofInt .f64 t)) (some 4607182418800017408)) (some 4618760256179416344))) 8) by unfold sinF sin4; rw [c1, H3]; rfl)
        clear H1 H2 H3
        rw [Hs.out]
        clear Hs
        go_enter Try.func41, Try.ntmps41
        go_wp2_with (first | (refine wpList_far rfl rfl (by first | exact .inl rfl | exact .inr (.inl rfl) | exact .inr (.inr (.inl rfl)) | exact .inr (.inr (.inr rfl))) rfl rfl (by first | assumption | exact isF_ofInt _ _ | exact IsF.lit (by decide +kernel)) (by first | assumption | exact isF_ofInt _ _ | exact IsF.lit (by decide +kernel)) ?_; intro r n hr) | (refine wpList_fcmp rfl rfl (by first | exact .inl rfl | exact .inr (.inl rfl) | exact .inr (.inr (.inl rfl)) | exact .inr (.inr (.inr (.inl rfl))) | exact .inr (.inr (.inr (.inr (.inl rfl)))) | exact .inr (.inr (.inr (.inr (.inr rfl))))) rfl rfl (by first | assumption | exact isF_ofInt _ _ | exact IsF.lit (by decide +kernel)) (by first | assumption | exact isF_ofInt _ _ | exact IsF.lit (by decide +kernel)) (by first | assumption | exact rfl) ?_) | (first | (refine wpList_fsame rfl rfl rfl (congrArg Option.isSome Try.underlying22) Try.underlying22 ?_) | (refine wpList_fsame rfl rfl rfl (congrArg Option.isSome Try.underlying25) Try.underlying25 ?_)) | (refine wpList_fwid rfl rfl rfl (congrArg Option.isSome Try.underlying22) Try.underlying25 (by assumption) ?_; intro r n hr) | (refine wpList_fnar rfl rfl rfl (congrArg Option.isSome Try.underlying25) Try.underlying22 (by assumption) (by assumption) ?_; intro r n hr) | (refine wpList_fneg rfl rfl rfl (by assumption) ?_; intro r hr) | (refine wpList_toInt rfl rfl rfl (congrArg Option.isSome Try.underlying25) Try.underlying2 Hn.out hb1 hb2 ?_))
        clear c0 c1 c2 g1 g2 g3
        generalize (ar .mul .f64 (ar .add .f64 (ar .sub .f64 (some b) (ofInt .f64 t)) (some 4607182418800017408)) (some 4618760256179416344)) = z at *
        go_simp
        go_loopw [7, 8] (fun q k wr => ∃ (j rq m : Nat), j ≤ 8 ∧ q = .float .f64 rq ∧ k = .int .i64 (8 - (j : Int)) ∧ wr = w.drewN m ∧ IsF .f64 rq (sinP (ar .mul .f64 z z) j)) (fun _ k _ => (intOf k).toNat)
        case atStart => exact ⟨0, _, _, by omega, rfl, rfl, rfl, ho⟩
        case round =>
          obtain ⟨j, rq, m, hj, rfl, rfl, rfl, hq⟩ := hrel
          by_cases hlt : j < 8
          · have Hm := Lib.hid (show 2 * (8 - (j : Int)) * (2 * (8 - (j : Int)) + 1) ≤ 1000 ∧ 0 ≤ 2 * (8 - (j : Int)) * (2 * (8 - (j : Int)) + 1) from k_small j hlt)
            have hm1 := Hm.out.1
            have hm2 := Hm.out.2
            go_wp2_with (first | (refine wpList_far rfl rfl (by first | exact .inl rfl | exact .inr (.inl rfl) | exact .inr (.inr (.inl rfl)) | exact .inr (.inr (.inr rfl))) rfl rfl (by first | assumption | exact isF_ofInt _ _ | exact IsF.lit (by decide +kernel)) (by first | assumption | exact isF_ofInt _ _ | exact IsF.lit (by decide +kernel)) ?_; intro r n hr) | (refine wpList_fcmp rfl rfl (by first | exact .inl rfl | exact .inr (.inl rfl) | exact .inr (.inr (.inl rfl)) | exact .inr (.inr (.inr (.inl rfl))) | exact .inr (.inr (.inr (.inr (.inl rfl)))) | exact .inr (.inr (.inr (.inr (.inr rfl))))) rfl rfl (by first | assumption | exact isF_ofInt _ _ | exact IsF.lit (by decide +kernel)) (by first | assumption | exact isF_ofInt _ _ | exact IsF.lit (by decide +kernel)) (by first | assumption | exact rfl) ?_) | (first | (refine wpList_fsame rfl rfl rfl (congrArg Option.isSome Try.underlying22) Try.underlying22 ?_) | (refine wpList_fsame rfl rfl rfl (congrArg Option.isSome Try.underlying25) Try.underlying25 ?_)) | (refine wpList_fwid rfl rfl rfl (congrArg Option.isSome Try.underlying22) Try.underlying25 (by assumption) ?_; intro r n hr) | (refine wpList_fnar rfl rfl rfl (congrArg Option.isSome Try.underlying25) Try.underlying22 (by assumption) (by assumption) ?_; intro r n hr) | (refine wpList_fneg rfl rfl rfl (by assumption) ?_; intro r hr))
            all_goals
              go_roundw
              case rel => exact ⟨j + 1, _, _, by omega, rfl, by go_num, rfl, by assumption⟩
              case measure => simp [intOf]; omega
          · obtain rfl : j = 8 := by omega
            go_wp2_with (first | (refine wpList_far rfl rfl (by first | exact .inl rfl | exact .inr (.inl rfl) | exact .inr (.inr (.inl rfl)) | exact .inr (.inr (.inr rfl))) rfl rfl (by first | assumption | exact isF_ofInt _ _ | exact IsF.lit (by decide +kernel)) (by first | assumption | exact isF_ofInt _ _ | exact IsF.lit (by decide +kernel)) ?_; intro r n hr) | (refine wpList_fcmp rfl rfl (by first | exact .inl rfl | exact .inr (.inl rfl) | exact .inr (.inr (.inl rfl)) | exact .inr (.inr (.inr (.inl rfl))) | exact .inr (.inr (.inr (.inr (.inl rfl)))) | exact .inr (.inr (.inr (.inr (.inr rfl))))) rfl rfl (by first | assumption | exact isF_ofInt _ _ | exact IsF.lit (by decide +kernel)) (by first | assumption | exact isF_ofInt _ _ | exact IsF.lit (by decide +kernel)) (by first | assumption | exact rfl) ?_) | (first | (refine wpList_fsame rfl rfl rfl (congrArg Option.isSome Try.underlying22) Try.underlying22 ?_) | (refine wpList_fsame rfl rfl rfl (congrArg Option.isSome Try.underlying25) Try.underlying25 ?_)) | (refine wpList_fwid rfl rfl rfl (congrArg Option.isSome Try.underlying22) Try.underlying25 (by assumption) ?_; intro r n hr) | (refine wpList_fnar rfl rfl rfl (congrArg Option.isSome Try.underlying25) Try.underlying22 (by assumption) (by assumption) ?_; intro r n hr) | (refine wpList_fneg rfl rfl rfl (by assumption) ?_; intro r hr))
            go_ret
            exact ⟨_, _, rfl, by assumption, rfl⟩
      · have H1 : sin1 (ar .add .f64 (ar .sub .f64 (some b) (ofInt .f64 t)) (some 4607182418800017408)) = (ar .add .f64 (ar .sub .f64 (some b) (ofInt .f64 t)) (some 4607182418800017408)) := by unfold sin1; rw [c1]; rfl
        have H2 : sin2 (ar .add .f64 (ar .sub .f64 (some b) (ofInt .f64 t)) (some 4607182418800017408)) = (ar .sub .f64 (some 4602678819172646912) (ar .add .f64 (ar .sub .f64 (some b) (ofInt .f64 t)) (some 4607182418800017408))) := by unfold sin2; rw [H1, c2]; rfl
        have H3 : sin3 (ar .add .f64 (ar .sub .f64 (some b) (ofInt .f64 t)) (some 4607182418800017408)) = (ar .mul .f64 (ar .sub .f64 (some 4602678819172646912) (ar .add .f64 (ar .sub .f64 (some b) (ofInt .f64 t)) (some 4607182418800017408))) (some 4618760256179416344)) := by unfold sin3; rw [H2]
        have Hs := Lib.hid (show sinF (ar .add .f64 (ar .sub .f64 (some b) (ofInt .f64 t)) (some 4607182418800017408)) = ar .mul .f64 (ar .mul .f64 (ar .sub .f64 (some 4602678819172646912) (ar .add .f64 (ar .sub .f64 (some b) (ofInt .f64 t)) (some 4607182418800017408))) (some 4618760256179416344)) (sinP (ar .mul .f64 (ar .mul .f64 (ar .sub .f64 (some 4602678819172646912) (ar .add .f64 (ar .sub .f64 (some b) (ofInt .f64 t)) (some 4607182418800017408))) (some 4618760256179416344)) (ar .mul .f64 (ar .sub .f64 (some 4602678819172646912) (ar .add .f64 (ar .sub .f64 (some b) (ofInt .f64 t)) (some 4607182418800017408))) (some 4618760256179416344))) 8) by unfold sinF sin4; rw [c1, H3]; rfl)
        clear H1 H2 H3
        rw [Hs.out]
        clear Hs
        go_enter Try.func41, Try.ntmps41
        go_wp2_with (first | (refine wpList_far rfl rfl (by first | exact .inl rfl | exact .inr (.inl rfl) | exact .inr (.inr (.inl rfl)) | exact .inr (.inr (.inr rfl))) rfl rfl (by first | assumption | exact isF_ofInt _ _ | exact IsF.lit (by decide +kernel)) (by first | assumption | exact isF_ofInt _ _ | exact IsF.lit (by decide +kernel)) ?_; intro r n hr) | (refine wpList_fcmp rfl rfl (by first | exact .inl rfl | exact .inr (.inl rfl) | exact .inr (.inr (.inl rfl)) | exact .inr (.inr (.inr (.inl rfl))) | exact .inr (.inr (.inr (.inr (.inl rfl)))) | exact .inr (.inr (.inr (.inr (.inr rfl))))) rfl rfl (by first | assumption | exact isF_ofInt _ _ | exact IsF.lit (by decide +kernel)) (by first | assumption | exact isF_ofInt _ _ | exact IsF.lit (by decide +kernel)) (by first | assumption | exact rfl) ?_) | (first | (refine wpList_fsame rfl rfl rfl (congrArg Option.isSome Try.underlying22) Try.underlying22 ?_) | (refine wpList_fsame rfl rfl rfl (congrArg Option.isSome Try.underlying25) Try.underlying25 ?_)) | (refine wpList_fwid rfl rfl rfl (congrArg Option.isSome Try.underlying22) Try.underlying25 (by assumption) ?_; intro r n hr) | (refine wpList_fnar rfl rfl rfl (congrArg Option.isSome Try.underlying25) Try.underlying22 (by assumption) (by assumption) ?_; intro r n hr) | (refine wpList_fneg rfl rfl rfl (by assumption) ?_; intro r hr) | (refine wpList_toInt rfl rfl rfl (congrArg Option.isSome Try.underlying25) Try.underlying2 Hn.out hb1 hb2 ?_))
        clear c0 c1 c2 g1 g2 g3
        generalize (ar .mul .f64 (ar .sub .f64 (some 4602678819172646912) (ar .add .f64 (ar .sub .f64 (some b) (ofInt .f64 t)) (some 4607182418800017408))) (some 4618760256179416344)) = z at *
        go_simp
        go_loopw [7, 8] (fun q k wr => ∃ (j rq m : Nat), j ≤ 8 ∧ q = .float .f64 rq ∧ k = .int .i64 (8 - (j : Int)) ∧ wr = w.drewN m ∧ IsF .f64 rq (sinP (ar .mul .f64 z z) j)) (fun _ k _ => (intOf k).toNat)
        case atStart => exact ⟨0, _, _, by omega, rfl, rfl, rfl, ho⟩
        case round =>
          obtain ⟨j, rq, m, hj, rfl, rfl, rfl, hq⟩ := hrel
          by_cases hlt : j < 8
          · have Hm := Lib.hid (show 2 * (8 - (j : Int)) * (2 * (8 - (j : Int)) + 1) ≤ 1000 ∧ 0 ≤ 2 * (8 - (j : Int)) * (2 * (8 - (j : Int)) + 1) from k_small j hlt)
            have hm1 := Hm.out.1
            have hm2 := Hm.out.2
            go_wp2_with (first | (refine wpList_far rfl rfl (by first | exact .inl rfl | exact .inr (.inl rfl) | exact .inr (.inr (.inl rfl)) | exact .inr (.inr (.inr rfl))) rfl rfl (by first | assumption | exact isF_ofInt _ _ | exact IsF.lit (by decide +kernel)) (by first | assumption | exact isF_ofInt _ _ | exact IsF.lit (by decide +kernel)) ?_; intro r n hr) | (refine wpList_fcmp rfl rfl (by first | exact .inl rfl | exact .inr (.inl rfl) | exact .inr (.inr (.inl rfl)) | exact .inr (.inr (.inr (.inl rfl))) | exact .inr (.inr (.inr (.inr (.inl rfl)))) | exact .inr (.inr (.inr (.inr (.inr rfl))))) rfl rfl (by first | assumption | exact isF_ofInt _ _ | exact IsF.lit (by decide +kernel)) (by first | assumption | exact isF_ofInt _ _ | exact IsF.lit (by decide +kernel)) (by first | assumption | exact rfl) ?_) | (first | (refine wpList_fsame rfl rfl rfl (congrArg Option.isSome Try.underlying22) Try.underlying22 ?_) | (refine wpList_fsame rfl rfl rfl (congrArg Option.isSome Try.underlying25) Try.underlying25 ?_)) | (refine wpList_fwid rfl rfl rfl (congrArg Option.isSome Try.underlying22) Try.underlying25 (by assumption) ?_; intro r n hr) | (refine wpList_fnar rfl rfl rfl (congrArg Option.isSome Try.underlying25) Try.underlying22 (by assumption) (by assumption) ?_; intro r n hr) | (refine wpList_fneg rfl rfl rfl (by assumption) ?_; intro r hr))
            all_goals
              go_roundw
              case rel => exact ⟨j + 1, _, _, by omega, rfl, by go_num, rfl, by assumption⟩
              case measure => simp [intOf]; omega
          · obtain rfl : j = 8 := by omega
            go_wp2_with (first | (refine wpList_far rfl rfl (by first | exact .inl rfl | exact .inr (.inl rfl) | exact .inr (.inr (.inl rfl)) | exact .inr (.inr (.inr rfl))) rfl rfl (by first | assumption | exact isF_ofInt _ _ | exact IsF.lit (by decide +kernel)) (by first | assumption | exact isF_ofInt _ _ | exact IsF.lit (by decide +kernel)) ?_; intro r n hr) | (refine wpList_fcmp rfl rfl (by first | exact .inl rfl | exact .inr (.inl rfl) | exact .inr (.inr (.inl rfl)) | exact .inr (.inr (.inr (.inl rfl))) | exact .inr (.inr (.inr (.inr (.inl rfl)))) | exact .inr (.inr (.inr (.inr (.inr rfl))))) rfl rfl (by first | assumption | exact isF_ofInt _ _ | exact IsF.lit (by decide +kernel)) (by first | assumption | exact isF_ofInt _ _ | exact IsF.lit (by decide +kernel)) (by first | assumption | exact rfl) ?_) | (first | (refine wpList_fsame rfl rfl rfl (congrArg Option.isSome Try.underlying22) Try.underlying22 ?_) | (refine wpList_fsame rfl rfl rfl (congrArg Option.isSome Try.underlying25) Try.underlying25 ?_)) | (refine wpList_fwid rfl rfl rfl (congrArg Option.isSome Try.underlying22) Try.underlying25 (by assumption) ?_; intro r n hr) | (refine wpList_fnar rfl rfl rfl (congrArg Option.isSome Try.underlying25) Try.underlying22 (by assumption) (by assumption) ?_; intro r n hr) | (refine wpList_fneg rfl rfl rfl (by assumption) ?_; intro r hr))
            go_ret
            exact ⟨_, _, rfl, by assumption, rfl⟩
    · cases c2 : cmpF .gtr .f64 (ar .sub .f64 (ar .add .f64 (ar .sub .f64 (some b) (ofInt .f64 t)) (some 4607182418800017408)) (some 4602678819172646912)) (some 4598175219545276416)
      · have H1 : sin1 (ar .add .f64 (ar .sub .f64 (some b) (ofInt .f64 t)) (some 4607182418800017408)) = (ar .sub .f64 (ar .add .f64 (ar .sub .f64 (some b) (ofInt .f64 t)) (some 4607182418800017408)) (some 4602678819172646912)) := by unfold sin1; rw [c1]; rfl
        have H2 : sin2 (ar .add .f64 (ar .sub .f64 (some b) (ofInt .f64 t)) (some 4607182418800017408)) = (ar .sub .f64 (ar .add .f64 (ar .sub .f64 (some b) (ofInt .f64 t)) (some 4607182418800017408)) (some 4602678819172646912)) := by unfold sin2; rw [H1, c2]; rfl
        have H3 : sin3 (ar .add .f64 (ar .sub .f64 (some b) (ofInt .f64 t)) (some 4607182418800017408)) = (ar .mul .f64 (ar .sub .f64 (ar .add .f64 (ar .sub .f64 (some b) (ofInt .f64 t)) (some 4607182418800017408)) (some 4602678819172646912)) (some 4618760256179416344)) := by unfold sin3; rw [H2]
        have Hs := Lib.hid (show sinF (ar .add .f64 (ar .sub .f64 (some b) (ofInt .f64 t)) (some 4607182418800017408)) = neg .f64 (ar .mul .f64 (ar .mul .f64 (ar .sub .f64 (ar .add .f64 (ar .sub .f64 (some b) (ofInt .f64 t)) (some 4607182418800017408)) (some 4602678819172646912)) (some 4618760256179416344)) (sinP (ar .mul .f64 (ar .mul .f64 (ar .sub .f64 (ar .add .f64 (ar .sub .f64 (some b) (ofInt .f64 t)) (some 4607182418800017408)) (some 4602678819172646912)) (some 4618760256179416344)) (ar .mul .f64 (ar .sub .f64 (ar .add .f64 (ar .sub .f64 (some b) (ofInt .f64 t)) (some 4607182418800017408)) (some 4602678819172646912)) (some 4618760256179416344))) 8)) by unfold sinF sin4; rw [c1, H3]; rfl)
        clear H1 H2 H3
        rw [Hs.out]
        clear Hs
        go_enter Try.func41, Try.ntmps41
        go_wp2_with (first | (refine wpList_far rfl rfl (by first | exact .inl rfl | exact .inr (.inl rfl) | exact .inr (.inr (.inl rfl)) | exact .inr (.inr (.inr rfl))) rfl rfl (by first | assumption | exact isF_ofInt _ _ | exact IsF.lit (by decide +kernel)) (by first | assumption | exact isF_ofInt _ _ | exact IsF.lit (by decide +kernel)) ?_; intro r n hr) | (refine wpList_fcmp rfl rfl (by first | exact .inl rfl | exact .inr (.inl rfl) | exact .inr (.inr (.inl rfl)) | exact .inr (.inr (.inr (.inl rfl))) | exact .inr (.inr (.inr (.inr (.inl rfl)))) | exact .inr (.inr (.inr (.inr (.inr rfl))))) rfl rfl (by first | assumption | exact isF_ofInt _ _ | exact IsF.lit (by decide +kernel)) (by first | assumption | exact isF_ofInt _ _ | exact IsF.lit (by decide +kernel)) (by first | assumption | exact rfl) ?_) | (first | (refine wpList_fsame rfl rfl rfl (congrArg Option.isSome Try.underlying22) Try.underlying22 ?_) | (refine wpList_fsame rfl rfl rfl (congrArg Option.isSome Try.underlying25) Try.underlying25 ?_)) | (refine wpList_fwid rfl rfl rfl (congrArg Option.isSome Try.underlying22) Try.underlying25 (by assumption) ?_; intro r n hr) | (refine wpList_fnar rfl rfl rfl (congrArg Option.isSome Try.underlying25) Try.underlying22 (by assumption) (by assumption) ?_; intro r n hr) | (refine wpList_fneg rfl rfl rfl (by assumption) ?_; intro r hr) | (refine wpList_toInt rfl rfl rfl (congrArg Option.isSome Try.underlying25) Try.underlying2 Hn.out hb1 hb2 ?_))
        clear c0 c1 c2 g1 g2 g3
        generalize (ar .mul .f64 (ar .sub .f64 (ar .add .f64 (ar .sub .f64 (some b) (ofInt .f64 t)) (some 4607182418800017408)) (some 4602678819172646912)) (some 4618760256179416344)) = z at *
        go_simp
        go_loopw [7, 8] (fun q k wr => ∃ (j rq m : Nat), j ≤ 8 ∧ q = .float .f64 rq ∧ k = .int .i64 (8 - (j : Int)) ∧ wr = w.drewN m ∧ IsF .f64 rq (sinP (ar .mul .f64 z z) j)) (fun _ k _ => (intOf k).toNat)
        case atStart => exact ⟨0, _, _, by omega, rfl, rfl, rfl, ho⟩
        case round =>
          obtain ⟨j, rq, m, hj, rfl, rfl, rfl, hq⟩ := hrel
          by_cases hlt : j < 8
          · have Hm := Lib.hid (show 2 * (8 - (j : Int)) * (2 * (8 - (j : Int)) + 1) ≤ 1000 ∧ 0 ≤ 2 * (8 - (j : Int)) * (2 * (8 - (j : Int)) + 1) from k_small j hlt)
            have hm1 := Hm.out.1
            have hm2 := Hm.out.2
            go_wp2_with (first | (refine wpList_far rfl rfl (by first | exact .inl rfl | exact .inr (.inl rfl) | exact .inr (.inr (.inl rfl)) | exact .inr (.inr (.inr rfl))) rfl rfl (by first | assumption | exact isF_ofInt _ _ | exact IsF.lit (by decide +kernel)) (by first | assumption | exact isF_ofInt _ _ | exact IsF.lit (by decide +kernel)) ?_; intro r n hr) | (refine wpList_fcmp rfl rfl (by first | exact .inl rfl | exact .inr (.inl rfl) | exact .inr (.inr (.inl rfl)) | exact .inr (.inr (.inr (.inl rfl))) | exact .inr (.inr (.inr (.inr (.inl rfl)))) | exact .inr (.inr (.inr (.inr (.inr rfl))))) rfl rfl (by first | assumption | exact isF_ofInt _ _ | exact IsF.lit (by decide +kernel)) (by first | assumption | exact isF_ofInt _ _ | exact IsF.lit (by decide +kernel)) (by first | assumption | exact rfl) ?_) | (first | (refine wpList_fsame rfl rfl rfl (congrArg Option.isSome Try.underlying22) Try.underlying22 ?_) | (refine wpList_fsame rfl rfl rfl (congrArg Option.isSome Try.underlying25) Try.underlying25 ?_)) | (refine wpList_fwid rfl rfl rfl (congrArg Option.isSome Try.underlying22) Try.underlying25 (by assumption) ?_; intro r n hr) | (refine wpList_fnar rfl rfl rfl (congrArg Option.isSome Try.underlying25) Try.underlying22 (by assumption) (by assumption) ?_; intro r n hr) | (refine wpList_fneg rfl rfl rfl (by assumption) ?_; intro r hr))
            all_goals
              go_roundw
              case rel => exact ⟨j + 1, _, _, by omega, rfl, by go_num, rfl, by assumption⟩
              case measure => simp [intOf]; omega
          · obtain rfl : j = 8 := by omega
            go_wp2_with (first | (refine wpList_far rfl rfl (by first | exact .inl rfl | exact .inr (.inl rfl) | exact .inr (.inr (.inl rfl)) | exact .inr (.inr (.inr rfl))) rfl rfl (by first | assumption | exact isF_ofInt _ _ | exact IsF.lit (by decide +kernel)) (by first | assumption | exact isF_ofInt _ _ | exact IsF.lit (by decide +kernel)) ?_; intro r n hr) | (refine wpList_fcmp rfl rfl (by first | exact .inl rfl | exact .inr (.inl rfl) | exact .inr (.inr (.inl rfl)) | exact .inr (.inr (.inr (.inl rfl))) | exact .inr (.inr (.inr (.inr (.inl rfl)))) | exact .inr (.inr (.inr (.inr (.inr rfl))))) rfl rfl (by first | assumption | exact isF_ofInt _ _ | exact IsF.lit (by decide +kernel)) (by first | assumption | exact isF_ofInt _ _ | exact IsF.lit (by decide +kernel)) (by first | assumption | exact rfl) ?_) | (first | (refine wpList_fsame rfl rfl rfl (congrArg Option.isSome Try.underlying22) Try.underlying22 ?_) | (refine wpList_fsame rfl rfl rfl (congrArg Option.isSome Try.underlying25) Try.underlying25 ?_)) | (refine wpList_fwid rfl rfl rfl (congrArg Option.isSome Try.underlying22) Try.underlying25 (by assumption) ?_; intro r n hr) | (refine wpList_fnar rfl rfl rfl (congrArg Option.isSome Try.underlying25) Try.underlying22 (by assumption) (by assumption) ?_; intro r n hr) | (refine wpList_fneg rfl rfl rfl (by assumption) ?_; intro r hr))
            go_ret
            exact ⟨_, _, rfl, by assumption, rfl⟩
      · have H1 : sin1 (ar .add .f64 (ar .sub .f64 (some b) (ofInt .f64 t)) (some 4607182418800017408)) = (ar .sub .f64 (ar .add .f64 (ar .sub .f64 (some b) (ofInt .f64 t)) (some 4607182418800017408)) (some 4602678819172646912)) := by unfold sin1; rw [c1]; rfl
        have H2 : sin2 (ar .add .f64 (ar .sub .f64 (some b) (ofInt .f64 t)) (some 4607182418800017408)) = (ar .sub .f64 (some 4602678819172646912) (ar .sub .f64 (ar .add .f64 (ar .sub .f64 (some b) (ofInt .f64 t)) (some 4607182418800017408)) (some 4602678819172646912))) := by unfold sin2; rw [H1, c2]; rfl
        have H3 : sin3 (ar .add .f64 (ar .sub .f64 (some b) (ofInt .f64 t)) (some 4607182418800017408)) = (ar .mul .f64 (ar .sub .f64 (some 4602678819172646912) (ar .sub .f64 (ar .add .f64 (ar .sub .f64 (some b) (ofInt .f64 t)) (some 4607182418800017408)) (some 4602678819172646912))) (some 4618760256179416344)) := by unfold sin3; rw [H2]
        have Hs := Lib.hid (show sinF (ar .add .f64 (ar .sub .f64 (some b) (ofInt .f64 t)) (some 4607182418800017408)) = neg .f64 (ar .mul .f64 (ar .mul .f64 (ar .sub .f64 (some 4602678819172646912) (ar .sub .f64 (ar .add .f64 (ar .sub .f64 (some b) (ofInt .f64 t)) (some 4607182418800017408)) (some 4602678819172646912))) (some 4618760256179416344)) (sinP (ar .mul .f64 (ar .mul .f64 (ar .sub .f64 (some 4602678819172646912) (ar .sub .f64 (ar .add .f64 (ar .sub .f64 (some b) (ofInt .f64 t)) (some 4607182418800017408)) (some 4602678819172646912))) (some 4618760256179416344)) (ar .mul .f64 (ar .sub .f64 (some 4602678819172646912) (ar .sub .f64 (ar .add .f64 (ar .sub .f64 (some b) (ofInt .f64 t)) (some 4607182418800017408)) (some 4602678819172646912))) (some 4618760256179416344))) 8)) by unfold sinF sin4; rw [c1, H3]; rfl)
        clear H1 H2 H3
        rw [Hs.out]
        clear Hs
        go_enter Try.func41, Try.ntmps41
        go_wp2_with (first | (refine wpList_far rfl rfl (by first | exact .inl rfl | exact .inr (.inl rfl) | exact .inr (.inr (.inl rfl)) | exact .inr (.inr (.inr rfl))) rfl rfl (by first | assumption | exact isF_ofInt _ _ | exact IsF.lit (by decide +kernel)) (by first | assumption | exact isF_ofInt _ _ | exact IsF.lit (by decide +kernel)) ?_; intro r n hr) | (refine wpList_fcmp rfl rfl (by first | exact .inl rfl | exact .inr (.inl rfl) | exact .inr (.inr (.inl rfl)) | exact .inr (.inr (.inr (.inl rfl))) | exact .inr (.inr (.inr (.inr (.inl rfl)))) | exact .inr (.inr (.inr (.inr (.inr rfl))))) rfl rfl (by first | assumption | exact isF_ofInt _ _ | exact IsF.lit (by decide +kernel)) (by first | assumption | exact isF_ofInt _ _ | exact IsF.lit (by decide +kernel)) (by first | assumption | exact rfl) ?_) | (first | (refine wpList_fsame rfl rfl rfl (congrArg Option.isSome Try.underlying22) Try.underlying22 ?_) | (refine wpList_fsame rfl rfl rfl (congrArg Option.isSome Try.underlying25) Try.underlying25 ?_)) | (refine wpList_fwid rfl rfl rfl (congrArg Option.isSome Try.underlying22) Try.underlying25 (by assumption) ?_; intro r n hr) | (refine wpList_fnar rfl rfl rfl (congrArg Option.isSome Try.underlying25) Try.underlying22 (by assumption) (by assumption) ?_; intro r n hr) | (refine wpList_fneg rfl rfl rfl (by assumption) ?_; intro r hr) | (refine wpList_toInt rfl rfl rfl (congrArg Option.isSome Try.underlying25) Try.underlying2 Hn.out hb1 hb2 ?_))
        clear c0 c1 c2 g1 g2 g3
        generalize (ar .mul .f64 (ar .sub .f64 (some 4602678819172646912) (ar .sub .f64 (ar .add .f64 (ar .sub .f64 (some b) (ofInt .f64 t)) (some 4607182418800017408)) (some 4602678819172646912))) (some 4618760256179416344)) = z at *
        go_simp
        go_loopw [7, 8] (fun q k wr => ∃ (j rq m : Nat), j ≤ 8 ∧ q = .float .f64 rq ∧ k = .int .i64 (8 - (j : Int)) ∧ wr = w.drewN m ∧ IsF .f64 rq (sinP (ar .mul .f64 z z) j)) (fun _ k _ => (intOf k).toNat)
        case atStart => exact ⟨0, _, _, by omega, rfl, rfl, rfl, ho⟩
        case round =>
          obtain ⟨j, rq, m, hj, rfl, rfl, rfl, hq⟩ := hrel
          by_cases hlt : j < 8
          · have Hm := Lib.hid (show 2 * (8 - (j : Int)) * (2 * (8 - (j : Int)) + 1) ≤ 1000 ∧ 0 ≤ 2 * (8 - (j : Int)) * (2 * (8 - (j : Int)) + 1) from k_small j hlt)
            have hm1 := Hm.out.1
            have hm2 := Hm.out.2
            go_wp2_with (first | (refine wpList_far rfl rfl (by first | exact .inl rfl | exact .inr (.inl rfl) | exact .inr (.inr (.inl rfl)) | exact .inr (.inr (.inr rfl))) rfl rfl (by first | assumption | exact isF_ofInt _ _ | exact IsF.lit (by decide +kernel)) (by first | assumption | exact isF_ofInt _ _ | exact IsF.lit (by decide +kernel)) ?_; intro r n hr) | (refine wpList_fcmp rfl rfl (by first | exact .inl rfl | exact .inr (.inl rfl) | exact .inr (.inr (.inl rfl)) | exact .inr (.inr (.inr (.inl rfl))) | exact .inr (.inr (.inr (.inr (.inl rfl)))) | exact .inr (.inr (.inr (.inr (.inr rfl))))) rfl rfl (by first | assumption | exact isF_ofInt _ _ | exact IsF.lit (by decide +kernel)) (by first | assumption | exact isF_ofInt _ _ | exact IsF.lit (by decide +kernel)) (by first | assumption | exact rfl) ?_) | (first | (refine wpList_fsame rfl rfl rfl (congrArg Option.isSome Try.underlying22) Try.underlying22 ?_) | (refine wpList_fsame rfl rfl rfl (congrArg Option.isSome Try.underlying25) Try.underlying25 ?_)) | (refine wpList_fwid rfl rfl rfl (congrArg Option.isSome Try.underlying22) Try.underlying25 (by assumption) ?_; intro r n hr) | (refine wpList_fnar rfl rfl rfl (congrArg Option.isSome Try.underlying25) Try.underlying22 (by assumption) (by assumption) ?_; intro r n hr) | (refine wpList_fneg rfl rfl rfl (by assumption) ?_; intro r hr))
            all_goals
              go_roundw
              case rel => exact ⟨j + 1, _, _, by omega, rfl, by go_num, rfl, by assumption⟩
              case measure => simp [intOf]; omega
          · obtain rfl : j = 8 := by omega
            go_wp2_with (first | (refine wpList_far rfl rfl (by first | exact .inl rfl | exact .inr (.inl rfl) | exact .inr (.inr (.inl rfl)) | exact .inr (.inr (.inr rfl))) rfl rfl (by first | assumption | exact isF_ofInt _ _ | exact IsF.lit (by decide +kernel)) (by first | assumption | exact isF_ofInt _ _ | exact IsF.lit (by decide +kernel)) ?_; intro r n hr) | (refine wpList_fcmp rfl rfl (by first | exact .inl rfl | exact .inr (.inl rfl) | exact .inr (.inr (.inl rfl)) | exact .inr (.inr (.inr (.inl rfl))) | exact .inr (.inr (.inr (.inr (.inl rfl)))) | exact .inr (.inr (.inr (.inr (.inr rfl))))) rfl rfl (by first | assumption | exact isF_ofInt _ _ | exact IsF.lit (by decide +kernel)) (by first | assumption | exact isF_ofInt _ _ | exact IsF.lit (by decide +kernel)) (by first | assumption | exact rfl) ?_) | (first | (refine wpList_fsame rfl rfl rfl (congrArg Option.isSome Try.underlying22) Try.underlying22 ?_) | (refine wpList_fsame rfl rfl rfl (congrArg Option.isSome Try.underlying25) Try.underlying25 ?_)) | (refine wpList_fwid rfl rfl rfl (congrArg Option.isSome Try.underlying22) Try.underlying25 (by assumption) ?_; intro r n hr) | (refine wpList_fnar rfl rfl rfl (congrArg Option.isSome Try.underlying25) Try.underlying22 (by assumption) (by assumption) ?_; intro r n hr) | (refine wpList_fneg rfl rfl rfl (by assumption) ?_; intro r hr))
            go_ret
            exact ⟨_, _, rfl, by assumption, rfl⟩
end Go.Proofs.Ytbmgjgcimeidiaa
