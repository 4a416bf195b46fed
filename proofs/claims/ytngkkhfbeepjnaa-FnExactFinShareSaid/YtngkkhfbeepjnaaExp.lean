/-
  Contracts: the exponential function at both sides; FinShare.
-/
import Derived.Test.YtngkkhfbeepjnaaLogn
import Derived.Test.YtngkkhfbeepjnaaAngp
import Derived.Test.YtngkkhfbeepjnaaWave
namespace Go.Proofs.Ytngkkhfbeepjnaa
set_option linter.unusedVariables false
set_option linter.unusedSimpArgs false
open Go.RowKit Fl
attribute [local go_sem] run_store_float

def kE (j : Nat) : Option Nat := ofInt .f64 (12 - j)
theorem kE_ge : ∀ j : Nat, j ≤ 12 → cmpF .geq .f64 (kE j) (some 4607182418800017408) = decide (j < 12) := by decide +kernel
theorem kE_sub : ∀ j : Nat, j < 12 → ar .sub .f64 (kE j) (some 4607182418800017408) = kE (j + 1) := by decide +kernel
theorem kE_down : ∀ j : Nat, j < 12 → posN (.float .f64 (floatOfInt .f64 (12 - ((j + 1 : Nat) : Int)))) < posN (.float .f64 (floatOfInt .f64 (12 - (j : Int)))) := by decide +kernel
theorem kE_zero : IsF .f64 4622945017495814144 (kE 0) := by
  have e : kE 0 = some 4622945017495814144 := by decide +kernel
  rw [e]
  exact IsF.lit (by decide +kernel)
set_option maxHeartbeats 4000000 in
theorem exponential_any (b : Nat) (v : Option Nat) (h : IsF .f64 b v) (w : World) : Calls Try.prog 52 #[.float .f64 b] w (RetF w .f64 (expV v)) := by
  have ho := isF_oneD
  have hk0 := kE_zero
  unfold expV
  cases c1 : cmpF .gtr .f64 v (some 4641240890982006784)
  · cases c2 : cmpF .lss .f64 v (some 13864612927836782592)
    · simp only [Bool.false_eq_true, if_false]
      have Hv := Lib.hid (show expB v = expS (expP (ar .quo .f64 v (some 4643211215818981376)) 12) 8 from rfl)
      rw [Hv.out]
      go_enter Try.func52, Try.ntmps52
      go_wp2_with (first | (refine wpList_far rfl rfl (by first | exact .inl rfl | exact .inr (.inl rfl) | exact .inr (.inr (.inl rfl)) | exact .inr (.inr (.inr rfl))) rfl rfl (by first | assumption | exact isF_ofInt _ _ | exact IsF.lit (by decide +kernel)) (by first | assumption | exact isF_ofInt _ _ | exact IsF.lit (by decide +kernel)) ?_; intro r n hr) | (refine wpList_fcmp rfl rfl (by first | exact .inl rfl | exact .inr (.inl rfl) | exact .inr (.inr (.inl rfl)) | exact .inr (.inr (.inr (.inl rfl))) | exact .inr (.inr (.inr (.inr (.inl rfl)))) | exact .inr (.inr (.inr (.inr (.inr rfl))))) rfl rfl (by first | assumption | exact isF_ofInt _ _ | exact IsF.lit (by decide +kernel)) (by first | assumption | exact isF_ofInt _ _ | exact IsF.lit (by decide +kernel)) (by first | assumption | exact rfl) ?_) | (first | (refine wpList_fsame rfl rfl rfl (congrArg Option.isSome Try.underlying22) Try.underlying22 ?_) | (refine wpList_fsame rfl rfl rfl (congrArg Option.isSome Try.underlying32) Try.underlying32 ?_)) | (refine wpList_fwid rfl rfl rfl (congrArg Option.isSome Try.underlying22) Try.underlying32 (by assumption) ?_; intro r n hr) | (refine wpList_fnar rfl rfl rfl (congrArg Option.isSome Try.underlying32) Try.underlying22 (by assumption) (by assumption) ?_; intro r n hr) | (refine wpList_fneg rfl rfl rfl (by assumption) ?_; intro r hr))
      go_simp
      generalize ar .quo .f64 v (some 4643211215818981376) = t at *
      go_loopw [4, 5] (fun q k wr => ∃ (j rq rk m : Nat), j ≤ 12 ∧ q = .float .f64 rq ∧ k = .float .f64 rk ∧ wr = w.drewN m ∧ IsF .f64 rq (expP t j) ∧ IsF .f64 rk (kE j)) (fun _ k _ => posN k)
      case atStart => exact ⟨0, _, _, _, by omega, rfl, rfl, rfl, ho, hk0⟩
      case round =>
        obtain ⟨j, rq, rk, m, hj, rfl, rfl, rfl, hq, hk⟩ := hrel
        by_cases hlt : j < 12
        · have ht : cmpF .geq .f64 (kE j) (some 4607182418800017408) = true := by rw [kE_ge j hj]; simpa using hlt
          have Hs := Lib.hid (kE_sub j hlt)
          go_wp2_with (first | (refine wpList_far rfl rfl (by first | exact .inl rfl | exact .inr (.inl rfl) | exact .inr (.inr (.inl rfl)) | exact .inr (.inr (.inr rfl))) rfl rfl (by first | assumption | exact isF_ofInt _ _ | exact IsF.lit (by decide +kernel)) (by first | assumption | exact isF_ofInt _ _ | exact IsF.lit (by decide +kernel)) ?_; intro r n hr) | (refine wpList_fcmp rfl rfl (by first | exact .inl rfl | exact .inr (.inl rfl) | exact .inr (.inr (.inl rfl)) | exact .inr (.inr (.inr (.inl rfl))) | exact .inr (.inr (.inr (.inr (.inl rfl)))) | exact .inr (.inr (.inr (.inr (.inr rfl))))) rfl rfl (by first | assumption | exact isF_ofInt _ _ | exact IsF.lit (by decide +kernel)) (by first | assumption | exact isF_ofInt _ _ | exact IsF.lit (by decide +kernel)) (by first | assumption | exact rfl) ?_) | (first | (refine wpList_fsame rfl rfl rfl (congrArg Option.isSome Try.underlying22) Try.underlying22 ?_) | (refine wpList_fsame rfl rfl rfl (congrArg Option.isSome Try.underlying32) Try.underlying32 ?_)) | (refine wpList_fwid rfl rfl rfl (congrArg Option.isSome Try.underlying22) Try.underlying32 (by assumption) ?_; intro r n hr) | (refine wpList_fnar rfl rfl rfl (congrArg Option.isSome Try.underlying32) Try.underlying22 (by assumption) (by assumption) ?_; intro r n hr) | (refine wpList_fneg rfl rfl rfl (by assumption) ?_; intro r hr))
          all_goals
            go_roundw
            case rel => exact ⟨j + 1, _, _, _, by omega, rfl, rfl, rfl, by assumption, by rw [← Hs.out]; assumption⟩
            case measure =>
              have e1 := isF_eq (by assumption) Hs.out
              have e2 := isF_eq hk rfl
              have e3 := kE_down j hlt
              rw [← e1, ← e2] at e3
              exact e3
        · have ht : cmpF .geq .f64 (kE j) (some 4607182418800017408) = false := by rw [kE_ge j hj]; simpa using hlt
          obtain rfl : j = 12 := by omega
          go_wp2_with (first | (refine wpList_far rfl rfl (by first | exact .inl rfl | exact .inr (.inl rfl) | exact .inr (.inr (.inl rfl)) | exact .inr (.inr (.inr rfl))) rfl rfl (by first | assumption | exact isF_ofInt _ _ | exact IsF.lit (by decide +kernel)) (by first | assumption | exact isF_ofInt _ _ | exact IsF.lit (by decide +kernel)) ?_; intro r n hr) | (refine wpList_fcmp rfl rfl (by first | exact .inl rfl | exact .inr (.inl rfl) | exact .inr (.inr (.inl rfl)) | exact .inr (.inr (.inr (.inl rfl))) | exact .inr (.inr (.inr (.inr (.inl rfl)))) | exact .inr (.inr (.inr (.inr (.inr rfl))))) rfl rfl (by first | assumption | exact isF_ofInt _ _ | exact IsF.lit (by decide +kernel)) (by first | assumption | exact isF_ofInt _ _ | exact IsF.lit (by decide +kernel)) (by first | assumption | exact rfl) ?_) | (first | (refine wpList_fsame rfl rfl rfl (congrArg Option.isSome Try.underlying22) Try.underlying22 ?_) | (refine wpList_fsame rfl rfl rfl (congrArg Option.isSome Try.underlying32) Try.underlying32 ?_)) | (refine wpList_fwid rfl rfl rfl (congrArg Option.isSome Try.underlying22) Try.underlying32 (by assumption) ?_; intro r n hr) | (refine wpList_fnar rfl rfl rfl (congrArg Option.isSome Try.underlying32) Try.underlying22 (by assumption) (by assumption) ?_; intro r n hr) | (refine wpList_fneg rfl rfl rfl (by assumption) ?_; intro r hr))
          go_simp
          generalize expP t 12 = p at *
          go_loopw [4, 25] (fun q i wr => ∃ (j rq m : Nat), j ≤ 8 ∧ q = .float .f64 rq ∧ i = .int .i64 (j : Int) ∧ wr = w.drewN m ∧ IsF .f64 rq (expS p j)) (fun _ i _ => (8 - intOf i).toNat)
          case atStart => exact ⟨0, _, _, by omega, rfl, rfl, rfl, hq⟩
          case round =>
            obtain ⟨j, r2, m2, hj2, rfl, rfl, rfl, hq2⟩ := hrel
            by_cases hlt2 : j < 8
            · go_wp2_with (first | (refine wpList_far rfl rfl (by first | exact .inl rfl | exact .inr (.inl rfl) | exact .inr (.inr (.inl rfl)) | exact .inr (.inr (.inr rfl))) rfl rfl (by first | assumption | exact isF_ofInt _ _ | exact IsF.lit (by decide +kernel)) (by first | assumption | exact isF_ofInt _ _ | exact IsF.lit (by decide +kernel)) ?_; intro r n hr) | (refine wpList_fcmp rfl rfl (by first | exact .inl rfl | exact .inr (.inl rfl) | exact .inr (.inr (.inl rfl)) | exact .inr (.inr (.inr (.inl rfl))) | exact .inr (.inr (.inr (.inr (.inl rfl)))) | exact .inr (.inr (.inr (.inr (.inr rfl))))) rfl rfl (by first | assumption | exact isF_ofInt _ _ | exact IsF.lit (by decide +kernel)) (by first | assumption | exact isF_ofInt _ _ | exact IsF.lit (by decide +kernel)) (by first | assumption | exact rfl) ?_) | (first | (refine wpList_fsame rfl rfl rfl (congrArg Option.isSome Try.underlying22) Try.underlying22 ?_) | (refine wpList_fsame rfl rfl rfl (congrArg Option.isSome Try.underlying32) Try.underlying32 ?_)) | (refine wpList_fwid rfl rfl rfl (congrArg Option.isSome Try.underlying22) Try.underlying32 (by assumption) ?_; intro r n hr) | (refine wpList_fnar rfl rfl rfl (congrArg Option.isSome Try.underlying32) Try.underlying22 (by assumption) (by assumption) ?_; intro r n hr) | (refine wpList_fneg rfl rfl rfl (by assumption) ?_; intro r hr))
              all_goals
                go_roundw
                case rel => exact ⟨j + 1, _, _, by omega, rfl, by go_num, rfl, by assumption⟩
                case measure => simp [intOf]; omega
            · obtain rfl : j = 8 := by omega
              go_wp2_with (first | (refine wpList_far rfl rfl (by first | exact .inl rfl | exact .inr (.inl rfl) | exact .inr (.inr (.inl rfl)) | exact .inr (.inr (.inr rfl))) rfl rfl (by first | assumption | exact isF_ofInt _ _ | exact IsF.lit (by decide +kernel)) (by first | assumption | exact isF_ofInt _ _ | exact IsF.lit (by decide +kernel)) ?_; intro r n hr) | (refine wpList_fcmp rfl rfl (by first | exact .inl rfl | exact .inr (.inl rfl) | exact .inr (.inr (.inl rfl)) | exact .inr (.inr (.inr (.inl rfl))) | exact .inr (.inr (.inr (.inr (.inl rfl)))) | exact .inr (.inr (.inr (.inr (.inr rfl))))) rfl rfl (by first | assumption | exact isF_ofInt _ _ | exact IsF.lit (by decide +kernel)) (by first | assumption | exact isF_ofInt _ _ | exact IsF.lit (by decide +kernel)) (by first | assumption | exact rfl) ?_) | (first | (refine wpList_fsame rfl rfl rfl (congrArg Option.isSome Try.underlying22) Try.underlying22 ?_) | (refine wpList_fsame rfl rfl rfl (congrArg Option.isSome Try.underlying32) Try.underlying32 ?_)) | (refine wpList_fwid rfl rfl rfl (congrArg Option.isSome Try.underlying22) Try.underlying32 (by assumption) ?_; intro r n hr) | (refine wpList_fnar rfl rfl rfl (congrArg Option.isSome Try.underlying32) Try.underlying22 (by assumption) (by assumption) ?_; intro r n hr) | (refine wpList_fneg rfl rfl rfl (by assumption) ?_; intro r hr))
              go_ret
              exact ⟨_, _, rfl, by assumption, rfl⟩
    · simp only [Bool.false_eq_true, if_false, if_true]
      go_enter Try.func52, Try.ntmps52
      go_wp2_with (first | (refine wpList_far rfl rfl (by first | exact .inl rfl | exact .inr (.inl rfl) | exact .inr (.inr (.inl rfl)) | exact .inr (.inr (.inr rfl))) rfl rfl (by first | assumption | exact isF_ofInt _ _ | exact IsF.lit (by decide +kernel)) (by first | assumption | exact isF_ofInt _ _ | exact IsF.lit (by decide +kernel)) ?_; intro r n hr) | (refine wpList_fcmp rfl rfl (by first | exact .inl rfl | exact .inr (.inl rfl) | exact .inr (.inr (.inl rfl)) | exact .inr (.inr (.inr (.inl rfl))) | exact .inr (.inr (.inr (.inr (.inl rfl)))) | exact .inr (.inr (.inr (.inr (.inr rfl))))) rfl rfl (by first | assumption | exact isF_ofInt _ _ | exact IsF.lit (by decide +kernel)) (by first | assumption | exact isF_ofInt _ _ | exact IsF.lit (by decide +kernel)) (by first | assumption | exact rfl) ?_) | (first | (refine wpList_fsame rfl rfl rfl (congrArg Option.isSome Try.underlying22) Try.underlying22 ?_) | (refine wpList_fsame rfl rfl rfl (congrArg Option.isSome Try.underlying32) Try.underlying32 ?_)) | (refine wpList_fwid rfl rfl rfl (congrArg Option.isSome Try.underlying22) Try.underlying32 (by assumption) ?_; intro r n hr) | (refine wpList_fnar rfl rfl rfl (congrArg Option.isSome Try.underlying32) Try.underlying22 (by assumption) (by assumption) ?_; intro r n hr) | (refine wpList_fneg rfl rfl rfl (by assumption) ?_; intro r hr))
      go_ret
      exact ⟨_, 0, rfl, isF_zeroD, rfl⟩
  · simp only [if_true]
    go_enter Try.func52, Try.ntmps52
    go_wp2_with (first | (refine wpList_far rfl rfl (by first | exact .inl rfl | exact .inr (.inl rfl) | exact .inr (.inr (.inl rfl)) | exact .inr (.inr (.inr rfl))) rfl rfl (by first | assumption | exact isF_ofInt _ _ | exact IsF.lit (by decide +kernel)) (by first | assumption | exact isF_ofInt _ _ | exact IsF.lit (by decide +kernel)) ?_; intro r n hr) | (refine wpList_fcmp rfl rfl (by first | exact .inl rfl | exact .inr (.inl rfl) | exact .inr (.inr (.inl rfl)) | exact .inr (.inr (.inr (.inl rfl))) | exact .inr (.inr (.inr (.inr (.inl rfl)))) | exact .inr (.inr (.inr (.inr (.inr rfl))))) rfl rfl (by first | assumption | exact isF_ofInt _ _ | exact IsF.lit (by decide +kernel)) (by first | assumption | exact isF_ofInt _ _ | exact IsF.lit (by decide +kernel)) (by first | assumption | exact rfl) ?_) | (first | (refine wpList_fsame rfl rfl rfl (congrArg Option.isSome Try.underlying22) Try.underlying22 ?_) | (refine wpList_fsame rfl rfl rfl (congrArg Option.isSome Try.underlying32) Try.underlying32 ?_)) | (refine wpList_fwid rfl rfl rfl (congrArg Option.isSome Try.underlying22) Try.underlying32 (by assumption) ?_; intro r n hr) | (refine wpList_fnar rfl rfl rfl (congrArg Option.isSome Try.underlying32) Try.underlying22 (by assumption) (by assumption) ?_; intro r n hr) | (refine wpList_fneg rfl rfl rfl (by assumption) ?_; intro r hr) | (go_at_call 57; refine (inf_pos _).mono ?_; rintro e w' ⟨rfl, hw'⟩; obtain rfl := hw'.symm))
    go_ret
    exact ⟨_, 0, rfl, isF_pinf, rfl⟩
set_option maxHeartbeats 4000000 in
theorem l01ExpWide_any (b : Nat) (v : Option Nat) (h : IsF .f64 b v) (w : World) : Calls Try.prog 51 #[.float .f64 b] w (RetF w .f64 (expV v)) := by
  have ho := isF_oneD
  cases v with
  | none =>
    rw [expV_none]
    have c0 : cmpF .neq .f64 none none = true := rfl
    go_enter Try.func51, Try.ntmps51
    go_wp2_with (first | (refine wpList_far rfl rfl (by first | exact .inl rfl | exact .inr (.inl rfl) | exact .inr (.inr (.inl rfl)) | exact .inr (.inr (.inr rfl))) rfl rfl (by first | assumption | exact isF_ofInt _ _ | exact IsF.lit (by decide +kernel)) (by first | assumption | exact isF_ofInt _ _ | exact IsF.lit (by decide +kernel)) ?_; intro r n hr) | (refine wpList_fcmp rfl rfl (by first | exact .inl rfl | exact .inr (.inl rfl) | exact .inr (.inr (.inl rfl)) | exact .inr (.inr (.inr (.inl rfl))) | exact .inr (.inr (.inr (.inr (.inl rfl)))) | exact .inr (.inr (.inr (.inr (.inr rfl))))) rfl rfl (by first | assumption | exact isF_ofInt _ _ | exact IsF.lit (by decide +kernel)) (by first | assumption | exact isF_ofInt _ _ | exact IsF.lit (by decide +kernel)) (by first | assumption | exact rfl) ?_) | (first | (refine wpList_fsame rfl rfl rfl (congrArg Option.isSome Try.underlying22) Try.underlying22 ?_) | (refine wpList_fsame rfl rfl rfl (congrArg Option.isSome Try.underlying32) Try.underlying32 ?_)) | (refine wpList_fwid rfl rfl rfl (congrArg Option.isSome Try.underlying22) Try.underlying32 (by assumption) ?_; intro r n hr) | (refine wpList_fnar rfl rfl rfl (congrArg Option.isSome Try.underlying32) Try.underlying22 (by assumption) (by assumption) ?_; intro r n hr) | (refine wpList_fneg rfl rfl rfl (by assumption) ?_; intro r hr))
    go_ret
    exact ⟨_, 0, rfl, h, rfl⟩
  | some x =>
    obtain ⟨rfl, _⟩ := h.num
    have c0 : cmpF .neq .f64 (some b) (some b) = false := neq_self h
    unfold expV
    cases c1 : cmpF .gtr .f64 (some b) (some 4641240890982006784)
    · cases c2 : cmpF .lss .f64 (some b) (some 13864612927836782592)
      · simp only [Bool.false_eq_true, if_false]
        have Hv := Lib.hid (show expB (some b) = expS (expP (ar .quo .f64 (some b) (some 4643211215818981376)) 12) 8 from rfl)
        rw [Hv.out]
        go_enter Try.func51, Try.ntmps51
        go_wp2_with (first | (refine wpList_far rfl rfl (by first | exact .inl rfl | exact .inr (.inl rfl) | exact .inr (.inr (.inl rfl)) | exact .inr (.inr (.inr rfl))) rfl rfl (by first | assumption | exact isF_ofInt _ _ | exact IsF.lit (by decide +kernel)) (by first | assumption | exact isF_ofInt _ _ | exact IsF.lit (by decide +kernel)) ?_; intro r n hr) | (refine wpList_fcmp rfl rfl (by first | exact .inl rfl | exact .inr (.inl rfl) | exact .inr (.inr (.inl rfl)) | exact .inr (.inr (.inr (.inl rfl))) | exact .inr (.inr (.inr (.inr (.inl rfl)))) | exact .inr (.inr (.inr (.inr (.inr rfl))))) rfl rfl (by first | assumption | exact isF_ofInt _ _ | exact IsF.lit (by decide +kernel)) (by first | assumption | exact isF_ofInt _ _ | exact IsF.lit (by decide +kernel)) (by first | assumption | exact rfl) ?_) | (first | (refine wpList_fsame rfl rfl rfl (congrArg Option.isSome Try.underlying22) Try.underlying22 ?_) | (refine wpList_fsame rfl rfl rfl (congrArg Option.isSome Try.underlying32) Try.underlying32 ?_)) | (refine wpList_fwid rfl rfl rfl (congrArg Option.isSome Try.underlying22) Try.underlying32 (by assumption) ?_; intro r n hr) | (refine wpList_fnar rfl rfl rfl (congrArg Option.isSome Try.underlying32) Try.underlying22 (by assumption) (by assumption) ?_; intro r n hr) | (refine wpList_fneg rfl rfl rfl (by assumption) ?_; intro r hr))
        go_simp
        generalize ar .quo .f64 (some b) (some 4643211215818981376) = t at *
        go_loopw [4, 5] (fun q k wr => ∃ (j rq m : Nat), j ≤ 12 ∧ q = .float .f64 rq ∧ k = .int .i64 (12 - (j : Int)) ∧ wr = w.drewN m ∧ IsF .f64 rq (expP t j)) (fun _ k _ => (intOf k).toNat)
        case atStart => exact ⟨0, _, _, by omega, rfl, rfl, rfl, ho⟩
        case round =>
          obtain ⟨j, rq, m, hj, rfl, rfl, rfl, hq⟩ := hrel
          by_cases hlt : j < 12
          · go_wp2_with (first | (refine wpList_far rfl rfl (by first | exact .inl rfl | exact .inr (.inl rfl) | exact .inr (.inr (.inl rfl)) | exact .inr (.inr (.inr rfl))) rfl rfl (by first | assumption | exact isF_ofInt _ _ | exact IsF.lit (by decide +kernel)) (by first | assumption | exact isF_ofInt _ _ | exact IsF.lit (by decide +kernel)) ?_; intro r n hr) | (refine wpList_fcmp rfl rfl (by first | exact .inl rfl | exact .inr (.inl rfl) | exact .inr (.inr (.inl rfl)) | exact .inr (.inr (.inr (.inl rfl))) | exact .inr (.inr (.inr (.inr (.inl rfl)))) | exact .inr (.inr (.inr (.inr (.inr rfl))))) rfl rfl (by first | assumption | exact isF_ofInt _ _ | exact IsF.lit (by decide +kernel)) (by first | assumption | exact isF_ofInt _ _ | exact IsF.lit (by decide +kernel)) (by first | assumption | exact rfl) ?_) | (first | (refine wpList_fsame rfl rfl rfl (congrArg Option.isSome Try.underlying22) Try.underlying22 ?_) | (refine wpList_fsame rfl rfl rfl (congrArg Option.isSome Try.underlying32) Try.underlying32 ?_)) | (refine wpList_fwid rfl rfl rfl (congrArg Option.isSome Try.underlying22) Try.underlying32 (by assumption) ?_; intro r n hr) | (refine wpList_fnar rfl rfl rfl (congrArg Option.isSome Try.underlying32) Try.underlying22 (by assumption) (by assumption) ?_; intro r n hr) | (refine wpList_fneg rfl rfl rfl (by assumption) ?_; intro r hr))
            all_goals
              go_roundw
              case rel => exact ⟨j + 1, _, _, by omega, rfl, by go_num, rfl, by assumption⟩
              case measure => simp [intOf]; omega
          · obtain rfl : j = 12 := by omega
            go_wp2_with (first | (refine wpList_far rfl rfl (by first | exact .inl rfl | exact .inr (.inl rfl) | exact .inr (.inr (.inl rfl)) | exact .inr (.inr (.inr rfl))) rfl rfl (by first | assumption | exact isF_ofInt _ _ | exact IsF.lit (by decide +kernel)) (by first | assumption | exact isF_ofInt _ _ | exact IsF.lit (by decide +kernel)) ?_; intro r n hr) | (refine wpList_fcmp rfl rfl (by first | exact .inl rfl | exact .inr (.inl rfl) | exact .inr (.inr (.inl rfl)) | exact .inr (.inr (.inr (.inl rfl))) | exact .inr (.inr (.inr (.inr (.inl rfl)))) | exact .inr (.inr (.inr (.inr (.inr rfl))))) rfl rfl (by first | assumption | exact isF_ofInt _ _ | exact IsF.lit (by decide +kernel)) (by first | assumption | exact isF_ofInt _ _ | exact IsF.lit (by decide +kernel)) (by first | assumption | exact rfl) ?_) | (first | (refine wpList_fsame rfl rfl rfl (congrArg Option.isSome Try.underlying22) Try.underlying22 ?_) | (refine wpList_fsame rfl rfl rfl (congrArg Option.isSome Try.underlying32) Try.underlying32 ?_)) | (refine wpList_fwid rfl rfl rfl (congrArg Option.isSome Try.underlying22) Try.underlying32 (by assumption) ?_; intro r n hr) | (refine wpList_fnar rfl rfl rfl (congrArg Option.isSome Try.underlying32) Try.underlying22 (by assumption) (by assumption) ?_; intro r n hr) | (refine wpList_fneg rfl rfl rfl (by assumption) ?_; intro r hr))
            go_simp
            generalize expP t 12 = p at *
            go_loopw [4, 6] (fun q i wr => ∃ (j rq m : Nat), j ≤ 8 ∧ q = .float .f64 rq ∧ i = .int .i64 (j : Int) ∧ wr = w.drewN m ∧ IsF .f64 rq (expS p j)) (fun _ i _ => (8 - intOf i).toNat)
            case atStart => exact ⟨0, _, _, by omega, rfl, rfl, rfl, hq⟩
            case round =>
              obtain ⟨j, r2, m2, hj2, rfl, rfl, rfl, hq2⟩ := hrel
              by_cases hlt2 : j < 8
              · go_wp2_with (first | (refine wpList_far rfl rfl (by first | exact .inl rfl | exact .inr (.inl rfl) | exact .inr (.inr (.inl rfl)) | exact .inr (.inr (.inr rfl))) rfl rfl (by first | assumption | exact isF_ofInt _ _ | exact IsF.lit (by decide +kernel)) (by first | assumption | exact isF_ofInt _ _ | exact IsF.lit (by decide +kernel)) ?_; intro r n hr) | (refine wpList_fcmp rfl rfl (by first | exact .inl rfl | exact .inr (.inl rfl) | exact .inr (.inr (.inl rfl)) | exact .inr (.inr (.inr (.inl rfl))) | exact .inr (.inr (.inr (.inr (.inl rfl)))) | exact .inr (.inr (.inr (.inr (.inr rfl))))) rfl rfl (by first | assumption | exact isF_ofInt _ _ | exact IsF.lit (by decide +kernel)) (by first | assumption | exact isF_ofInt _ _ | exact IsF.lit (by decide +kernel)) (by first | assumption | exact rfl) ?_) | (first | (refine wpList_fsame rfl rfl rfl (congrArg Option.isSome Try.underlying22) Try.underlying22 ?_) | (refine wpList_fsame rfl rfl rfl (congrArg Option.isSome Try.underlying32) Try.underlying32 ?_)) | (refine wpList_fwid rfl rfl rfl (congrArg Option.isSome Try.underlying22) Try.underlying32 (by assumption) ?_; intro r n hr) | (refine wpList_fnar rfl rfl rfl (congrArg Option.isSome Try.underlying32) Try.underlying22 (by assumption) (by assumption) ?_; intro r n hr) | (refine wpList_fneg rfl rfl rfl (by assumption) ?_; intro r hr))
                all_goals
                  go_roundw
                  case rel => exact ⟨j + 1, _, _, by omega, rfl, by go_num, rfl, by assumption⟩
                  case measure => simp [intOf]; omega
              · obtain rfl : j = 8 := by omega
                go_wp2_with (first | (refine wpList_far rfl rfl (by first | exact .inl rfl | exact .inr (.inl rfl) | exact .inr (.inr (.inl rfl)) | exact .inr (.inr (.inr rfl))) rfl rfl (by first | assumption | exact isF_ofInt _ _ | exact IsF.lit (by decide +kernel)) (by first | assumption | exact isF_ofInt _ _ | exact IsF.lit (by decide +kernel)) ?_; intro r n hr) | (refine wpList_fcmp rfl rfl (by first | exact .inl rfl | exact .inr (.inl rfl) | exact .inr (.inr (.inl rfl)) | exact .inr (.inr (.inr (.inl rfl))) | exact .inr (.inr (.inr (.inr (.inl rfl)))) | exact .inr (.inr (.inr (.inr (.inr rfl))))) rfl rfl (by first | assumption | exact isF_ofInt _ _ | exact IsF.lit (by decide +kernel)) (by first | assumption | exact isF_ofInt _ _ | exact IsF.lit (by decide +kernel)) (by first | assumption | exact rfl) ?_) | (first | (refine wpList_fsame rfl rfl rfl (congrArg Option.isSome Try.underlying22) Try.underlying22 ?_) | (refine wpList_fsame rfl rfl rfl (congrArg Option.isSome Try.underlying32) Try.underlying32 ?_)) | (refine wpList_fwid rfl rfl rfl (congrArg Option.isSome Try.underlying22) Try.underlying32 (by assumption) ?_; intro r n hr) | (refine wpList_fnar rfl rfl rfl (congrArg Option.isSome Try.underlying32) Try.underlying22 (by assumption) (by assumption) ?_; intro r n hr) | (refine wpList_fneg rfl rfl rfl (by assumption) ?_; intro r hr))
                go_ret
                exact ⟨_, _, rfl, by assumption, rfl⟩
      · simp only [Bool.false_eq_true, if_false, if_true]
        go_enter Try.func51, Try.ntmps51
        go_wp2_with (first | (refine wpList_far rfl rfl (by first | exact .inl rfl | exact .inr (.inl rfl) | exact .inr (.inr (.inl rfl)) | exact .inr (.inr (.inr rfl))) rfl rfl (by first | assumption | exact isF_ofInt _ _ | exact IsF.lit (by decide +kernel)) (by first | assumption | exact isF_ofInt _ _ | exact IsF.lit (by decide +kernel)) ?_; intro r n hr) | (refine wpList_fcmp rfl rfl (by first | exact .inl rfl | exact .inr (.inl rfl) | exact .inr (.inr (.inl rfl)) | exact .inr (.inr (.inr (.inl rfl))) | exact .inr (.inr (.inr (.inr (.inl rfl)))) | exact .inr (.inr (.inr (.inr (.inr rfl))))) rfl rfl (by first | assumption | exact isF_ofInt _ _ | exact IsF.lit (by decide +kernel)) (by first | assumption | exact isF_ofInt _ _ | exact IsF.lit (by decide +kernel)) (by first | assumption | exact rfl) ?_) | (first | (refine wpList_fsame rfl rfl rfl (congrArg Option.isSome Try.underlying22) Try.underlying22 ?_) | (refine wpList_fsame rfl rfl rfl (congrArg Option.isSome Try.underlying32) Try.underlying32 ?_)) | (refine wpList_fwid rfl rfl rfl (congrArg Option.isSome Try.underlying22) Try.underlying32 (by assumption) ?_; intro r n hr) | (refine wpList_fnar rfl rfl rfl (congrArg Option.isSome Try.underlying32) Try.underlying22 (by assumption) (by assumption) ?_; intro r n hr) | (refine wpList_fneg rfl rfl rfl (by assumption) ?_; intro r hr))
        go_ret
        exact ⟨_, 0, rfl, isF_zeroD, rfl⟩
    · simp only [if_true]
      go_enter Try.func51, Try.ntmps51
      go_wp2_with (first | (refine wpList_far rfl rfl (by first | exact .inl rfl | exact .inr (.inl rfl) | exact .inr (.inr (.inl rfl)) | exact .inr (.inr (.inr rfl))) rfl rfl (by first | assumption | exact isF_ofInt _ _ | exact IsF.lit (by decide +kernel)) (by first | assumption | exact isF_ofInt _ _ | exact IsF.lit (by decide +kernel)) ?_; intro r n hr) | (refine wpList_fcmp rfl rfl (by first | exact .inl rfl | exact .inr (.inl rfl) | exact .inr (.inr (.inl rfl)) | exact .inr (.inr (.inr (.inl rfl))) | exact .inr (.inr (.inr (.inr (.inl rfl)))) | exact .inr (.inr (.inr (.inr (.inr rfl))))) rfl rfl (by first | assumption | exact isF_ofInt _ _ | exact IsF.lit (by decide +kernel)) (by first | assumption | exact isF_ofInt _ _ | exact IsF.lit (by decide +kernel)) (by first | assumption | exact rfl) ?_) | (first | (refine wpList_fsame rfl rfl rfl (congrArg Option.isSome Try.underlying22) Try.underlying22 ?_) | (refine wpList_fsame rfl rfl rfl (congrArg Option.isSome Try.underlying32) Try.underlying32 ?_)) | (refine wpList_fwid rfl rfl rfl (congrArg Option.isSome Try.underlying22) Try.underlying32 (by assumption) ?_; intro r n hr) | (refine wpList_fnar rfl rfl rfl (congrArg Option.isSome Try.underlying32) Try.underlying22 (by assumption) (by assumption) ?_; intro r n hr) | (refine wpList_fneg rfl rfl rfl (by assumption) ?_; intro r hr) | (go_at_call 57; refine (inf_pos _).mono ?_; rintro e w' ⟨rfl, hw'⟩; obtain rfl := hw'.symm))
      go_ret
      exact ⟨_, 0, rfl, isF_pinf, rfl⟩
theorem iExp_any (b : Nat) (v : Option Nat) (h : IsF .f32 b v) (hn : NarOk (expV (wid v))) (w : World) : Calls Try.prog 40 #[.float .f32 b] w (RetF w .f32 (nar (expV (wid v)))) := by
  go_enter Try.func40, Try.ntmps40
  go_wp2_with (first | (refine wpList_far rfl rfl (by first | exact .inl rfl | exact .inr (.inl rfl) | exact .inr (.inr (.inl rfl)) | exact .inr (.inr (.inr rfl))) rfl rfl (by first | assumption | exact isF_ofInt _ _ | exact IsF.lit (by decide +kernel)) (by first | assumption | exact isF_ofInt _ _ | exact IsF.lit (by decide +kernel)) ?_; intro r n hr) | (refine wpList_fcmp rfl rfl (by first | exact .inl rfl | exact .inr (.inl rfl) | exact .inr (.inr (.inl rfl)) | exact .inr (.inr (.inr (.inl rfl))) | exact .inr (.inr (.inr (.inr (.inl rfl)))) | exact .inr (.inr (.inr (.inr (.inr rfl))))) rfl rfl (by first | assumption | exact isF_ofInt _ _ | exact IsF.lit (by decide +kernel)) (by first | assumption | exact isF_ofInt _ _ | exact IsF.lit (by decide +kernel)) (by first | assumption | exact rfl) ?_) | (first | (refine wpList_fsame rfl rfl rfl (congrArg Option.isSome Try.underlying22) Try.underlying22 ?_) | (refine wpList_fsame rfl rfl rfl (congrArg Option.isSome Try.underlying32) Try.underlying32 ?_)) | (refine wpList_fwid rfl rfl rfl (congrArg Option.isSome Try.underlying22) Try.underlying32 (by assumption) ?_; intro r n hr) | (refine wpList_fnar rfl rfl rfl (congrArg Option.isSome Try.underlying32) Try.underlying22 (by assumption) (by assumption) ?_; intro r n hr) | (refine wpList_fneg rfl rfl rfl (by assumption) ?_; intro r hr) | (go_at_call 52; refine (exponential_any _ _ (by assumption) _).mono ?_; rintro e w' ⟨r, n, rfl, hr, rfl⟩))
  go_ret
  exact ⟨_, _, rfl, by assumption, rfl⟩
theorem l01Exp_any (b : Nat) (v : Option Nat) (h : IsF .f32 b v) (hn : NarOk (expV (wid v))) (w : World) : Calls Try.prog 39 #[.float .f32 b] w (RetF w .f32 (nar (expV (wid v)))) := by
  go_enter Try.func39, Try.ntmps39
  go_wp2_with (first | (refine wpList_far rfl rfl (by first | exact .inl rfl | exact .inr (.inl rfl) | exact .inr (.inr (.inl rfl)) | exact .inr (.inr (.inr rfl))) rfl rfl (by first | assumption | exact isF_ofInt _ _ | exact IsF.lit (by decide +kernel)) (by first | assumption | exact isF_ofInt _ _ | exact IsF.lit (by decide +kernel)) ?_; intro r n hr) | (refine wpList_fcmp rfl rfl (by first | exact .inl rfl | exact .inr (.inl rfl) | exact .inr (.inr (.inl rfl)) | exact .inr (.inr (.inr (.inl rfl))) | exact .inr (.inr (.inr (.inr (.inl rfl)))) | exact .inr (.inr (.inr (.inr (.inr rfl))))) rfl rfl (by first | assumption | exact isF_ofInt _ _ | exact IsF.lit (by decide +kernel)) (by first | assumption | exact isF_ofInt _ _ | exact IsF.lit (by decide +kernel)) (by first | assumption | exact rfl) ?_) | (first | (refine wpList_fsame rfl rfl rfl (congrArg Option.isSome Try.underlying22) Try.underlying22 ?_) | (refine wpList_fsame rfl rfl rfl (congrArg Option.isSome Try.underlying32) Try.underlying32 ?_)) | (refine wpList_fwid rfl rfl rfl (congrArg Option.isSome Try.underlying22) Try.underlying32 (by assumption) ?_; intro r n hr) | (refine wpList_fnar rfl rfl rfl (congrArg Option.isSome Try.underlying32) Try.underlying22 (by assumption) (by assumption) ?_; intro r n hr) | (refine wpList_fneg rfl rfl rfl (by assumption) ?_; intro r hr) | (go_at_call 51; refine (l01ExpWide_any _ _ (by assumption) _).mono ?_; rintro e w' ⟨r, n, rfl, hr, rfl⟩) | (go_at_call 45; refine (l01Narrow_any _ _ (by assumption) hn _).mono ?_; rintro e w' ⟨r, n, rfl, hr, rfl⟩))
  go_ret
  exact ⟨_, _, rfl, by assumption, rfl⟩

/-! ### Signs -/
/-- A NaN, or of the sign s. -/
def Sn (k : FloatKind) (s : Bool) (v : Option Nat) : Prop := ∀ b, v = some b → sg k.format b = s
theorem sg_write {f : Ieee.Format} {d : Ieee.Datum} (h : d.isNaN = false) : sg f (f.write d) = d.neg := by
  cases d with
  | number s m p => exact sg_nearest f s m p
  | infinity s => exact sg_word f s f.infRung_lt
  | nan s t => cases h
theorem neg_read {f : Ieee.Format} {b : Nat} : (f.read b).neg = sg f b := by
  unfold Ieee.Format.read sg
  dsimp only
  split
  · rfl
  · split
    · rfl
    · split <;> rfl
theorem product_neg {x y d : Ieee.Datum} (h : x.product y = some d) : d.neg = (x.neg ^^ y.neg) := by
  cases x <;> cases y <;> simp [Ieee.Datum.product] at h <;> first | (subst h; rfl) | (obtain ⟨_, rfl⟩ := h; first | rfl | exact Bool.xor_comm _ _)
theorem quotient_neg {n : Nat} {x y d : Ieee.Datum} (h : x.quotient n y = some d) : d.neg = (x.neg ^^ y.neg) := by
  cases x with
  | nan => simp [Ieee.Datum.quotient] at h
  | infinity s => cases y <;> simp [Ieee.Datum.quotient] at h <;> (subst h; rfl)
  | number s m i =>
    cases y with
    | nan => simp [Ieee.Datum.quotient] at h
    | infinity t => simp [Ieee.Datum.quotient] at h; subst h; rfl
    | number t n' j =>
      simp only [Ieee.Datum.quotient] at h
      split at h
      · split at h
        · cases h
        · cases h; rfl
      · cases h; rfl
theorem sn_mul {k : FloatKind} {s t : Bool} {u v : Option Nat} (hu : Sn k s u) (hv : Sn k t v) : Sn k (s ^^ t) (ar .mul k u v) := by
  intro c hc
  cases u with
  | none => cases hc
  | some a =>
    cases v with
    | none => cases hc
    | some b =>
      change ((k.format.read a).product (k.format.read b)).map k.format.write = some c at hc
      obtain ⟨d, hd, rfl⟩ := Option.map_eq_some_iff.1 hc
      rw [sg_write (product_num _ _ _ hd), product_neg hd, neg_read, neg_read, hu a rfl, hv b rfl]
theorem sn_quo {k : FloatKind} {s t : Bool} {u v : Option Nat} (hu : Sn k s u) (hv : Sn k t v) : Sn k (s ^^ t) (ar .quo k u v) := by
  intro c hc
  cases u with
  | none => cases hc
  | some a =>
    cases v with
    | none => cases hc
    | some b =>
      change ((k.format.read a).quotient _ (k.format.read b)).map k.format.write = some c at hc
      obtain ⟨d, hd, rfl⟩ := Option.map_eq_some_iff.1 hc
      rw [sg_write (quotient_num _ _ _ _ hd), quotient_neg hd, neg_read, neg_read, hu a rfl, hv b rfl]
theorem sn_wid {b : Nat} {s : Bool} {v : Option Nat} (h : IsF .f32 b v) (hv : Sn .f32 s v) : Sn .f64 s (wid v) := by
  intro c hc
  cases v with
  | none => cases hc
  | some a =>
    obtain ⟨rfl, hn⟩ := h.num
    change some _ = some c at hc
    cases hc
    rw [sg_write hn, neg_read]
    exact hv b rfl
theorem sn_nar {b : Nat} {s : Bool} {v : Option Nat} (h : IsF .f64 b v) (hv : Sn .f64 s v) : Sn .f32 s (nar v) := by
  intro c hc
  cases v with
  | none => cases hc
  | some a =>
    obtain ⟨rfl, hn⟩ := h.num
    change some _ = some c at hc
    cases hc
    rw [sg_write hn, neg_read]
    exact hv b rfl
theorem sn_sqrt {v : Option Nat} (hv : Sn .f64 false v) : Sn .f64 false (sqrt v) := by
  intro c hc
  cases v with
  | none => cases hc
  | some a =>
    change ((D.read a).root _).map D.write = some c at hc
    obtain ⟨d, hd, rfl⟩ := Option.map_eq_some_iff.1 hc
    change sg D (D.write d) = false
    rw [sg_write (root_num _ _ _ hd)]
    have ha := neg_read (f := D) (b := a)
    rw [show sg D a = false from hv a rfl] at ha
    cases hr : D.read a with
    | nan s t => rw [hr] at hd; cases hd
    | infinity s =>
      rw [hr] at hd ha
      change s = false at ha
      subst ha
      cases hd; rfl
    | number s m i =>
      rw [hr] at hd ha
      change s = false at ha
      subst ha
      simp only [Ieee.Datum.root] at hd
      split at hd
      · cases hd; rfl
      · simp only [Bool.false_eq_true, if_false] at hd; cases hd; rfl
theorem sn_neg {b : Nat} {v : Option Nat} (h : IsF .f32 b v) (hv : Sn .f32 false v) : Sn .f32 true (neg .f32 v) := by
  intro c hc
  cases v with
  | none => cases hc
  | some a =>
    obtain ⟨rfl, hn⟩ := h.num
    change some _ = some c at hc
    cases hc
    have hs := hv b rfl
    have hlt : b < 4294967296 := h.lt
    unfold sg at hs ⊢
    rw [S_eq, S_sw] at hs
    rw [negFloat_at .f32 hlt, S_eq, S_sw]
    simp at hs ⊢
    split <;> omega
theorem sn_pos {b : Nat} (hs : sg S b = false) : Sn .f32 false (some b) := by
  rintro c ⟨⟩
  exact hs
theorem narOk_expneg {b : Nat} {v : Option Nat} (h : IsF .f64 b v) (hs : Sn .f64 true v) : NarOk (expV v) := by
  rcases fin_cases h with rfl | ⟨rfl, hf⟩ | ⟨rfl, hi⟩
  · rw [expV_none]; exact narOk_none
  · unfold expV
    split
    · exact narOk_inf (s := false) (by decide +kernel)
    · cases c2 : cmpF .lss .f64 (some b) (some 13864612927836782592)
      · exact narOk_exp hf (hs b rfl) c2
      · exact narOk_fin (by unfold Fl.Fin; decide +kernel) (by decide +kernel)
  · have hb : sg D b = true := hs b rfl
    have hi' : D.read b = .infinity true := by rw [← hb]; exact hi
    have hl : Fl.Fin D 13864612927836782592 := by unfold Fl.Fin; decide +kernel
    obtain ⟨m, k, hr, _⟩ := read_fin hl
    have c2 : cmpF .lss .f64 (some b) (some 13864612927836782592) = true := by
      have e : ord .f64 (some b) (some 13864612927836782592) = some .lt := by
        show (D.read b).order (D.read 13864612927836782592) = _
        rw [hi', hr]; rfl
      unfold cmpF
      simp only [e]; rfl
    have hl2 : Fl.Fin D 4641240890982006784 := by unfold Fl.Fin; decide +kernel
    obtain ⟨m2, k2, hr2, _⟩ := read_fin hl2
    have c1 : cmpF .gtr .f64 (some b) (some 4641240890982006784) = false := by
      have e : ord .f64 (some b) (some 4641240890982006784) = some .lt := by
        show (D.read b).order (D.read 4641240890982006784) = _
        rw [hi', hr2]; rfl
      unfold cmpF
      simp only [e]; rfl
    unfold expV
    rw [c1, c2]
    exact narOk_fin (by unfold Fl.Fin; decide +kernel) (by decide +kernel)
theorem isF_ex {k : FloatKind} {v : Option Nat} (h : ∀ b, v = some b → IsF k b (some b)) : ∃ r, IsF k r v := by
  cases v with
  | some b => exact ⟨b, h b rfl⟩
  | none =>
    cases k
    · exact ⟨2143289344, IsF.lit_nan (by decide +kernel)⟩
    · exact ⟨9221120237041090561, IsF.lit_nan (by decide +kernel)⟩
/-- The exponential of minus twice a number that is not negative is not too great. -/
theorem narOk_fin_arg {M : Option Nat} (h : Sn .f32 false M) : NarOk (expV (wid (neg .f32 (ar .mul .f32 (some 1073741824) M)))) := by
  obtain ⟨r, hr⟩ := isF_ex (k := .f32) (v := ar .mul .f32 (some 1073741824) M) (fun b hb => ar_num hb)
  have h1 : Sn .f32 (false ^^ false) (ar .mul .f32 (some 1073741824) M) := sn_mul (sn_pos (by decide +kernel)) h
  have h2 := sn_neg hr h1
  have h3 := isF_neg hr
  have h4 := sn_wid h3 h2
  obtain ⟨q, hq⟩ := isF_ex (k := .f64) (v := wid (neg .f32 (ar .mul .f32 (some 1073741824) M))) (fun b hb => by
    cases hv : neg .f32 (ar .mul .f32 (some 1073741824) M) with
    | none => rw [hv] at hb; cases hb
    | some x =>
      rw [hv] at hb h3
      change some _ = some b at hb
      cases hb
      obtain ⟨_, hn⟩ := h3.num
      exact isF_write .f64 _ hn)
  exact narOk_expneg hq h4
def finM (u v x y : Option Nat) : Option Nat := ar .mul .f32 u (nar (sqrt (wid (ar .quo .f32 (ar .mul .f32 (some 1073741824) y) (ar .mul .f32 v x)))))
def finE (m : Option Nat) : Option Nat := nar (expV (wid (neg .f32 (ar .mul .f32 (some 1073741824) m))))
def finV (m : Option Nat) : Option Nat := ar .quo .f32 (ar .quo .f32 (ar .sub .f32 (some 1065353216) (finE m)) (ar .add .f32 (some 1065353216) (finE m))) m
theorem sn_finM {u v x y : Option Nat} (hu : Sn .f32 false u) (hv : Sn .f32 false v) (hx : Sn .f32 false x) (hy : Sn .f32 false y) : Sn .f32 false (finM u v x y) := by
  have h1 : Sn .f32 (false ^^ false ^^ (false ^^ false)) (ar .quo .f32 (ar .mul .f32 (some 1073741824) y) (ar .mul .f32 v x)) := sn_quo (sn_mul (sn_pos (by decide +kernel)) hy) (sn_mul hv hx)
  obtain ⟨r, hr⟩ := isF_ex (k := .f32) (v := ar .quo .f32 (ar .mul .f32 (some 1073741824) y) (ar .mul .f32 v x)) (fun b hb => ar_num hb)
  have h2 := sn_sqrt (sn_wid hr h1)
  obtain ⟨q, hq⟩ := isF_ex (k := .f64) (v := sqrt (wid (ar .quo .f32 (ar .mul .f32 (some 1073741824) y) (ar .mul .f32 v x)))) (fun b hb => sqrt_num hb)
  exact sn_mul hu (sn_nar hq h2)
theorem sn_posF {b : Nat} {v : Option Nat} (h : IsF .f32 b v) (hp : posF v = true) : Sn .f32 false v := by
  rcases posF_cases h with ⟨_, rfl, _, hs, _⟩ | h1
  · exact sn_pos hs
  · rw [hp] at h1; cases h1
theorem not_any4 {a b c d : Nat} {u v x y : Option Nat} (ha : IsF .f32 a u) (hb : IsF .f32 b v) (hc : IsF .f32 c x) (hd : IsF .f32 d y) : (!anyF nposF [a, b, c, d]) = (posF u && posF v && posF x && posF y) := by
  rw [anyF_cons, anyF_cons, anyF_cons, anyF_cons, anyF_nil, ha.eq, hb.eq, hc.eq, hd.eq, nposF_eq u a ha, nposF_eq v b hb, nposF_eq x c hc, nposF_eq y d hd]
  cases posF u <;> cases posF v <;> cases posF x <;> cases posF y <;> rfl
theorem isF_two32 : IsF .f32 1073741824 (some 1073741824) := IsF.lit (by decide +kernel)
set_option maxRecDepth 100000 in
set_option maxHeartbeats 8000000 in
theorem sFinShare_any (a b c d : Nat) (u v x y : Option Nat) (ha : IsF .f32 a u) (hb : IsF .f32 b v) (hc : IsF .f32 c x) (hd : IsF .f32 d y) (w : World) :
    Calls Try.prog 21 #[.float .f32 a, .float .f32 b, .float .f32 c, .float .f32 d] w (RetFB w (if (posF u && posF v && posF x && posF y) then chkF (finV (finM u v x y)) else some 0) (posF u && posF v && posF x && posF y && finF (finV (finM u v x y)))) := by
  have hone := isF_two32
  cases h1 : posF u <;> cases h2 : posF v <;> cases h3 : posF x <;> cases h4 : posF y <;>
    simp only [Bool.and_true, Bool.true_and, Bool.and_false, Bool.false_and, Bool.false_eq_true, if_false, if_true]
  case true.true.true.true =>
    have hok : NarOk (expV (wid (neg .f32 (ar .mul .f32 (some 1073741824) (finM u v x y))))) := narOk_fin_arg (sn_finM (sn_posF ha h1) (sn_posF hb h2) (sn_posF hc h3) (sn_posF hd h4))
    have Hv := Lib.hid (show finV (finM u v x y) = ar .quo .f32 (ar .quo .f32 (ar .sub .f32 (some 1065353216) (nar (expV (wid (neg .f32 (ar .mul .f32 (some 1073741824) (finM u v x y))))))) (ar .add .f32 (some 1065353216) (nar (expV (wid (neg .f32 (ar .mul .f32 (some 1073741824) (finM u v x y)))))))) (finM u v x y) from rfl)
    rw [Hv.out]
    unfold finM at hok ⊢
    clear Hv
    go_enter Try.func21, Try.ntmps21
    go_wp2_with (first | (refine wpList_far rfl rfl (by first | exact .inl rfl | exact .inr (.inl rfl) | exact .inr (.inr (.inl rfl)) | exact .inr (.inr (.inr rfl))) rfl rfl (by first | assumption | exact isF_ofInt _ _ | exact IsF.lit (by decide +kernel)) (by first | assumption | exact isF_ofInt _ _ | exact IsF.lit (by decide +kernel)) ?_; intro r n hr) | (refine wpList_fcmp rfl rfl (by first | exact .inl rfl | exact .inr (.inl rfl) | exact .inr (.inr (.inl rfl)) | exact .inr (.inr (.inr (.inl rfl))) | exact .inr (.inr (.inr (.inr (.inl rfl)))) | exact .inr (.inr (.inr (.inr (.inr rfl))))) rfl rfl (by first | assumption | exact isF_ofInt _ _ | exact IsF.lit (by decide +kernel)) (by first | assumption | exact isF_ofInt _ _ | exact IsF.lit (by decide +kernel)) (by first | assumption | exact rfl) ?_) | (first | (refine wpList_fsame rfl rfl rfl (congrArg Option.isSome Try.underlying22) Try.underlying22 ?_) | (refine wpList_fsame rfl rfl rfl (congrArg Option.isSome Try.underlying32) Try.underlying32 ?_)) | (refine wpList_fwid rfl rfl rfl (congrArg Option.isSome Try.underlying22) Try.underlying32 (by assumption) ?_; intro r n hr) | (refine wpList_fnar rfl rfl rfl (congrArg Option.isSome Try.underlying32) Try.underlying22 (by assumption) (by assumption) ?_; intro r n hr) | (refine wpList_fneg rfl rfl rfl (by assumption) ?_; intro r hr) | (go_at_call 27; refine (l02Above_any _ _ (by assumption) _).mono ?_; rintro e w' ⟨n, rfl, rfl⟩; first | rw [h1] | rw [h2] | rw [h3] | rw [h4]) | (go_at_call 29; refine (l01Sqrt_any _ _ (by assumption) _).mono ?_; rintro e w' ⟨r, n, rfl, hr, rfl⟩) | (go_at_call 39; refine (l01Exp_any _ _ (by assumption) hok _).mono ?_; rintro e w' ⟨r, n, rfl, hr, rfl⟩) | (go_at_call 28; refine (l02Number_any _ _ (by assumption) _).mono ?_; rintro e w' ⟨r, n, rfl, hr, rfl⟩))
    go_ret2
    exact ⟨_, _, rfl, by assumption, rfl⟩
  all_goals
    go_enter Try.func21, Try.ntmps21
    go_wp2_with (first | (go_at_call 27; refine (l02Above_any _ _ (by assumption) _).mono ?_; rintro e w' ⟨n, rfl, rfl⟩; first | rw [h1] | rw [h2] | rw [h3] | rw [h4]))
    go_ret2
    exact ⟨_, _, rfl, isF_zero, rfl⟩
set_option maxRecDepth 100000 in
set_option maxHeartbeats 8000000 in
theorem iFinShare_any (a b c d : Nat) (u v x y : Option Nat) (ha : IsF .f32 a u) (hb : IsF .f32 b v) (hc : IsF .f32 c x) (hd : IsF .f32 d y) (w : World) :
    Calls Try.prog 22 #[.float .f32 a, .float .f32 b, .float .f32 c, .float .f32 d] w (RetFBb w (if (posF u && posF v && posF x && posF y) then chkF (finV (finM u v x y)) else some 0) (posF u && posF v && posF x && posF y && finF (finV (finM u v x y)))) := by
  have hone := isF_two32
  have hsl := FSl_lit w [a, b, c, d] 22 (by simp; exact ⟨ha.2, hb.2, hc.2, hd.2⟩) (by simp)
  have hp : ∀ q, (posF u && posF v && posF x && posF y) = q → ∀ w', Below (w.alloc (.cells #[.float .f32 a, .float .f32 b, .float .f32 c, .float .f32 d] 22)).heap.size (w.alloc (.cells #[.float .f32 a, .float .f32 b, .float .f32 c, .float .f32 d] 22)) w' → Calls Try.prog 26 #[.slice (some ⟨w.heap.size, 0, none⟩) 4 4] w' (Ret w' (.bool q)) := by
    intro q hq w' hw'
    have := arePositive_any _ _ w' (hsl.below hw')
    rw [not_any4 ha hb hc hd, hq] at this
    exact this
  have hok' : (posF u && posF v && posF x && posF y) = true → NarOk (expV (wid (neg .f32 (ar .mul .f32 (some 1073741824) (finM u v x y))))) := by
    intro h
    simp only [Bool.and_eq_true] at h
    exact narOk_fin_arg (sn_finM (sn_posF ha h.1.1.1) (sn_posF hb h.1.1.2) (sn_posF hc h.1.2) (sn_posF hd h.2))
  have Hv := Lib.hid (show finV (finM u v x y) = ar .quo .f32 (ar .quo .f32 (ar .sub .f32 (some 1065353216) (nar (expV (wid (neg .f32 (ar .mul .f32 (some 1073741824) (finM u v x y))))))) (ar .add .f32 (some 1065353216) (nar (expV (wid (neg .f32 (ar .mul .f32 (some 1073741824) (finM u v x y)))))))) (finM u v x y) from rfl)
  rw [Hv.out]
  unfold finM at hok' ⊢
  clear Hv
  generalize hq : (posF u && posF v && posF x && posF y) = q at *
  have HP := Lib.hid (hp q rfl)
  clear hp hsl hq
  cases q
  · simp only [Bool.false_and, Bool.false_eq_true, if_false]
    clear hok'
    go_enter Try.func22, Try.ntmps22
    go_wp2_with fail
    refine (HP.out _ (Below.refl _ _)).mono ?_
    rintro e w' ⟨n, rfl, rfl⟩
    go_wp2_with fail
    go_ret2
    exact ⟨_, rfl, isF_zero, below_drewN ((Below.refl _ _).alloc (Nat.le_refl _) _) _⟩
  · simp only [Bool.true_and, if_true]
    have hok := hok' rfl
    clear hok'
    go_enter Try.func22, Try.ntmps22
    go_wp2_with fail
    refine (HP.out _ (Below.refl _ _)).mono ?_
    rintro e w' ⟨n, rfl, rfl⟩
    go_wp2_with (first | (refine wpList_far rfl rfl (by first | exact .inl rfl | exact .inr (.inl rfl) | exact .inr (.inr (.inl rfl)) | exact .inr (.inr (.inr rfl))) rfl rfl (by first | assumption | exact isF_ofInt _ _ | exact IsF.lit (by decide +kernel)) (by first | assumption | exact isF_ofInt _ _ | exact IsF.lit (by decide +kernel)) ?_; intro r n hr) | (refine wpList_fcmp rfl rfl (by first | exact .inl rfl | exact .inr (.inl rfl) | exact .inr (.inr (.inl rfl)) | exact .inr (.inr (.inr (.inl rfl))) | exact .inr (.inr (.inr (.inr (.inl rfl)))) | exact .inr (.inr (.inr (.inr (.inr rfl))))) rfl rfl (by first | assumption | exact isF_ofInt _ _ | exact IsF.lit (by decide +kernel)) (by first | assumption | exact isF_ofInt _ _ | exact IsF.lit (by decide +kernel)) (by first | assumption | exact rfl) ?_) | (first | (refine wpList_fsame rfl rfl rfl (congrArg Option.isSome Try.underlying22) Try.underlying22 ?_) | (refine wpList_fsame rfl rfl rfl (congrArg Option.isSome Try.underlying32) Try.underlying32 ?_)) | (refine wpList_fwid rfl rfl rfl (congrArg Option.isSome Try.underlying22) Try.underlying32 (by assumption) ?_; intro r n hr) | (refine wpList_fnar rfl rfl rfl (congrArg Option.isSome Try.underlying32) Try.underlying22 (by assumption) (by assumption) ?_; intro r n hr) | (refine wpList_fneg rfl rfl rfl (by assumption) ?_; intro r hr) | (go_at_call 31; refine (iRootNumber_any _ _ (by assumption) _).mono ?_; rintro e w' ⟨r, n, rfl, hr, rfl⟩) | (go_at_call 40; refine (iExp_any _ _ (by assumption) hok _).mono ?_; rintro e w' ⟨r, n, rfl, hr, rfl⟩) | (go_at_call 30; refine (checked_any _ _ (by assumption) _).mono ?_; rintro e w' ⟨r, n, rfl, hr, rfl⟩))
    go_ret2
    exact ⟨_, rfl, by assumption, below_drewN ((Below.refl _ _).alloc (Nat.le_refl _) _) _⟩
end Go.Proofs.Ytngkkhfbeepjnaa
