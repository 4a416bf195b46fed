/-
  Contracts of the next functions on numbers: the laws' own comparison of floats, numbers from bits, flushing.
-/
import Derived.Test.YtiolmffcmbcgmaaCore
namespace Go.Proofs.Ytiolmffcmbcgmaa
set_option linter.unusedVariables false
set_option linter.unusedSimpArgs false
open Go.RowKit Fl

/-- Two floats that stand for one value are the same. -/
theorem sameFloat_any (a b : Nat) (v : Option Nat) (ha : IsF .f64 a v) (hb : IsF .f64 b v) (w : World) :
    Calls Try.prog 36 #[.float .f64 a, .float .f64 b] w (Ret w (.bool true)) := by
  cases v with
  | none =>
    have h1 : cmpF .neq .f64 none none = true := rfl
    go_enter Try.func36, Try.ntmps36
    go_wp2_with (first | (refine wpList_far rfl rfl (by first | exact .inl rfl | exact .inr (.inl rfl) | exact .inr (.inr (.inl rfl)) | exact .inr (.inr (.inr rfl))) rfl rfl (by first | assumption | exact isF_ofInt _ _ | exact IsF.lit (by decide +kernel)) (by first | assumption | exact isF_ofInt _ _ | exact IsF.lit (by decide +kernel)) ?_; intro r n hr) | (refine wpList_fcmp rfl rfl (by first | exact .inl rfl | exact .inr (.inl rfl) | exact .inr (.inr (.inl rfl)) | exact .inr (.inr (.inr (.inl rfl))) | exact .inr (.inr (.inr (.inr (.inl rfl)))) | exact .inr (.inr (.inr (.inr (.inr rfl))))) rfl rfl (by first | assumption | exact isF_ofInt _ _ | exact IsF.lit (by decide +kernel)) (by first | assumption | exact isF_ofInt _ _ | exact IsF.lit (by decide +kernel)) (by first | assumption | exact rfl) ?_) | (first | (refine wpList_fsame rfl rfl rfl (congrArg Option.isSome Try.underlying33) Try.underlying33 ?_) | (refine wpList_fsame rfl rfl rfl (congrArg Option.isSome Try.underlying50) Try.underlying50 ?_)) | (refine wpList_fwid rfl rfl rfl (congrArg Option.isSome Try.underlying33) Try.underlying50 (by assumption) ?_; intro r n hr) | (refine wpList_fnar rfl rfl rfl (congrArg Option.isSome Try.underlying50) Try.underlying33 (by assumption) (by assumption) ?_; intro r n hr) | (refine wpList_fneg rfl rfl rfl (by assumption) ?_; intro r hr))
    go_ret
    exact ret_mk0 rfl
  | some x =>
    obtain ⟨rfl, _⟩ := ha.num
    obtain ⟨rfl, _⟩ := hb.num
    have h1 : cmpF .neq .f64 (some b) (some b) = false := neq_self ha
    have h2 : cmpF .eql .f64 (some b) (some b) = true := eql_self ha
    cases h3 : cmpF .eql .f64 (some b) (some 0)
    · go_enter Try.func36, Try.ntmps36
      go_wp2_with (first | (refine wpList_far rfl rfl (by first | exact .inl rfl | exact .inr (.inl rfl) | exact .inr (.inr (.inl rfl)) | exact .inr (.inr (.inr rfl))) rfl rfl (by first | assumption | exact isF_ofInt _ _ | exact IsF.lit (by decide +kernel)) (by first | assumption | exact isF_ofInt _ _ | exact IsF.lit (by decide +kernel)) ?_; intro r n hr) | (refine wpList_fcmp rfl rfl (by first | exact .inl rfl | exact .inr (.inl rfl) | exact .inr (.inr (.inl rfl)) | exact .inr (.inr (.inr (.inl rfl))) | exact .inr (.inr (.inr (.inr (.inl rfl)))) | exact .inr (.inr (.inr (.inr (.inr rfl))))) rfl rfl (by first | assumption | exact isF_ofInt _ _ | exact IsF.lit (by decide +kernel)) (by first | assumption | exact isF_ofInt _ _ | exact IsF.lit (by decide +kernel)) (by first | assumption | exact rfl) ?_) | (first | (refine wpList_fsame rfl rfl rfl (congrArg Option.isSome Try.underlying33) Try.underlying33 ?_) | (refine wpList_fsame rfl rfl rfl (congrArg Option.isSome Try.underlying50) Try.underlying50 ?_)) | (refine wpList_fwid rfl rfl rfl (congrArg Option.isSome Try.underlying33) Try.underlying50 (by assumption) ?_; intro r n hr) | (refine wpList_fnar rfl rfl rfl (congrArg Option.isSome Try.underlying50) Try.underlying33 (by assumption) (by assumption) ?_; intro r n hr) | (refine wpList_fneg rfl rfl rfl (by assumption) ?_; intro r hr))
      go_ret
      exact ret_mk0 rfl
    · go_enter Try.func36, Try.ntmps36
      go_wp2_with (first | (refine wpList_far rfl rfl (by first | exact .inl rfl | exact .inr (.inl rfl) | exact .inr (.inr (.inl rfl)) | exact .inr (.inr (.inr rfl))) rfl rfl (by first | assumption | exact isF_ofInt _ _ | exact IsF.lit (by decide +kernel)) (by first | assumption | exact isF_ofInt _ _ | exact IsF.lit (by decide +kernel)) ?_; intro r n hr) | (refine wpList_fcmp rfl rfl (by first | exact .inl rfl | exact .inr (.inl rfl) | exact .inr (.inr (.inl rfl)) | exact .inr (.inr (.inr (.inl rfl))) | exact .inr (.inr (.inr (.inr (.inl rfl)))) | exact .inr (.inr (.inr (.inr (.inr rfl))))) rfl rfl (by first | assumption | exact isF_ofInt _ _ | exact IsF.lit (by decide +kernel)) (by first | assumption | exact isF_ofInt _ _ | exact IsF.lit (by decide +kernel)) (by first | assumption | exact rfl) ?_) | (first | (refine wpList_fsame rfl rfl rfl (congrArg Option.isSome Try.underlying33) Try.underlying33 ?_) | (refine wpList_fsame rfl rfl rfl (congrArg Option.isSome Try.underlying50) Try.underlying50 ?_)) | (refine wpList_fwid rfl rfl rfl (congrArg Option.isSome Try.underlying33) Try.underlying50 (by assumption) ?_; intro r n hr) | (refine wpList_fnar rfl rfl rfl (congrArg Option.isSome Try.underlying50) Try.underlying33 (by assumption) (by assumption) ?_; intro r n hr) | (refine wpList_fneg rfl rfl rfl (by assumption) ?_; intro r hr))
      go_ret
      exact ret_mk (by simp)

theorem within_bool (lo n hi : Int) : (decide (lo ≤ n) && decide (n ≤ hi)) = decide (lo ≤ n ∧ n ≤ hi) := by
  rw [Bool.eq_iff_iff]; simp
theorem l00In_any (n lo hi : Int) (w : World) : Calls Try.prog 26 #[.int .i64 n, .int .i64 lo, .int .i64 hi] w fun e w' => e = .returned (.bool (decide (lo ≤ n ∧ n ≤ hi))) ∧ w' = w := by
  rw [← within_bool]
  by_cases h : lo ≤ n
  · go_enter Try.func26, Try.ntmps26
    go_wp2
    go_ret
    refine ⟨?_, rfl⟩
    simp [h]
  · have h' : decide (lo ≤ n) = false := by simpa using h
    go_enter Try.func26, Try.ntmps26
    go_wp2
    go_ret
    refine ⟨?_, rfl⟩
    simp [h']
theorem within_any (n lo hi : Int) (w : World) : Calls Try.prog 29 #[.int .i64 n, .int .i64 lo, .int .i64 hi] w fun e w' => e = .returned (.bool (decide (lo ≤ n ∧ n ≤ hi))) ∧ w' = w := by
  rw [← within_bool]
  by_cases h : lo ≤ n
  · go_enter Try.func29, Try.ntmps29
    go_wp2
    go_ret
    refine ⟨?_, rfl⟩
    simp [h]
  · have h' : decide (lo ≤ n) = false := by simpa using h
    go_enter Try.func29, Try.ntmps29
    go_wp2
    go_ret
    refine ⟨?_, rfl⟩
    simp [h']

end Go.Proofs.Ytiolmffcmbcgmaa
