/-
  Contracts of the next functions on numbers: the laws' own comparison of floats, numbers from bits, flushing.
-/
import Derived.Test.YtcnnmcmaeeffiaaDoorCore
namespace Go.Proofs.YtcnnmcmaeeffiaaDoor
set_option linter.unusedVariables false
set_option linter.unusedSimpArgs false
open Go.RowKit Fl

/-- Two floats that stand for one value are the same. -/
theorem sameFloat_any (a b : Nat) (v : Option Nat) (ha : IsF .f64 a v) (hb : IsF .f64 b v) (w : World) :
    Calls Tryd.prog 23 #[.float .f64 a, .float .f64 b] w (Ret w (.bool true)) := by
  cases v with
  | none =>
    have h1 : cmpF .neq .f64 none none = true := rfl
    go_enter Tryd.func23, Tryd.ntmps23
    go_wp2_with (first | (refine wpList_far rfl rfl (by first | exact .inl rfl | exact .inr (.inl rfl) | exact .inr (.inr (.inl rfl)) | exact .inr (.inr (.inr rfl))) rfl rfl (by first | assumption | exact isF_ofInt _ _ | exact IsF.lit (by decide +kernel)) (by first | assumption | exact isF_ofInt _ _ | exact IsF.lit (by decide +kernel)) ?_; intro r n hr) | (refine wpList_fcmp rfl rfl (by first | exact .inl rfl | exact .inr (.inl rfl) | exact .inr (.inr (.inl rfl)) | exact .inr (.inr (.inr (.inl rfl))) | exact .inr (.inr (.inr (.inr (.inl rfl)))) | exact .inr (.inr (.inr (.inr (.inr rfl))))) rfl rfl (by first | assumption | exact isF_ofInt _ _ | exact IsF.lit (by decide +kernel)) (by first | assumption | exact isF_ofInt _ _ | exact IsF.lit (by decide +kernel)) (by first | assumption | exact rfl) ?_) | (first | (refine wpList_fsame rfl rfl rfl (congrArg Option.isSome Tryd.underlying38) Tryd.underlying38 ?_) | (refine wpList_fsame rfl rfl rfl (congrArg Option.isSome Tryd.underlying43) Tryd.underlying43 ?_)) | (refine wpList_fwid rfl rfl rfl (congrArg Option.isSome Tryd.underlying38) Tryd.underlying43 (by assumption) ?_; intro r n hr) | (refine wpList_fnar rfl rfl rfl (congrArg Option.isSome Tryd.underlying43) Tryd.underlying38 (by assumption) (by assumption) ?_; intro r n hr) | (refine wpList_fneg rfl rfl rfl (by assumption) ?_; intro r hr))
    go_ret
    exact ret_mk0 rfl
  | some x =>
    obtain ⟨rfl, _⟩ := ha.num
    obtain ⟨rfl, _⟩ := hb.num
    have h1 : cmpF .neq .f64 (some b) (some b) = false := neq_self ha
    have h2 : cmpF .eql .f64 (some b) (some b) = true := eql_self ha
    cases h3 : cmpF .eql .f64 (some b) (some 0)
    · go_enter Tryd.func23, Tryd.ntmps23
      go_wp2_with (first | (refine wpList_far rfl rfl (by first | exact .inl rfl | exact .inr (.inl rfl) | exact .inr (.inr (.inl rfl)) | exact .inr (.inr (.inr rfl))) rfl rfl (by first | assumption | exact isF_ofInt _ _ | exact IsF.lit (by decide +kernel)) (by first | assumption | exact isF_ofInt _ _ | exact IsF.lit (by decide +kernel)) ?_; intro r n hr) | (refine wpList_fcmp rfl rfl (by first | exact .inl rfl | exact .inr (.inl rfl) | exact .inr (.inr (.inl rfl)) | exact .inr (.inr (.inr (.inl rfl))) | exact .inr (.inr (.inr (.inr (.inl rfl)))) | exact .inr (.inr (.inr (.inr (.inr rfl))))) rfl rfl (by first | assumption | exact isF_ofInt _ _ | exact IsF.lit (by decide +kernel)) (by first | assumption | exact isF_ofInt _ _ | exact IsF.lit (by decide +kernel)) (by first | assumption | exact rfl) ?_) | (first | (refine wpList_fsame rfl rfl rfl (congrArg Option.isSome Tryd.underlying38) Tryd.underlying38 ?_) | (refine wpList_fsame rfl rfl rfl (congrArg Option.isSome Tryd.underlying43) Tryd.underlying43 ?_)) | (refine wpList_fwid rfl rfl rfl (congrArg Option.isSome Tryd.underlying38) Tryd.underlying43 (by assumption) ?_; intro r n hr) | (refine wpList_fnar rfl rfl rfl (congrArg Option.isSome Tryd.underlying43) Tryd.underlying38 (by assumption) (by assumption) ?_; intro r n hr) | (refine wpList_fneg rfl rfl rfl (by assumption) ?_; intro r hr))
      go_ret
      exact ret_mk0 rfl
    · go_enter Tryd.func23, Tryd.ntmps23
      go_wp2_with (first | (refine wpList_far rfl rfl (by first | exact .inl rfl | exact .inr (.inl rfl) | exact .inr (.inr (.inl rfl)) | exact .inr (.inr (.inr rfl))) rfl rfl (by first | assumption | exact isF_ofInt _ _ | exact IsF.lit (by decide +kernel)) (by first | assumption | exact isF_ofInt _ _ | exact IsF.lit (by decide +kernel)) ?_; intro r n hr) | (refine wpList_fcmp rfl rfl (by first | exact .inl rfl | exact .inr (.inl rfl) | exact .inr (.inr (.inl rfl)) | exact .inr (.inr (.inr (.inl rfl))) | exact .inr (.inr (.inr (.inr (.inl rfl)))) | exact .inr (.inr (.inr (.inr (.inr rfl))))) rfl rfl (by first | assumption | exact isF_ofInt _ _ | exact IsF.lit (by decide +kernel)) (by first | assumption | exact isF_ofInt _ _ | exact IsF.lit (by decide +kernel)) (by first | assumption | exact rfl) ?_) | (first | (refine wpList_fsame rfl rfl rfl (congrArg Option.isSome Tryd.underlying38) Tryd.underlying38 ?_) | (refine wpList_fsame rfl rfl rfl (congrArg Option.isSome Tryd.underlying43) Tryd.underlying43 ?_)) | (refine wpList_fwid rfl rfl rfl (congrArg Option.isSome Tryd.underlying38) Tryd.underlying43 (by assumption) ?_; intro r n hr) | (refine wpList_fnar rfl rfl rfl (congrArg Option.isSome Tryd.underlying43) Tryd.underlying38 (by assumption) (by assumption) ?_; intro r n hr) | (refine wpList_fneg rfl rfl rfl (by assumption) ?_; intro r hr))
      go_ret
      exact ret_mk (by simp)

theorem within_bool (lo n hi : Int) : (decide (lo ≤ n) && decide (n ≤ hi)) = decide (lo ≤ n ∧ n ≤ hi) := by
  rw [Bool.eq_iff_iff]; simp

theorem l01From_any (n : Int) (w : World) (h0 : 0 ≤ n) (h1 : n ≤ 4294967295) :
    Calls Tryd.prog 35 #[.int .i64 n] w fun e w' => e = .returned (.float .f32 n.toNat) ∧ w' = w := by
  obtain ⟨k, rfl⟩ := Int.eq_ofNat_of_zero_le h0
  have hx := ext_f32from
  go_enter Tryd.func35, Tryd.ntmps35
  go_wp2_with fail
  go_ret
  exact ⟨rfl, rfl⟩
end Go.Proofs.YtcnnmcmaeeffiaaDoor
