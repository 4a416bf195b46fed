/-
  Contracts: the exponential and the logarithm at the numbers that FnPowers draws; the laws' gap.
-/
import Derived.Test.YtgaecoekhcdaeaaPowq
import Derived.Test.YtgaecoekhcdaeaaExp
import Derived.Test.YtgaecoekhcdaeaaBy
namespace Go.Proofs.Ytgaecoekhcdaeaa
set_option linter.unusedVariables false
set_option linter.unusedSimpArgs false
open Go.RowKit Fl

theorem b10Gap_any (a b : Nat) (u v : Option Nat) (ha : IsF .f64 a u) (hb : IsF .f64 b v) (w : World) : Calls Try.prog 18 #[.float .f64 a, .float .f64 b] w (RetF w .f64 (gapV u v)) := by
  unfold gapV
  cases c1 : cmpF .lss .f64 u v
  all_goals
    go_enter Try.func18, Try.ntmps18
    go_wp2_with (first | (refine wpList_far rfl rfl (by first | exact .inl rfl | exact .inr (.inl rfl) | exact .inr (.inr (.inl rfl)) | exact .inr (.inr (.inr rfl))) rfl rfl (by first | assumption | exact isF_ofInt _ _ | exact IsF.lit (by decide +kernel)) (by first | assumption | exact isF_ofInt _ _ | exact IsF.lit (by decide +kernel)) ?_; intro r n hr) | (refine wpList_fcmp rfl rfl (by first | exact .inl rfl | exact .inr (.inl rfl) | exact .inr (.inr (.inl rfl)) | exact .inr (.inr (.inr (.inl rfl))) | exact .inr (.inr (.inr (.inr (.inl rfl)))) | exact .inr (.inr (.inr (.inr (.inr rfl))))) rfl rfl (by first | assumption | exact isF_ofInt _ _ | exact IsF.lit (by decide +kernel)) (by first | assumption | exact isF_ofInt _ _ | exact IsF.lit (by decide +kernel)) (by first | assumption | exact rfl) ?_) | (first | (refine wpList_fsame rfl rfl rfl (congrArg Option.isSome Try.underlying34) Try.underlying34 ?_) | (refine wpList_fsame rfl rfl rfl (congrArg Option.isSome Try.underlying39) Try.underlying39 ?_)) | (refine wpList_fwid rfl rfl rfl (congrArg Option.isSome Try.underlying34) Try.underlying39 (by assumption) ?_; intro r n hr) | (refine wpList_fnar rfl rfl rfl (congrArg Option.isSome Try.underlying39) Try.underlying34 (by assumption) (by assumption) ?_; intro r n hr) | (refine wpList_fneg rfl rfl rfl (by assumption) ?_; intro r hr))
    go_ret
    exact ⟨_, _, rfl, by assumption, rfl⟩
theorem isF_sB {k : Nat} (hk : k < 129) : IsF .f32 (sB k) (some (sB k)) := ar_num (sT k hk)
theorem isF_eB {k : Nat} (hk : k < 129) : IsF .f32 (eB k) (some (eB k)) := by
  have h3 := allB_of (f := fun k => decide (eB k < 4294967296) && !(S.read (eB k)).isNaN) (n := 129) (by kernel_rfl) k hk
  simp only [Bool.and_eq_true, decide_eq_true_eq, Bool.not_eq_true'] at h3
  exact IsF.lit ⟨h3.2, h3.1⟩
theorem exp_at (k : Nat) (hk : k < 129) (w : World) : Calls Try.prog 17 #[.float .f32 (sB k)] w (Ret w (.float .f32 (eB k))) :=
  (iExp_any (sB k) (some (sB k)) (isF_sB hk) (narB_ok (eT_ok k hk)) w).mono fun e w' ⟨r, n, h1, h2, h3⟩ => ⟨n, by rw [h1, isF_eq h2 (eT k hk)], h3⟩
theorem exp_zero (w : World) : Calls Try.prog 17 #[.float .f32 0] w (Ret w (.float .f32 1065353216)) := by
  have h := exp_at 64 (by decide) w
  have e0 : sB 64 = 0 := by decide +kernel
  rw [e0, e_one] at h
  exact h
theorem isF_oneF : IsF .f32 1065353216 (some 1065353216) := IsF.lit (by decide +kernel)
end Go.Proofs.Ytgaecoekhcdaeaa
