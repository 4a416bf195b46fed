/-
  Contracts of the smallest functions on numbers: what each returns, up to the choice of a NaN's bits.
-/
import Derived.Test.YtiolmffcmbcgmaaProg
import Derived.Test.YtiolmffcmbcgmaaBits
import Derived.Lib.Hide
namespace Go.Proofs.Ytiolmffcmbcgmaa
set_option linter.unusedVariables false
set_option linter.unusedSimpArgs false
open Go.RowKit Fl

/-- x - x == 0. -/
def finF (v : Option Nat) : Bool := cmpF .eql .f32 (ar .sub .f32 v v) (some 0)

theorem l01Finite_any (b : Nat) (v : Option Nat) (h : IsF .f32 b v) (w : World) :
    Calls Try.prog 38 #[.float .f32 b] w (Ret w (.bool (finF v))) := by
  go_enter Try.func38, Try.ntmps38
  go_wp2_with (first | (refine wpList_far rfl rfl (by first | exact .inl rfl | exact .inr (.inl rfl) | exact .inr (.inr (.inl rfl)) | exact .inr (.inr (.inr rfl))) rfl rfl (by first | assumption | exact isF_ofInt _ _ | exact IsF.lit (by decide +kernel)) (by first | assumption | exact isF_ofInt _ _ | exact IsF.lit (by decide +kernel)) ?_; intro r n hr) | (refine wpList_fcmp rfl rfl (by first | exact .inl rfl | exact .inr (.inl rfl) | exact .inr (.inr (.inl rfl)) | exact .inr (.inr (.inr (.inl rfl))) | exact .inr (.inr (.inr (.inr (.inl rfl)))) | exact .inr (.inr (.inr (.inr (.inr rfl))))) rfl rfl (by first | assumption | exact isF_ofInt _ _ | exact IsF.lit (by decide +kernel)) (by first | assumption | exact isF_ofInt _ _ | exact IsF.lit (by decide +kernel)) (by first | assumption | exact rfl) ?_) | (first | (refine wpList_fsame rfl rfl rfl (congrArg Option.isSome Try.underlying33) Try.underlying33 ?_) | (refine wpList_fsame rfl rfl rfl (congrArg Option.isSome Try.underlying50) Try.underlying50 ?_)) | (refine wpList_fwid rfl rfl rfl (congrArg Option.isSome Try.underlying33) Try.underlying50 (by assumption) ?_; intro r n hr) | (refine wpList_fnar rfl rfl rfl (congrArg Option.isSome Try.underlying50) Try.underlying33 (by assumption) (by assumption) ?_; intro r n hr) | (refine wpList_fneg rfl rfl rfl (by assumption) ?_; intro r hr))
  go_ret
  exact ret_mk rfl
theorem iIsFinite_any (b : Nat) (v : Option Nat) (h : IsF .f32 b v) (w : World) :
    Calls Try.prog 46 #[.float .f32 b] w (Ret w (.bool (finF v))) := by
  go_enter Try.func46, Try.ntmps46
  go_wp2_with (first | (refine wpList_far rfl rfl (by first | exact .inl rfl | exact .inr (.inl rfl) | exact .inr (.inr (.inl rfl)) | exact .inr (.inr (.inr rfl))) rfl rfl (by first | assumption | exact isF_ofInt _ _ | exact IsF.lit (by decide +kernel)) (by first | assumption | exact isF_ofInt _ _ | exact IsF.lit (by decide +kernel)) ?_; intro r n hr) | (refine wpList_fcmp rfl rfl (by first | exact .inl rfl | exact .inr (.inl rfl) | exact .inr (.inr (.inl rfl)) | exact .inr (.inr (.inr (.inl rfl))) | exact .inr (.inr (.inr (.inr (.inl rfl)))) | exact .inr (.inr (.inr (.inr (.inr rfl))))) rfl rfl (by first | assumption | exact isF_ofInt _ _ | exact IsF.lit (by decide +kernel)) (by first | assumption | exact isF_ofInt _ _ | exact IsF.lit (by decide +kernel)) (by first | assumption | exact rfl) ?_) | (first | (refine wpList_fsame rfl rfl rfl (congrArg Option.isSome Try.underlying33) Try.underlying33 ?_) | (refine wpList_fsame rfl rfl rfl (congrArg Option.isSome Try.underlying50) Try.underlying50 ?_)) | (refine wpList_fwid rfl rfl rfl (congrArg Option.isSome Try.underlying33) Try.underlying50 (by assumption) ?_; intro r n hr) | (refine wpList_fnar rfl rfl rfl (congrArg Option.isSome Try.underlying50) Try.underlying33 (by assumption) (by assumption) ?_; intro r n hr) | (refine wpList_fneg rfl rfl rfl (by assumption) ?_; intro r hr))
  go_ret
  exact ret_mk rfl

end Go.Proofs.Ytiolmffcmbcgmaa
