/-
  Contracts of the smallest functions on numbers: what each returns, up to the choice of a NaN's bits.
-/
import Derived.Test.YtbmgjgcimeidiaaProg
import Derived.Test.YtbmgjgcimeidiaaBits
import Derived.Lib.Hide
namespace Go.Proofs.Ytbmgjgcimeidiaa
set_option linter.unusedVariables false
set_option linter.unusedSimpArgs false
open Go.RowKit Fl

/-- x - x == 0. -/
def finF (v : Option Nat) : Bool := cmpF .eql .f32 (ar .sub .f32 v v) (some 0)

theorem l01Finite_any (b : Nat) (v : Option Nat) (h : IsF .f32 b v) (w : World) :
    Calls Try.prog 34 #[.float .f32 b] w (Ret w (.bool (finF v))) := by
  go_enter Try.func34, Try.ntmps34
  go_wp2_with (first | (refine wpList_far rfl rfl (by first | exact .inl rfl | exact .inr (.inl rfl) | exact .inr (.inr (.inl rfl)) | exact .inr (.inr (.inr rfl))) rfl rfl (by first | assumption | exact isF_ofInt _ _ | exact IsF.lit (by decide +kernel)) (by first | assumption | exact isF_ofInt _ _ | exact IsF.lit (by decide +kernel)) ?_; intro r n hr) | (refine wpList_fcmp rfl rfl (by first | exact .inl rfl | exact .inr (.inl rfl) | exact .inr (.inr (.inl rfl)) | exact .inr (.inr (.inr (.inl rfl))) | exact .inr (.inr (.inr (.inr (.inl rfl)))) | exact .inr (.inr (.inr (.inr (.inr rfl))))) rfl rfl (by first | assumption | exact isF_ofInt _ _ | exact IsF.lit (by decide +kernel)) (by first | assumption | exact isF_ofInt _ _ | exact IsF.lit (by decide +kernel)) (by first | assumption | exact rfl) ?_) | (first | (refine wpList_fsame rfl rfl rfl (congrArg Option.isSome Try.underlying22) Try.underlying22 ?_) | (refine wpList_fsame rfl rfl rfl (congrArg Option.isSome Try.underlying25) Try.underlying25 ?_)) | (refine wpList_fwid rfl rfl rfl (congrArg Option.isSome Try.underlying22) Try.underlying25 (by assumption) ?_; intro r n hr) | (refine wpList_fnar rfl rfl rfl (congrArg Option.isSome Try.underlying25) Try.underlying22 (by assumption) (by assumption) ?_; intro r n hr) | (refine wpList_fneg rfl rfl rfl (by assumption) ?_; intro r hr))
  go_ret
  exact ret_mk rfl
theorem iIsFinite_any (b : Nat) (v : Option Nat) (h : IsF .f32 b v) (w : World) :
    Calls Try.prog 23 #[.float .f32 b] w (Ret w (.bool (finF v))) := by
  go_enter Try.func23, Try.ntmps23
  go_wp2_with (first | (refine wpList_far rfl rfl (by first | exact .inl rfl | exact .inr (.inl rfl) | exact .inr (.inr (.inl rfl)) | exact .inr (.inr (.inr rfl))) rfl rfl (by first | assumption | exact isF_ofInt _ _ | exact IsF.lit (by decide +kernel)) (by first | assumption | exact isF_ofInt _ _ | exact IsF.lit (by decide +kernel)) ?_; intro r n hr) | (refine wpList_fcmp rfl rfl (by first | exact .inl rfl | exact .inr (.inl rfl) | exact .inr (.inr (.inl rfl)) | exact .inr (.inr (.inr (.inl rfl))) | exact .inr (.inr (.inr (.inr (.inl rfl)))) | exact .inr (.inr (.inr (.inr (.inr rfl))))) rfl rfl (by first | assumption | exact isF_ofInt _ _ | exact IsF.lit (by decide +kernel)) (by first | assumption | exact isF_ofInt _ _ | exact IsF.lit (by decide +kernel)) (by first | assumption | exact rfl) ?_) | (first | (refine wpList_fsame rfl rfl rfl (congrArg Option.isSome Try.underlying22) Try.underlying22 ?_) | (refine wpList_fsame rfl rfl rfl (congrArg Option.isSome Try.underlying25) Try.underlying25 ?_)) | (refine wpList_fwid rfl rfl rfl (congrArg Option.isSome Try.underlying22) Try.underlying25 (by assumption) ?_; intro r n hr) | (refine wpList_fnar rfl rfl rfl (congrArg Option.isSome Try.underlying25) Try.underlying22 (by assumption) (by assumption) ?_; intro r n hr) | (refine wpList_fneg rfl rfl rfl (by assumption) ?_; intro r hr))
  go_ret
  exact ret_mk rfl
theorem ext_f64bits (b : Nat) (w : World) : (callFunc 47 #[.float .f64 b]).run Try.prog w = .ok (.value (.int .u64 b)) w := by
  rw [run_callFunc_extern (fn := Try.f47) (e := Extern.MathFloatBits.float64bits) Try.func47 (by kernel_rfl) (by kernel_rfl) (by kernel_rfl) (by kernel_rfl)]
  rfl
theorem ext_f64from (b : Nat) (w : World) : (callFunc 40 #[.int .u64 b]).run Try.prog w = .ok (.value (.float .f64 b)) w := by
  rw [run_callFunc_extern (fn := Try.f40) (e := Extern.MathFloatBits.float64frombits) Try.func40 (by kernel_rfl) (by kernel_rfl) (by kernel_rfl) (by kernel_rfl)]
  rfl
theorem ext_f32from (b : Nat) (w : World) : (callFunc 53 #[.int .u32 b]).run Try.prog w = .ok (.value (.float .f32 b)) w := by
  rw [run_callFunc_extern (fn := Try.f53) (e := Extern.MathFloatBits.float32frombits) Try.func53 (by kernel_rfl) (by kernel_rfl) (by kernel_rfl) (by kernel_rfl)]
  rfl

theorem abs_any (b : Nat) (v : Option Nat) (h : IsF .f64 b v) (w : World) :
    Calls Try.prog 32 #[.float .f64 b] w fun e w' => e = .returned (.float .f64 (low63 b)) ∧ IsF .f64 (low63 b) (absF v) ∧ w' = w := by
  have hx := ext_f64bits
  have hy := ext_f64from
  have hb : bits .andNot .u64 (b : Int) 9223372036854775808 = ((low63 b : Nat) : Int) := andNot63 b h.2
  go_enter Try.func32, Try.ntmps32
  go_wp2_with fail
  go_ret
  exact ⟨rfl, isF_abs h, rfl⟩
end Go.Proofs.Ytbmgjgcimeidiaa
