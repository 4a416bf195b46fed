/-
  Contracts of the smallest functions on numbers: what each returns, up to the choice of a NaN's bits.
-/
import Derived.Test.YtgaecoekhcdaeaaProg
import Derived.Test.YtgaecoekhcdaeaaBits
import Derived.Lib.Hide
namespace Go.Proofs.Ytgaecoekhcdaeaa
set_option linter.unusedVariables false
set_option linter.unusedSimpArgs false
open Go.RowKit Fl

/-- x - x == 0. -/
def finF (v : Option Nat) : Bool := cmpF .eql .f32 (ar .sub .f32 v v) (some 0)

theorem iIsFinite_any (b : Nat) (v : Option Nat) (h : IsF .f32 b v) (w : World) :
    Calls Try.prog 39 #[.float .f32 b] w (Ret w (.bool (finF v))) := by
  go_enter Try.func39, Try.ntmps39
  go_wp2_with (first | (refine wpList_far rfl rfl (by first | exact .inl rfl | exact .inr (.inl rfl) | exact .inr (.inr (.inl rfl)) | exact .inr (.inr (.inr rfl))) rfl rfl (by first | assumption | exact isF_ofInt _ _ | exact IsF.lit (by decide +kernel)) (by first | assumption | exact isF_ofInt _ _ | exact IsF.lit (by decide +kernel)) ?_; intro r n hr) | (refine wpList_fcmp rfl rfl (by first | exact .inl rfl | exact .inr (.inl rfl) | exact .inr (.inr (.inl rfl)) | exact .inr (.inr (.inr (.inl rfl))) | exact .inr (.inr (.inr (.inr (.inl rfl)))) | exact .inr (.inr (.inr (.inr (.inr rfl))))) rfl rfl (by first | assumption | exact isF_ofInt _ _ | exact IsF.lit (by decide +kernel)) (by first | assumption | exact isF_ofInt _ _ | exact IsF.lit (by decide +kernel)) (by first | assumption | exact rfl) ?_) | (first | (refine wpList_fsame rfl rfl rfl (congrArg Option.isSome Try.underlying34) Try.underlying34 ?_) | (refine wpList_fsame rfl rfl rfl (congrArg Option.isSome Try.underlying39) Try.underlying39 ?_)) | (refine wpList_fwid rfl rfl rfl (congrArg Option.isSome Try.underlying34) Try.underlying39 (by assumption) ?_; intro r n hr) | (refine wpList_fnar rfl rfl rfl (congrArg Option.isSome Try.underlying39) Try.underlying34 (by assumption) (by assumption) ?_; intro r n hr) | (refine wpList_fneg rfl rfl rfl (by assumption) ?_; intro r hr))
  go_ret
  exact ret_mk rfl
theorem ext_f32bits (b : Nat) (w : World) : (callFunc 77 #[.float .f32 b]).run Try.prog w = .ok (.value (.int .u32 b)) w := by
  rw [run_callFunc_extern (fn := Try.f77) (e := Extern.MathFloatBits.float32bits) Try.func77 (by kernel_rfl) (by kernel_rfl) (by kernel_rfl) (by kernel_rfl)]
  rfl
theorem ext_f64bits (b : Nat) (w : World) : (callFunc 68 #[.float .f64 b]).run Try.prog w = .ok (.value (.int .u64 b)) w := by
  rw [run_callFunc_extern (fn := Try.f68) (e := Extern.MathFloatBits.float64bits) Try.func68 (by kernel_rfl) (by kernel_rfl) (by kernel_rfl) (by kernel_rfl)]
  rfl
theorem ext_f64from (b : Nat) (w : World) : (callFunc 56 #[.int .u64 b]).run Try.prog w = .ok (.value (.float .f64 b)) w := by
  rw [run_callFunc_extern (fn := Try.f56) (e := Extern.MathFloatBits.float64frombits) Try.func56 (by kernel_rfl) (by kernel_rfl) (by kernel_rfl) (by kernel_rfl)]
  rfl
theorem ext_f32from (b : Nat) (w : World) : (callFunc 82 #[.int .u32 b]).run Try.prog w = .ok (.value (.float .f32 b)) w := by
  rw [run_callFunc_extern (fn := Try.f82) (e := Extern.MathFloatBits.float32frombits) Try.func82 (by kernel_rfl) (by kernel_rfl) (by kernel_rfl) (by kernel_rfl)]
  rfl
theorem l01Bits_any (b : Nat) (v : Option Nat) (h : IsF .f32 b v) (w : World) :
    Calls Try.prog 65 #[.float .f32 b] w fun e w' => e = .returned (.int .i64 (bitsI v)) ∧ w' = w := by
  have hx := ext_f32bits
  have hb : b < 4294967296 := h.2
  cases v with
  | none =>
    have hv : cmpF .neq .f32 none none = true := rfl
    go_enter Try.func65, Try.ntmps65
    go_wp2_with (first | (refine wpList_far rfl rfl (by first | exact .inl rfl | exact .inr (.inl rfl) | exact .inr (.inr (.inl rfl)) | exact .inr (.inr (.inr rfl))) rfl rfl (by first | assumption | exact isF_ofInt _ _ | exact IsF.lit (by decide +kernel)) (by first | assumption | exact isF_ofInt _ _ | exact IsF.lit (by decide +kernel)) ?_; intro r n hr) | (refine wpList_fcmp rfl rfl (by first | exact .inl rfl | exact .inr (.inl rfl) | exact .inr (.inr (.inl rfl)) | exact .inr (.inr (.inr (.inl rfl))) | exact .inr (.inr (.inr (.inr (.inl rfl)))) | exact .inr (.inr (.inr (.inr (.inr rfl))))) rfl rfl (by first | assumption | exact isF_ofInt _ _ | exact IsF.lit (by decide +kernel)) (by first | assumption | exact isF_ofInt _ _ | exact IsF.lit (by decide +kernel)) (by first | assumption | exact rfl) ?_) | (first | (refine wpList_fsame rfl rfl rfl (congrArg Option.isSome Try.underlying34) Try.underlying34 ?_) | (refine wpList_fsame rfl rfl rfl (congrArg Option.isSome Try.underlying39) Try.underlying39 ?_)) | (refine wpList_fwid rfl rfl rfl (congrArg Option.isSome Try.underlying34) Try.underlying39 (by assumption) ?_; intro r n hr) | (refine wpList_fnar rfl rfl rfl (congrArg Option.isSome Try.underlying39) Try.underlying34 (by assumption) (by assumption) ?_; intro r n hr) | (refine wpList_fneg rfl rfl rfl (by assumption) ?_; intro r hr))
    go_ret
    exact ⟨rfl, rfl⟩
  | some x =>
    obtain ⟨rfl, _⟩ := h.num
    have hv : cmpF .neq .f32 (some b) (some b) = false := neq_self h
    go_enter Try.func65, Try.ntmps65
    go_wp2_with (first | (refine wpList_far rfl rfl (by first | exact .inl rfl | exact .inr (.inl rfl) | exact .inr (.inr (.inl rfl)) | exact .inr (.inr (.inr rfl))) rfl rfl (by first | assumption | exact isF_ofInt _ _ | exact IsF.lit (by decide +kernel)) (by first | assumption | exact isF_ofInt _ _ | exact IsF.lit (by decide +kernel)) ?_; intro r n hr) | (refine wpList_fcmp rfl rfl (by first | exact .inl rfl | exact .inr (.inl rfl) | exact .inr (.inr (.inl rfl)) | exact .inr (.inr (.inr (.inl rfl))) | exact .inr (.inr (.inr (.inr (.inl rfl)))) | exact .inr (.inr (.inr (.inr (.inr rfl))))) rfl rfl (by first | assumption | exact isF_ofInt _ _ | exact IsF.lit (by decide +kernel)) (by first | assumption | exact isF_ofInt _ _ | exact IsF.lit (by decide +kernel)) (by first | assumption | exact rfl) ?_) | (first | (refine wpList_fsame rfl rfl rfl (congrArg Option.isSome Try.underlying34) Try.underlying34 ?_) | (refine wpList_fsame rfl rfl rfl (congrArg Option.isSome Try.underlying39) Try.underlying39 ?_)) | (refine wpList_fwid rfl rfl rfl (congrArg Option.isSome Try.underlying34) Try.underlying39 (by assumption) ?_; intro r n hr) | (refine wpList_fnar rfl rfl rfl (congrArg Option.isSome Try.underlying39) Try.underlying34 (by assumption) (by assumption) ?_; intro r n hr) | (refine wpList_fneg rfl rfl rfl (by assumption) ?_; intro r hr))
    go_ret
    exact ⟨rfl, rfl⟩
theorem l01Same_any (a b : Nat) (u v : Option Nat) (hu : IsF .f32 a u) (hv : IsF .f32 b v) (w : World) :
    Calls Try.prog 48 #[.float .f32 a, .float .f32 b] w fun e w' => e = .returned (.bool (bitsI u == bitsI v)) ∧ w' = w := by
  go_enter Try.func48, Try.ntmps48
  go_wp2_with fail
  refine (l01Bits_any _ _ hu _).mono ?_
  rintro e w' ⟨rfl, rfl⟩
  go_wp2_with fail
  refine (l01Bits_any _ _ hv _).mono ?_
  rintro e w' ⟨rfl, rfl⟩
  go_wp2_with fail
  go_ret
  exact ⟨rfl, rfl⟩
theorem sSameNumber_any (a b : Nat) (u v : Option Nat) (hu : IsF .f32 a u) (hv : IsF .f32 b v) (w : World) :
    Calls Try.prog 26 #[.float .f32 a, .float .f32 b] w fun e w' => e = .returned (.bool (bitsI u == bitsI v)) ∧ w' = w := by
  go_enter Try.func26, Try.ntmps26
  go_wp2_with (go_at_call 48; refine (l01Same_any _ _ _ _ hu hv _).mono ?_; rintro e w' ⟨rfl, rfl⟩)
  go_ret
  exact ⟨rfl, rfl⟩

theorem abs_any (b : Nat) (v : Option Nat) (h : IsF .f64 b v) (w : World) :
    Calls Try.prog 57 #[.float .f64 b] w fun e w' => e = .returned (.float .f64 (low63 b)) ∧ IsF .f64 (low63 b) (absF v) ∧ w' = w := by
  have hx := ext_f64bits
  have hy := ext_f64from
  have hb : bits .andNot .u64 (b : Int) 9223372036854775808 = ((low63 b : Nat) : Int) := andNot63 b h.2
  go_enter Try.func57, Try.ntmps57
  go_wp2_with fail
  go_ret
  exact ⟨rfl, isF_abs h, rfl⟩
end Go.Proofs.Ytgaecoekhcdaeaa
