/-
  Contracts of the smallest functions on numbers: what each returns, up to the choice of a NaN's bits.
-/
import Derived.Test.YtaannebjpmdhjaaProg
import Derived.Test.YtaannebjpmdhjaaBits
import Derived.Lib.Hide
namespace Go.Proofs.Ytaannebjpmdhjaa
set_option linter.unusedVariables false
set_option linter.unusedSimpArgs false
set_option maxRecDepth 20000
open Go.RowKit Fl

/-- x - x == 0. -/
def finF (v : Option Nat) : Bool := cmpF .eql .f32 (ar .sub .f32 v v) (some 0)

theorem iIsFinite_any (b : Nat) (v : Option Nat) (h : IsF .f32 b v) (w : World) :
    Calls Try.prog 32 #[.float .f32 b] w (Ret w (.bool (finF v))) := by
  go_enter Try.func32, Try.ntmps32
  go_wp2_with (first | (refine wpList_far rfl rfl (by first | exact .inl rfl | exact .inr (.inl rfl) | exact .inr (.inr (.inl rfl)) | exact .inr (.inr (.inr rfl))) rfl rfl (by first | assumption | exact isF_ofInt _ _ | exact IsF.lit (by decide +kernel)) (by first | assumption | exact isF_ofInt _ _ | exact IsF.lit (by decide +kernel)) ?_; intro r n hr) | (refine wpList_fcmp rfl rfl (by first | exact .inl rfl | exact .inr (.inl rfl) | exact .inr (.inr (.inl rfl)) | exact .inr (.inr (.inr (.inl rfl))) | exact .inr (.inr (.inr (.inr (.inl rfl)))) | exact .inr (.inr (.inr (.inr (.inr rfl))))) rfl rfl (by first | assumption | exact isF_ofInt _ _ | exact IsF.lit (by decide +kernel)) (by first | assumption | exact isF_ofInt _ _ | exact IsF.lit (by decide +kernel)) (by first | assumption | exact rfl) ?_) | (first | (refine wpList_fsame rfl rfl rfl (congrArg Option.isSome Try.underlying28) Try.underlying28 ?_) | (refine wpList_fsame rfl rfl rfl (congrArg Option.isSome Try.underlying27) Try.underlying27 ?_)) | (refine wpList_fwid rfl rfl rfl (congrArg Option.isSome Try.underlying28) Try.underlying27 (by assumption) ?_; intro r n hr) | (refine wpList_fnar rfl rfl rfl (congrArg Option.isSome Try.underlying27) Try.underlying28 (by assumption) (by assumption) ?_; intro r n hr) | (refine wpList_fneg rfl rfl rfl (by assumption) ?_; intro r hr))
  go_ret
  exact ret_mk rfl
theorem ext_f32bits (b : Nat) (w : World) : (callFunc 45 #[.float .f32 b]).run Try.prog w = .ok (.value (.int .u32 b)) w := by
  rw [run_callFunc_extern (fn := Try.f45) (e := Extern.MathFloatBits.float32bits) Try.func45 (by kernel_rfl) (by kernel_rfl) (by kernel_rfl) (by kernel_rfl)]
  rfl
theorem ext_f64bits (b : Nat) (w : World) : (callFunc 36 #[.float .f64 b]).run Try.prog w = .ok (.value (.int .u64 b)) w := by
  rw [run_callFunc_extern (fn := Try.f36) (e := Extern.MathFloatBits.float64bits) Try.func36 (by kernel_rfl) (by kernel_rfl) (by kernel_rfl) (by kernel_rfl)]
  rfl
theorem ext_f64from (b : Nat) (w : World) : (callFunc 25 #[.int .u64 b]).run Try.prog w = .ok (.value (.float .f64 b)) w := by
  rw [run_callFunc_extern (fn := Try.f25) (e := Extern.MathFloatBits.float64frombits) Try.func25 (by kernel_rfl) (by kernel_rfl) (by kernel_rfl) (by kernel_rfl)]
  rfl
set_option maxRecDepth 10000 in
theorem l01Bits_any (b : Nat) (v : Option Nat) (h : IsF .f32 b v) (w : World) :
    Calls Try.prog 35 #[.float .f32 b] w fun e w' => e = .returned (.int .i64 (bitsI v)) ∧ w' = w := by
  have hx := ext_f32bits
  have hb : b < 4294967296 := h.2
  cases v with
  | none =>
    have hv : cmpF .neq .f32 none none = true := rfl
    go_enter Try.func35, Try.ntmps35
    go_wp2_with (first | (refine wpList_far rfl rfl (by first | exact .inl rfl | exact .inr (.inl rfl) | exact .inr (.inr (.inl rfl)) | exact .inr (.inr (.inr rfl))) rfl rfl (by first | assumption | exact isF_ofInt _ _ | exact IsF.lit (by decide +kernel)) (by first | assumption | exact isF_ofInt _ _ | exact IsF.lit (by decide +kernel)) ?_; intro r n hr) | (refine wpList_fcmp rfl rfl (by first | exact .inl rfl | exact .inr (.inl rfl) | exact .inr (.inr (.inl rfl)) | exact .inr (.inr (.inr (.inl rfl))) | exact .inr (.inr (.inr (.inr (.inl rfl)))) | exact .inr (.inr (.inr (.inr (.inr rfl))))) rfl rfl (by first | assumption | exact isF_ofInt _ _ | exact IsF.lit (by decide +kernel)) (by first | assumption | exact isF_ofInt _ _ | exact IsF.lit (by decide +kernel)) (by first | assumption | exact rfl) ?_) | (first | (refine wpList_fsame rfl rfl rfl (congrArg Option.isSome Try.underlying28) Try.underlying28 ?_) | (refine wpList_fsame rfl rfl rfl (congrArg Option.isSome Try.underlying27) Try.underlying27 ?_)) | (refine wpList_fwid rfl rfl rfl (congrArg Option.isSome Try.underlying28) Try.underlying27 (by assumption) ?_; intro r n hr) | (refine wpList_fnar rfl rfl rfl (congrArg Option.isSome Try.underlying27) Try.underlying28 (by assumption) (by assumption) ?_; intro r n hr) | (refine wpList_fneg rfl rfl rfl (by assumption) ?_; intro r hr))
    go_ret
    exact ⟨rfl, rfl⟩
  | some x =>
    obtain ⟨rfl, _⟩ := h.num
    have hv : cmpF .neq .f32 (some b) (some b) = false := neq_self h
    go_enter Try.func35, Try.ntmps35
    go_wp2_with (first | (refine wpList_far rfl rfl (by first | exact .inl rfl | exact .inr (.inl rfl) | exact .inr (.inr (.inl rfl)) | exact .inr (.inr (.inr rfl))) rfl rfl (by first | assumption | exact isF_ofInt _ _ | exact IsF.lit (by decide +kernel)) (by first | assumption | exact isF_ofInt _ _ | exact IsF.lit (by decide +kernel)) ?_; intro r n hr) | (refine wpList_fcmp rfl rfl (by first | exact .inl rfl | exact .inr (.inl rfl) | exact .inr (.inr (.inl rfl)) | exact .inr (.inr (.inr (.inl rfl))) | exact .inr (.inr (.inr (.inr (.inl rfl)))) | exact .inr (.inr (.inr (.inr (.inr rfl))))) rfl rfl (by first | assumption | exact isF_ofInt _ _ | exact IsF.lit (by decide +kernel)) (by first | assumption | exact isF_ofInt _ _ | exact IsF.lit (by decide +kernel)) (by first | assumption | exact rfl) ?_) | (first | (refine wpList_fsame rfl rfl rfl (congrArg Option.isSome Try.underlying28) Try.underlying28 ?_) | (refine wpList_fsame rfl rfl rfl (congrArg Option.isSome Try.underlying27) Try.underlying27 ?_)) | (refine wpList_fwid rfl rfl rfl (congrArg Option.isSome Try.underlying28) Try.underlying27 (by assumption) ?_; intro r n hr) | (refine wpList_fnar rfl rfl rfl (congrArg Option.isSome Try.underlying27) Try.underlying28 (by assumption) (by assumption) ?_; intro r n hr) | (refine wpList_fneg rfl rfl rfl (by assumption) ?_; intro r hr))
    go_ret
    exact ⟨rfl, rfl⟩
theorem l01Same_any (a b : Nat) (u v : Option Nat) (hu : IsF .f32 a u) (hv : IsF .f32 b v) (w : World) :
    Calls Try.prog 24 #[.float .f32 a, .float .f32 b] w fun e w' => e = .returned (.bool (bitsI u == bitsI v)) ∧ w' = w := by
  go_enter Try.func24, Try.ntmps24
  go_wp2_with fail
  refine (l01Bits_any _ _ hu _).mono ?_
  rintro e w' ⟨rfl, rfl⟩
  go_wp2_with fail
  refine (l01Bits_any _ _ hv _).mono ?_
  rintro e w' ⟨rfl, rfl⟩
  go_wp2_with fail
  go_ret
  exact ⟨rfl, rfl⟩
theorem sSameNumber_any (a b : Nat) (u v : Option Nat) (hu : IsF .f32 a u) (hv : IsF .f32 b v) (w : World) :
    Calls Try.prog 13 #[.float .f32 a, .float .f32 b] w fun e w' => e = .returned (.bool (bitsI u == bitsI v)) ∧ w' = w := by
  go_enter Try.func13, Try.ntmps13
  go_wp2_with (go_at_call 24; refine (l01Same_any _ _ _ _ hu hv _).mono ?_; rintro e w' ⟨rfl, rfl⟩)
  go_ret
  exact ⟨rfl, rfl⟩

theorem abs_any (b : Nat) (v : Option Nat) (h : IsF .f64 b v) (w : World) :
    Calls Try.prog 26 #[.float .f64 b] w fun e w' => e = .returned (.float .f64 (low63 b)) ∧ IsF .f64 (low63 b) (absF v) ∧ w' = w := by
  have hx := ext_f64bits
  have hy := ext_f64from
  have hb : bits .andNot .u64 (b : Int) 9223372036854775808 = ((low63 b : Nat) : Int) := andNot63 b h.2
  go_enter Try.func26, Try.ntmps26
  go_wp2_with fail
  go_ret
  exact ⟨rfl, isF_abs h, rfl⟩
end Go.Proofs.Ytaannebjpmdhjaa
