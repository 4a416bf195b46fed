/-
  Contracts of the smallest functions on numbers: what each returns, up to the choice of a NaN's bits.
-/
import Derived.Test.YtnaabapgejpjnaaProg
import Derived.Test.YtnaabapgejpjnaaVal
namespace Go.Proofs.Ytnaabapgejpjnaa
open Go.RowKit Fl

/-- x - x == 0. -/
def finF (v : Option Nat) : Bool := cmpF .eql .f32 (ar .sub .f32 v v) (some 0)
/-- The bits as a number. -/
def bitsI (v : Option Nat) : Int := match v with | none => 2143289344 | some b => b

theorem l01Finite_any (b : Nat) (v : Option Nat) (h : IsF .f32 b v) (w : World) :
    Calls Try.prog 23 #[.float .f32 b] w fun e w' => ∃ n, e = .returned (.bool (finF v)) ∧ w' = w.drewN n := by
  go_enter Try.func23, Try.ntmps23
  go_wp2_with (first | (refine wpList_far rfl rfl (by first | exact .inl rfl | exact .inr (.inl rfl) | exact .inr (.inr (.inl rfl)) | exact .inr (.inr (.inr rfl))) rfl rfl (by first | assumption | exact isF_ofInt _ _ | exact IsF.lit (by decide +kernel)) (by first | assumption | exact isF_ofInt _ _ | exact IsF.lit (by decide +kernel)) ?_; intro r n hr) | (refine wpList_fcmp rfl rfl (by first | exact .inl rfl | exact .inr (.inl rfl) | exact .inr (.inr (.inl rfl)) | exact .inr (.inr (.inr (.inl rfl))) | exact .inr (.inr (.inr (.inr (.inl rfl)))) | exact .inr (.inr (.inr (.inr (.inr rfl))))) rfl rfl (by first | assumption | exact isF_ofInt _ _ | exact IsF.lit (by decide +kernel)) (by first | assumption | exact isF_ofInt _ _ | exact IsF.lit (by decide +kernel)) (by first | assumption | exact rfl) ?_) | (first | (refine wpList_fsame rfl rfl rfl (congrArg Option.isSome Try.underlying23) Try.underlying23 ?_) | (refine wpList_fsame rfl rfl rfl (congrArg Option.isSome Try.underlying25) Try.underlying25 ?_)) | (refine wpList_fwid rfl rfl rfl (congrArg Option.isSome Try.underlying23) Try.underlying25 (by assumption) ?_; intro r n hr) | (refine wpList_fnar rfl rfl rfl (congrArg Option.isSome Try.underlying25) Try.underlying23 (by assumption) (by assumption) ?_; intro r n hr) | (refine wpList_fneg rfl rfl rfl (by assumption) ?_; intro r hr))
  go_ret
  exact ⟨_, rfl, rfl⟩
theorem sIsFinite_any (b : Nat) (v : Option Nat) (h : IsF .f32 b v) (w : World) :
    Calls Try.prog 10 #[.float .f32 b] w fun e w' => ∃ n, e = .returned (.bool (finF v)) ∧ w' = w.drewN n := by
  go_enter Try.func10, Try.ntmps10
  go_wp2_with (go_at_call 23; refine (l01Finite_any _ _ h _).mono ?_; rintro e w' ⟨n, rfl, rfl⟩)
  go_ret
  exact ⟨_, rfl, rfl⟩
theorem iIsFinite_any (b : Nat) (v : Option Nat) (h : IsF .f32 b v) (w : World) :
    Calls Try.prog 11 #[.float .f32 b] w fun e w' => ∃ n, e = .returned (.bool (finF v)) ∧ w' = w.drewN n := by
  go_enter Try.func11, Try.ntmps11
  go_wp2_with (first | (refine wpList_far rfl rfl (by first | exact .inl rfl | exact .inr (.inl rfl) | exact .inr (.inr (.inl rfl)) | exact .inr (.inr (.inr rfl))) rfl rfl (by first | assumption | exact isF_ofInt _ _ | exact IsF.lit (by decide +kernel)) (by first | assumption | exact isF_ofInt _ _ | exact IsF.lit (by decide +kernel)) ?_; intro r n hr) | (refine wpList_fcmp rfl rfl (by first | exact .inl rfl | exact .inr (.inl rfl) | exact .inr (.inr (.inl rfl)) | exact .inr (.inr (.inr (.inl rfl))) | exact .inr (.inr (.inr (.inr (.inl rfl)))) | exact .inr (.inr (.inr (.inr (.inr rfl))))) rfl rfl (by first | assumption | exact isF_ofInt _ _ | exact IsF.lit (by decide +kernel)) (by first | assumption | exact isF_ofInt _ _ | exact IsF.lit (by decide +kernel)) (by first | assumption | exact rfl) ?_) | (first | (refine wpList_fsame rfl rfl rfl (congrArg Option.isSome Try.underlying23) Try.underlying23 ?_) | (refine wpList_fsame rfl rfl rfl (congrArg Option.isSome Try.underlying25) Try.underlying25 ?_)) | (refine wpList_fwid rfl rfl rfl (congrArg Option.isSome Try.underlying23) Try.underlying25 (by assumption) ?_; intro r n hr) | (refine wpList_fnar rfl rfl rfl (congrArg Option.isSome Try.underlying25) Try.underlying23 (by assumption) (by assumption) ?_; intro r n hr) | (refine wpList_fneg rfl rfl rfl (by assumption) ?_; intro r hr))
  go_ret
  exact ⟨_, rfl, rfl⟩
theorem ext_f32bits (b : Nat) (w : World) : (callFunc 26 #[.float .f32 b]).run Try.prog w = .ok (.value (.int .u32 b)) w := by
  rw [run_callFunc_extern (fn := Try.f26) (e := Extern.MathFloatBits.float32bits) Try.func26 (by kernel_rfl) (by kernel_rfl) (by kernel_rfl) (by kernel_rfl)]
  rfl
theorem ext_f64bits (b : Nat) (w : World) : (callFunc 34 #[.float .f64 b]).run Try.prog w = .ok (.value (.int .u64 b)) w := by
  rw [run_callFunc_extern (fn := Try.f34) (e := Extern.MathFloatBits.float64bits) Try.func34 (by kernel_rfl) (by kernel_rfl) (by kernel_rfl) (by kernel_rfl)]
  rfl
theorem ext_f64from (b : Nat) (w : World) : (callFunc 33 #[.int .u64 b]).run Try.prog w = .ok (.value (.float .f64 b)) w := by
  rw [run_callFunc_extern (fn := Try.f33) (e := Extern.MathFloatBits.float64frombits) Try.func33 (by kernel_rfl) (by kernel_rfl) (by kernel_rfl) (by kernel_rfl)]
  rfl
theorem l01Bits_any (b : Nat) (v : Option Nat) (h : IsF .f32 b v) (w : World) :
    Calls Try.prog 25 #[.float .f32 b] w fun e w' => e = .returned (.int .i64 (bitsI v)) ∧ w' = w := by
  have hx := ext_f32bits
  have hb : b < 4294967296 := h.2
  cases v with
  | none =>
    have hv : cmpF .neq .f32 none none = true := rfl
    go_enter Try.func25, Try.ntmps25
    go_wp2_with (first | (refine wpList_far rfl rfl (by first | exact .inl rfl | exact .inr (.inl rfl) | exact .inr (.inr (.inl rfl)) | exact .inr (.inr (.inr rfl))) rfl rfl (by first | assumption | exact isF_ofInt _ _ | exact IsF.lit (by decide +kernel)) (by first | assumption | exact isF_ofInt _ _ | exact IsF.lit (by decide +kernel)) ?_; intro r n hr) | (refine wpList_fcmp rfl rfl (by first | exact .inl rfl | exact .inr (.inl rfl) | exact .inr (.inr (.inl rfl)) | exact .inr (.inr (.inr (.inl rfl))) | exact .inr (.inr (.inr (.inr (.inl rfl)))) | exact .inr (.inr (.inr (.inr (.inr rfl))))) rfl rfl (by first | assumption | exact isF_ofInt _ _ | exact IsF.lit (by decide +kernel)) (by first | assumption | exact isF_ofInt _ _ | exact IsF.lit (by decide +kernel)) (by first | assumption | exact rfl) ?_) | (first | (refine wpList_fsame rfl rfl rfl (congrArg Option.isSome Try.underlying23) Try.underlying23 ?_) | (refine wpList_fsame rfl rfl rfl (congrArg Option.isSome Try.underlying25) Try.underlying25 ?_)) | (refine wpList_fwid rfl rfl rfl (congrArg Option.isSome Try.underlying23) Try.underlying25 (by assumption) ?_; intro r n hr) | (refine wpList_fnar rfl rfl rfl (congrArg Option.isSome Try.underlying25) Try.underlying23 (by assumption) (by assumption) ?_; intro r n hr) | (refine wpList_fneg rfl rfl rfl (by assumption) ?_; intro r hr))
    go_ret
    exact ⟨rfl, rfl⟩
  | some x =>
    obtain ⟨rfl, _⟩ := h.num
    have hv : cmpF .neq .f32 (some b) (some b) = false := neq_self h
    go_enter Try.func25, Try.ntmps25
    go_wp2_with (first | (refine wpList_far rfl rfl (by first | exact .inl rfl | exact .inr (.inl rfl) | exact .inr (.inr (.inl rfl)) | exact .inr (.inr (.inr rfl))) rfl rfl (by first | assumption | exact isF_ofInt _ _ | exact IsF.lit (by decide +kernel)) (by first | assumption | exact isF_ofInt _ _ | exact IsF.lit (by decide +kernel)) ?_; intro r n hr) | (refine wpList_fcmp rfl rfl (by first | exact .inl rfl | exact .inr (.inl rfl) | exact .inr (.inr (.inl rfl)) | exact .inr (.inr (.inr (.inl rfl))) | exact .inr (.inr (.inr (.inr (.inl rfl)))) | exact .inr (.inr (.inr (.inr (.inr rfl))))) rfl rfl (by first | assumption | exact isF_ofInt _ _ | exact IsF.lit (by decide +kernel)) (by first | assumption | exact isF_ofInt _ _ | exact IsF.lit (by decide +kernel)) (by first | assumption | exact rfl) ?_) | (first | (refine wpList_fsame rfl rfl rfl (congrArg Option.isSome Try.underlying23) Try.underlying23 ?_) | (refine wpList_fsame rfl rfl rfl (congrArg Option.isSome Try.underlying25) Try.underlying25 ?_)) | (refine wpList_fwid rfl rfl rfl (congrArg Option.isSome Try.underlying23) Try.underlying25 (by assumption) ?_; intro r n hr) | (refine wpList_fnar rfl rfl rfl (congrArg Option.isSome Try.underlying25) Try.underlying23 (by assumption) (by assumption) ?_; intro r n hr) | (refine wpList_fneg rfl rfl rfl (by assumption) ?_; intro r hr))
    go_ret
    exact ⟨rfl, rfl⟩
theorem iBitsOf_any (b : Nat) (v : Option Nat) (h : IsF .f32 b v) (w : World) :
    Calls Try.prog 16 #[.float .f32 b] w fun e w' => e = .returned (.int .i64 (bitsI v)) ∧ w' = w := by
  have hx := ext_f32bits
  have hb : b < 4294967296 := h.2
  cases v with
  | none =>
    have hv : cmpF .neq .f32 none none = true := rfl
    go_enter Try.func16, Try.ntmps16
    go_wp2_with (first | (refine wpList_far rfl rfl (by first | exact .inl rfl | exact .inr (.inl rfl) | exact .inr (.inr (.inl rfl)) | exact .inr (.inr (.inr rfl))) rfl rfl (by first | assumption | exact isF_ofInt _ _ | exact IsF.lit (by decide +kernel)) (by first | assumption | exact isF_ofInt _ _ | exact IsF.lit (by decide +kernel)) ?_; intro r n hr) | (refine wpList_fcmp rfl rfl (by first | exact .inl rfl | exact .inr (.inl rfl) | exact .inr (.inr (.inl rfl)) | exact .inr (.inr (.inr (.inl rfl))) | exact .inr (.inr (.inr (.inr (.inl rfl)))) | exact .inr (.inr (.inr (.inr (.inr rfl))))) rfl rfl (by first | assumption | exact isF_ofInt _ _ | exact IsF.lit (by decide +kernel)) (by first | assumption | exact isF_ofInt _ _ | exact IsF.lit (by decide +kernel)) (by first | assumption | exact rfl) ?_) | (first | (refine wpList_fsame rfl rfl rfl (congrArg Option.isSome Try.underlying23) Try.underlying23 ?_) | (refine wpList_fsame rfl rfl rfl (congrArg Option.isSome Try.underlying25) Try.underlying25 ?_)) | (refine wpList_fwid rfl rfl rfl (congrArg Option.isSome Try.underlying23) Try.underlying25 (by assumption) ?_; intro r n hr) | (refine wpList_fnar rfl rfl rfl (congrArg Option.isSome Try.underlying25) Try.underlying23 (by assumption) (by assumption) ?_; intro r n hr) | (refine wpList_fneg rfl rfl rfl (by assumption) ?_; intro r hr))
    go_ret
    exact ⟨rfl, rfl⟩
  | some x =>
    obtain ⟨rfl, _⟩ := h.num
    have hv : cmpF .neq .f32 (some b) (some b) = false := neq_self h
    go_enter Try.func16, Try.ntmps16
    go_wp2_with (first | (refine wpList_far rfl rfl (by first | exact .inl rfl | exact .inr (.inl rfl) | exact .inr (.inr (.inl rfl)) | exact .inr (.inr (.inr rfl))) rfl rfl (by first | assumption | exact isF_ofInt _ _ | exact IsF.lit (by decide +kernel)) (by first | assumption | exact isF_ofInt _ _ | exact IsF.lit (by decide +kernel)) ?_; intro r n hr) | (refine wpList_fcmp rfl rfl (by first | exact .inl rfl | exact .inr (.inl rfl) | exact .inr (.inr (.inl rfl)) | exact .inr (.inr (.inr (.inl rfl))) | exact .inr (.inr (.inr (.inr (.inl rfl)))) | exact .inr (.inr (.inr (.inr (.inr rfl))))) rfl rfl (by first | assumption | exact isF_ofInt _ _ | exact IsF.lit (by decide +kernel)) (by first | assumption | exact isF_ofInt _ _ | exact IsF.lit (by decide +kernel)) (by first | assumption | exact rfl) ?_) | (first | (refine wpList_fsame rfl rfl rfl (congrArg Option.isSome Try.underlying23) Try.underlying23 ?_) | (refine wpList_fsame rfl rfl rfl (congrArg Option.isSome Try.underlying25) Try.underlying25 ?_)) | (refine wpList_fwid rfl rfl rfl (congrArg Option.isSome Try.underlying23) Try.underlying25 (by assumption) ?_; intro r n hr) | (refine wpList_fnar rfl rfl rfl (congrArg Option.isSome Try.underlying25) Try.underlying23 (by assumption) (by assumption) ?_; intro r n hr) | (refine wpList_fneg rfl rfl rfl (by assumption) ?_; intro r hr))
    go_ret
    exact ⟨rfl, rfl⟩
theorem sBitsOf_any (b : Nat) (v : Option Nat) (h : IsF .f32 b v) (w : World) :
    Calls Try.prog 15 #[.float .f32 b] w fun e w' => e = .returned (.int .i64 (bitsI v)) ∧ w' = w := by
  go_enter Try.func15, Try.ntmps15
  go_wp2_with (go_at_call 25; refine (l01Bits_any _ _ h _).mono ?_; rintro e w' ⟨rfl, rfl⟩)
  go_ret
  exact ⟨rfl, rfl⟩
theorem l01Same_any (a b : Nat) (u v : Option Nat) (hu : IsF .f32 a u) (hv : IsF .f32 b v) (w : World) :
    Calls Try.prog 28 #[.float .f32 a, .float .f32 b] w fun e w' => e = .returned (.bool (bitsI u == bitsI v)) ∧ w' = w := by
  go_enter Try.func28, Try.ntmps28
  go_wp2_with fail
  refine (l01Bits_any _ _ hu _).mono ?_
  rintro e w' ⟨rfl, rfl⟩
  go_wp2_with fail
  refine (l01Bits_any _ _ hv _).mono ?_
  rintro e w' ⟨rfl, rfl⟩
  go_wp2_with fail
  go_ret
  exact ⟨rfl, rfl⟩
theorem sSameNumber_any (a b : Nat) (u v : Option Nat) (hu : IsF .f32 a u) (hv : IsF .f32 b v) (w : World) :
    Calls Try.prog 19 #[.float .f32 a, .float .f32 b] w fun e w' => e = .returned (.bool (bitsI u == bitsI v)) ∧ w' = w := by
  go_enter Try.func19, Try.ntmps19
  go_wp2_with (go_at_call 28; refine (l01Same_any _ _ _ _ hu hv _).mono ?_; rintro e w' ⟨rfl, rfl⟩)
  go_ret
  exact ⟨rfl, rfl⟩
end Go.Proofs.Ytnaabapgejpjnaa
