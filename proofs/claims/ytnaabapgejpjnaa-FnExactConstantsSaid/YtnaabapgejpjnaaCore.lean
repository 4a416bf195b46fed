/-
  Contracts of the smallest functions on numbers: what each returns, up to the choice of a NaN's bits.
-/
import Derived.Test.YtnaabapgejpjnaaProg
import Derived.Test.YtnaabapgejpjnaaBits
import Derived.Lib.Hide
namespace Go.Proofs.Ytnaabapgejpjnaa
open Go.RowKit Fl

/-- x - x == 0. -/
def finF (v : Option Nat) : Bool := cmpF .eql .f32 (ar .sub .f32 v v) (some 0)

theorem l01Finite_any (b : Nat) (v : Option Nat) (h : IsF .f32 b v) (w : World) :
    Calls Try.prog 23 #[.float .f32 b] w (Ret w (.bool (finF v))) := by
  go_enter Try.func23, Try.ntmps23
  go_wp2_with (first | (refine wpList_far rfl rfl (by first | exact .inl rfl | exact .inr (.inl rfl) | exact .inr (.inr (.inl rfl)) | exact .inr (.inr (.inr rfl))) rfl rfl (by first | assumption | exact isF_ofInt _ _ | exact IsF.lit (by decide +kernel)) (by first | assumption | exact isF_ofInt _ _ | exact IsF.lit (by decide +kernel)) ?_; intro r n hr) | (refine wpList_fcmp rfl rfl (by first | exact .inl rfl | exact .inr (.inl rfl) | exact .inr (.inr (.inl rfl)) | exact .inr (.inr (.inr (.inl rfl))) | exact .inr (.inr (.inr (.inr (.inl rfl)))) | exact .inr (.inr (.inr (.inr (.inr rfl))))) rfl rfl (by first | assumption | exact isF_ofInt _ _ | exact IsF.lit (by decide +kernel)) (by first | assumption | exact isF_ofInt _ _ | exact IsF.lit (by decide +kernel)) (by first | assumption | exact rfl) ?_) | (first | (refine wpList_fsame rfl rfl rfl (congrArg Option.isSome Try.underlying23) Try.underlying23 ?_) | (refine wpList_fsame rfl rfl rfl (congrArg Option.isSome Try.underlying25) Try.underlying25 ?_)) | (refine wpList_fwid rfl rfl rfl (congrArg Option.isSome Try.underlying23) Try.underlying25 (by assumption) ?_; intro r n hr) | (refine wpList_fnar rfl rfl rfl (congrArg Option.isSome Try.underlying25) Try.underlying23 (by assumption) (by assumption) ?_; intro r n hr) | (refine wpList_fneg rfl rfl rfl (by assumption) ?_; intro r hr))
  go_ret
  exact ret_mk rfl
theorem sIsFinite_any (b : Nat) (v : Option Nat) (h : IsF .f32 b v) (w : World) :
    Calls Try.prog 10 #[.float .f32 b] w (Ret w (.bool (finF v))) := by
  go_enter Try.func10, Try.ntmps10
  go_wp2_with (go_at_call 23; refine (l01Finite_any _ _ h _).mono ?_; rintro e w' ⟨n, rfl, rfl⟩)
  go_ret
  exact ret_mk rfl
theorem iIsFinite_any (b : Nat) (v : Option Nat) (h : IsF .f32 b v) (w : World) :
    Calls Try.prog 11 #[.float .f32 b] w (Ret w (.bool (finF v))) := by
  go_enter Try.func11, Try.ntmps11
  go_wp2_with (first | (refine wpList_far rfl rfl (by first | exact .inl rfl | exact .inr (.inl rfl) | exact .inr (.inr (.inl rfl)) | exact .inr (.inr (.inr rfl))) rfl rfl (by first | assumption | exact isF_ofInt _ _ | exact IsF.lit (by decide +kernel)) (by first | assumption | exact isF_ofInt _ _ | exact IsF.lit (by decide +kernel)) ?_; intro r n hr) | (refine wpList_fcmp rfl rfl (by first | exact .inl rfl | exact .inr (.inl rfl) | exact .inr (.inr (.inl rfl)) | exact .inr (.inr (.inr (.inl rfl))) | exact .inr (.inr (.inr (.inr (.inl rfl)))) | exact .inr (.inr (.inr (.inr (.inr rfl))))) rfl rfl (by first | assumption | exact isF_ofInt _ _ | exact IsF.lit (by decide +kernel)) (by first | assumption | exact isF_ofInt _ _ | exact IsF.lit (by decide +kernel)) (by first | assumption | exact rfl) ?_) | (first | (refine wpList_fsame rfl rfl rfl (congrArg Option.isSome Try.underlying23) Try.underlying23 ?_) | (refine wpList_fsame rfl rfl rfl (congrArg Option.isSome Try.underlying25) Try.underlying25 ?_)) | (refine wpList_fwid rfl rfl rfl (congrArg Option.isSome Try.underlying23) Try.underlying25 (by assumption) ?_; intro r n hr) | (refine wpList_fnar rfl rfl rfl (congrArg Option.isSome Try.underlying25) Try.underlying23 (by assumption) (by assumption) ?_; intro r n hr) | (refine wpList_fneg rfl rfl rfl (by assumption) ?_; intro r hr))
  go_ret
  exact ret_mk rfl
theorem ext_f32bits (b : Nat) (w : World) : (callFunc 26 #[.float .f32 b]).run Try.prog w = .ok (.value (.int .u32 b)) w := by
  rw [run_callFunc_extern (fn := Try.f26) (e := Extern.MathFloatBits.float32bits) Try.func26 (by kernel_rfl) (by kernel_rfl) (by kernel_rfl) (by kernel_rfl)]
  rfl
theorem ext_f64bits (b : Nat) (w : World) : (callFunc 34 #[.float .f64 b]).run Try.prog w = .ok (.value (.int .u64 b)) w := by
  rw [run_callFunc_extern (fn := Try.f34) (e := Extern.MathFloatBits.float64bits) Try.func34 (by kernel_rfl) (by kernel_rfl) (by kernel_rfl) (by kernel_rfl)]
  rfl
theorem ext_f64from (b : Nat) (w : World) : (callFunc 33 #[.int .u64 b]).run Try.prog w = .ok (.value (.float .f64 b)) w := by
  rw [run_callFunc_extern (fn := Try.f33) (e := Extern.MathFloatBits.float64frombits) Try.func33 (by kernel_rfl) (by kernel_rfl) (by kernel_rfl) (by kernel_rfl)]
  rfl
theorem l01Bits_any (b : Nat) (v : Option Nat) (h : IsF .f32 b v) (w : World) :
    Calls Try.prog 25 #[.float .f32 b] w fun e w' => e = .returned (.int .i64 (bitsI v)) ∧ w' = w := by
  have hx := ext_f32bits
  have hb : b < 4294967296 := h.2
  cases v with
  | none =>
    have hv : cmpF .neq .f32 none none = true := rfl
    go_enter Try.func25, Try.ntmps25
    go_wp2_with (first | (refine wpList_far rfl rfl (by first | exact .inl rfl | exact .inr (.inl rfl) | exact .inr (.inr (.inl rfl)) | exact .inr (.inr (.inr rfl))) rfl rfl (by first | assumption | exact isF_ofInt _ _ | exact IsF.lit (by decide +kernel)) (by first | assumption | exact isF_ofInt _ _ | exact IsF.lit (by decide +kernel)) ?_; intro r n hr) | (refine wpList_fcmp rfl rfl (by first | exact .inl rfl | exact .inr (.inl rfl) | exact .inr (.inr (.inl rfl)) | exact .inr (.inr (.inr (.inl rfl))) | exact .inr (.inr (.inr (.inr (.inl rfl)))) | exact .inr (.inr (.inr (.inr (.inr rfl))))) rfl rfl (by first | assumption | exact isF_ofInt _ _ | exact IsF.lit (by decide +kernel)) (by first | assumption | exact isF_ofInt _ _ | exact IsF.lit (by decide +kernel)) (by first | assumption | exact rfl) ?_) | (first | (refine wpList_fsame rfl rfl rfl (congrArg Option.isSome Try.underlying23) Try.underlying23 ?_) | (refine wpList_fsame rfl rfl rfl (congrArg Option.isSome Try.underlying25) Try.underlying25 ?_)) | (refine wpList_fwid rfl rfl rfl (congrArg Option.isSome Try.underlying23) Try.underlying25 (by assumption) ?_; intro r n hr) | (refine wpList_fnar rfl rfl rfl (congrArg Option.isSome Try.underlying25) Try.underlying23 (by assumption) (by assumption) ?_; intro r n hr) | (refine wpList_fneg rfl rfl rfl (by assumption) ?_; intro r hr))
    go_ret
    exact ⟨rfl, rfl⟩
  | some x =>
    obtain ⟨rfl, _⟩ := h.num
    have hv : cmpF .neq .f32 (some b) (some b) = false := neq_self h
    go_enter Try.func25, Try.ntmps25
    go_wp2_with (first | (refine wpList_far rfl rfl (by first | exact .inl rfl | exact .inr (.inl rfl) | exact .inr (.inr (.inl rfl)) | exact .inr (.inr (.inr rfl))) rfl rfl (by first | assumption | exact isF_ofInt _ _ | exact IsF.lit (by decide +kernel)) (by first | assumption | exact isF_ofInt _ _ | exact IsF.lit (by decide +kernel)) ?_; intro r n hr) | (refine wpList_fcmp rfl rfl (by first | exact .inl rfl | exact .inr (.inl rfl) | exact .inr (.inr (.inl rfl)) | exact .inr (.inr (.inr (.inl rfl))) | exact .inr (.inr (.inr (.inr (.inl rfl)))) | exact .inr (.inr (.inr (.inr (.inr rfl))))) rfl rfl (by first | assumption | exact isF_ofInt _ _ | exact IsF.lit (by decide +kernel)) (by first | assumption | exact isF_ofInt _ _ | exact IsF.lit (by decide +kernel)) (by first | assumption | exact rfl) ?_) | (first | (refine wpList_fsame rfl rfl rfl (congrArg Option.isSome Try.underlying23) Try.underlying23 ?_) | (refine wpList_fsame rfl rfl rfl (congrArg Option.isSome Try.underlying25) Try.underlying25 ?_)) | (refine wpList_fwid rfl rfl rfl (congrArg Option.isSome Try.underlying23) Try.underlying25 (by assumption) ?_; intro r n hr) | (refine wpList_fnar rfl rfl rfl (congrArg Option.isSome Try.underlying25) Try.underlying23 (by assumption) (by assumption) ?_; intro r n hr) | (refine wpList_fneg rfl rfl rfl (by assumption) ?_; intro r hr))
    go_ret
    exact ⟨rfl, rfl⟩
theorem iBitsOf_any (b : Nat) (v : Option Nat) (h : IsF .f32 b v) (w : World) :
    Calls Try.prog 16 #[.float .f32 b] w fun e w' => e = .returned (.int .i64 (bitsI v)) ∧ w' = w := by
  have hx := ext_f32bits
  have hb : b < 4294967296 := h.2
  cases v with
  | none =>
    have hv : cmpF .neq .f32 none none = true := rfl
    go_enter Try.func16, Try.ntmps16
    go_wp2_with (first | (refine wpList_far rfl rfl (by first | exact .inl rfl | exact .inr (.inl rfl) | exact .inr (.inr (.inl rfl)) | exact .inr (.inr (.inr rfl))) rfl rfl (by first | assumption | exact isF_ofInt _ _ | exact IsF.lit (by decide +kernel)) (by first | assumption | exact isF_ofInt _ _ | exact IsF.lit (by decide +kernel)) ?_; intro r n hr) | (refine wpList_fcmp rfl rfl (by first | exact .inl rfl | exact .inr (.inl rfl) | exact .inr (.inr (.inl rfl)) | exact .inr (.inr (.inr (.inl rfl))) | exact .inr (.inr (.inr (.inr (.inl rfl)))) | exact .inr (.inr (.inr (.inr (.inr rfl))))) rfl rfl (by first | assumption | exact isF_ofInt _ _ | exact IsF.lit (by decide +kernel)) (by first | assumption | exact isF_ofInt _ _ | exact IsF.lit (by decide +kernel)) (by first | assumption | exact rfl) ?_) | (first | (refine wpList_fsame rfl rfl rfl (congrArg Option.isSome Try.underlying23) Try.underlying23 ?_) | (refine wpList_fsame rfl rfl rfl (congrArg Option.isSome Try.underlying25) Try.underlying25 ?_)) | (refine wpList_fwid rfl rfl rfl (congrArg Option.isSome Try.underlying23) Try.underlying25 (by assumption) ?_; intro r n hr) | (refine wpList_fnar rfl rfl rfl (congrArg Option.isSome Try.underlying25) Try.underlying23 (by assumption) (by assumption) ?_; intro r n hr) | (refine wpList_fneg rfl rfl rfl (by assumption) ?_; intro r hr))
    go_ret
    exact ⟨rfl, rfl⟩
  | some x =>
    obtain ⟨rfl, _⟩ := h.num
    have hv : cmpF .neq .f32 (some b) (some b) = false := neq_self h
    go_enter Try.func16, Try.ntmps16
    go_wp2_with (first | (refine wpList_far rfl rfl (by first | exact .inl rfl | exact .inr (.inl rfl) | exact .inr (.inr (.inl rfl)) | exact .inr (.inr (.inr rfl))) rfl rfl (by first | assumption | exact isF_ofInt _ _ | exact IsF.lit (by decide +kernel)) (by first | assumption | exact isF_ofInt _ _ | exact IsF.lit (by decide +kernel)) ?_; intro r n hr) | (refine wpList_fcmp rfl rfl (by first | exact .inl rfl | exact .inr (.inl rfl) | exact .inr (.inr (.inl rfl)) | exact .inr (.inr (.inr (.inl rfl))) | exact .inr (.inr (.inr (.inr (.inl rfl)))) | exact .inr (.inr (.inr (.inr (.inr rfl))))) rfl rfl (by first | assumption | exact isF_ofInt _ _ | exact IsF.lit (by decide +kernel)) (by first | assumption | exact isF_ofInt _ _ | exact IsF.lit (by decide +kernel)) (by first | assumption | exact rfl) ?_) | (first | (refine wpList_fsame rfl rfl rfl (congrArg Option.isSome Try.underlying23) Try.underlying23 ?_) | (refine wpList_fsame rfl rfl rfl (congrArg Option.isSome Try.underlying25) Try.underlying25 ?_)) | (refine wpList_fwid rfl rfl rfl (congrArg Option.isSome Try.underlying23) Try.underlying25 (by assumption) ?_; intro r n hr) | (refine wpList_fnar rfl rfl rfl (congrArg Option.isSome Try.underlying25) Try.underlying23 (by assumption) (by assumption) ?_; intro r n hr) | (refine wpList_fneg rfl rfl rfl (by assumption) ?_; intro r hr))
    go_ret
    exact ⟨rfl, rfl⟩
theorem sBitsOf_any (b : Nat) (v : Option Nat) (h : IsF .f32 b v) (w : World) :
    Calls Try.prog 15 #[.float .f32 b] w fun e w' => e = .returned (.int .i64 (bitsI v)) ∧ w' = w := by
  go_enter Try.func15, Try.ntmps15
  go_wp2_with (go_at_call 25; refine (l01Bits_any _ _ h _).mono ?_; rintro e w' ⟨rfl, rfl⟩)
  go_ret
  exact ⟨rfl, rfl⟩
theorem l01Same_any (a b : Nat) (u v : Option Nat) (hu : IsF .f32 a u) (hv : IsF .f32 b v) (w : World) :
    Calls Try.prog 28 #[.float .f32 a, .float .f32 b] w fun e w' => e = .returned (.bool (bitsI u == bitsI v)) ∧ w' = w := by
  go_enter Try.func28, Try.ntmps28
  go_wp2_with fail
  refine (l01Bits_any _ _ hu _).mono ?_
  rintro e w' ⟨rfl, rfl⟩
  go_wp2_with fail
  refine (l01Bits_any _ _ hv _).mono ?_
  rintro e w' ⟨rfl, rfl⟩
  go_wp2_with fail
  go_ret
  exact ⟨rfl, rfl⟩
theorem sSameNumber_any (a b : Nat) (u v : Option Nat) (hu : IsF .f32 a u) (hv : IsF .f32 b v) (w : World) :
    Calls Try.prog 19 #[.float .f32 a, .float .f32 b] w fun e w' => e = .returned (.bool (bitsI u == bitsI v)) ∧ w' = w := by
  go_enter Try.func19, Try.ntmps19
  go_wp2_with (go_at_call 28; refine (l01Same_any _ _ _ _ hu hv _).mono ?_; rintro e w' ⟨rfl, rfl⟩)
  go_ret
  exact ⟨rfl, rfl⟩

theorem signbit_any (b : Nat) (v : Option Nat) (h : IsF .f64 b v) (w : World) :
    Calls Try.prog 29 #[.float .f64 b] w fun e w' => e = .returned (.bool (sg D b)) ∧ w' = w := by
  have hx := ext_f64bits
  have hb : b < 18446744073709551616 := h.2
  go_enter Try.func29, Try.ntmps29
  go_wp2_with fail
  go_ret
  have e : decide (wrap64 (b : Int) < 0) = sg D b := by
    unfold sg wrap64
    rw [D_sw, Bool.eq_iff_iff]
    simp
    omega
  exact ⟨congrArg (fun x => Ending.returned (Value.bool x)) e, rfl⟩
theorem abs_any (b : Nat) (v : Option Nat) (h : IsF .f64 b v) (w : World) :
    Calls Try.prog 27 #[.float .f64 b] w fun e w' => e = .returned (.float .f64 (low63 b)) ∧ IsF .f64 (low63 b) (absF v) ∧ w' = w := by
  have hx := ext_f64bits
  have hy := ext_f64from
  have hb : bits .andNot .u64 (b : Int) 9223372036854775808 = ((low63 b : Nat) : Int) := andNot63 b h.2
  go_enter Try.func27, Try.ntmps27
  go_wp2_with fail
  go_ret
  exact ⟨rfl, isF_abs h, rfl⟩
theorem iIsSubnormal_any (b : Nat) (v : Option Nat) (h : IsF .f32 b v) (w : World) :
    Calls Try.prog 18 #[.float .f32 b] w (Ret w (.bool (subF v))) := by
  cases h1 : cmpF .neq .f32 v (some 0)
  · go_enter Try.func18, Try.ntmps18
    go_wp2_with (first | (refine wpList_far rfl rfl (by first | exact .inl rfl | exact .inr (.inl rfl) | exact .inr (.inr (.inl rfl)) | exact .inr (.inr (.inr rfl))) rfl rfl (by first | assumption | exact isF_ofInt _ _ | exact IsF.lit (by decide +kernel)) (by first | assumption | exact isF_ofInt _ _ | exact IsF.lit (by decide +kernel)) ?_; intro r n hr) | (refine wpList_fcmp rfl rfl (by first | exact .inl rfl | exact .inr (.inl rfl) | exact .inr (.inr (.inl rfl)) | exact .inr (.inr (.inr (.inl rfl))) | exact .inr (.inr (.inr (.inr (.inl rfl)))) | exact .inr (.inr (.inr (.inr (.inr rfl))))) rfl rfl (by first | assumption | exact isF_ofInt _ _ | exact IsF.lit (by decide +kernel)) (by first | assumption | exact isF_ofInt _ _ | exact IsF.lit (by decide +kernel)) (by first | assumption | exact rfl) ?_) | (first | (refine wpList_fsame rfl rfl rfl (congrArg Option.isSome Try.underlying23) Try.underlying23 ?_) | (refine wpList_fsame rfl rfl rfl (congrArg Option.isSome Try.underlying25) Try.underlying25 ?_)) | (refine wpList_fwid rfl rfl rfl (congrArg Option.isSome Try.underlying23) Try.underlying25 (by assumption) ?_; intro r n hr) | (refine wpList_fnar rfl rfl rfl (congrArg Option.isSome Try.underlying25) Try.underlying23 (by assumption) (by assumption) ?_; intro r n hr) | (refine wpList_fneg rfl rfl rfl (by assumption) ?_; intro r hr))
    go_ret
    obtain ⟨r, n, _, hr⟩ := run_wid (P := Try.prog) w h
    refine ret_mk0 ?_
    rw [← subF_eq h hr, h1]
    rfl
  · go_enter Try.func18, Try.ntmps18
    go_wp2_with (first | (refine wpList_far rfl rfl (by first | exact .inl rfl | exact .inr (.inl rfl) | exact .inr (.inr (.inl rfl)) | exact .inr (.inr (.inr rfl))) rfl rfl (by first | assumption | exact isF_ofInt _ _ | exact IsF.lit (by decide +kernel)) (by first | assumption | exact isF_ofInt _ _ | exact IsF.lit (by decide +kernel)) ?_; intro r n hr) | (refine wpList_fcmp rfl rfl (by first | exact .inl rfl | exact .inr (.inl rfl) | exact .inr (.inr (.inl rfl)) | exact .inr (.inr (.inr (.inl rfl))) | exact .inr (.inr (.inr (.inr (.inl rfl)))) | exact .inr (.inr (.inr (.inr (.inr rfl))))) rfl rfl (by first | assumption | exact isF_ofInt _ _ | exact IsF.lit (by decide +kernel)) (by first | assumption | exact isF_ofInt _ _ | exact IsF.lit (by decide +kernel)) (by first | assumption | exact rfl) ?_) | (first | (refine wpList_fsame rfl rfl rfl (congrArg Option.isSome Try.underlying23) Try.underlying23 ?_) | (refine wpList_fsame rfl rfl rfl (congrArg Option.isSome Try.underlying25) Try.underlying25 ?_)) | (refine wpList_fwid rfl rfl rfl (congrArg Option.isSome Try.underlying23) Try.underlying25 (by assumption) ?_; intro r n hr) | (refine wpList_fnar rfl rfl rfl (congrArg Option.isSome Try.underlying25) Try.underlying23 (by assumption) (by assumption) ?_; intro r n hr) | (refine wpList_fneg rfl rfl rfl (by assumption) ?_; intro r hr) | (go_at_call 27; refine (abs_any _ _ (by assumption) _).mono ?_; rintro e w' ⟨rfl, hab, rfl⟩))
    go_ret
    obtain ⟨r, n, _, hr⟩ := run_wid (P := Try.prog) w h
    refine ret_mk ?_
    rw [← subF_eq h hr, h1, Bool.true_and]
    rfl
theorem sIsSubnormal_any (b : Nat) (v : Option Nat) (h : IsF .f32 b v) (w : World) :
    Calls Try.prog 17 #[.float .f32 b] w fun e w' => e = .returned (.bool (subF v)) ∧ w' = w := by
  have hb : b < 4294967296 := h.2
  have h0 := neq_zero h
  cases v with
  | none =>
    have hz : bits .and .i64 2143289344 2139095040 = 2139095040 := by decide +kernel
    have h1 : cmpF .neq .f32 none (some 0) = true := rfl
    go_enter Try.func17, Try.ntmps17
    go_wp2_with (first | (refine wpList_far rfl rfl (by first | exact .inl rfl | exact .inr (.inl rfl) | exact .inr (.inr (.inl rfl)) | exact .inr (.inr (.inr rfl))) rfl rfl (by first | assumption | exact isF_ofInt _ _ | exact IsF.lit (by decide +kernel)) (by first | assumption | exact isF_ofInt _ _ | exact IsF.lit (by decide +kernel)) ?_; intro r n hr) | (refine wpList_fcmp rfl rfl (by first | exact .inl rfl | exact .inr (.inl rfl) | exact .inr (.inr (.inl rfl)) | exact .inr (.inr (.inr (.inl rfl))) | exact .inr (.inr (.inr (.inr (.inl rfl)))) | exact .inr (.inr (.inr (.inr (.inr rfl))))) rfl rfl (by first | assumption | exact isF_ofInt _ _ | exact IsF.lit (by decide +kernel)) (by first | assumption | exact isF_ofInt _ _ | exact IsF.lit (by decide +kernel)) (by first | assumption | exact rfl) ?_) | (first | (refine wpList_fsame rfl rfl rfl (congrArg Option.isSome Try.underlying23) Try.underlying23 ?_) | (refine wpList_fsame rfl rfl rfl (congrArg Option.isSome Try.underlying25) Try.underlying25 ?_)) | (refine wpList_fwid rfl rfl rfl (congrArg Option.isSome Try.underlying23) Try.underlying25 (by assumption) ?_; intro r n hr) | (refine wpList_fnar rfl rfl rfl (congrArg Option.isSome Try.underlying25) Try.underlying23 (by assumption) (by assumption) ?_; intro r n hr) | (refine wpList_fneg rfl rfl rfl (by assumption) ?_; intro r hr) | (go_at_call 25; refine (l01Bits_any _ _ h _).mono ?_; rintro e w' ⟨rfl, rfl⟩; simp only [bitsI]))
    go_ret
    exact ⟨rfl, rfl⟩
  | some x =>
    obtain ⟨rfl, _⟩ := h.num
    have hz : bits .and .i64 (b : Int) 2139095040 = ((b &&& 2139095040 : Nat) : Int) := i64_and_nat b 2139095040 (by omega) (by decide)
    have hs : subF (some b) = decide (0 < rg S b ∧ (b &&& 2139095040) = 0) := by
      unfold subF
      rw [Bool.eq_iff_iff]
      simp [mask_exp_zero]
    have Hs := Lib.hid hs
    clear hs
    cases h1 : cmpF .neq .f32 (some b) (some 0)
    · rw [h1] at h0
      have h0' : rg S b = 0 := by simpa using h0.symm
      have H0 := Lib.hid h0'
      clear h0 h0'
      go_enter Try.func17, Try.ntmps17
      go_wp2_with (first | (refine wpList_far rfl rfl (by first | exact .inl rfl | exact .inr (.inl rfl) | exact .inr (.inr (.inl rfl)) | exact .inr (.inr (.inr rfl))) rfl rfl (by first | assumption | exact isF_ofInt _ _ | exact IsF.lit (by decide +kernel)) (by first | assumption | exact isF_ofInt _ _ | exact IsF.lit (by decide +kernel)) ?_; intro r n hr) | (refine wpList_fcmp rfl rfl (by first | exact .inl rfl | exact .inr (.inl rfl) | exact .inr (.inr (.inl rfl)) | exact .inr (.inr (.inr (.inl rfl))) | exact .inr (.inr (.inr (.inr (.inl rfl)))) | exact .inr (.inr (.inr (.inr (.inr rfl))))) rfl rfl (by first | assumption | exact isF_ofInt _ _ | exact IsF.lit (by decide +kernel)) (by first | assumption | exact isF_ofInt _ _ | exact IsF.lit (by decide +kernel)) (by first | assumption | exact rfl) ?_) | (first | (refine wpList_fsame rfl rfl rfl (congrArg Option.isSome Try.underlying23) Try.underlying23 ?_) | (refine wpList_fsame rfl rfl rfl (congrArg Option.isSome Try.underlying25) Try.underlying25 ?_)) | (refine wpList_fwid rfl rfl rfl (congrArg Option.isSome Try.underlying23) Try.underlying25 (by assumption) ?_; intro r n hr) | (refine wpList_fnar rfl rfl rfl (congrArg Option.isSome Try.underlying25) Try.underlying23 (by assumption) (by assumption) ?_; intro r n hr) | (refine wpList_fneg rfl rfl rfl (by assumption) ?_; intro r hr) | (go_at_call 25; refine (l01Bits_any _ _ h _).mono ?_; rintro e w' ⟨rfl, rfl⟩; simp only [bitsI]))
      go_ret
      refine ⟨?_, rfl⟩
      rw [Hs.out, H0.out]
      rfl
    · rw [h1] at h0
      have hp : 0 < rg S b := by
        have : rg S b ≠ 0 := by simpa using h0.symm
        omega
      rw [Hs.out]
      generalize hm : b &&& 2139095040 = m at *
      have Hm := Lib.hid hm
      clear hm h0 Hs
      go_enter Try.func17, Try.ntmps17
      go_wp2_with (first | (refine wpList_far rfl rfl (by first | exact .inl rfl | exact .inr (.inl rfl) | exact .inr (.inr (.inl rfl)) | exact .inr (.inr (.inr rfl))) rfl rfl (by first | assumption | exact isF_ofInt _ _ | exact IsF.lit (by decide +kernel)) (by first | assumption | exact isF_ofInt _ _ | exact IsF.lit (by decide +kernel)) ?_; intro r n hr) | (refine wpList_fcmp rfl rfl (by first | exact .inl rfl | exact .inr (.inl rfl) | exact .inr (.inr (.inl rfl)) | exact .inr (.inr (.inr (.inl rfl))) | exact .inr (.inr (.inr (.inr (.inl rfl)))) | exact .inr (.inr (.inr (.inr (.inr rfl))))) rfl rfl (by first | assumption | exact isF_ofInt _ _ | exact IsF.lit (by decide +kernel)) (by first | assumption | exact isF_ofInt _ _ | exact IsF.lit (by decide +kernel)) (by first | assumption | exact rfl) ?_) | (first | (refine wpList_fsame rfl rfl rfl (congrArg Option.isSome Try.underlying23) Try.underlying23 ?_) | (refine wpList_fsame rfl rfl rfl (congrArg Option.isSome Try.underlying25) Try.underlying25 ?_)) | (refine wpList_fwid rfl rfl rfl (congrArg Option.isSome Try.underlying23) Try.underlying25 (by assumption) ?_; intro r n hr) | (refine wpList_fnar rfl rfl rfl (congrArg Option.isSome Try.underlying25) Try.underlying23 (by assumption) (by assumption) ?_; intro r n hr) | (refine wpList_fneg rfl rfl rfl (by assumption) ?_; intro r hr) | (go_at_call 25; refine (l01Bits_any _ _ h _).mono ?_; rintro e w' ⟨rfl, rfl⟩; simp only [bitsI]))
      go_ret
      refine ⟨?_, rfl⟩
      have e : ((m : Int) == 0) = decide (0 < rg S b ∧ m = 0) := by
        rw [Bool.eq_iff_iff]
        simp [hp]
      exact congrArg (fun x => Ending.returned (Value.bool x)) e
theorem iSameNumber_any (a b : Nat) (u v : Option Nat) (hu : IsF .f32 a u) (hv : IsF .f32 b v) (w : World) :
    Calls Try.prog 20 #[.float .f32 a, .float .f32 b] w (Ret w (.bool (bitsI u == bitsI v))) := by
  have hs : (bitsI u == bitsI v) = decide (u = v) := same_bits hu hv
  rw [hs]
  clear hs
  cases u with
  | none =>
    have h1 : cmpF .neq .f32 none none = true := rfl
    cases v with
    | none =>
      go_enter Try.func20, Try.ntmps20
      go_wp2_with (first | (refine wpList_far rfl rfl (by first | exact .inl rfl | exact .inr (.inl rfl) | exact .inr (.inr (.inl rfl)) | exact .inr (.inr (.inr rfl))) rfl rfl (by first | assumption | exact isF_ofInt _ _ | exact IsF.lit (by decide +kernel)) (by first | assumption | exact isF_ofInt _ _ | exact IsF.lit (by decide +kernel)) ?_; intro r n hr) | (refine wpList_fcmp rfl rfl (by first | exact .inl rfl | exact .inr (.inl rfl) | exact .inr (.inr (.inl rfl)) | exact .inr (.inr (.inr (.inl rfl))) | exact .inr (.inr (.inr (.inr (.inl rfl)))) | exact .inr (.inr (.inr (.inr (.inr rfl))))) rfl rfl (by first | assumption | exact isF_ofInt _ _ | exact IsF.lit (by decide +kernel)) (by first | assumption | exact isF_ofInt _ _ | exact IsF.lit (by decide +kernel)) (by first | assumption | exact rfl) ?_) | (first | (refine wpList_fsame rfl rfl rfl (congrArg Option.isSome Try.underlying23) Try.underlying23 ?_) | (refine wpList_fsame rfl rfl rfl (congrArg Option.isSome Try.underlying25) Try.underlying25 ?_)) | (refine wpList_fwid rfl rfl rfl (congrArg Option.isSome Try.underlying23) Try.underlying25 (by assumption) ?_; intro r n hr) | (refine wpList_fnar rfl rfl rfl (congrArg Option.isSome Try.underlying25) Try.underlying23 (by assumption) (by assumption) ?_; intro r n hr) | (refine wpList_fneg rfl rfl rfl (by assumption) ?_; intro r hr))
      go_ret
      exact ret_mk0 rfl
    | some y =>
      obtain ⟨rfl, _⟩ := hv.num
      have h2 : cmpF .neq .f32 (some b) (some b) = false := neq_self hv
      go_enter Try.func20, Try.ntmps20
      go_wp2_with (first | (refine wpList_far rfl rfl (by first | exact .inl rfl | exact .inr (.inl rfl) | exact .inr (.inr (.inl rfl)) | exact .inr (.inr (.inr rfl))) rfl rfl (by first | assumption | exact isF_ofInt _ _ | exact IsF.lit (by decide +kernel)) (by first | assumption | exact isF_ofInt _ _ | exact IsF.lit (by decide +kernel)) ?_; intro r n hr) | (refine wpList_fcmp rfl rfl (by first | exact .inl rfl | exact .inr (.inl rfl) | exact .inr (.inr (.inl rfl)) | exact .inr (.inr (.inr (.inl rfl))) | exact .inr (.inr (.inr (.inr (.inl rfl)))) | exact .inr (.inr (.inr (.inr (.inr rfl))))) rfl rfl (by first | assumption | exact isF_ofInt _ _ | exact IsF.lit (by decide +kernel)) (by first | assumption | exact isF_ofInt _ _ | exact IsF.lit (by decide +kernel)) (by first | assumption | exact rfl) ?_) | (first | (refine wpList_fsame rfl rfl rfl (congrArg Option.isSome Try.underlying23) Try.underlying23 ?_) | (refine wpList_fsame rfl rfl rfl (congrArg Option.isSome Try.underlying25) Try.underlying25 ?_)) | (refine wpList_fwid rfl rfl rfl (congrArg Option.isSome Try.underlying23) Try.underlying25 (by assumption) ?_; intro r n hr) | (refine wpList_fnar rfl rfl rfl (congrArg Option.isSome Try.underlying25) Try.underlying23 (by assumption) (by assumption) ?_; intro r n hr) | (refine wpList_fneg rfl rfl rfl (by assumption) ?_; intro r hr))
      go_ret
      exact ret_mk0 rfl
  | some x =>
    obtain ⟨rfl, _⟩ := hu.num
    have h1 : cmpF .neq .f32 (some a) (some a) = false := neq_self hu
    cases v with
    | none =>
      have h2 : cmpF .neq .f32 none none = true := rfl
      go_enter Try.func20, Try.ntmps20
      go_wp2_with (first | (refine wpList_far rfl rfl (by first | exact .inl rfl | exact .inr (.inl rfl) | exact .inr (.inr (.inl rfl)) | exact .inr (.inr (.inr rfl))) rfl rfl (by first | assumption | exact isF_ofInt _ _ | exact IsF.lit (by decide +kernel)) (by first | assumption | exact isF_ofInt _ _ | exact IsF.lit (by decide +kernel)) ?_; intro r n hr) | (refine wpList_fcmp rfl rfl (by first | exact .inl rfl | exact .inr (.inl rfl) | exact .inr (.inr (.inl rfl)) | exact .inr (.inr (.inr (.inl rfl))) | exact .inr (.inr (.inr (.inr (.inl rfl)))) | exact .inr (.inr (.inr (.inr (.inr rfl))))) rfl rfl (by first | assumption | exact isF_ofInt _ _ | exact IsF.lit (by decide +kernel)) (by first | assumption | exact isF_ofInt _ _ | exact IsF.lit (by decide +kernel)) (by first | assumption | exact rfl) ?_) | (first | (refine wpList_fsame rfl rfl rfl (congrArg Option.isSome Try.underlying23) Try.underlying23 ?_) | (refine wpList_fsame rfl rfl rfl (congrArg Option.isSome Try.underlying25) Try.underlying25 ?_)) | (refine wpList_fwid rfl rfl rfl (congrArg Option.isSome Try.underlying23) Try.underlying25 (by assumption) ?_; intro r n hr) | (refine wpList_fnar rfl rfl rfl (congrArg Option.isSome Try.underlying25) Try.underlying23 (by assumption) (by assumption) ?_; intro r n hr) | (refine wpList_fneg rfl rfl rfl (by assumption) ?_; intro r hr))
      go_ret
      exact ret_mk0 rfl
    | some y =>
      obtain ⟨rfl, _⟩ := hv.num
      have h2 : cmpF .neq .f32 (some b) (some b) = false := neq_self hv
      cases h3 : cmpF .eql .f32 (some a) (some b)
      · have hab : a ≠ b := by
          rintro rfl
          rw [eql_self hu] at h3
          cases h3
        have Hab := Lib.hid hab
        clear hab
        go_enter Try.func20, Try.ntmps20
        go_wp2_with (first | (refine wpList_far rfl rfl (by first | exact .inl rfl | exact .inr (.inl rfl) | exact .inr (.inr (.inl rfl)) | exact .inr (.inr (.inr rfl))) rfl rfl (by first | assumption | exact isF_ofInt _ _ | exact IsF.lit (by decide +kernel)) (by first | assumption | exact isF_ofInt _ _ | exact IsF.lit (by decide +kernel)) ?_; intro r n hr) | (refine wpList_fcmp rfl rfl (by first | exact .inl rfl | exact .inr (.inl rfl) | exact .inr (.inr (.inl rfl)) | exact .inr (.inr (.inr (.inl rfl))) | exact .inr (.inr (.inr (.inr (.inl rfl)))) | exact .inr (.inr (.inr (.inr (.inr rfl))))) rfl rfl (by first | assumption | exact isF_ofInt _ _ | exact IsF.lit (by decide +kernel)) (by first | assumption | exact isF_ofInt _ _ | exact IsF.lit (by decide +kernel)) (by first | assumption | exact rfl) ?_) | (first | (refine wpList_fsame rfl rfl rfl (congrArg Option.isSome Try.underlying23) Try.underlying23 ?_) | (refine wpList_fsame rfl rfl rfl (congrArg Option.isSome Try.underlying25) Try.underlying25 ?_)) | (refine wpList_fwid rfl rfl rfl (congrArg Option.isSome Try.underlying23) Try.underlying25 (by assumption) ?_; intro r n hr) | (refine wpList_fnar rfl rfl rfl (congrArg Option.isSome Try.underlying25) Try.underlying23 (by assumption) (by assumption) ?_; intro r n hr) | (refine wpList_fneg rfl rfl rfl (by assumption) ?_; intro r hr))
        go_ret
        refine ret_mk0 ?_
        simp [Hab.out]
      · go_enter Try.func20, Try.ntmps20
        go_wp2_with (first | (refine wpList_far rfl rfl (by first | exact .inl rfl | exact .inr (.inl rfl) | exact .inr (.inr (.inl rfl)) | exact .inr (.inr (.inr rfl))) rfl rfl (by first | assumption | exact isF_ofInt _ _ | exact IsF.lit (by decide +kernel)) (by first | assumption | exact isF_ofInt _ _ | exact IsF.lit (by decide +kernel)) ?_; intro r n hr) | (refine wpList_fcmp rfl rfl (by first | exact .inl rfl | exact .inr (.inl rfl) | exact .inr (.inr (.inl rfl)) | exact .inr (.inr (.inr (.inl rfl))) | exact .inr (.inr (.inr (.inr (.inl rfl)))) | exact .inr (.inr (.inr (.inr (.inr rfl))))) rfl rfl (by first | assumption | exact isF_ofInt _ _ | exact IsF.lit (by decide +kernel)) (by first | assumption | exact isF_ofInt _ _ | exact IsF.lit (by decide +kernel)) (by first | assumption | exact rfl) ?_) | (first | (refine wpList_fsame rfl rfl rfl (congrArg Option.isSome Try.underlying23) Try.underlying23 ?_) | (refine wpList_fsame rfl rfl rfl (congrArg Option.isSome Try.underlying25) Try.underlying25 ?_)) | (refine wpList_fwid rfl rfl rfl (congrArg Option.isSome Try.underlying23) Try.underlying25 (by assumption) ?_; intro r n hr) | (refine wpList_fnar rfl rfl rfl (congrArg Option.isSome Try.underlying25) Try.underlying23 (by assumption) (by assumption) ?_; intro r n hr) | (refine wpList_fneg rfl rfl rfl (by assumption) ?_; intro r hr) | (go_at_call 29; refine (signbit_any _ _ (by assumption) _).mono ?_; rintro e w' ⟨rfl, rfl⟩))
        go_ret
        refine ret_mk ?_
        have e1 : ∀ r, IsF .f64 r (wid (some a)) → sg D r = sg S a := fun r h => sg_wid hu h
        have e2 : ∀ r, IsF .f64 r (wid (some b)) → sg D r = sg S b := fun r h => sg_wid hv h
        refine congrArg Value.bool ?_
        rw [e1 _ (by assumption), e2 _ (by assumption)]
        by_cases hsg : sg S a = sg S b
        · have := same_eq hu hv hsg
          rw [h3] at this
          have hab : a = b := by simpa using this.symm
          subst hab
          simp
        · have hab : a ≠ b := by rintro rfl; exact hsg rfl
          simp [hsg, hab]
end Go.Proofs.Ytnaabapgejpjnaa
