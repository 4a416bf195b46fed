/-
  Contracts: flushing, square roots, narrowing.
-/
import Derived.Test.YtgaecoekhcdaeaaGreatDoorMore
import Derived.Test.YtgaecoekhcdaeaaGreatDoorRoot
namespace Go.Proofs.YtgaecoekhcdaeaaGreatDoor
set_option linter.unusedVariables false
set_option linter.unusedSimpArgs false
set_option maxRecDepth 20000
open Go.RowKit Fl

theorem l01Narrow_any (b : Nat) (v : Option Nat) (h : IsF .f64 b v) (hn : NarOk v) (w : World) :
    Calls Tryz.prog 73 #[.float .f64 b] w (RetF w .f32 (nar v)) := by
  go_enter Tryz.func73, Tryz.ntmps73
  go_wp2_with (first | (refine wpList_far rfl rfl (by first | exact .inl rfl | exact .inr (.inl rfl) | exact .inr (.inr (.inl rfl)) | exact .inr (.inr (.inr rfl))) rfl rfl (by first | assumption | exact isF_ofInt _ _ | exact IsF.lit (by decide +kernel)) (by first | assumption | exact isF_ofInt _ _ | exact IsF.lit (by decide +kernel)) ?_; intro r n hr) | (refine wpList_fcmp rfl rfl (by first | exact .inl rfl | exact .inr (.inl rfl) | exact .inr (.inr (.inl rfl)) | exact .inr (.inr (.inr (.inl rfl))) | exact .inr (.inr (.inr (.inr (.inl rfl)))) | exact .inr (.inr (.inr (.inr (.inr rfl))))) rfl rfl (by first | assumption | exact isF_ofInt _ _ | exact IsF.lit (by decide +kernel)) (by first | assumption | exact isF_ofInt _ _ | exact IsF.lit (by decide +kernel)) (by first | assumption | exact rfl) ?_) | (first | (refine wpList_fsame rfl rfl rfl (congrArg Option.isSome Tryz.underlying28) Tryz.underlying28 ?_) | (refine wpList_fsame rfl rfl rfl (congrArg Option.isSome Tryz.underlying46) Tryz.underlying46 ?_)) | (refine wpList_fwid rfl rfl rfl (congrArg Option.isSome Tryz.underlying28) Tryz.underlying46 (by assumption) ?_; intro r n hr) | (refine wpList_fnar rfl rfl rfl (congrArg Option.isSome Tryz.underlying46) Tryz.underlying28 (by assumption) (by assumption) ?_; intro r n hr) | (refine wpList_fneg rfl rfl rfl (by assumption) ?_; intro r hr))
  go_ret
  exact ⟨_, _, rfl, by assumption, rfl⟩
theorem sqrt_fn {b : Nat} {v : Option Nat} (h : IsF .f64 b v) : ∃ c n : World → Nat, (∀ w, (callFunc 72 #[.float .f64 b]).run Tryz.prog w = .ok (.value (.float .f64 (c w))) (w.drewN (n w))) ∧ ∀ w, IsF .f64 (c w) (sqrt v) := by
  have h1 : ∀ w : World, ∃ x : Nat × Nat, (callFunc 72 #[.float .f64 b]).run Tryz.prog w = .ok (.value (.float .f64 x.1)) (w.drewN x.2) ∧ IsF .f64 x.1 (sqrt v) := fun w => by
    obtain ⟨r, n, h2, h3⟩ := run_sqrt (P := Tryz.prog) w h
    refine ⟨(r, n), ?_, h3⟩
    rw [run_callFunc_extern (fn := Tryz.f72) (e := Extern.MathSqrt.sqrt) Tryz.func72 (by kernel_rfl) (by kernel_rfl) (by kernel_rfl) (by kernel_rfl), h2]
    rfl
  obtain ⟨f, hf⟩ := Classical.axiomOfChoice h1
  exact ⟨fun w => (f w).1, fun w => (f w).2, fun w => (hf w).1, fun w => (hf w).2⟩
theorem mathSqrt_any (b : Nat) (v : Option Nat) (h : IsF .f64 b v) (w : World) :
    Calls Tryz.prog 43 #[.float .f64 b] w (RetF w .f64 (sqrt v)) := by
  obtain ⟨c, n, hc, hi⟩ := sqrt_fn h
  go_enter Tryz.func43, Tryz.ntmps43
  go_wp2_with fail
  go_ret
  exact ⟨_, _, rfl, hi _, rfl⟩
theorem l01Sqrt_any (b : Nat) (v : Option Nat) (h : IsF .f32 b v) (w : World) :
    Calls Tryz.prog 44 #[.float .f32 b] w (RetF w .f32 (nar (sqrt (wid v)))) := by
  obtain ⟨r0, n0, _, hr0⟩ := run_wid (P := Tryz.prog) w h
  have hn := narOk_sqrt h hr0
  clear hr0
  go_enter Tryz.func44, Tryz.ntmps44
  go_wp2_with (first | (refine wpList_far rfl rfl (by first | exact .inl rfl | exact .inr (.inl rfl) | exact .inr (.inr (.inl rfl)) | exact .inr (.inr (.inr rfl))) rfl rfl (by first | assumption | exact isF_ofInt _ _ | exact IsF.lit (by decide +kernel)) (by first | assumption | exact isF_ofInt _ _ | exact IsF.lit (by decide +kernel)) ?_; intro r n hr) | (refine wpList_fcmp rfl rfl (by first | exact .inl rfl | exact .inr (.inl rfl) | exact .inr (.inr (.inl rfl)) | exact .inr (.inr (.inr (.inl rfl))) | exact .inr (.inr (.inr (.inr (.inl rfl)))) | exact .inr (.inr (.inr (.inr (.inr rfl))))) rfl rfl (by first | assumption | exact isF_ofInt _ _ | exact IsF.lit (by decide +kernel)) (by first | assumption | exact isF_ofInt _ _ | exact IsF.lit (by decide +kernel)) (by first | assumption | exact rfl) ?_) | (first | (refine wpList_fsame rfl rfl rfl (congrArg Option.isSome Tryz.underlying28) Tryz.underlying28 ?_) | (refine wpList_fsame rfl rfl rfl (congrArg Option.isSome Tryz.underlying46) Tryz.underlying46 ?_)) | (refine wpList_fwid rfl rfl rfl (congrArg Option.isSome Tryz.underlying28) Tryz.underlying46 (by assumption) ?_; intro r n hr) | (refine wpList_fnar rfl rfl rfl (congrArg Option.isSome Tryz.underlying46) Tryz.underlying28 (by assumption) (by assumption) ?_; intro r n hr) | (refine wpList_fneg rfl rfl rfl (by assumption) ?_; intro r hr) | (go_at_call 43; refine (mathSqrt_any _ _ (by assumption) _).mono ?_; rintro e w' ⟨r, n, rfl, hr, rfl⟩) | (go_at_call 73; refine (l01Narrow_any _ _ (by assumption) hn _).mono ?_; rintro e w' ⟨r, n, rfl, hr, rfl⟩))
  go_ret
  exact ⟨_, _, rfl, by assumption, rfl⟩
theorem sRootNumber_any (b : Nat) (v : Option Nat) (h : IsF .f32 b v) (w : World) :
    Calls Tryz.prog 12 #[.float .f32 b] w (RetF w .f32 (nar (sqrt (wid v)))) := by
  go_enter Tryz.func12, Tryz.ntmps12
  go_wp2_with (first | (go_at_call 44; refine (l01Sqrt_any _ _ (by assumption) _).mono ?_; rintro e w' ⟨r, n, rfl, hr, rfl⟩))
  go_ret
  exact ⟨_, _, rfl, by assumption, rfl⟩

/-- The highest bit. -/
def hi63 (b : Nat) : Nat := b / 9223372036854775808 % 2 * 9223372036854775808
def hi31 (b : Nat) : Nat := b / 2147483648 % 2 * 2147483648
theorem and_hi63 (b : Nat) (h : b < 18446744073709551616) : bits .and .u64 (b : Int) 9223372036854775808 = ((hi63 b : Nat) : Int) := by
  have e := u64_and_nat b 9223372036854775808 h (by decide)
  have e2 : b &&& 9223372036854775808 = hi63 b := nat_bit 63 b
  rw [e2] at e
  exact e
theorem and_hi31 (b : Nat) (h : b < 4294967296) : bits .and .i64 (b : Int) 2147483648 = ((hi31 b : Nat) : Int) := by
  have e := i64_and_nat b 2147483648 (by omega) (by decide)
  have e2 : b &&& 2147483648 = hi31 b := nat_bit 31 b
  rw [e2] at e
  exact e
theorem or_hi63 (b : Nat) : bits .or .u64 0 ((hi63 b : Nat) : Int) = ((hi63 b : Nat) : Int) := by
  have hl : hi63 b < 18446744073709551616 := by unfold hi63; omega
  have e := u64_or_nat 0 (hi63 b) (by decide) hl
  rw [Nat.zero_or] at e
  exact e
theorem hi63_cases (b : Nat) : hi63 b = 0 ∨ hi63 b = 9223372036854775808 := by
  unfold hi63
  rcases (by omega : b / 9223372036854775808 % 2 = 0 ∨ b / 9223372036854775808 % 2 = 1) with h | h <;> rw [h] <;> simp
theorem isF_hi63 (b : Nat) : IsF .f64 (hi63 b) (some (hi63 b)) := by
  rcases hi63_cases b with h | h <;> rw [h] <;> exact IsF.lit (by decide +kernel)
theorem narOk_hi63 (b : Nat) : NarOk (some (hi63 b)) := by
  rcases hi63_cases b with h | h <;> rw [h] <;> (rintro x ⟨⟩; right; decide +kernel)

theorem copysign_any (b : Nat) (hb : b < 18446744073709551616) (w : World) :
    Calls Tryz.prog 62 #[.float .f64 0, .float .f64 b] w fun e w' => e = .returned (.float .f64 (hi63 b)) ∧ IsF .f64 (hi63 b) (some (hi63 b)) ∧ NarOk (some (hi63 b)) ∧ w' = w := by
  have hx := ext_f64bits
  have hx0 : ∀ w, (callFunc 86 #[.float .f64 0]).run Tryz.prog w = .ok (.value (.int .u64 0)) w := fun w => ext_f64bits 0 w
  have hy := ext_f64from
  have h1 : bits .andNot .u64 0 9223372036854775808 = 0 := by decide +kernel
  have h2 := and_hi63 b hb
  have h3 := or_hi63 b
  go_enter Tryz.func62, Tryz.ntmps62
  go_wp2_with fail
  go_ret
  exact ⟨rfl, isF_hi63 _, narOk_hi63 _, rfl⟩

/-- A subnormal number becomes a zero of its sign. -/
def flushF (v : Option Nat) : Option Nat := match v with | none => none | some b => if rg S b < S.binade then some (hi31 b) else some b

theorem nar_hi63 {b r : Nat} (h : IsF .f32 b (some b)) (hr : IsF .f64 r (wid (some b))) : nar (some (hi63 r)) = some (hi31 b) := by
  have hs := sg_wid h hr
  have e1 : hi63 r = if sg D r then 9223372036854775808 else 0 := by
    unfold hi63 sg
    rw [D_sw]
    rcases (by omega : r / 9223372036854775808 % 2 = 0 ∨ r / 9223372036854775808 % 2 = 1) with h | h <;> rw [h] <;> simp
  have e2 : hi31 b = if sg S b then 2147483648 else 0 := by
    unfold hi31 sg
    rw [S_sw]
    rcases (by omega : b / 2147483648 % 2 = 0 ∨ b / 2147483648 % 2 = 1) with h | h <;> rw [h] <;> simp
  rw [e1, e2, hs]
  cases sg S b <;> decide +kernel

theorem iFlushNumber_any (b : Nat) (v : Option Nat) (h : IsF .f32 b v) (w : World) :
    Calls Tryz.prog 28 #[.float .f32 b] w (RetF w .f32 (flushF v)) := by
  cases hv : subF v
  · have e : flushF v = v := by
      cases v with
      | none => rfl
      | some x =>
        obtain ⟨rfl, _⟩ := h.num
        show (if rg S b < S.binade then some (hi31 b) else some b) = some b
        by_cases h1 : rg S b < S.binade
        · rw [if_pos h1]
          have h2 : rg S b = 0 := by
            unfold subF at hv
            simp at hv
            omega
          have hb : b < 4294967296 := h.2
          congr 1
          unfold hi31
          unfold rg at h2
          rw [S_sw] at h2
          omega
        · rw [if_neg h1]
    rw [e]
    clear e
    go_enter Tryz.func28, Tryz.ntmps28
    go_wp2_with (first | (refine wpList_far rfl rfl (by first | exact .inl rfl | exact .inr (.inl rfl) | exact .inr (.inr (.inl rfl)) | exact .inr (.inr (.inr rfl))) rfl rfl (by first | assumption | exact isF_ofInt _ _ | exact IsF.lit (by decide +kernel)) (by first | assumption | exact isF_ofInt _ _ | exact IsF.lit (by decide +kernel)) ?_; intro r n hr) | (refine wpList_fcmp rfl rfl (by first | exact .inl rfl | exact .inr (.inl rfl) | exact .inr (.inr (.inl rfl)) | exact .inr (.inr (.inr (.inl rfl))) | exact .inr (.inr (.inr (.inr (.inl rfl)))) | exact .inr (.inr (.inr (.inr (.inr rfl))))) rfl rfl (by first | assumption | exact isF_ofInt _ _ | exact IsF.lit (by decide +kernel)) (by first | assumption | exact isF_ofInt _ _ | exact IsF.lit (by decide +kernel)) (by first | assumption | exact rfl) ?_) | (first | (refine wpList_fsame rfl rfl rfl (congrArg Option.isSome Tryz.underlying28) Tryz.underlying28 ?_) | (refine wpList_fsame rfl rfl rfl (congrArg Option.isSome Tryz.underlying46) Tryz.underlying46 ?_)) | (refine wpList_fwid rfl rfl rfl (congrArg Option.isSome Tryz.underlying28) Tryz.underlying46 (by assumption) ?_; intro r n hr) | (refine wpList_fnar rfl rfl rfl (congrArg Option.isSome Tryz.underlying46) Tryz.underlying28 (by assumption) (by assumption) ?_; intro r n hr) | (refine wpList_fneg rfl rfl rfl (by assumption) ?_; intro r hr) | (go_at_call 33; refine (iIsSubnormal_any _ _ (by assumption) _).mono ?_; rintro e w' ⟨n, rfl, rfl⟩))
    go_ret
    exact ⟨_, _, rfl, by assumption, rfl⟩
  · cases v with
    | none => cases hv
    | some x =>
      obtain ⟨rfl, _⟩ := h.num
      have hlt : rg S b < S.binade := by unfold subF at hv; simp at hv; exact hv.2
      have e : flushF (some b) = some (hi31 b) := if_pos hlt
      rw [e]
      clear e
      go_enter Tryz.func28, Tryz.ntmps28
      go_wp2_with (first | (refine wpList_far rfl rfl (by first | exact .inl rfl | exact .inr (.inl rfl) | exact .inr (.inr (.inl rfl)) | exact .inr (.inr (.inr rfl))) rfl rfl (by first | assumption | exact isF_ofInt _ _ | exact IsF.lit (by decide +kernel)) (by first | assumption | exact isF_ofInt _ _ | exact IsF.lit (by decide +kernel)) ?_; intro r n hr) | (refine wpList_fcmp rfl rfl (by first | exact .inl rfl | exact .inr (.inl rfl) | exact .inr (.inr (.inl rfl)) | exact .inr (.inr (.inr (.inl rfl))) | exact .inr (.inr (.inr (.inr (.inl rfl)))) | exact .inr (.inr (.inr (.inr (.inr rfl))))) rfl rfl (by first | assumption | exact isF_ofInt _ _ | exact IsF.lit (by decide +kernel)) (by first | assumption | exact isF_ofInt _ _ | exact IsF.lit (by decide +kernel)) (by first | assumption | exact rfl) ?_) | (first | (refine wpList_fsame rfl rfl rfl (congrArg Option.isSome Tryz.underlying28) Tryz.underlying28 ?_) | (refine wpList_fsame rfl rfl rfl (congrArg Option.isSome Tryz.underlying46) Tryz.underlying46 ?_)) | (refine wpList_fwid rfl rfl rfl (congrArg Option.isSome Tryz.underlying28) Tryz.underlying46 (by assumption) ?_; intro r n hr) | (refine wpList_fnar rfl rfl rfl (congrArg Option.isSome Tryz.underlying46) Tryz.underlying28 (by assumption) (by assumption) ?_; intro r n hr) | (refine wpList_fneg rfl rfl rfl (by assumption) ?_; intro r hr) | (go_at_call 33; refine (iIsSubnormal_any _ _ (by assumption) _).mono ?_; rintro e w' ⟨n, rfl, rfl⟩) | (go_at_call 62; refine (copysign_any _ (IsF.lt (by assumption)) _).mono ?_; rintro e w' ⟨rfl, hz, hno, rfl⟩))
      go_ret
      exact ⟨_, _, rfl, by rw [← nar_hi63 h (by assumption)]; assumption, rfl⟩
end Go.Proofs.YtgaecoekhcdaeaaGreatDoor
