/-
  Contracts: flushing, square roots, narrowing.
-/
import Derived.Test.YtaannebjpmdhjaaMore
import Derived.Test.YtaannebjpmdhjaaRoot
namespace Go.Proofs.Ytaannebjpmdhjaa
set_option linter.unusedVariables false
set_option linter.unusedSimpArgs false
set_option maxRecDepth 20000
open Go.RowKit Fl

theorem sqrt_fn {b : Nat} {v : Option Nat} (h : IsF .f64 b v) : ∃ c n : World → Nat, (∀ w, (callFunc 40 #[.float .f64 b]).run Try.prog w = .ok (.value (.float .f64 (c w))) (w.drewN (n w))) ∧ ∀ w, IsF .f64 (c w) (sqrt v) := by
  have h1 : ∀ w : World, ∃ x : Nat × Nat, (callFunc 40 #[.float .f64 b]).run Try.prog w = .ok (.value (.float .f64 x.1)) (w.drewN x.2) ∧ IsF .f64 x.1 (sqrt v) := fun w => by
    obtain ⟨r, n, h2, h3⟩ := run_sqrt (P := Try.prog) w h
    refine ⟨(r, n), ?_, h3⟩
    rw [run_callFunc_extern (fn := Try.f40) (e := Extern.MathSqrt.sqrt) Try.func40 (by kernel_rfl) (by kernel_rfl) (by kernel_rfl) (by kernel_rfl), h2]
    rfl
  obtain ⟨f, hf⟩ := Classical.axiomOfChoice h1
  exact ⟨fun w => (f w).1, fun w => (f w).2, fun w => (hf w).1, fun w => (hf w).2⟩
theorem mathSqrt_any (b : Nat) (v : Option Nat) (h : IsF .f64 b v) (w : World) :
    Calls Try.prog 29 #[.float .f64 b] w (RetF w .f64 (sqrt v)) := by
  obtain ⟨c, n, hc, hi⟩ := sqrt_fn h
  go_enter Try.func29, Try.ntmps29
  go_wp2_with fail
  go_ret
  exact ⟨_, _, rfl, hi _, rfl⟩

/-- The highest bit. -/
def hi63 (b : Nat) : Nat := b / 9223372036854775808 % 2 * 9223372036854775808
def hi31 (b : Nat) : Nat := b / 2147483648 % 2 * 2147483648
theorem and_hi63 (b : Nat) (h : b < 18446744073709551616) : bits .and .u64 (b : Int) 9223372036854775808 = ((hi63 b : Nat) : Int) := by
  have e := u64_and_nat b 9223372036854775808 h (by decide)
  have e2 : b &&& 9223372036854775808 = hi63 b := nat_bit 63 b
  rw [e2] at e
  exact e
theorem and_hi31 (b : Nat) (h : b < 4294967296) : bits .and .i64 (b : Int) 2147483648 = ((hi31 b : Nat) : Int) := by
  have e := i64_and_nat b 2147483648 (by omega) (by decide)
  have e2 : b &&& 2147483648 = hi31 b := nat_bit 31 b
  rw [e2] at e
  exact e
theorem or_hi63 (b : Nat) : bits .or .u64 0 ((hi63 b : Nat) : Int) = ((hi63 b : Nat) : Int) := by
  have hl : hi63 b < 18446744073709551616 := by unfold hi63; omega
  have e := u64_or_nat 0 (hi63 b) (by decide) hl
  rw [Nat.zero_or] at e
  exact e
theorem hi63_cases (b : Nat) : hi63 b = 0 ∨ hi63 b = 9223372036854775808 := by
  unfold hi63
  rcases (by omega : b / 9223372036854775808 % 2 = 0 ∨ b / 9223372036854775808 % 2 = 1) with h | h <;> rw [h] <;> simp
theorem isF_hi63 (b : Nat) : IsF .f64 (hi63 b) (some (hi63 b)) := by
  rcases hi63_cases b with h | h <;> rw [h] <;> exact IsF.lit (by decide +kernel)
theorem narOk_hi63 (b : Nat) : NarOk (some (hi63 b)) := by
  rcases hi63_cases b with h | h <;> rw [h] <;> (rintro x ⟨⟩; right; decide +kernel)

theorem copysign_any (b : Nat) (hb : b < 18446744073709551616) (w : World) :
    Calls Try.prog 46 #[.float .f64 0, .float .f64 b] w fun e w' => e = .returned (.float .f64 (hi63 b)) ∧ IsF .f64 (hi63 b) (some (hi63 b)) ∧ NarOk (some (hi63 b)) ∧ w' = w := by
  have hx := ext_f64bits
  have hx0 : ∀ w, (callFunc 36 #[.float .f64 0]).run Try.prog w = .ok (.value (.int .u64 0)) w := fun w => ext_f64bits 0 w
  have hy := ext_f64from
  have h1 : bits .andNot .u64 0 9223372036854775808 = 0 := by decide +kernel
  have h2 := and_hi63 b hb
  have h3 := or_hi63 b
  go_enter Try.func46, Try.ntmps46
  go_wp2_with fail
  go_ret
  exact ⟨rfl, isF_hi63 _, narOk_hi63 _, rfl⟩

/-- A subnormal number becomes a zero of its sign. -/
def flushF (v : Option Nat) : Option Nat := match v with | none => none | some b => if rg S b < S.binade then some (hi31 b) else some b

theorem nar_hi63 {b r : Nat} (h : IsF .f32 b (some b)) (hr : IsF .f64 r (wid (some b))) : nar (some (hi63 r)) = some (hi31 b) := by
  have hs := sg_wid h hr
  have e1 : hi63 r = if sg D r then 9223372036854775808 else 0 := by
    unfold hi63 sg
    rw [D_sw]
    rcases (by omega : r / 9223372036854775808 % 2 = 0 ∨ r / 9223372036854775808 % 2 = 1) with h | h <;> rw [h] <;> simp
  have e2 : hi31 b = if sg S b then 2147483648 else 0 := by
    unfold hi31 sg
    rw [S_sw]
    rcases (by omega : b / 2147483648 % 2 = 0 ∨ b / 2147483648 % 2 = 1) with h | h <;> rw [h] <;> simp
  rw [e1, e2, hs]
  cases sg S b <;> decide +kernel

end Go.Proofs.Ytaannebjpmdhjaa
