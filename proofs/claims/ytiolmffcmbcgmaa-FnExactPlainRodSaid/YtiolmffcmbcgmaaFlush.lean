/-
  Contracts: flushing, square roots, narrowing.
-/
import Derived.Test.YtiolmffcmbcgmaaMore
import Derived.Test.YtiolmffcmbcgmaaRoot
namespace Go.Proofs.Ytiolmffcmbcgmaa
set_option linter.unusedVariables false
set_option linter.unusedSimpArgs false
open Go.RowKit Fl


/-- The highest bit. -/
def hi63 (b : Nat) : Nat := b / 9223372036854775808 % 2 * 9223372036854775808
def hi31 (b : Nat) : Nat := b / 2147483648 % 2 * 2147483648
theorem and_hi63 (b : Nat) (h : b < 18446744073709551616) : bits .and .u64 (b : Int) 9223372036854775808 = ((hi63 b : Nat) : Int) := by
  have e := u64_and_nat b 9223372036854775808 h (by decide)
  have e2 : b &&& 9223372036854775808 = hi63 b := nat_bit 63 b
  rw [e2] at e
  exact e
theorem and_hi31 (b : Nat) (h : b < 4294967296) : bits .and .i64 (b : Int) 2147483648 = ((hi31 b : Nat) : Int) := by
  have e := i64_and_nat b 2147483648 (by omega) (by decide)
  have e2 : b &&& 2147483648 = hi31 b := nat_bit 31 b
  rw [e2] at e
  exact e
theorem or_hi63 (b : Nat) : bits .or .u64 0 ((hi63 b : Nat) : Int) = ((hi63 b : Nat) : Int) := by
  have hl : hi63 b < 18446744073709551616 := by unfold hi63; omega
  have e := u64_or_nat 0 (hi63 b) (by decide) hl
  rw [Nat.zero_or] at e
  exact e
theorem hi63_cases (b : Nat) : hi63 b = 0 ∨ hi63 b = 9223372036854775808 := by
  unfold hi63
  rcases (by omega : b / 9223372036854775808 % 2 = 0 ∨ b / 9223372036854775808 % 2 = 1) with h | h <;> rw [h] <;> simp
theorem isF_hi63 (b : Nat) : IsF .f64 (hi63 b) (some (hi63 b)) := by
  rcases hi63_cases b with h | h <;> rw [h] <;> exact IsF.lit (by decide +kernel)
theorem narOk_hi63 (b : Nat) : NarOk (some (hi63 b)) := by
  rcases hi63_cases b with h | h <;> rw [h] <;> (rintro x ⟨⟩; right; decide +kernel)


/-- A subnormal number becomes a zero of its sign. -/
def flushF (v : Option Nat) : Option Nat := match v with | none => none | some b => if rg S b < S.binade then some (hi31 b) else some b

theorem nar_hi63 {b r : Nat} (h : IsF .f32 b (some b)) (hr : IsF .f64 r (wid (some b))) : nar (some (hi63 r)) = some (hi31 b) := by
  have hs := sg_wid h hr
  have e1 : hi63 r = if sg D r then 9223372036854775808 else 0 := by
    unfold hi63 sg
    rw [D_sw]
    rcases (by omega : r / 9223372036854775808 % 2 = 0 ∨ r / 9223372036854775808 % 2 = 1) with h | h <;> rw [h] <;> simp
  have e2 : hi31 b = if sg S b then 2147483648 else 0 := by
    unfold hi31 sg
    rw [S_sw]
    rcases (by omega : b / 2147483648 % 2 = 0 ∨ b / 2147483648 % 2 = 1) with h | h <;> rw [h] <;> simp
  rw [e1, e2, hs]
  cases sg S b <;> decide +kernel

end Go.Proofs.Ytiolmffcmbcgmaa
