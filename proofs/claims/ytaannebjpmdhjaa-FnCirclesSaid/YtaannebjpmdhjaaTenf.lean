/-
  Logarithms told by fixed-point numbers, with one bound of the error for all steps. No program is in sight.
-/
import Derived.Test.YtaannebjpmdhjaaTenq
namespace Go.Proofs.Ytaannebjpmdhjaa
set_option linter.unusedVariables false
set_option linter.unusedSimpArgs false
set_option maxRecDepth 20000
open Ieee Fl

/-- The series' numbers in units of 2^-60. -/
def cN : Nat → Nat
  | 0 => 46116860184273879
  | 1 => 50127021939428129
  | 2 => 54901024028897475
  | 3 => 60680079189834051
  | 4 => 67818912035696880
  | 5 => 76861433640456465
  | 6 => 88686269585142075
  | 7 => 104811045873349725
  | 8 => 128102389400760775
  | 9 => 164703072086692425
  | 10 => 230584300921369395
  | 11 => 384307168202282325
  | _ => 1152921504606846976
theorem cN_ok : ∀ j : Nat, j < 13 → (match cQ j with | some (n, d) => decide (n = (cN j : Int)) && decide (d ≤ 2178) && decide (cN j ≤ 1152921504606846976) | none => false) = true := by decide
theorem ap_cN {j : Nat} (h : j < 13) : Ap (ar .quo .f64 (some 4607182418800017408) (ofInt .f64 (25 - 2 * j))) (cN j) 2178 ∧ cN j ≤ 1152921504606846976 := by
  have h1 := cN_ok j h
  have h2 := apO_cQ j
  cases hc : cQ j with
  | none => rw [hc] at h1; cases h1
  | some x =>
    obtain ⟨n, d⟩ := x
    rw [hc] at h1 h2
    simp only [Bool.and_eq_true, decide_eq_true_eq] at h1
    have := h2 n d rfl
    rw [h1.1.1] at this
    exact ⟨this.le h1.1.2, h1.2⟩
def qN (u : Nat) : Nat → Nat
  | 0 => 0
  | j + 1 => cN j + u * qN u j / 1152921504606846976
theorem natdiv_fits (z A T : Nat) (hT : 0 < T) : (((z / T : Nat) : Int) * (T : Int) - (z : Int)).natAbs + A ≤ (A / T + 2) * T := by
  have := mul_fits (z : Int) A T hT
  rwa [← Int.natCast_ediv] at this
theorem le_fits {A f T : Nat} (h : A ≤ f * T) (hT : 0 < T) : (A / T + 2) * T ≤ (f + 2) * T := Nat.mul_le_mul_right _ (by have := Nat.div_le_of_le_mul (m := A) (k := T) (n := f) (by rw [Nat.mul_comm]; exact h); omega)
theorem p2_63 : p2 (11 + 52) = 9223372036854775808 := by decide
theorem p2_11 : p2 11 = 2048 := by decide
theorem apQ {u : Option Nat} {a d : Nat} (hu : Ap u (a : Int) d) (ha : a ≤ 144115188075855872) (hd : d ≤ 8192) : ∀ j : Nat, j ≤ 13 → Ap (logQ u j) (qN a j : Int) 32768 ∧ qN a j ≤ 2305843009213693952
  | 0, _ => ⟨ap_zero.le (Nat.zero_le _), Nat.zero_le _⟩
  | j + 1, hj => by
    obtain ⟨h1, h2⟩ := apQ hu ha hd j (by omega)
    obtain ⟨c1, c2⟩ := ap_cN (j := j) (by omega)
    have e : qN a (j + 1) = cN j + a * qN a j / 1152921504606846976 := rfl
    generalize qN a j = q at *
    have hq : a * q ≤ 144115188075855872 * 2305843009213693952 := Nat.mul_le_mul ha h2
    have hp : a * q / 1152921504606846976 ≤ 288230376151711744 := Nat.div_le_of_le_mul (by omega)
    have hA : (a : Int).natAbs * 32768 + (q : Int).natAbs * d + d * 32768 ≤ 20482 * 1152921504606846976 := by
      rw [Int.natAbs_natCast, Int.natAbs_natCast]
      have k1 : q * d ≤ 2305843009213693952 * 8192 := Nat.mul_le_mul h2 hd
      generalize q * d = z at *
      omega
    have hf := Nat.le_trans (natdiv_fits (a * q) _ 1152921504606846976 (by decide)) (le_fits hA (by decide))
    have hm : Ap (ar .mul .f64 u (logQ u j)) ((a * q / 1152921504606846976 : Nat) : Int) (20484 + p2 11) := by
      refine ap_mul 11 _ 20484 hu h1 ?_ ?_ (by decide)
      · rw [two60i, two60, ← Int.natCast_mul]
        exact hf
      · rw [Int.natAbs_natCast, p2_63]
        omega
    have hs : Ap (logQ u (j + 1)) ((cN j : Int) + ((a * q / 1152921504606846976 : Nat) : Int)) (2178 + (20484 + p2 11) + p2 11) := by
      refine ap_add 11 c1 hm ?_ (by decide)
      rw [p2_63, p2_11]
      omega
    rw [e]
    generalize a * q / 1152921504606846976 = t at *
    refine ⟨?_, by omega⟩
    rw [Int.natCast_add]
    exact hs.le (by rw [p2_11]; decide)
end Go.Proofs.Ytaannebjpmdhjaa
