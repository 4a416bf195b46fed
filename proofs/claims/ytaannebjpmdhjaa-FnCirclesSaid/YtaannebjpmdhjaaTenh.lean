/-
  Tenths of a product are those of both, but for one. No program is in sight.
-/
import Derived.Test.YtaannebjpmdhjaaTeng
namespace Go.Proofs.Ytaannebjpmdhjaa
set_option linter.unusedVariables false
set_option linter.unusedSimpArgs false
set_option maxRecDepth 20000
open Ieee Fl

theorem pair_int {k n1 n2 n3 i1 i2 i3 m1 m2 m3 : Int} (hk : 0 < k) (h1 : i1 - n1 * k ≤ 4194304 * k ∧ -(4194304 * k) ≤ i1 - n1 * k) (h2 : i2 - n2 * k ≤ 4194304 * k ∧ -(4194304 * k) ≤ i2 - n2 * k) (h3 : i3 - n3 * k ≤ 4194304 * k ∧ -(4194304 * k) ≤ i3 - n3 * k)
    (f1 : m1 * (1152921504606846976 * k) ≤ i1 ∧ i1 ≤ (m1 + 1) * (1152921504606846976 * k)) (f2 : m2 * (1152921504606846976 * k) ≤ i2 ∧ i2 ≤ (m2 + 1) * (1152921504606846976 * k)) (f3 : m3 * (1152921504606846976 * k) ≤ i3 ∧ i3 ≤ (m3 + 1) * (1152921504606846976 * k))
    (hn : (n1 + n2 - n3 - 576460752303423488).natAbs ≤ 576460752290840575) : m1 + m2 - m3 ≤ 1 ∧ m3 - m1 - m2 ≤ 1 := by
  have a1 : n1 + n2 - n3 ≤ 1152921504594264063 := by omega
  have a2 : 12582913 ≤ n1 + n2 - n3 := by omega
  have b1 := Int.mul_le_mul_of_nonneg_right a1 (Int.le_of_lt hk)
  have b2 := Int.mul_le_mul_of_nonneg_right a2 (Int.le_of_lt hk)
  rw [Int.sub_mul, Int.add_mul] at b1 b2
  have e : ∀ m : Int, m * (1152921504606846976 * k) = 1152921504606846976 * (m * k) := fun m => by rw [Int.mul_left_comm]
  rw [e, e, Int.add_mul, Int.one_mul] at f1 f2 f3
  constructor
  · refine Int.not_lt.1 (fun hlt => ?_)
    have c := Int.mul_le_mul_of_nonneg_right (show 2 ≤ m1 + m2 - m3 by omega) (Int.le_of_lt hk)
    rw [Int.sub_mul, Int.add_mul] at c
    clear e a1 a2 hn hlt
    generalize m1 * k = g1 at *
    generalize m2 * k = g2 at *
    generalize m3 * k = g3 at *
    generalize n1 * k = q1 at *
    generalize n2 * k = q2 at *
    generalize n3 * k = q3 at *
    omega
  · refine Int.not_lt.1 (fun hlt => ?_)
    have c := Int.mul_le_mul_of_nonneg_right (show 2 ≤ m3 - m1 - m2 by omega) (Int.le_of_lt hk)
    rw [Int.sub_mul, Int.sub_mul] at c
    clear e a1 a2 hn hlt
    generalize m1 * k = g1 at *
    generalize m2 * k = g2 at *
    generalize m3 * k = g3 at *
    generalize n1 * k = q1 at *
    generalize n2 * k = q2 at *
    generalize n3 * k = q3 at *
    omega
theorem ten_one {b : Nat} {n : Int} (hp : posF (some b) = true) (k1 : 3936146074321813504 ≤ wb b) (k2 : wb b < 5188146770730811392) (ha : Ap (tenX b) n 4194304) :
    ∃ i : Int, (i - n * (K : Int) ≤ 4194304 * (K : Int) ∧ -(4194304 * (K : Int)) ≤ i - n * (K : Int)) ∧ tenV (some b) * (1152921504606846976 * (K : Int)) ≤ i ∧ i ≤ (tenV (some b) + 1) * (1152921504606846976 * (K : Int)) := by
  obtain ⟨c, hc, fc, uc⟩ := tenX_fin k1 k2
  obtain ⟨c2, e1, _, e3⟩ := ha
  rw [hc] at e1
  obtain rfl := Option.some.inj e1
  have hv : tenV (some b) = tz (floorD c) := by unfold tenV; simp only [hp, if_true, hc, Option.getD_some]
  obtain ⟨g1, g2⟩ := floor_bounds fc uc
  rw [L_eq, two60, Int.natCast_mul] at g1 g2
  rw [hv]
  refine ⟨I D c, ?_, g1, g2⟩
  have : ((4194304 * K : Nat) : Int) = 4194304 * (K : Int) := Int.natCast_mul ..
  generalize n * (K : Int) = w at *
  omega
theorem ten_pair {b1 b2 b3 : Nat} {n1 n2 n3 : Int} (p1 : posF (some b1) = true) (p2 : posF (some b2) = true) (p3 : posF (some b3) = true)
    (w1 : 3936146074321813504 ≤ wb b1 ∧ wb b1 < 5188146770730811392) (w2 : 3936146074321813504 ≤ wb b2 ∧ wb b2 < 5188146770730811392) (w3 : 3936146074321813504 ≤ wb b3 ∧ wb b3 < 5188146770730811392)
    (a1 : Ap (tenX b1) n1 4194304) (a2 : Ap (tenX b2) n2 4194304) (a3 : Ap (tenX b3) n3 4194304) (hn : (n1 + n2 - n3 - 576460752303423488).natAbs ≤ 576460752290840575) :
    tenV (some b1) + tenV (some b2) - tenV (some b3) ≤ 1 ∧ tenV (some b3) - tenV (some b1) - tenV (some b2) ≤ 1 := by
  obtain ⟨i1, h1, f1⟩ := ten_one p1 w1.1 w1.2 a1
  obtain ⟨i2, h2, f2⟩ := ten_one p2 w2.1 w2.2 a2
  obtain ⟨i3, h3, f3⟩ := ten_one p3 w3.1 w3.2 a3
  exact pair_int (by have := K_pos; omega) h1 h2 h3 f1 f2 f3 hn
end Go.Proofs.Ytaannebjpmdhjaa
