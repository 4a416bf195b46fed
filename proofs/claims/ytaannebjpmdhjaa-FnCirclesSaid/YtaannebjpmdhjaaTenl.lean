/-
  k / 64 as a float64: its mantissa and its power of two. No program is in sight.
-/
import Derived.Test.YtaannebjpmdhjaaTenk
namespace Go.Proofs.Ytaannebjpmdhjaa
set_option linter.unusedVariables false
set_option linter.unusedSimpArgs false
set_option maxRecDepth 20000
open Ieee Fl

/-- The float64 k / 64. -/
def dB (k : Nat) : Nat := (1016 + k.log2) * 4503599627370496 + k * 2 ^ (52 - k.log2)
theorem dB_m {k : Nat} (h0 : k ≠ 0) (h1 : k ≤ 40000) : ∃ l, l = k.log2 ∧ l ≤ 15 ∧ 2 ^ l ≤ k ∧ k < 2 * 2 ^ l := by
  refine ⟨_, rfl, ?_, Nat.log2_self_le h0, ?_⟩
  · have h2 := Nat.log2_self_le h0
    refine Nat.le_of_not_lt (fun h => ?_)
    have : 2 ^ 16 ≤ 2 ^ k.log2 := Nat.pow_le_pow_right (by decide) h
    omega
  · have := Nat.lt_log2_self (n := k)
    rw [Nat.pow_succ] at this
    omega
theorem red_dB {k : Nat} (h0 : k ≠ 0) (h1 : k ≤ 40000) : redE (dB k) = kE k ∧ -9 ≤ kE k ∧ kE k ≤ 9 ∧ ∃ m, m = k * 2 ^ (52 - k.log2) ∧ 4503599627370496 ≤ m ∧ m < 9007199254740992 ∧ (3 * 2 ^ k.log2 ≤ 2 * k ↔ 3 * 4503599627370496 ≤ 2 * m) := by
  obtain ⟨l, hl, h15, h2, h3⟩ := dB_m h0 h1
  unfold dB kE redE
  rw [← hl]
  obtain ⟨q, hq⟩ : ∃ q, q = 2 ^ (52 - l) := ⟨_, rfl⟩
  have hp : 2 ^ l * q = 4503599627370496 := by rw [hq, ← Nat.pow_add, show l + (52 - l) = 52 by omega]
  have hqp : 0 < q := by rw [hq]; exact Nat.two_pow_pos _
  rw [← hq]
  have a1 := Nat.mul_le_mul_right q h2
  have a2 := Nat.mul_lt_mul_of_pos_right h3 hqp
  rw [hp] at a1
  rw [Nat.mul_assoc, hp] at a2
  have a3 : 3 * 2 ^ l ≤ 2 * k ↔ 3 * 4503599627370496 ≤ 2 * (k * q) := by
    rw [← hp, ← Nat.mul_assoc, ← Nat.mul_assoc]
    exact ⟨fun h => Nat.mul_le_mul_right q h, fun h => Nat.le_of_mul_le_mul_right h hqp⟩
  have hl2 : l = 15 → False ∨ 2 * k < 3 * 2 ^ l := fun h => by subst h; right; omega
  generalize k * q = m at *
  by_cases h : 3 * 2 ^ l ≤ 2 * k
  · have h5 := a3.1 h
    rw [if_pos h]
    have : l ≤ 14 := by
      refine Nat.le_of_not_lt (fun h6 => ?_)
      rcases hl2 (by omega) with h7 | h7
      · exact h7
      · omega
    exact ⟨by omega, by omega, by omega, m, rfl, by omega, by omega, a3⟩
  · have h5 : ¬ 3 * 4503599627370496 ≤ 2 * m := fun h6 => h (a3.2 h6)
    rw [if_neg h]
    exact ⟨by omega, by omega, by omega, m, rfl, by omega, by omega, a3⟩
theorem ap_at {q m c : Nat} (hm1 : 4503599627370496 ≤ m) (hm2 : m < 9007199254740992) (hq : q = 1014 + c) (hc : c ≤ 8) : Ap (some (q * 4503599627370496 + m)) ((m * 2 ^ c : Nat) : Int) 0 := by
  have hB : D.binade = 4503599627370496 := by decide
  have hS : D.signWeight = 9223372036854775808 := D_sw
  have hU := U_at D q m (.inr ⟨by rw [hB]; exact hm1, by rw [hB]; omega⟩)
  rw [hB] at hU
  have hr : rg D (q * 4503599627370496 + m) = q * 4503599627370496 + m := by unfold rg; rw [hS]; omega
  have hs : sg D (q * 4503599627370496 + m) = false := by unfold sg; rw [hS]; simp; omega
  have hi : D.infRung = 2047 * 4503599627370496 := by decide
  refine ⟨_, rfl, by unfold Fl.Fin; rw [hr, hi]; omega, ?_⟩
  rw [I_s false hs, hr, hU]
  have e : m * 2 ^ q = m * 2 ^ c * K := by
    obtain ⟨a, ha, hK⟩ := K_pow
    rw [hK, hq, ← ha, Nat.pow_add, Nat.mul_comm (2 ^ a), ← Nat.mul_assoc]
    rfl
  rw [e, Int.natCast_mul]
  simp
theorem ap_kY {k : Nat} (h0 : k ≠ 0) (h1 : k ≤ 40000) : Ap (some (redX (dB k))) (kY k : Int) 0 ∧ 864691128455135232 ≤ kY k ∧ kY k ≤ 1729382256910270464 := by
  obtain ⟨r1, _, _, m, hm, m1, m2, m3⟩ := red_dB h0 h1
  obtain ⟨l, hl, h15, _, _⟩ := dB_m h0 h1
  have hx : redX (dB k) = ((dB k : Int) - kE k * 4503599627370496).toNat := by unfold redX; rw [r1]
  have hd : dB k = (1016 + l) * 4503599627370496 + m := by unfold dB; rw [hm, hl]
  rw [hx, hd]
  unfold kE kY
  rw [← hl] at hm m3 ⊢
  by_cases h : 3 * 2 ^ l ≤ 2 * k
  · have h5 := m3.1 h
    rw [if_pos h, if_pos h]
    have e1 : k * 2 ^ (59 - l) = m * 2 ^ 7 := by rw [hm, Nat.mul_assoc, ← Nat.pow_add, show 52 - l + 7 = 59 - l by omega]
    have e2 : ((((1016 + l) * 4503599627370496 + m : Nat) : Int) - ((l : Int) - 5) * 4503599627370496).toNat = 1021 * 4503599627370496 + m := by omega
    rw [e1, e2]
    exact ⟨ap_at m1 m2 (by omega) (by omega), by omega, by omega⟩
  · have h5 : ¬ 3 * 4503599627370496 ≤ 2 * m := fun h6 => h (m3.2 h6)
    rw [if_neg h, if_neg h]
    have e1 : k * 2 ^ (60 - l) = m * 2 ^ 8 := by rw [hm, Nat.mul_assoc, ← Nat.pow_add, show 52 - l + 8 = 60 - l by omega]
    have e2 : ((((1016 + l) * 4503599627370496 + m : Nat) : Int) - ((l : Int) - 6) * 4503599627370496).toNat = 1022 * 4503599627370496 + m := by omega
    rw [e1, e2]
    exact ⟨ap_at m1 m2 (by omega) (by omega), by omega, by omega⟩
end Go.Proofs.Ytaannebjpmdhjaa
