/-
  Tenths of decibels told by a few integers. No program is in sight.
-/
import Derived.Test.YtaannebjpmdhjaaTenf
namespace Go.Proofs.Ytaannebjpmdhjaa
set_option linter.unusedVariables false
set_option linter.unusedSimpArgs false
set_option maxRecDepth 20000
open Ieee Fl

/-- (y - 1) / (y + 1). -/
def sI (Y : Nat) : Int := ((Y : Int) - 1152921504606846976) * 1152921504606846976 / ((Y : Int) + 1152921504606846976)
theorem apS {y Y : Nat} (hy : Ap (some y) (Y : Int) 0) (h1 : 864691128455135232 ≤ Y) (h2 : Y ≤ 1729382256910270464) : Ap (logS y) (sI Y) 6144 ∧ (sI Y).natAbs ≤ 288230376151711744 := by
  have a1 : Ap (some 4607182418800017408) 1152921504606846976 0 := ⟨_, rfl, by unfold Fl.Fin; decide +kernel, by rw [show I D 4607182418800017408 - 1152921504606846976 * (K : Int) = 0 by decide +kernel]; simp⟩
  have n1 := ap_sub 11 hy a1 (by rw [p2_63]; omega) (by decide)
  have n2 := ap_add 11 hy a1 (by rw [p2_63]; omega) (by decide)
  rw [p2_11] at n1 n2
  obtain ⟨x, hx⟩ : ∃ x : Int, x = (Y : Int) - 1152921504606846976 := ⟨_, rfl⟩
  obtain ⟨z, hz⟩ : ∃ z : Int, z = (Y : Int) + 1152921504606846976 := ⟨_, rfl⟩
  obtain ⟨p, hp⟩ : ∃ p : Int, p = x * 1152921504606846976 / z := ⟨_, rfl⟩
  have hzp : 0 < z := by omega
  have p1 : p < 288230376151711745 := by
    rw [hp]
    exact Int.ediv_lt_of_lt_mul hzp (by omega)
  have p2' : -288230376151711744 ≤ p := by
    rw [hp]
    exact Int.le_ediv_of_mul_le hzp (by omega)
  have hr0 := Int.emod_nonneg (x * 1152921504606846976) (show z ≠ 0 by omega)
  have hr1 := Int.emod_lt_of_pos (x * 1152921504606846976) hzp
  have hr2 := Int.emod_add_mul_ediv (x * 1152921504606846976) z
  rw [← hp, Int.mul_comm z p] at hr2
  have hq := ap_quo 11 p 4096 n1 n2 (by omega) (by
    rw [← hx, ← hz, two60, two60i, show (2 : Nat) ^ 7 = 128 from rfl]
    generalize p * z = t at *
    generalize (x * 1152921504606846976) % z = r at *
    have k1 : p.natAbs ≤ 288230376151711744 := by omega
    omega) (by rw [p2_63]; omega) (by decide)
  have e : sI Y = p := by rw [hp, hx, hz]; rfl
  rw [e]
  exact ⟨hq.le (by rw [p2_11]; decide), by omega⟩
/-- The mantissa's logarithm: half of it. -/
def wI (Y : Nat) : Int := sI Y * (qN ((sI Y).natAbs * (sI Y).natAbs / 1152921504606846976) 13 : Int) / 1152921504606846976
def tI (Y : Nat) (e : Int) : Int := (2 * wI Y + e * 799144290325165952) * 50070744751834816512 / 1152921504606846976 + 576460752303423488
theorem div_abs (z : Int) (B : Nat) (h : z.natAbs ≤ B * 1152921504606846976) : (z / 1152921504606846976).natAbs ≤ B + 1 := by omega
theorem oA2 (x q : Nat) (h1 : x ≤ 288230376151711744) (h2 : q ≤ 2305843009213693952) : x * 32768 + q * 6144 + 6144 * 32768 ≤ 20481 * 1152921504606846976 := by omega
theorem oB (w : Int) (hw : w.natAbs ≤ 576460752303423489) : (2 * w * 1152921504606846976 - 2305843009213693952 * w).natAbs + ((2305843009213693952 : Int).natAbs * (20483 + 2048) + w.natAbs * 1 + 1 * (20483 + 2048)) ≤ 45064 * 1152921504606846976 := by
  have e : 2 * w * 1152921504606846976 - 2305843009213693952 * w = 0 := by omega
  rw [e, show (2305843009213693952 : Int).natAbs = 2305843009213693952 from rfl, show (0 : Int).natAbs = 0 from rfl]
  omega
theorem oC (w : Int) (hw : w.natAbs ≤ 576460752303423489) : (2 * w).natAbs + 45064 ≤ 9223372036854775808 := by omega
theorem oD (w e : Int) (hw : w.natAbs ≤ 576460752303423489) (h1 : -9 ≤ e) (h2 : e ≤ 9) : (2 * w + e * 799144290325165952).natAbs ≤ 8500000000000000000 := by omega
theorem oE (e : Int) (h1 : -9 ≤ e) (h2 : e ≤ 9) : (e * 799144290325165952 * 1152921504606846976 - e * 1152921504606846976 * 799144290325165952).natAbs + ((e * 1152921504606846976).natAbs * 1 + (799144290325165952 : Int).natAbs * 0 + 0 * 1) ≤ 16 * 1152921504606846976 := by
  have e0 : e * 799144290325165952 * 1152921504606846976 - e * 1152921504606846976 * 799144290325165952 = 0 := by omega
  rw [e0, show (0 : Int).natAbs = 0 from rfl]
  omega
theorem oF (v : Int) (hv : v.natAbs ≤ 8500000000000000000) : v.natAbs * 1 + 50070744751834816512 * (47112 + (16 + 2048) + 2048) + (47112 + (16 + 2048) + 2048) * 1 ≤ 2224700 * 1152921504606846976 := by omega
theorem oG (v : Int) (hv : v.natAbs ≤ 8500000000000000000) : (v * 50070744751834816512 / 1152921504606846976).natAbs ≤ 400000000000000000000 := by omega
theorem oH (n : Int) (h : n.natAbs ≤ 400000000000000000000) : n.natAbs + 2224702 ≤ 1180591620717411303424 ∧ (n + 576460752303423488).natAbs + (2224702 + 262144) + 1 ≤ 1180591620717411303424 := by omega
theorem apW {y Y : Nat} (hy : Ap (some y) (Y : Int) 0) (h1 : 864691128455135232 ≤ Y) (h2 : Y ≤ 1729382256910270464) : Ap (ar .mul .f64 (some 4611686018427387904) (ar .mul .f64 (logS y) (logQ (ar .mul .f64 (logS y) (logS y)) 13))) (2 * wI Y) 47112 ∧ (wI Y).natAbs ≤ 576460752303423489 := by
  obtain ⟨s1, s2⟩ := apS hy h1 h2
  unfold wI
  generalize sI Y = p at *
  obtain ⟨a, ha⟩ : ∃ a, a = p.natAbs * p.natAbs / 1152921504606846976 := ⟨_, rfl⟩
  rw [← ha]
  have hpp : p.natAbs * p.natAbs ≤ 288230376151711744 * 288230376151711744 := Nat.mul_le_mul s2 s2
  have hA : p.natAbs * 6144 + p.natAbs * 6144 + 6144 * 6144 ≤ 3073 * 1152921504606846976 := by omega
  have hf := Nat.le_trans (natdiv_fits (p.natAbs * p.natAbs) _ 1152921504606846976 (by decide)) (le_fits hA (by decide))
  rw [← ha, Int.natAbs_mul_self] at hf
  have hu : Ap (ar .mul .f64 (logS y) (logS y)) (a : Int) (3075 + p2 11) := by
    refine ap_mul 11 _ 3075 s1 s1 ?_ ?_ (by decide)
    · rw [two60i, two60]; exact hf
    · rw [Int.natAbs_natCast, p2_63, ha]; omega
  rw [p2_11] at hu
  obtain ⟨q1, q2⟩ := apQ hu (by rw [ha]; omega) (by decide) 13 (by decide)
  generalize qN a 13 = q at *
  have hpq : (p * (q : Int)).natAbs ≤ 576460752303423488 * 1152921504606846976 := by
    rw [Int.natAbs_mul, Int.natAbs_natCast]
    exact Nat.le_trans (Nat.mul_le_mul s2 q2) (by decide)
  have hw := div_abs _ _ hpq
  have hA2 : p.natAbs * 32768 + (q : Int).natAbs * 6144 + 6144 * 32768 ≤ 20481 * 1152921504606846976 := by rw [Int.natAbs_natCast]; exact oA2 _ _ s2 q2
  have hf2 := Nat.le_trans (mul_fits (p * (q : Int)) _ 1152921504606846976 (by decide)) (le_fits hA2 (by decide))
  have hm : Ap (ar .mul .f64 (logS y) (logQ (ar .mul .f64 (logS y) (logS y)) 13)) (p * (q : Int) / 1152921504606846976) (20483 + p2 11) := by
    refine ap_mul 11 _ 20483 s1 q1 ?_ ?_ (by decide)
    · rw [two60i, two60]; exact hf2
    · rw [p2_63]; exact Nat.le_trans (Nat.add_le_add_right hw _) (by decide)
  rw [p2_11] at hm
  generalize p * (q : Int) / 1152921504606846976 = w at *
  have h2w := ap_mul 11 (2 * w) 45064 (apO_A2 _ _ rfl) hm (by rw [two60i, two60]; exact oB _ hw) (by rw [p2_63]; exact oC _ hw) (by decide)
  rw [p2_11] at h2w
  exact ⟨h2w, hw⟩
theorem ap_ten {b Y : Nat} {e : Int} (hy : Ap (some (redX (wb b))) (Y : Int) 0) (he : redE (wb b) = e) (h1 : 864691128455135232 ≤ Y) (h2 : Y ≤ 1729382256910270464) (e1 : -9 ≤ e) (e2 : e ≤ 9) : Ap (tenX b) (tI Y e) 4194304 := by
  obtain ⟨w1, w2⟩ := apW hy h1 h2
  unfold tI
  generalize wI Y = w at *
  have i1 : Ap (ofInt .f64 e) (e * 1152921504606846976) 0 := apO_int e _ _ (by unfold intA; rw [if_pos (by omega)])
  have l1 := ap_mul 11 (e * 799144290325165952) 16 i1 (apO_Aln _ _ rfl) (by rw [two60i, two60]; exact oE e e1 e2) (by rw [p2_63]; omega) (by decide)
  have hvb := oD w e w2 e1 e2
  rw [p2_11] at l1
  have s1 := ap_add 11 w1 l1 (by rw [p2_63]; exact Nat.le_trans (Nat.add_le_add_right (Nat.add_le_add_right hvb _) _) (by decide)) (by decide)
  rw [p2_11] at s1
  generalize 2 * w + e * 799144290325165952 = v at *
  have hf := Nat.le_trans (mul_fits (v * 50070744751834816512) _ 1152921504606846976 (by decide)) (le_fits (oF v hvb) (by decide))
  have hnb := oG v hvb
  have p70 : p2 (18 + 52) = 1180591620717411303424 := by decide
  have p18 : p2 18 = 262144 := by decide
  have t1 := ap_mul 18 (v * 50070744751834816512 / 1152921504606846976) 2224702 s1 (apO_A43 _ _ rfl) (by rw [two60i, two60]; exact hf) (by rw [p70]; exact (oH _ hnb).1) (by decide)
  rw [p18] at t1
  have t2 := ap_add 18 t1 (apO_Ah _ _ rfl) (by rw [p70]; exact (oH _ hnb).2) (by decide)
  rw [p18] at t2
  have e3 : tenX b = ar .add .f64 (ar .mul .f64 (logTail (redX (wb b)) e) (some 4631308968768463603)) (some 4602678819172646912) := by rw [← he]; rfl
  rw [e3]
  exact t2.le (by decide)
end Go.Proofs.Ytaannebjpmdhjaa
