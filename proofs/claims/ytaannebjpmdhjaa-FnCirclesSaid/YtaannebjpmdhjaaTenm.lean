/-
  k / 64 as a float32, products of such numbers, and their tenths of decibels. No program is in sight.
-/
import Derived.Test.YtaannebjpmdhjaaTenl
import Derived.Test.YtaannebjpmdhjaaNrw
namespace Go.Proofs.Ytaannebjpmdhjaa
set_option linter.unusedVariables false
set_option linter.unusedSimpArgs false
set_option maxRecDepth 20000
open Ieee Fl

/-- The float32 k / 64. -/
def fB (k : Nat) : Nat := (120 + k.log2) * 8388608 + k * 2 ^ (23 - k.log2)
theorem fB_at {k : Nat} (h0 : k ≠ 0) (h1 : k ≤ 40000) : Fl.Fin S (fB k) ∧ sg S (fB k) = false ∧ rg S (fB k) = fB k ∧ 0 < fB k ∧ fB k < 4294967296 ∧ U S (fB k) = k * p2 143 := by
  obtain ⟨l, hl, h15, h2, h3⟩ := dB_m h0 h1
  unfold fB
  rw [← hl]
  obtain ⟨q, hq⟩ : ∃ q, q = 2 ^ (23 - l) := ⟨_, rfl⟩
  have hp : 2 ^ l * q = 8388608 := by rw [hq, ← Nat.pow_add, show l + (23 - l) = 23 by omega]
  have hqp : 0 < q := by rw [hq]; exact Nat.two_pow_pos _
  have a1 := Nat.mul_le_mul_right q h2
  have a2 := Nat.mul_lt_mul_of_pos_right h3 hqp
  rw [hp] at a1
  rw [Nat.mul_assoc, hp] at a2
  obtain ⟨e, he⟩ : ∃ e : Nat, e = 143 := ⟨_, rfl⟩
  have hu : k * q * 2 ^ (120 + l) = k * p2 143 := by
    rw [hq, ← he, Nat.mul_assoc, ← Nat.pow_add]
    unfold p2
    congr 2
    omega
  rw [← hq]
  have hB : S.binade = 8388608 := by decide
  have hS : S.signWeight = 2147483648 := by decide
  have hi : S.infRung = 2139095040 := by decide
  have hU := U_at S (120 + l) (k * q) (.inr ⟨by rw [hB]; exact a1, by rw [hB]; omega⟩)
  rw [hB, hu] at hU
  generalize k * q = m at *
  have hr : rg S ((120 + l) * 8388608 + m) = (120 + l) * 8388608 + m := by unfold rg; rw [hS]; omega
  have hs : sg S ((120 + l) * 8388608 + m) = false := by unfold sg; rw [hS]; simp; omega
  exact ⟨by unfold Fl.Fin; rw [hr, hi]; omega, hs, hr, by omega, by omega, hU⟩
theorem dB_at {k : Nat} (h0 : k ≠ 0) (h1 : k ≤ 40000) : sg D (dB k) = false ∧ rg D (dB k) = dB k ∧ dB k < 18446744073709551616 ∧ U D (dB k) = k * p2 1068 := by
  obtain ⟨l, hl, h15, h2, h3⟩ := dB_m h0 h1
  unfold dB
  rw [← hl]
  obtain ⟨q, hq⟩ : ∃ q, q = 2 ^ (52 - l) := ⟨_, rfl⟩
  have hp : 2 ^ l * q = 4503599627370496 := by rw [hq, ← Nat.pow_add, show l + (52 - l) = 52 by omega]
  have hqp : 0 < q := by rw [hq]; exact Nat.two_pow_pos _
  have a1 := Nat.mul_le_mul_right q h2
  have a2 := Nat.mul_lt_mul_of_pos_right h3 hqp
  rw [hp] at a1
  rw [Nat.mul_assoc, hp] at a2
  obtain ⟨e, he⟩ : ∃ e : Nat, e = 1068 := ⟨_, rfl⟩
  obtain ⟨c, hc⟩ : ∃ c : Nat, c = 1016 := ⟨_, rfl⟩
  have hu : k * q * 2 ^ (c + l) = k * p2 1068 := by
    rw [hq, ← he, Nat.mul_assoc, ← Nat.pow_add]
    unfold p2
    congr 2
    omega
  rw [← hq, ← hc]
  have hB : D.binade = 4503599627370496 := by decide
  have hS : D.signWeight = 9223372036854775808 := D_sw
  have hU := U_at D (c + l) (k * q) (.inr ⟨by rw [hB]; exact a1, by rw [hB]; omega⟩)
  rw [hB, hu] at hU
  generalize k * q = m at *
  have hr : rg D ((c + l) * 4503599627370496 + m) = (c + l) * 4503599627370496 + m := by unfold rg; rw [hS]; omega
  have hs : sg D ((c + l) * 4503599627370496 + m) = false := by unfold sg; rw [hS]; simp; omega
  exact ⟨hs, hr, by omega, hU⟩
theorem wb_fB {k : Nat} (h0 : k ≠ 0) (h1 : k ≤ 40000) : wb (fB k) = dB k := by
  obtain ⟨f1, f2, f3, _, _, f4⟩ := fB_at h0 h1
  obtain ⟨d1, d2, d3, d4⟩ := dB_at h0 h1
  obtain ⟨_, w2, w3⟩ := wid_fin f1
  change sg D (wb (fB k)) = _ at w2
  change U D (rg D (wb (fB k))) = _ at w3
  refine eq_of_parts (f := D) (show wb (fB k) < 2 ^ D.width from wb_lt _) (show dB k < 2 ^ D.width from d3) (by rw [w2, f2, d1]) ?_
  rw [d2]
  refine U_inj (f := D) ?_
  rw [w3, f3, f4, d4, wide_eq]
  obtain ⟨c, hc⟩ : ∃ c : Nat, c = 925 := ⟨_, rfl⟩
  obtain ⟨e, he⟩ : ∃ e : Nat, e = 143 := ⟨_, rfl⟩
  obtain ⟨g, hg⟩ : ∃ g : Nat, g = 1068 := ⟨_, rfl⟩
  rw [← hc, ← he, ← hg, Nat.mul_assoc]
  unfold p2
  rw [← Nat.pow_add]
  congr 2
  omega
theorem posF_fB {k : Nat} (h0 : k ≠ 0) (h1 : k ≤ 40000) : posF (some (fB k)) = true := by
  obtain ⟨f1, f2, f3, f0, _, _⟩ := fB_at h0 h1
  unfold posF
  rw [finF_fin f1, Bool.true_and]
  have e : ord .f32 (some (fB k)) (some 0) = some (compare (I S (fB k)) 0) := cmp_zero (k := .f32) f1
  unfold cmpF
  simp only [e]
  have hU := U_lt (f := S) f0
  have hI : 0 < I S (fB k) := by
    unfold I
    rw [f2, f3]
    simp only [Bool.false_eq_true, if_false]
    omega
  rw [Int.compare_eq_gt.2 hI]
  rfl
/-- The product of two such numbers is one. -/
theorem prod_fB {a b c : Nat} (a0 : a ≠ 0) (a1 : a ≤ 40000) (b0 : b ≠ 0) (b1 : b ≤ 40000) (c0 : c ≠ 0) (c1 : c ≤ 40000) (h : a * b = 64 * c) : ar .mul .f32 (some (fB a)) (some (fB b)) = some (fB c) := by
  obtain ⟨fa, sa, ra, _, _, ua⟩ := fB_at a0 a1
  obtain ⟨fb, sb, rb, _, _, ub⟩ := fB_at b0 b1
  obtain ⟨fc, sc, rc, _, lc, uc⟩ := fB_at c0 c1
  obtain ⟨m, i, qa, ea⟩ := read_fin fa
  obtain ⟨n, j, qb, eb⟩ := read_fin fb
  rw [sa] at qa
  rw [sb] at qb
  rw [ra, ua] at ea
  rw [rb, ub] at eb
  have e1 : ar .mul .f32 (some (fB a)) (some (fB b)) = some (S.nearest false (m * n) (S.leastPlace + i + (S.leastPlace + j))) := by
    show ((S.read (fB a)).product (S.read (fB b))).map S.write = _
    rw [qa, qb]
    rfl
  rw [e1]
  congr 1
  refine eq_of_parts (f := S) (show S.nearest false (m * n) _ < 2 ^ S.width from Ieee.Format.write_lt S (.number false (m * n) _)) (show fB c < 2 ^ S.width from lc) (by rw [sg_nearest, sc]) ?_
  rw [rg_nearest, rc]
  refine rnd_exact (by have : rg S (fB c) < S.infRung := fc; omega) ?_
  rw [uc, S_least]
  obtain ⟨x, hx⟩ : ∃ x : Nat, x = 149 := ⟨_, rfl⟩
  obtain ⟨y, hy⟩ : ∃ y : Nat, y = 143 := ⟨_, rfl⟩
  rw [← hy] at ea eb ⊢
  refine pow_cancel_eq (k := min (i + j) x) ?_
  have g1 : (-149 + (i : Int) + (-149 + (j : Int)) - -149).toNat + min (i + j) x = i + j := by omega
  have g2 : (-149 - (-149 + (i : Int) + (-149 + (j : Int)))).toNat + min (i + j) x = x := by omega
  rw [g1, g2, Nat.pow_add]
  have g3 : m * n * (2 ^ i * 2 ^ j) = (m * 2 ^ i) * (n * 2 ^ j) := by simp [Nat.mul_assoc, Nat.mul_left_comm]
  rw [g3, ea, eb]
  have g4 : a * p2 y * (b * p2 y) = a * b * (p2 y * p2 y) := by simp [Nat.mul_assoc, Nat.mul_left_comm]
  rw [g4, h]
  have g5 : 64 * (p2 y * p2 y) = p2 y * 2 ^ x := by
    unfold p2
    rw [Nat.mul_left_comm]
    congr 1
    rw [show (64 : Nat) = 2 ^ 6 from rfl, ← Nat.pow_add]
    congr 1
    omega
  rw [Nat.mul_right_comm, g5, Nat.mul_comm, Nat.mul_assoc]
def eqN (u v : Option Nat) : Bool := match u, v with | some a, some b => Nat.beq a b | _, _ => false
theorem eqN_of {u v : Option Nat} (h : eqN u v = true) : u = v := by
  cases u <;> cases v <;> simp [eqN] at h
  subst h; rfl
theorem quo_fB (i : Nat) (hi : i < 200) : ar .quo .f32 (ofInt .f32 (1 + (i : Int))) (some 1090519040) = some (fB (8 * (i + 1))) :=
  eqN_of (allK_of (f := fun i => eqN (ar .quo .f32 (ofInt .f32 (1 + (i : Int))) (some 1090519040)) (some (fB (8 * (i + 1))))) (n := 200) (by kernel_rfl) i hi)
theorem ap_fB {k : Nat} (h0 : k ≠ 0) (h1 : k ≤ 40000) : Ap (tenX (fB k)) (kT k) 4194304 := by
  obtain ⟨r1, r2, r3, _⟩ := red_dB h0 h1
  obtain ⟨y1, y2, y3⟩ := ap_kY h0 h1
  have e := wb_fB h0 h1
  exact ap_ten (b := fB k) (Y := kY k) (e := kE k) (by rw [e]; exact y1) (by rw [e]; exact r1) y2 y3 r2 r3
theorem pos_fB {k : Nat} (h0 : k ≠ 0) (h1 : k ≤ 40000) : posF (some (fB k)) = true ∧ (3936146074321813504 ≤ wb (fB k) ∧ wb (fB k) < 5188146770730811392) := by
  obtain ⟨f1, f2, f3, f0, _, _⟩ := fB_at h0 h1
  exact ⟨posF_fB h0 h1, wb_pos f1 f2 (by rw [f3]; exact f0)⟩
/-- Tenths are small. -/
theorem tenV_small (v : Option Nat) {b : Nat} (h : IsF .f32 b v) : -4503599627370496 ≤ tenV v ∧ tenV v ≤ 4503599627370496 := by
  rcases posF_cases h with ⟨hp, rfl, hf, hs, h0⟩ | hp
  · obtain ⟨k1, k2⟩ := wb_pos hf hs h0
    obtain ⟨c, hc, fc, uc⟩ := tenX_fin k1 k2
    have hv : tenV (some b) = tz (floorD c) := by unfold tenV; simp only [hp, if_true, hc, Option.getD_some]
    obtain ⟨M, m1, m2, m3⟩ := floor_fin fc uc
    obtain ⟨n1, n2, n3⟩ := near_int (sg D c) m1
    rw [← m3] at n1 n2 n3
    obtain ⟨M2, _, t2, t3, _, _⟩ := tz_fin n1
    have hM : M2 ≤ M := by
      rw [n3] at t3
      obtain ⟨d, hd⟩ : ∃ d : Nat, d = 1074 := ⟨_, rfl⟩
      rw [← hd] at t3
      exact Nat.le_of_mul_le_mul_right t3 (Nat.two_pow_pos d)
    have e5 : (2 : Nat) ^ 51 = 2251799813685248 := by decide
    rw [hv, t2]
    split <;> omega
  · have hv : tenV v = 0 := by
      unfold tenV
      cases v with
      | none => rfl
      | some x => simp only [hp]; rfl
    omega
/-- The law's decibel part. -/
theorem ten_law {i j : Nat} (hi : i < 200) (hj : j < 200) :
    tenV (some (fB (8 * (i + 1)))) + tenV (some (fB (8 * (j + 1)))) - tenV (some (fB ((i + 1) * (j + 1)))) ≤ 1 ∧ tenV (some (fB ((i + 1) * (j + 1)))) - tenV (some (fB (8 * (i + 1)))) - tenV (some (fB (8 * (j + 1)))) ≤ 1 := by
  have hk : (i + 1) * (j + 1) ≤ 40000 := Nat.le_trans (Nat.mul_le_mul (show i + 1 ≤ 200 by omega) (show j + 1 ≤ 200 by omega)) (by decide)
  have hk0 : (i + 1) * (j + 1) ≠ 0 := Nat.mul_ne_zero (by omega) (by omega)
  have h := kOk_all hi hj
  obtain ⟨p1, w1⟩ := pos_fB (k := 8 * (i + 1)) (by omega) (by omega)
  obtain ⟨p2, w2⟩ := pos_fB (k := 8 * (j + 1)) (by omega) (by omega)
  obtain ⟨p3, w3⟩ := pos_fB hk0 hk
  exact ten_pair p1 p2 p3 w1 w2 w3 (ap_fB (by omega) (by omega)) (ap_fB (by omega) (by omega)) (ap_fB hk0 hk) h
theorem ten_mul {i j : Nat} (hi : i < 200) (hj : j < 200) : ar .mul .f32 (some (fB (8 * (i + 1)))) (some (fB (8 * (j + 1)))) = some (fB ((i + 1) * (j + 1))) ∧ posF (some (fB ((i + 1) * (j + 1)))) = true := by
  have hk : (i + 1) * (j + 1) ≤ 40000 := Nat.le_trans (Nat.mul_le_mul (show i + 1 ≤ 200 by omega) (show j + 1 ≤ 200 by omega)) (by decide)
  have hk0 : (i + 1) * (j + 1) ≠ 0 := Nat.mul_ne_zero (by omega) (by omega)
  refine ⟨prod_fB (by omega) (by omega) (by omega) (by omega) hk0 hk ?_, (pos_fB hk0 hk).1⟩
  rw [Nat.mul_mul_mul_comm]
/-- One. -/
theorem ten_zero : tenV (some 1065353216) = 0 ∧ posF (some 1065353216) = true := ⟨of_decide_eq_true (by kernel_rfl), by kernel_rfl⟩
theorem isF_fB {k : Nat} (h0 : k ≠ 0) (h1 : k ≤ 40000) : IsF .f32 (fB k) (some (fB k)) := by
  obtain ⟨f1, _, _, _, l, _⟩ := fB_at h0 h1
  refine IsF.lit ⟨?_, l⟩
  obtain ⟨m, j, hr, _⟩ := read_fin f1
  have hr : FloatKind.f32.format.read (fB k) = _ := hr
  rw [hr]
  rfl
end Go.Proofs.Ytaannebjpmdhjaa
