/-
  The sine of turns as a function of a float64 value, its bound; whole parts. No program is in sight.
-/
import Derived.Test.YtaannebjpmdhjaaAngp
namespace Go.Proofs.Ytaannebjpmdhjaa
set_option linter.unusedVariables false
set_option linter.unusedSimpArgs false
set_option maxRecDepth 20000
open Go.RowKit
namespace Fl
open Ieee

/-- A number's whole part, towards 0. -/
def tz (b : Nat) : Int := ((D.read b).toInt .zero).getD 0
theorem cut_zero_le (s : Bool) (n d : Nat) : Toward.zero.cut s n d * 2 ^ d ≤ n ∧ n < (Toward.zero.cut s n d + 1) * 2 ^ d := by
  have e : Toward.zero.cut s n d = n / (1 <<< min d (n.log2 + 2)) := rfl
  rw [e]
  rcases gap_cases n d with hg | ⟨h1, h2⟩
  · rw [hg]
    have hp : 0 < 2 ^ d := Nat.two_pow_pos d
    have h3 := Nat.div_add_mod n (2 ^ d)
    have h4 := Nat.mod_lt n hp
    rw [Nat.mul_comm] at h3
    refine ⟨by omega, ?_⟩
    rw [Nat.add_mul, Nat.one_mul]; omega
  · rw [Nat.div_eq_of_lt (by omega)]
    refine ⟨by omega, ?_⟩
    rw [Nat.zero_add, Nat.one_mul]; omega

/-- The whole part of a finite number: its size in units. -/
theorem tz_fin {b : Nat} (hf : Fin D b) : ∃ M : Nat, (D.read b).toInt .zero = some (tz b) ∧ tz b = (if sg D b then -(M : Int) else (M : Int)) ∧ M * 2 ^ 1074 ≤ U D (rg D b) ∧ U D (rg D b) < (M + 1) * 2 ^ 1074 ∧
    D.write ((D.read b).integral .zero) = D.nearest (sg D b) M 0 := by
  obtain ⟨m, k, hr, hm⟩ := read_fin hf
  obtain ⟨c, hc⟩ : ∃ c : Nat, c = 1074 := ⟨_, rfl⟩
  have hl : D.leastPlace = -(c : Int) := by rw [D_least, hc]; rfl
  obtain ⟨M, hM⟩ : ∃ M, M = Toward.zero.cut (sg D b) (m <<< (D.leastPlace + (k : Int)).toNat) (-(D.leastPlace + (k : Int))).toNat := ⟨_, rfl⟩
  have hi : (D.read b).toInt .zero = some (signed (sg D b) M 0) := by
    rw [hr]
    simp only [Datum.toInt, Datum.integral]
    rw [← hM]
  have ht : tz b = signed (sg D b) M 0 := by unfold tz; rw [hi]; rfl
  refine ⟨M, by rw [ht]; exact hi, ?_, ?_, ?_, ?_⟩
  · rw [ht, signed_eq]; simp
  · rw [← hc, ← hm]
    have h1 := (cut_zero_le (sg D b) (m <<< (D.leastPlace + (k : Int)).toNat) (-(D.leastPlace + (k : Int))).toNat).1
    rw [← hM, Nat.shiftLeft_eq, hl] at h1
    have e1 : M * 2 ^ ((-(-(c : Int) + (k : Int))).toNat + min k c) ≤ m * 2 ^ ((-(c : Int) + (k : Int)).toNat + min k c) := pow_cancel.2 h1
    rw [show (-(-(c : Int) + (k : Int))).toNat + min k c = c by omega, show (-(c : Int) + (k : Int)).toNat + min k c = k by omega] at e1
    exact e1
  · rw [← hc, ← hm]
    have h1 := (cut_zero_le (sg D b) (m <<< (D.leastPlace + (k : Int)).toNat) (-(D.leastPlace + (k : Int))).toNat).2
    rw [← hM, Nat.shiftLeft_eq, hl] at h1
    have e0 := Nat.mul_lt_mul_of_pos_right h1 (Nat.two_pow_pos (min k c))
    rw [Nat.mul_assoc, Nat.mul_assoc, ← Nat.pow_add, ← Nat.pow_add] at e0
    rw [show (-(-(c : Int) + (k : Int))).toNat + min k c = c by omega, show (-(c : Int) + (k : Int)).toNat + min k c = k by omega] at e0
    exact e0
  · rw [hr]
    simp only [Datum.integral]
    rw [← hM]
    rfl

/-- A number of few units becomes a small whole number. -/
theorem tz_bd {b e : Nat} (hf : Fin D b) (h : U D (rg D b) ≤ 2 ^ (1074 + e)) : (tz b).natAbs ≤ 2 ^ e := by
  obtain ⟨M, _, h2, h3, _⟩ := tz_fin hf
  have h4 : M ≤ 2 ^ e := by
    obtain ⟨c, hc⟩ : ∃ c : Nat, c = 1074 := ⟨_, rfl⟩
    rw [← hc] at h h3
    have h5 := Nat.le_trans h3 h
    rw [Nat.add_comm, Nat.pow_add] at h5
    exact Nat.le_of_mul_le_mul_right h5 (Nat.two_pow_pos c)
  rw [h2]
  split <;> omega

/-- A whole number below 2^53 is a float. -/
theorem near_int (s : Bool) {M : Nat} (h : M < 2 ^ 53) : Fin D (D.nearest s M 0) ∧ sg D (D.nearest s M 0) = s ∧ U D (rg D (D.nearest s M 0)) = M * 2 ^ 1074 := by
  obtain ⟨c, hc⟩ : ∃ c : Nat, c = 1074 := ⟨_, rfl⟩
  obtain ⟨r, hr⟩ := rung_of D M c (by rw [show D.binade = 2 ^ 52 from rfl]; omega)
  have hr2 : r < D.infRung := by
    refine lt_of_U (f := D) ?_
    rw [hr, U_D_inf]
    have h2 : M * 2 ^ c < 2 ^ 53 * 2 ^ c := Nat.mul_lt_mul_of_pos_right h (Nat.two_pow_pos c)
    rw [← Nat.pow_add] at h2
    exact Nat.lt_trans h2 (p2_lt (by omega))
  have hrnd : rnd D M 0 = r := by
    refine rnd_exact (Nat.le_of_lt hr2) ?_
    rw [hr, D_least, show (0 - -1074 : Int).toNat = c by omega, show ((-1074 : Int) - 0).toNat = 0 by omega, Nat.pow_zero, Nat.mul_one]
  refine ⟨by unfold Fin; rw [rg_nearest, hrnd]; exact hr2, sg_nearest .., ?_⟩
  rw [rg_nearest, hrnd, hr, hc]

/-- The whole part as a float, +0 where it is 0. -/
def wholeV (v : Option Nat) : Option Nat := match v with | none => none | some b => ofInt .f64 (tz b)
/-- What is left behind the point. -/
def frac1 (v : Option Nat) : Option Nat := ar .sub .f64 v (wholeV v)
def frac (v : Option Nat) : Option Nat := if cmpF .lss .f64 (frac1 v) (some 0) then ar .add .f64 (frac1 v) (some 4607182418800017408) else frac1 v

/-- The truncated number, a zero made +0. -/
theorem trunc_whole {b : Nat} (hf : Fin D b) (h : U D (rg D b) < 2 ^ (1074 + 53)) :
    (if cmpF .eql .f64 (some (D.write ((D.read b).integral .zero))) (some 0) then some 0 else some (D.write ((D.read b).integral .zero))) = ofInt .f64 (tz b) := by
  obtain ⟨M, h1, h2, h3, h4, h5⟩ := tz_fin hf
  have hM : M < 2 ^ 53 := by
    obtain ⟨c, hc⟩ : ∃ c : Nat, c = 1074 := ⟨_, rfl⟩
    rw [← hc] at h h3
    have h5 := Nat.lt_of_le_of_lt h3 h
    rw [Nat.add_comm, Nat.pow_add] at h5
    exact Nat.lt_of_mul_lt_mul_right h5
  obtain ⟨n1, n2, n3⟩ := near_int (sg D b) hM
  rw [h5]
  have hz : cmpF .eql .f64 (some (D.nearest (sg D b) M 0)) (some 0) = decide (M = 0) := by
    have e : ord .f64 (some (D.nearest (sg D b) M 0)) (some 0) = some (compare (I D (D.nearest (sg D b) M 0)) 0) := cmp_zero (k := .f64) n1
    unfold cmpF
    simp only [e]
    obtain ⟨c, hc⟩ : ∃ c : Nat, c = 1074 := ⟨_, rfl⟩
    rw [← hc] at n3
    have hp : 0 < 2 ^ c := Nat.two_pow_pos _
    have hI : I D (D.nearest (sg D b) M 0) = 0 ↔ M = 0 := by
      rw [I_eq_zero, ← U_eq_zero (f := D), n3, Nat.mul_eq_zero]
      constructor
      · rintro (h | h)
        · exact h
        · omega
      · exact .inl
    by_cases h0 : M = 0
    · rw [hI.2 h0, decide_eq_true h0]; rfl
    · rw [decide_eq_false h0]
      have hne : I D (D.nearest (sg D b) M 0) ≠ 0 := fun h => h0 (hI.1 h)
      generalize I D (D.nearest (sg D b) M 0) = x at *
      rcases Int.lt_trichotomy x 0 with h | h | h
      · rw [Int.compare_eq_lt.2 h]; rfl
      · exact absurd h hne
      · rw [Int.compare_eq_gt.2 h]; rfl
  rw [hz, h2]
  by_cases h0 : M = 0
  · subst h0
    rw [if_pos (by simp)]
    simp only [Int.ofNat_zero, Int.neg_zero, ite_self]
    decide +kernel
  · rw [if_neg (by simpa using h0)]
    unfold ofInt floatOfInt
    show some (D.nearest _ _ _) = some (D.nearest _ _ _)
    cases sg D b
    · simp only [Bool.false_eq_true, if_false]
      rw [decide_eq_false (by omega), Int.natAbs_natCast]
    · simp only [if_true]
      rw [decide_eq_true (by omega), Int.natAbs_neg, Int.natAbs_natCast]

/-- What is left behind the point is at most 1. -/
theorem bd_frac1 {b : Nat} (hf : Fin D b) (h : U D (rg D b) < 2 ^ (1074 + 53)) : Bd 1074 (frac1 (some b)) := by
  obtain ⟨M, h1, h2, h3, h4, h5⟩ := tz_fin hf
  obtain ⟨c, hc⟩ : ∃ c : Nat, c = 1074 := ⟨_, rfl⟩
  have hM : M < 2 ^ 53 := by
    rw [← hc] at h h3
    have h5 := Nat.lt_of_le_of_lt h3 h
    rw [Nat.add_comm, Nat.pow_add] at h5
    exact Nat.lt_of_mul_lt_mul_right h5
  obtain ⟨t, ht⟩ : ∃ t, t = decide (tz b < 0) := ⟨_, rfl⟩
  have hw : wholeV (some b) = some (D.nearest t M 0) := by
    show some (D.nearest (decide (tz b < 0)) (tz b).natAbs 0) = _
    rw [← ht]
    congr 2
    rw [h2]; split <;> omega
  have htM : t = true → sg D b = true := by
    intro h
    rw [ht] at h
    have h6 : tz b < 0 := by simpa using h
    rw [h2] at h6
    cases hs : sg D b
    · rw [hs] at h6; simp at h6; omega
    · rfl
  have htF : t = false → sg D b = true → M = 0 := by
    intro h hs
    rw [ht] at h
    have h6 : ¬ tz b < 0 := by simpa using h
    rw [h2, hs] at h6
    simp at h6
    omega
  obtain ⟨n1, n2, n3⟩ := near_int t hM
  obtain ⟨x, hx⟩ : ∃ x, x = D.nearest t M 0 := ⟨_, rfl⟩
  rw [← hx] at n1 n2 n3 hw
  obtain ⟨m, i, rb, eb⟩ := read_fin hf
  obtain ⟨n, j, rc, ec⟩ := read_fin n1
  unfold frac1
  rw [hw]
  show Bd 1074 (((D.read b).sum (D.read x).opposite).map D.write)
  rw [rb, rc]
  show Bd 1074 (((Datum.number (sg D b) m (D.leastPlace + i)).sum (.number (!sg D x) n (D.leastPlace + j))).map D.write)
  obtain ⟨q, mag, g1, g2, _⟩ := sum_at (sg D b) (!sg D x) m i n j
  rw [g1]
  rw [← hc] at h3 h4 n3 ⊢
  refine ⟨q, near_at q ?_ (by omega)⟩
  rw [g2, n2, eb, ec, n3]
  rw [Nat.add_mul, Nat.one_mul] at h4
  generalize U D (rg D b) = y at *
  cases hs : sg D b
  · have htf : t = false := by
      cases t with
      | false => rfl
      | true => exact absurd (htM rfl) (by rw [hs]; decide)
    rw [htf]
    simp only [Bool.false_eq_true, if_false, Bool.not_false, if_true]
    generalize M * 2 ^ c = z at *
    omega
  · cases t with
    | true =>
      simp only [Bool.not_true, Bool.false_eq_true, if_false, if_true]
      generalize M * 2 ^ c = z at *
      omega
    | false =>
      have hM0 := htF rfl hs
      subst hM0
      rw [Nat.zero_mul] at *
      simp only [Bool.not_false, if_true]
      omega
theorem bd_frac {b : Nat} (hf : Fin D b) (h : U D (rg D b) < 2 ^ (1074 + 53)) : Bd 1074 (frac (some b)) := by
  have h1 := bd_frac1 hf h
  unfold frac
  split
  · rename_i hl
    obtain ⟨s, x, hx, fx, sx, ux⟩ := h1
    rw [hx] at hl ⊢
    have hs : sg D x = true := by
      have e : ord .f64 (some x) (some 0) = some (compare (I D x) 0) := cmp_zero (k := .f64) fx
      unfold cmpF at hl
      simp only [e] at hl
      have hlt : I D x < 0 := by
        rcases Int.lt_trichotomy (I D x) 0 with h | h | h
        · exact h
        · rw [h] at hl; simp at hl
        · rw [Int.compare_eq_gt.2 h] at hl; simp at hl
      unfold I at hlt
      cases hs : sg D x
      · rw [hs] at hlt; simp at hlt; omega
      · rfl
    have hc : ar .add .f64 (some x) (some 4607182418800017408) = ar .add .f64 (some 4607182418800017408) (some x) := by
      show ((D.read x).sum (D.read 4607182418800017408)).map D.write = ((D.read 4607182418800017408).sum (D.read x)).map D.write
      obtain ⟨m, i, rb, eb⟩ := read_fin fx
      have ro : D.read 4607182418800017408 = .number false (2 ^ 52) (-52) := by decide +kernel
      rw [rb, ro]
      simp only [Datum.sum]
      rw [Int.min_comm, Int.add_comm, Bool.and_comm]
    rw [hc]
    exact (bs_one_sub lo_one bs_one ⟨x, rfl, fx, hs, ux⟩ (by decide)).bd
  · exact h1

/-! ### The sine -/
def sinP (u : Option Nat) : Nat → Option Nat
  | 0 => some 4607182418800017408
  | j + 1 => ar .sub .f64 (some 4607182418800017408) (ar .quo .f64 (ar .mul .f64 u (sinP u j)) (ofInt .f64 (2 * (8 - j) * (2 * (8 - j) + 1))))
def sin1 (f : Option Nat) : Option Nat := if cmpF .geq .f64 f (some 4602678819172646912) then ar .sub .f64 f (some 4602678819172646912) else f
def sin2 (f : Option Nat) : Option Nat := if cmpF .gtr .f64 (sin1 f) (some 4598175219545276416) then ar .sub .f64 (some 4602678819172646912) (sin1 f) else sin1 f
def sin3 (f : Option Nat) : Option Nat := ar .mul .f64 (sin2 f) (some 4618760256179416344)
def sin4 (f : Option Nat) : Option Nat := ar .mul .f64 (sin3 f) (sinP (ar .mul .f64 (sin3 f) (sin3 f)) 8)
def sinF (f : Option Nat) : Option Nat := if cmpF .geq .f64 f (some 4602678819172646912) then neg .f64 (sin4 f) else sin4 f
def sinV (v : Option Nat) : Option Nat := sinF (frac v)
theorem k_prod : ∀ j : Nat, j < 8 → ar .mul .f64 (ar .mul .f64 (some 4611686018427387904) (ofInt .f64 (8 - j))) (ar .add .f64 (ar .mul .f64 (some 4611686018427387904) (ofInt .f64 (8 - j))) (some 4607182418800017408)) = ofInt .f64 (2 * (8 - j) * (2 * (8 - j) + 1)) := by decide +kernel
theorem bs_k8 : ∀ j : Nat, j < 8 → (decide (rg D (floatOfInt .f64 (2 * (8 - (j : Int)) * (2 * (8 - (j : Int)) + 1))) < D.infRung) && !sg D (floatOfInt .f64 (2 * (8 - (j : Int)) * (2 * (8 - (j : Int)) + 1))) && decide (U D (rg D (floatOfInt .f64 (2 * (8 - (j : Int)) * (2 * (8 - (j : Int)) + 1)))) ≤ p2 1085)) = true := by decide +kernel
theorem lo_k8 : ∀ j : Nat, j < 8 → (decide (rg D (floatOfInt .f64 (2 * (8 - (j : Int)) * (2 * (8 - (j : Int)) + 1))) < D.infRung) && decide (p2 1074 ≤ U D (rg D (floatOfInt .f64 (2 * (8 - (j : Int)) * (2 * (8 - (j : Int)) + 1)))))) = true := by decide +kernel
theorem bd_half : Bd 1073 (some 4602678819172646912) := (bs_lit (by decide +kernel)).bd
theorem bd_sin4 {f : Option Nat} (h : Bd 1074 f) : Bd 1167 (sin4 f) := by
  have h1 : Bd 1075 (sin1 f) := by
    unfold sin1
    split
    · exact bd_sub h bd_half (by decide) (by decide) (by decide)
    · exact h.mono (by decide)
  have h2 : Bd 1076 (sin2 f) := by
    unfold sin2
    split
    · exact bd_sub bd_half h1 (by decide) (by decide) (by decide)
    · exact h1.mono (by decide)
  have h3 : Bd 1079 (sin3 f) := bd_mul h2 (bs_lit (b := 4618760256179416344) (e := 1077) (by decide +kernel)).bd (by decide) (by decide)
  have hu : Bd 1084 (ar .mul .f64 (sin3 f) (sin3 f)) := bd_mul h3 h3 (by decide) (by decide)
  have hp : ∀ j, j ≤ 8 → Bd (1074 + 11 * j) (sinP (ar .mul .f64 (sin3 f) (sin3 f)) j) := by
    intro j
    induction j with
    | zero => intro _; exact bs_one.bd
    | succ j ih =>
      intro hj
      have ih := ih (by omega)
      have g1 : Bd (1084 + 11 * j) (ar .mul .f64 (ar .mul .f64 (sin3 f) (sin3 f)) (sinP (ar .mul .f64 (sin3 f) (sin3 f)) j)) := bd_mul hu ih (by omega) (by omega)
      have g2 : Bd (1084 + 11 * j) (ar .quo .f64 (ar .mul .f64 (ar .mul .f64 (sin3 f) (sin3 f)) (sinP (ar .mul .f64 (sin3 f) (sin3 f)) j)) (ofInt .f64 (2 * (8 - j) * (2 * (8 - j) + 1)))) := bd_quo g1 (bs_lit (bs_k8 j (by omega))).bd (lo_lit (lo_k8 j (by omega))) (by omega) (by omega)
      exact bd_sub bs_one.bd g2 (by omega) (by omega) (by omega)
  exact bd_mul h3 (hp 8 (by decide)) (by decide) (by decide)
end Fl
end Go.Proofs.Ytaannebjpmdhjaa
