/-
  Whole numbers as floats: sums, products and quotients of them are exact. No program is in sight.
-/
import Derived.Test.YtaannebjpmdhjaaNrw
import Derived.Test.YtaannebjpmdhjaaMag
import Derived.Test.YtaannebjpmdhjaaHalf
import Derived.Test.YtaannebjpmdhjaaTrigp
namespace Go.Proofs.Ytaannebjpmdhjaa
set_option linter.unusedVariables false
set_option linter.unusedSimpArgs false
set_option maxRecDepth 20000
open Ieee Fl

/-- The float64 is the whole number M with the sign s. -/
def Wh (s : Bool) (M : Nat) (v : Option Nat) : Prop := ∃ b, v = some b ∧ Fl.Fin D b ∧ sg D b = s ∧ U D (rg D b) = M * 2 ^ 1074
theorem near_congr {mag x K y : Nat} {place : Int} (q : Bool) (h : mag * 2 ^ x = K * 2 ^ y) (hp : place = (x : Int) - y) : D.nearest q mag place = D.nearest q K 0 := by
  rw [nearest_eq, nearest_eq]
  congr 1
  have e1 := rnd_shift (f := D) x (mag := mag) (place := -(y : Int))
  have e2 := rnd_shift (f := D) y (mag := K) (place := -(y : Int))
  rw [show -(y : Int) + x = place by omega] at e1
  rw [show -(y : Int) + y = 0 by omega] at e2
  rw [← e1, ← e2, h]
theorem wh_near (s : Bool) {M : Nat} (h : M < 2 ^ 53) : Wh s M (some (D.nearest s M 0)) := ⟨_, rfl, near_int s h⟩
theorem Wh.eq {s : Bool} {M : Nat} {u v : Option Nat} (hu : Wh s M u) (hv : Wh s M v) (iu : ∀ b, u = some b → b < 2 ^ D.width) (iv : ∀ b, v = some b → b < 2 ^ D.width) : u = v := by
  obtain ⟨b, rfl, _, h2, h3⟩ := hu
  obtain ⟨c, rfl, _, k2, k3⟩ := hv
  congr 1
  refine eq_of_parts (iu b rfl) (iv c rfl) (h2.trans k2.symm) ?_
  exact U_inj (h3.trans k3.symm)
theorem wh_mul {s t : Bool} {M N : Nat} {u v : Option Nat} (hu : Wh s M u) (hv : Wh t N v) (h : M * N < 2 ^ 53) : Wh (s ^^ t) (M * N) (ar .mul .f64 u v) := by
  obtain ⟨b, rfl, hb, rfl, h1⟩ := hu
  obtain ⟨c, rfl, hc, rfl, h2⟩ := hv
  obtain ⟨m, i, rb, eb⟩ := read_fin hb
  obtain ⟨n, j, rc, ec⟩ := read_fin hc
  have e : ar .mul .f64 (some b) (some c) = some (D.nearest (sg D b ^^ sg D c) (m * n) (D.leastPlace + i + (D.leastPlace + j))) := by
    show ((D.read b).product (D.read c)).map D.write = _
    rw [rb, rc]
    rfl
  obtain ⟨k, hk⟩ : ∃ k : Nat, k = 1074 := ⟨_, rfl⟩
  rw [← hk] at h1 h2
  rw [e, near_congr _ (x := i + j) (K := M * N) (y := k + k) ?_ (by rw [D_least]; omega)]
  · exact wh_near _ h
  · rw [Nat.pow_add, Nat.pow_add, show m * n * (2 ^ i * 2 ^ j) = (m * 2 ^ i) * (n * 2 ^ j) by simp [Nat.mul_assoc, Nat.mul_left_comm], eb, ec, h1, h2]
    simp [Nat.mul_assoc, Nat.mul_left_comm]
/-- A number with a sign. -/
def sz (s : Bool) (M : Nat) : Int := if s then -(M : Int) else (M : Int)
theorem wh_sum {s t : Bool} {b c M N : Nat} (hb : Fl.Fin D b) (hc : Fl.Fin D c) (h1 : U D (rg D b) = M * 2 ^ 1074) (h2 : U D (rg D c) = N * 2 ^ 1074) (h : M + N < 2 ^ 53)
    {m i n j : Nat} (eb : m * 2 ^ i = U D (rg D b)) (ec : n * 2 ^ j = U D (rg D c)) :
    Wh (if sz s M + sz t N = 0 then s && t else decide (sz s M + sz t N < 0)) (sz s M + sz t N).natAbs (((Datum.number s m (D.leastPlace + i)).sum (.number t n (D.leastPlace + j))).map D.write) := by
  obtain ⟨q, mag, h3, h4, h5⟩ := sum_at s t m i n j
  obtain ⟨k, hk⟩ : ∃ k : Nat, k = 1074 := ⟨_, rfl⟩
  rw [← hk] at h1 h2
  rw [eb, ec, h1, h2] at h4 h5
  have hz : (if s then -((M * 2 ^ k : Nat) : Int) else ((M * 2 ^ k : Nat) : Int)) + (if t then -((N * 2 ^ k : Nat) : Int) else ((N * 2 ^ k : Nat) : Int)) = (sz s M + sz t N) * ((2 ^ k : Nat) : Int) := by
    unfold sz
    cases s <;> cases t <;> simp [Int.add_mul, Int.neg_mul]
  rw [hz] at h4 h5
  have hp : (0 : Int) < ((2 ^ k : Nat) : Int) := by have := Nat.two_pow_pos k; omega
  have hn : (sz s M + sz t N).natAbs < 2 ^ 53 := by unfold sz; cases s <;> cases t <;> simp <;> omega
  generalize sz s M + sz t N = z at *
  rw [Int.natAbs_mul, Int.natAbs_natCast] at h4
  have hq : q = (if z = 0 then s && t else decide (z < 0)) := by
    rw [h5]
    generalize ((2 ^ k : Nat) : Int) = p at *
    have e1 : (z * p = 0) ↔ z = 0 := by rw [Int.mul_eq_zero]; omega
    have e2 : (z * p < 0) ↔ z < 0 := by
      constructor
      · intro h
        by_cases h3 : z < 0
        · exact h3
        · have := Int.mul_nonneg (show 0 ≤ z by omega) (Int.le_of_lt hp); omega
      · intro h; exact Int.mul_neg_of_neg_of_pos h hp
    simp only [e1, e2]
  rw [h3, ← hq]
  show Wh q z.natAbs (some (D.nearest q mag (D.leastPlace + ((min i j : Nat) : Int))))
  rw [near_congr q (x := min i j) (K := z.natAbs) (y := k) h4 (by rw [D_least]; omega)]
  exact wh_near _ hn
theorem wh_add {s t : Bool} {M N : Nat} {u v : Option Nat} (hu : Wh s M u) (hv : Wh t N v) (h : M + N < 2 ^ 53) :
    Wh (if sz s M + sz t N = 0 then s && t else decide (sz s M + sz t N < 0)) (sz s M + sz t N).natAbs (ar .add .f64 u v) := by
  obtain ⟨b, rfl, hb, rfl, h1⟩ := hu
  obtain ⟨c, rfl, hc, rfl, h2⟩ := hv
  obtain ⟨m, i, rb, eb⟩ := read_fin hb
  obtain ⟨n, j, rc, ec⟩ := read_fin hc
  show Wh _ _ (((D.read b).sum (D.read c)).map D.write)
  rw [rb, rc]
  exact wh_sum hb hc h1 h2 h eb ec
theorem wh_sub {s t : Bool} {M N : Nat} {u v : Option Nat} (hu : Wh s M u) (hv : Wh t N v) (h : M + N < 2 ^ 53) :
    Wh (if sz s M + sz (!t) N = 0 then s && !t else decide (sz s M + sz (!t) N < 0)) (sz s M + sz (!t) N).natAbs (ar .sub .f64 u v) := by
  obtain ⟨b, rfl, hb, rfl, h1⟩ := hu
  obtain ⟨c, rfl, hc, rfl, h2⟩ := hv
  obtain ⟨m, i, rb, eb⟩ := read_fin hb
  obtain ⟨n, j, rc, ec⟩ := read_fin hc
  show Wh _ _ (((D.read b).sum (D.read c).opposite).map D.write)
  rw [rb, rc]
  exact wh_sum hb hc h1 h2 h eb ec
theorem wh_quo {s t : Bool} {K N : Nat} {u v : Option Nat} (hu : Wh s (K * N) u) (hv : Wh t N v) (hN : 0 < N) (hK : K < 2 ^ 53) : Wh (s ^^ t) K (ar .quo .f64 u v) := by
  obtain ⟨b, rfl, hb, rfl, h1⟩ := hu
  obtain ⟨c, rfl, hc, rfl, h2⟩ := hv
  obtain ⟨m, i, rb, eb⟩ := read_fin hb
  obtain ⟨n, j, rc, ec⟩ := read_fin hc
  obtain ⟨k, hk⟩ : ∃ k : Nat, k = 1074 := ⟨_, rfl⟩
  rw [← hk] at h1 h2
  have hn : n ≠ 0 := by
    rintro rfl
    rw [Nat.zero_mul, h2] at ec
    have := Nat.mul_pos hN (Nat.two_pow_pos k)
    omega
  obtain ⟨more, hmore⟩ : ∃ more, more = D.fractionBits + 2 + n.log2 - m.log2 := ⟨_, rfl⟩
  obtain ⟨d, hd⟩ : ∃ d, d = m * 2 ^ more := ⟨_, rfl⟩
  obtain ⟨st, hst⟩ : ∃ st, st = (d % n != 0).toNat := ⟨_, rfl⟩
  have e1 : ar .quo .f64 (some b) (some c) = some (D.nearest (sg D b ^^ sg D c) (2 * (d / n) + st) (D.leastPlace + i - (D.leastPlace + j) - more - 1)) := by
    show ((D.read b).quotient (D.fractionBits + 2) (D.read c)).map D.write = _
    rw [rb, rc]
    simp only [Datum.quotient]
    rw [if_neg hn, ← hmore, Nat.shiftLeft_eq, ← hd, ← hst]
    rfl
  -- m * 2^i = K * (n * 2^j)
  have hx : m * 2 ^ i = K * (n * 2 ^ j) := by rw [eb, ec, h1, h2, Nat.mul_assoc]
  rcases Nat.eq_zero_or_pos K with h0 | h0
  · subst h0
    have hm : m = 0 := by
      rw [Nat.zero_mul] at hx
      rcases Nat.mul_eq_zero.1 hx with h | h
      · exact h
      · exact absurd h (Nat.ne_of_gt (Nat.two_pow_pos _))
    have hd0 : d = 0 := by rw [hd, hm, Nat.zero_mul]
    have hs0 : st = 0 := by rw [hst, hd0]; simp
    rw [e1, hd0, hs0, near_congr _ (x := i) (K := 0) (y := j + more + 1) (by simp) (by omega)]
    exact wh_near _ (by decide)
  · have hm : m ≠ 0 := by
      rintro rfl
      rw [Nat.zero_mul] at hx
      have := Nat.mul_pos h0 (Nat.mul_pos (Nat.pos_of_ne_zero hn) (Nat.two_pow_pos j))
      omega
    -- d * 2^i = K * n * 2^(j + more)
    have hdx : d * 2 ^ i = K * n * 2 ^ (j + more) := by
      rw [hd, Nat.pow_add, Nat.mul_right_comm, hx]
      simp [Nat.mul_assoc]
    have hbig : n * 2 ^ 53 ≤ d := by
      have a1 : 2 ^ m.log2 ≤ m := Nat.log2_self_le hm
      have a2 : n < 2 ^ (n.log2 + 1) := Nat.lt_log2_self
      have a3 : 2 ^ (m.log2 + more) ≤ d := by rw [hd, Nat.pow_add]; exact Nat.mul_le_mul_right _ a1
      have a4 : 2 ^ (n.log2 + 1 + 53) ≤ 2 ^ (m.log2 + more) := Nat.pow_le_pow_right (by decide) (by rw [hmore, show D.fractionBits = 52 from rfl]; omega)
      have a5 : n * 2 ^ 53 ≤ 2 ^ (n.log2 + 1) * 2 ^ 53 := Nat.mul_le_mul_right _ (Nat.le_of_lt a2)
      rw [← Nat.pow_add] at a5
      omega
    have hle : i ≤ j + more := by
      rcases Nat.lt_or_ge (j + more) i with h6 | h6
      · exfalso
        have a1 : 2 ^ (j + more) ≤ 2 ^ i := Nat.pow_le_pow_right (by decide) (by omega)
        have a2 : n * 2 ^ 53 * 2 ^ i ≤ d * 2 ^ i := Nat.mul_le_mul_right _ hbig
        rw [hdx] at a2
        have a3 : K * n * 2 ^ (j + more) ≤ K * n * 2 ^ i := Nat.mul_le_mul_left _ a1
        have a4 : n * 2 ^ 53 * 2 ^ i ≤ K * n * 2 ^ i := Nat.le_trans a2 a3
        have a5 : n * 2 ^ 53 ≤ K * n := Nat.le_of_mul_le_mul_right a4 (Nat.two_pow_pos _)
        rw [Nat.mul_comm K n] at a5
        have := Nat.le_of_mul_le_mul_left a5 (Nat.pos_of_ne_zero hn)
        omega
      · exact h6
    obtain ⟨z, hz⟩ : ∃ z, j + more = z + i := ⟨j + more - i, by omega⟩
    rw [hz, Nat.pow_add, ← Nat.mul_assoc] at hdx
    have hdz : d = K * n * 2 ^ z := Nat.eq_of_mul_eq_mul_right (Nat.two_pow_pos _) hdx
    have hdn : d = n * (K * 2 ^ z) := by rw [hdz, Nat.mul_comm K n, Nat.mul_assoc]
    have hq : d / n = K * 2 ^ z := by rw [hdn]; exact Nat.mul_div_cancel_left _ (Nat.pos_of_ne_zero hn)
    have hr : st = 0 := by rw [hst, hdn, Nat.mul_mod_right]; rfl
    rw [e1, hq, hr, near_congr _ (x := 0) (K := K) (y := z + 1) ?_ (by omega)]
    · exact wh_near _ hK
    · rw [Nat.pow_succ]
      simp [Nat.mul_comm, Nat.mul_left_comm]
/-- The same of float32. -/
def Wh32 (s : Bool) (M : Nat) (v : Option Nat) : Prop := ∃ b, v = some b ∧ Fl.Fin S b ∧ sg S b = s ∧ U S (rg S b) = M * 2 ^ 149
theorem near_int32 (s : Bool) {M : Nat} (h : M < 2 ^ 24) : Fl.Fin S (S.nearest s M 0) ∧ sg S (S.nearest s M 0) = s ∧ U S (rg S (S.nearest s M 0)) = M * 2 ^ 149 := by
  obtain ⟨c, hc⟩ : ∃ c : Nat, c = 149 := ⟨_, rfl⟩
  obtain ⟨r, hr⟩ := rung_of S M c (by rw [show S.binade = 2 ^ 23 from rfl]; omega)
  have hr2 : r < S.infRung := by
    refine lt_of_U (f := S) ?_
    rw [hr]
    have h2 : M * 2 ^ c < 2 ^ 24 * 2 ^ c := Nat.mul_lt_mul_of_pos_right h (Nat.two_pow_pos c)
    refine Nat.lt_of_lt_of_le h2 ?_
    rw [hc]
    decide +kernel
  have hrnd : rnd S M 0 = r := by
    refine rnd_exact (Nat.le_of_lt hr2) ?_
    rw [hr, S_least, show (0 - -149 : Int).toNat = c by omega, show ((-149 : Int) - 0).toNat = 0 by omega, Nat.pow_zero, Nat.mul_one]
  refine ⟨by unfold Fl.Fin; rw [rg_nearest, hrnd]; exact hr2, sg_nearest .., ?_⟩
  rw [rg_nearest, hrnd, hr, hc]
theorem wh32_int {n : Int} (h : n.natAbs < 2 ^ 24) : Wh32 (decide (n < 0)) n.natAbs (ofInt .f32 n) := ⟨_, rfl, near_int32 _ h⟩
theorem wh_int {n : Int} (h : n.natAbs < 2 ^ 53) : Wh (decide (n < 0)) n.natAbs (ofInt .f64 n) := ⟨_, rfl, near_int _ h⟩
theorem wh_wid {s : Bool} {M : Nat} {v : Option Nat} (h : Wh32 s M v) : Wh s M (wid v) := by
  obtain ⟨b, rfl, hb, rfl, h1⟩ := h
  obtain ⟨k1, k2, k3⟩ := wid_fin hb
  refine ⟨_, rfl, k1, k2, ?_⟩
  show U D (rg D (D.write (S.read b))) = _
  rw [k3, h1, wide_eq]
  obtain ⟨c, hc⟩ : ∃ c : Nat, c = 149 := ⟨_, rfl⟩
  obtain ⟨d, hd⟩ : ∃ d : Nat, d = 925 := ⟨_, rfl⟩
  rw [← hc, ← hd, Nat.mul_assoc, ← Nat.pow_add]
  congr 2
  omega
theorem wh_nar {s : Bool} {M : Nat} {v : Option Nat} (h : Wh s M v) (hM : M < 2 ^ 24) : NarOk v ∧ Wh32 s M (nar v) := by
  obtain ⟨b, rfl, hb, rfl, h1⟩ := h
  obtain ⟨k1, k2, k3⟩ := near_int32 (sg D b) hM
  have hU : U D (rg D b) = U S (rg S (S.nearest (sg D b) M 0)) * wide := by
    rw [k3, h1, wide_eq]
    obtain ⟨c, hc⟩ : ∃ c : Nat, c = 149 := ⟨_, rfl⟩
    obtain ⟨d, hd⟩ : ∃ d : Nat, d = 925 := ⟨_, rfl⟩
    rw [← hc, ← hd, Nat.mul_assoc, ← Nat.pow_add]
    congr 2
    omega
  have hlt : rg S (S.nearest (sg D b) M 0) < S.infRung := k1
  refine ⟨narOk_fin hb ?_, ?_⟩
  · rw [hU]
    exact Nat.mul_le_mul_right _ (U_le (by omega))
  · rw [nar_exact hb (Nat.le_of_lt hlt) hU]
    have hw := word_of S (show S.nearest (sg D b) M 0 < 2 ^ S.width from Ieee.Format.write_lt S (.number (sg D b) M 0))
    rw [k2] at hw
    rw [← hw]
    exact ⟨_, rfl, k1, k2, k3⟩
theorem wh32_eql {s t : Bool} {M N : Nat} {u v : Option Nat} (hu : Wh32 s M u) (hv : Wh32 t N v) : cmpF .eql .f32 u v = decide (sz s M = sz t N) := by
  obtain ⟨b, rfl, hb, rfl, h1⟩ := hu
  obtain ⟨c, rfl, hc, rfl, h2⟩ := hv
  have ho : ord .f32 (some b) (some c) = some (compare (I S b) (I S c)) := order_fin hb hc
  unfold cmpF
  simp only [ho]
  have e1 : I S b = sz (sg S b) M * ((2 ^ 149 : Nat) : Int) := by
    unfold I sz
    rw [h1]
    cases sg S b <;> simp [Int.neg_mul]
  have e2 : I S c = sz (sg S c) N * ((2 ^ 149 : Nat) : Int) := by
    unfold I sz
    rw [h2]
    cases sg S c <;> simp [Int.neg_mul]
  rw [e1, e2, compare_mul _ _ _ (Nat.two_pow_pos 149)]
  generalize sz (sg S b) M = x
  generalize sz (sg S c) N = y
  rcases Int.lt_trichotomy x y with h | h | h
  · rw [Int.compare_eq_lt.2 h, decide_eq_false (by omega)]; rfl
  · subst h; simp
  · rw [Int.compare_eq_gt.2 h, decide_eq_false (by omega)]; rfl
/-- An integer, whatever the sign of its zero. -/
def W (n : Int) (v : Option Nat) : Prop := ∃ s, Wh s n.natAbs v ∧ sz s n.natAbs = n
def W32 (n : Int) (v : Option Nat) : Prop := ∃ s, Wh32 s n.natAbs v ∧ sz s n.natAbs = n
theorem sz_dec (n : Int) : sz (decide (n < 0)) n.natAbs = n := by
  unfold sz
  by_cases h : n < 0
  · simp [h]; omega
  · simp [h]; omega
theorem w_int {n : Int} (h : n.natAbs < 2 ^ 53) : W n (ofInt .f64 n) := ⟨_, wh_int h, sz_dec n⟩
theorem w32_int {n : Int} (h : n.natAbs < 2 ^ 24) : W32 n (ofInt .f32 n) := ⟨_, wh32_int h, sz_dec n⟩
theorem w_wid {n : Int} {v : Option Nat} (h : W32 n v) : W n (wid v) := by
  obtain ⟨s, h1, h2⟩ := h
  exact ⟨s, wh_wid h1, h2⟩
theorem w_nar {n : Int} {v : Option Nat} (h : W n v) (hM : n.natAbs < 2 ^ 24) : NarOk v ∧ W32 n (nar v) := by
  obtain ⟨s, h1, h2⟩ := h
  obtain ⟨k1, k2⟩ := wh_nar h1 hM
  exact ⟨k1, s, k2, h2⟩
theorem sz_mul (s t : Bool) (M N : Nat) : sz (s ^^ t) (M * N) = sz s M * sz t N := by
  unfold sz
  cases s <;> cases t <;> simp [Int.neg_mul, Int.mul_neg]
theorem w_mul {a b : Int} {u v : Option Nat} (hu : W a u) (hv : W b v) (h : a.natAbs * b.natAbs < 2 ^ 53) : W (a * b) (ar .mul .f64 u v) := by
  obtain ⟨s, h1, h2⟩ := hu
  obtain ⟨t, h3, h4⟩ := hv
  refine ⟨s ^^ t, ?_, ?_⟩
  · rw [Int.natAbs_mul]; exact wh_mul h1 h3 h
  · rw [Int.natAbs_mul, sz_mul, h2, h4]
theorem sz_rule (z : Int) (q : Bool) : sz (if z = 0 then q else decide (z < 0)) z.natAbs = z := by
  by_cases h : z = 0
  · subst h
    rw [if_pos rfl]
    cases q <;> rfl
  · rw [if_neg h, sz_dec]
theorem w_add {a b : Int} {u v : Option Nat} (hu : W a u) (hv : W b v) (h : a.natAbs + b.natAbs < 2 ^ 53) : W (a + b) (ar .add .f64 u v) := by
  obtain ⟨s, h1, h2⟩ := hu
  obtain ⟨t, h3, h4⟩ := hv
  have := wh_add h1 h3 h
  rw [h2, h4] at this
  exact ⟨_, this, sz_rule _ _⟩
theorem sz_not (t : Bool) (N : Nat) : sz (!t) N = -sz t N := by unfold sz; cases t <;> simp
theorem w_sub {a b : Int} {u v : Option Nat} (hu : W a u) (hv : W b v) (h : a.natAbs + b.natAbs < 2 ^ 53) : W (a - b) (ar .sub .f64 u v) := by
  obtain ⟨s, h1, h2⟩ := hu
  obtain ⟨t, h3, h4⟩ := hv
  have := wh_sub h1 h3 h
  rw [sz_not, h2, h4] at this
  rw [show a + -b = a - b by omega] at this
  exact ⟨_, this, sz_rule _ _⟩
theorem w_quo {k b : Int} {u v : Option Nat} (hu : W (k * b) u) (hv : W b v) (hb : b ≠ 0) (hk : k.natAbs < 2 ^ 53) : W k (ar .quo .f64 u v) := by
  obtain ⟨s, h1, h2⟩ := hu
  obtain ⟨t, h3, h4⟩ := hv
  rw [Int.natAbs_mul] at h1 h2
  refine ⟨s ^^ t, wh_quo h1 h3 (by omega) hk, ?_⟩
  have e : sz (s ^^ t) k.natAbs * sz t b.natAbs = k * b := by
    rw [← sz_mul, Bool.xor_assoc, Bool.xor_self, Bool.xor_false]
    exact h2
  rw [h4] at e
  exact Int.eq_of_mul_eq_mul_right hb e
theorem w32_eql {a b : Int} {u v : Option Nat} (hu : W32 a u) (hv : W32 b v) : cmpF .eql .f32 u v = decide (a = b) := by
  obtain ⟨s, h1, h2⟩ := hu
  obtain ⟨t, h3, h4⟩ := hv
  rw [wh32_eql h1 h3, h2, h4]
/-- A power has no sign. -/
theorem wh_power {s t : Bool} {M N : Nat} {u v : Option Nat} (hu : Wh s M u) (hv : Wh t N v) (h : M * M + N * N < 2 ^ 53) : Wh false (M * M + N * N) (ar .add .f64 (ar .mul .f64 u u) (ar .mul .f64 v v)) := by
  have h1 := wh_mul hu hu (by omega)
  have h2 := wh_mul hv hv (by omega)
  rw [Bool.xor_self] at h1 h2
  have := wh_add h1 h2 h
  generalize M * M = x at *
  generalize N * N = y at *
  unfold sz at this
  simp only [Bool.false_eq_true, if_false, Bool.and_self] at this
  have e : (if ((x : Int) + (y : Int) = 0) then false else decide ((x : Int) + (y : Int) < 0)) = false := by
    split
    · rfl
    · rw [decide_eq_false]; omega
  rw [e] at this
  rwa [show ((x : Int) + (y : Int)).natAbs = x + y by omega] at this
end Go.Proofs.Ytaannebjpmdhjaa
