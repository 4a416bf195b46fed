/-
  Bounds on the results of float64's operations: magnitudes as powers of two, signs, exact doubling and halving. No program is in sight.
-/
import Derived.Test.YtaannebjpmdhjaaRoot
import Derived.Test.YtaannebjpmdhjaaHalf
namespace Go.Proofs.Ytaannebjpmdhjaa
set_option linter.unusedVariables false
set_option linter.unusedSimpArgs false
set_option maxRecDepth 20000
open Go.RowKit
namespace Fl
open Ieee

/-- v is a finite float64 of sign s, of at most 2^e units. -/
def Bs (s : Bool) (e : Nat) (v : Option Nat) : Prop := ∃ b, v = some b ∧ Fin D b ∧ sg D b = s ∧ U D (rg D b) ≤ 2 ^ e
/-- v is a finite float64 of at most 2^e units. -/
def Bd (e : Nat) (v : Option Nat) : Prop := ∃ s, Bs s e v
/-- v is a finite float64 of at least 2^e units. -/
def Lo (e : Nat) (v : Option Nat) : Prop := ∃ b, v = some b ∧ Fin D b ∧ 2 ^ e ≤ U D (rg D b)
theorem Bs.bd {s : Bool} {e : Nat} {v : Option Nat} (h : Bs s e v) : Bd e v := ⟨s, h⟩
theorem Bs.mono {s : Bool} {e f : Nat} {v : Option Nat} (h : Bs s e v) (hf : e ≤ f) : Bs s f v := by
  obtain ⟨b, h1, h2, h3, h4⟩ := h
  exact ⟨b, h1, h2, h3, Nat.le_trans h4 (Nat.pow_le_pow_right (by decide) hf)⟩
theorem Bd.mono {e f : Nat} {v : Option Nat} (h : Bd e v) (hf : e ≤ f) : Bd f v := by
  obtain ⟨s, h⟩ := h
  exact ⟨s, h.mono hf⟩
theorem Bd.narOk {e : Nat} {v : Option Nat} (h : Bd e v) (he : e ≤ 1201) : NarOk v := by
  obtain ⟨s, b, rfl, h2, _, h4⟩ := h
  obtain ⟨E, hE⟩ : ∃ E : Nat, E = 127 := ⟨_, rfl⟩
  have h5 : 2 ^ e ≤ 2 ^ (1074 + E) := Nat.pow_le_pow_right (by decide) (by omega)
  exact narOk_pow (E := E) h2 (Nat.le_trans h4 h5) (by omega)
theorem Bd.fin {e : Nat} {v : Option Nat} (h : Bd e v) : ∃ b, v = some b ∧ Fin D b := by
  obtain ⟨s, b, h1, h2, _, _⟩ := h
  exact ⟨b, h1, h2⟩

theorem near_bs (s : Bool) {m : Nat} {p : Int} {e : Nat} (h : m * 2 ^ (p - D.leastPlace).toNat ≤ 2 ^ e * 2 ^ (D.leastPlace - p).toNat) (he : e ≤ 2097) : Bs s e (some (D.nearest s m p)) := by
  obtain ⟨r, hr, hri⟩ := U_pow2 he
  have h1 : rnd D m p ≤ r := rnd_le (by unfold LeU; rw [hr]; exact h)
  have h2 : r < D.infRung := by
    refine lt_of_U (f := D) ?_
    rw [hr, U_D_inf]
    exact p2_lt (by omega)
  refine ⟨_, rfl, ?_, sg_nearest .., ?_⟩
  · unfold Fin; rw [rg_nearest]; omega
  · rw [rg_nearest, ← hr]; exact U_le h1

/-- The bound, both sides in units. -/
theorem near_at (s : Bool) {m q e : Nat} (h : m * 2 ^ q ≤ 2 ^ e) (he : e ≤ 2097) : Bs s e (some (D.nearest s m (D.leastPlace + q))) := by
  refine near_bs s ?_ he
  rw [show (D.leastPlace + (q : Int) - D.leastPlace).toNat = q by omega, show (D.leastPlace - (D.leastPlace + (q : Int))).toNat = 0 by omega, Nat.pow_zero, Nat.mul_one]
  exact h
/-- The bound, with a place that may be below the least one. -/
theorem near_off (s : Bool) {m x y e : Nat} {p : Int} (hp : p = D.leastPlace + x - y) (h : m * 2 ^ x ≤ 2 ^ (e + y)) (he : e ≤ 2097) : Bs s e (some (D.nearest s m p)) := by
  refine near_bs s ?_ he
  subst hp
  have e1 : m * 2 ^ ((D.leastPlace + (x : Int) - y - D.leastPlace).toNat + min x y) ≤ 2 ^ e * 2 ^ ((D.leastPlace - (D.leastPlace + (x : Int) - y)).toNat + min x y) := by
    rw [show (D.leastPlace + (x : Int) - y - D.leastPlace).toNat + min x y = x by omega, show (D.leastPlace - (D.leastPlace + (x : Int) - y)).toNat + min x y = y by omega, ← Nat.pow_add]
    exact h
  exact pow_cancel.1 e1

theorem bs_mul {s t : Bool} {e f g : Nat} {u v : Option Nat} (hu : Bs s e u) (hv : Bs t f v) (hg : e + f ≤ g + 1074) (hg' : g ≤ 2097) : Bs (s ^^ t) g (ar .mul .f64 u v) := by
  obtain ⟨b, rfl, hb, rfl, h1⟩ := hu
  obtain ⟨c, rfl, hc, rfl, h2⟩ := hv
  obtain ⟨m, i, rb, eb⟩ := read_fin hb
  obtain ⟨n, j, rc, ec⟩ := read_fin hc
  have e1 : ar .mul .f64 (some b) (some c) = some (D.nearest (sg D b ^^ sg D c) (m * n) (D.leastPlace + i + (D.leastPlace + j))) := by
    show ((D.read b).product (D.read c)).map D.write = _
    rw [rb, rc]; rfl
  rw [e1]
  refine near_off _ (x := i + j) (y := 1074) (by rw [D_least]; omega) ?_ hg'
  rw [← eb] at h1
  rw [← ec] at h2
  calc m * n * 2 ^ (i + j) = (m * 2 ^ i) * (n * 2 ^ j) := by rw [Nat.pow_add]; simp [Nat.mul_assoc, Nat.mul_left_comm, Nat.mul_comm]
    _ ≤ 2 ^ e * 2 ^ f := Nat.mul_le_mul h1 h2
    _ = 2 ^ (e + f) := by rw [Nat.pow_add]
    _ ≤ 2 ^ (g + 1074) := Nat.pow_le_pow_right (by decide) hg
theorem bd_mul {e f g : Nat} {u v : Option Nat} (hu : Bd e u) (hv : Bd f v) (hg : e + f ≤ g + 1074) (hg' : g ≤ 2097) : Bd g (ar .mul .f64 u v) := by
  obtain ⟨s, hu⟩ := hu
  obtain ⟨t, hv⟩ := hv
  exact ⟨_, bs_mul hu hv hg hg'⟩
theorem bs_sq {e g : Nat} {u : Option Nat} (hu : Bd e u) (hg : e + e ≤ g + 1074) (hg' : g ≤ 2097) : Bs false g (ar .mul .f64 u u) := by
  obtain ⟨s, hu⟩ := hu
  have := bs_mul hu hu hg hg'
  rwa [Bool.xor_self] at this

theorem quo_bs {b c g : Nat} (hb : Fin D b) (hc : Fin D c) (h0 : 0 < U D (rg D c)) (h : U D (rg D b) * 2 ^ 1074 ≤ 2 ^ g * U D (rg D c)) (hg : g ≤ 2097) : Bs (sg D b ^^ sg D c) g (ar .quo .f64 (some b) (some c)) := by
  obtain ⟨m, i, rb, eb⟩ := read_fin hb
  obtain ⟨n, j, rc, ec⟩ := read_fin hc
  have hn : n ≠ 0 := by rintro rfl; rw [Nat.zero_mul] at ec; omega
  obtain ⟨more, hmore⟩ : ∃ more, more = D.fractionBits + 2 + n.log2 - m.log2 := ⟨_, rfl⟩
  obtain ⟨d, hd⟩ : ∃ d, d = m * 2 ^ more := ⟨_, rfl⟩
  obtain ⟨st, hst⟩ : ∃ st, st = (d % n != 0).toNat := ⟨_, rfl⟩
  have e1 : ar .quo .f64 (some b) (some c) = some (D.nearest (sg D b ^^ sg D c) (2 * (d / n) + st) (D.leastPlace + i - (D.leastPlace + j) - more - 1)) := by
    show ((D.read b).quotient (D.fractionBits + 2) (D.read c)).map D.write = _
    rw [rb, rc]
    simp only [Datum.quotient]
    rw [if_neg hn, ← hmore, Nat.shiftLeft_eq, ← hd, ← hst]
    rfl
  rw [e1]
  obtain ⟨k, hk⟩ : ∃ k : Nat, k = 1074 := ⟨_, rfl⟩
  rw [← hk] at h
  refine near_off _ (x := i + k) (y := j + more + 1) (by rw [D_least]; omega) ?_ hg
  rw [← eb, ← ec] at h
  by_cases hm : m = 0
  · have : d = 0 := by rw [hd, hm, Nat.zero_mul]
    subst this
    have : st = 0 := by rw [hst]; simp
    rw [this]; simp
  · have hdn : n < d := by
      have h1 : 2 ^ m.log2 ≤ m := Nat.log2_self_le hm
      have h2 : n < 2 ^ (n.log2 + 1) := Nat.lt_log2_self
      have h3 : 2 ^ (m.log2 + more) ≤ d := by rw [hd, Nat.pow_add]; exact Nat.mul_le_mul_right _ h1
      have h4 : 2 ^ (n.log2 + 1) ≤ 2 ^ (m.log2 + more) := Nat.pow_le_pow_right (by decide) (by omega)
      omega
    have hx : d * 2 ^ (i + k) ≤ n * 2 ^ (g + j + more) := by
      have h5 : m * 2 ^ i * 2 ^ k * 2 ^ more ≤ 2 ^ g * (n * 2 ^ j) * 2 ^ more := Nat.mul_le_mul_right _ h
      calc d * 2 ^ (i + k) = m * 2 ^ i * 2 ^ k * 2 ^ more := by rw [hd, Nat.pow_add]; simp [Nat.mul_assoc, Nat.mul_left_comm, Nat.mul_comm]
        _ ≤ 2 ^ g * (n * 2 ^ j) * 2 ^ more := h5
        _ = n * 2 ^ (g + j + more) := by rw [Nat.pow_add, Nat.pow_add]; simp [Nat.mul_assoc, Nat.mul_left_comm, Nat.mul_comm]
    have hle : i + k ≤ g + j + more := by
      rcases Nat.lt_or_ge (g + j + more) (i + k) with h6 | h6
      · exfalso
        have h7 : 2 ^ (g + j + more) ≤ 2 ^ (i + k) := Nat.pow_le_pow_right (by decide) (by omega)
        have h8 : n * 2 ^ (g + j + more) < d * 2 ^ (i + k) := Nat.lt_of_lt_of_le (Nat.mul_lt_mul_of_pos_right hdn (Nat.two_pow_pos _)) (Nat.mul_le_mul_left _ h7)
        omega
      · exact h6
    obtain ⟨z, hz⟩ : ∃ z, g + j + more = z + (i + k) := ⟨g + j + more - (i + k), by omega⟩
    rw [hz, Nat.pow_add 2 z, ← Nat.mul_assoc] at hx
    have hx' : d ≤ n * 2 ^ z := Nat.le_of_mul_le_mul_right hx (Nat.two_pow_pos _)
    have hq : 2 * (d / n) + st ≤ 2 * 2 ^ z := by
      have h9 : d / n ≤ 2 ^ z := by rw [Nat.div_le_iff_le_mul (by omega)]; rw [Nat.mul_comm]; omega
      by_cases h10 : d / n = 2 ^ z
      · have h11 := Nat.div_add_mod d n
        rw [h10] at h11
        have h12 : d % n = 0 := by omega
        have : st = 0 := by rw [hst, h12]; rfl
        omega
      · have : st ≤ 1 := by rw [hst]; cases (d % n != 0) <;> decide
        omega
    calc (2 * (d / n) + st) * 2 ^ (i + k) ≤ 2 * 2 ^ z * 2 ^ (i + k) := Nat.mul_le_mul_right _ hq
      _ = 2 ^ (g + (j + more + 1)) := by rw [Nat.mul_comm 2, ← Nat.pow_succ, ← Nat.pow_add]; congr 1; omega
/-- A quotient by a number of at least 2^l units. -/
theorem bs_quo {s t : Bool} {e f g l : Nat} {u v : Option Nat} (hu : Bs s e u) (hv : Bs t f v) (hl : Lo l v) (hg : e + 1074 ≤ g + l) (hg' : g ≤ 2097) : Bs (s ^^ t) g (ar .quo .f64 u v) := by
  obtain ⟨b, rfl, hb, rfl, h1⟩ := hu
  obtain ⟨c, rfl, hc, rfl, h2⟩ := hv
  obtain ⟨c', hcc, _, h3⟩ := hl
  cases hcc
  refine quo_bs hb hc (Nat.lt_of_lt_of_le (Nat.two_pow_pos l) h3) ?_ hg'
  obtain ⟨k, hk⟩ : ∃ k : Nat, k = 1074 := ⟨_, rfl⟩
  rw [← hk] at hg ⊢
  calc U D (rg D b) * 2 ^ k ≤ 2 ^ e * 2 ^ k := Nat.mul_le_mul_right _ h1
    _ = 2 ^ (e + k) := by rw [Nat.pow_add]
    _ ≤ 2 ^ (g + l) := Nat.pow_le_pow_right (by decide) hg
    _ = 2 ^ g * 2 ^ l := by rw [Nat.pow_add]
    _ ≤ 2 ^ g * U D (rg D c) := Nat.mul_le_mul_left _ h3
theorem bd_quo {e f g l : Nat} {u v : Option Nat} (hu : Bd e u) (hv : Bd f v) (hl : Lo l v) (hg : e + 1074 ≤ g + l) (hg' : g ≤ 2097) : Bd g (ar .quo .f64 u v) := by
  obtain ⟨s, hu⟩ := hu
  obtain ⟨t, hv⟩ := hv
  exact ⟨_, bs_quo hu hv hl hg hg'⟩

/-! ### Sums -/
theorem sum_at (s t : Bool) (m i n j : Nat) : ∃ q mag, (Datum.number s m (D.leastPlace + i)).sum (.number t n (D.leastPlace + j)) = some (.number q mag (D.leastPlace + ((min i j : Nat) : Int))) ∧
    mag * 2 ^ min i j = ((if s then -((m * 2 ^ i : Nat) : Int) else ((m * 2 ^ i : Nat) : Int)) + (if t then -((n * 2 ^ j : Nat) : Int) else ((n * 2 ^ j : Nat) : Int))).natAbs ∧
    q = (if (if s then -((m * 2 ^ i : Nat) : Int) else ((m * 2 ^ i : Nat) : Int)) + (if t then -((n * 2 ^ j : Nat) : Int) else ((n * 2 ^ j : Nat) : Int)) = 0 then s && t else decide ((if s then -((m * 2 ^ i : Nat) : Int) else ((m * 2 ^ i : Nat) : Int)) + (if t then -((n * 2 ^ j : Nat) : Int) else ((n * 2 ^ j : Nat) : Int)) < 0)) := by
  have hb : min (D.leastPlace + (i : Int)) (D.leastPlace + j) = D.leastPlace + ((min i j : Nat) : Int) := by omega
  have hi : (D.leastPlace + (i : Int) - (D.leastPlace + ((min i j : Nat) : Int))).toNat = i - min i j := by omega
  have hj : (D.leastPlace + (j : Int) - (D.leastPlace + ((min i j : Nat) : Int))).toNat = j - min i j := by omega
  have e1 : signed s m (i - min i j) * ((2 ^ min i j : Nat) : Int) = (if s then -((m * 2 ^ i : Nat) : Int) else ((m * 2 ^ i : Nat) : Int)) := by
    rw [signed_mul, signed_eq, show i - min i j + min i j = i by omega]
  have e2 : signed t n (j - min i j) * ((2 ^ min i j : Nat) : Int) = (if t then -((n * 2 ^ j : Nat) : Int) else ((n * 2 ^ j : Nat) : Int)) := by
    rw [signed_mul, signed_eq, show j - min i j + min i j = j by omega]
  refine ⟨if signed s m (i - min i j) + signed t n (j - min i j) = 0 then s && t else decide (signed s m (i - min i j) + signed t n (j - min i j) < 0), (signed s m (i - min i j) + signed t n (j - min i j)).natAbs, ?_, ?_, ?_⟩
  · simp only [Datum.sum, hb, hi, hj]
  · rw [← e1, ← e2, ← Int.add_mul, Int.natAbs_mul, Int.natAbs_natCast]
  · rw [← e1, ← e2, ← Int.add_mul]
    have hp : (0 : Int) < ((2 ^ min i j : Nat) : Int) := by have := Nat.two_pow_pos (min i j); omega
    generalize signed s m (i - min i j) + signed t n (j - min i j) = tot
    generalize ((2 ^ min i j : Nat) : Int) = p at *
    have h1 : (tot * p = 0) ↔ tot = 0 := by
      rw [Int.mul_eq_zero]; omega
    have h2 : (tot * p < 0) ↔ tot < 0 := by
      constructor
      · intro h
        by_cases h3 : tot < 0
        · exact h3
        · have := Int.mul_nonneg (show 0 ≤ tot by omega) (Int.le_of_lt hp); omega
      · intro h; exact Int.mul_neg_of_neg_of_pos h hp
    simp only [h1, h2]

theorem bd_sum {e f g : Nat} (s t : Bool) {m i n j : Nat} (h1 : m * 2 ^ i ≤ 2 ^ e) (h2 : n * 2 ^ j ≤ 2 ^ f) (he : e < g) (hf : f < g) (hg : g ≤ 2097) :
    Bd g (((Datum.number s m (D.leastPlace + i)).sum (.number t n (D.leastPlace + j))).map D.write) := by
  obtain ⟨q, mag, h3, h4, _⟩ := sum_at s t m i n j
  rw [h3]
  have h5 : mag * 2 ^ min i j ≤ 2 ^ g := by
    have a1 : 2 ^ (e + 1) ≤ 2 ^ g := Nat.pow_le_pow_right (by decide) he
    have a2 : 2 ^ (f + 1) ≤ 2 ^ g := Nat.pow_le_pow_right (by decide) hf
    rw [Nat.pow_succ] at a1 a2
    generalize m * 2 ^ i = x at *
    generalize n * 2 ^ j = y at *
    rw [h4]
    cases s <;> cases t <;> simp only [Bool.false_eq_true, if_false, if_true] <;> omega
  exact ⟨q, near_at q h5 hg⟩
theorem bd_add {e f g : Nat} {u v : Option Nat} (hu : Bd e u) (hv : Bd f v) (he : e < g) (hf : f < g) (hg : g ≤ 2097) : Bd g (ar .add .f64 u v) := by
  obtain ⟨s, b, rfl, hb, rfl, h1⟩ := hu
  obtain ⟨t, c, rfl, hc, rfl, h2⟩ := hv
  obtain ⟨m, i, rb, eb⟩ := read_fin hb
  obtain ⟨n, j, rc, ec⟩ := read_fin hc
  show Bd g (((D.read b).sum (D.read c)).map D.write)
  rw [rb, rc]
  exact bd_sum _ _ (by rw [eb]; exact h1) (by rw [ec]; exact h2) he hf hg
theorem bd_sub {e f g : Nat} {u v : Option Nat} (hu : Bd e u) (hv : Bd f v) (he : e < g) (hf : f < g) (hg : g ≤ 2097) : Bd g (ar .sub .f64 u v) := by
  obtain ⟨s, b, rfl, hb, rfl, h1⟩ := hu
  obtain ⟨t, c, rfl, hc, rfl, h2⟩ := hv
  obtain ⟨m, i, rb, eb⟩ := read_fin hb
  obtain ⟨n, j, rc, ec⟩ := read_fin hc
  show Bd g (((D.read b).sum (D.read c).opposite).map D.write)
  rw [rb, rc]
  exact bd_sum _ _ (by rw [eb]; exact h1) (by rw [ec]; exact h2) he hf hg
theorem bs_addp {e f g : Nat} {u v : Option Nat} (hu : Bs false e u) (hv : Bs false f v) (he : e < g) (hf : f < g) (hg : g ≤ 2097) : Bs false g (ar .add .f64 u v) := by
  obtain ⟨b, rfl, hb, hsb, h1⟩ := hu
  obtain ⟨c, rfl, hc, hsc, h2⟩ := hv
  obtain ⟨m, i, rb, eb⟩ := read_fin hb
  obtain ⟨n, j, rc, ec⟩ := read_fin hc
  show Bs false g (((D.read b).sum (D.read c)).map D.write)
  rw [rb, rc, hsb, hsc]
  rw [← eb] at h1
  rw [← ec] at h2
  obtain ⟨q, mag, h3, h4, h5⟩ := sum_at false false m i n j
  rw [h3]
  generalize m * 2 ^ i = x at *
  generalize n * 2 ^ j = y at *
  have h6 : q = false := by
    rw [h5]
    simp only [Bool.false_eq_true, if_false, Bool.and_self]
    split
    · rfl
    · simp; omega
  subst h6
  have a1 : 2 ^ (e + 1) ≤ 2 ^ g := Nat.pow_le_pow_right (by decide) he
  have a2 : 2 ^ (f + 1) ≤ 2 ^ g := Nat.pow_le_pow_right (by decide) hf
  rw [Nat.pow_succ] at a1 a2
  refine near_at false ?_ hg
  rw [h4]
  simp only [Bool.false_eq_true, if_false]
  omega
/-- A sum of what is not negative is at least as great as a part. -/
theorem lo_add {e f l : Nat} {u v : Option Nat} (hu : Bs false e u) (hv : Bs false f v) (hl : Lo l u) (he : e < 2097) (hf : f < 2097) (hl' : l ≤ 2097) : Lo l (ar .add .f64 u v) := by
  have hbs := bs_addp hu hv he hf (Nat.le_refl _)
  obtain ⟨b, rfl, hb, hsb, h1⟩ := hu
  obtain ⟨c, rfl, hc, hsc, h2⟩ := hv
  obtain ⟨b', hbb, _, h3⟩ := hl
  cases hbb
  obtain ⟨m, i, rb, eb⟩ := read_fin hb
  obtain ⟨n, j, rc, ec⟩ := read_fin hc
  obtain ⟨q, mag, h4, h5, _⟩ := sum_at false false m i n j
  have e1 : ar .add .f64 (some b) (some c) = some (D.nearest q mag (D.leastPlace + ((min i j : Nat) : Int))) := by
    show ((D.read b).sum (D.read c)).map D.write = _
    rw [rb, rc, hsb, hsc, h4]; rfl
  obtain ⟨r, hr, hfin, _, _⟩ := hbs
  rw [e1] at hr ⊢
  cases hr
  refine ⟨_, rfl, hfin, ?_⟩
  obtain ⟨r0, hr0, hri⟩ := U_pow2 hl'
  rw [rg_nearest, ← hr0]
  refine U_le (le_rnd hri ?_)
  unfold GeU
  rw [show (D.leastPlace + ((min i j : Nat) : Int) - D.leastPlace).toNat = min i j by omega, show (D.leastPlace - (D.leastPlace + ((min i j : Nat) : Int))).toNat = 0 by omega, Nat.pow_zero, Nat.mul_one, hr0, h5]
  rw [← eb] at h3
  generalize m * 2 ^ i = x at *
  generalize n * 2 ^ j = y at *
  simp only [Bool.false_eq_true, if_false]
  omega
/-- One, or less, taken from one. -/
theorem bs_one_sub {e : Nat} {u v : Option Nat} (hu : Lo e u) (hu' : Bs false e u) (hv : Bs true e v) (he : e ≤ 2097) : Bs false e (ar .add .f64 u v) := by
  obtain ⟨b, rfl, hb, hsb, h1⟩ := hu'
  obtain ⟨c, rfl, hc, hsc, h2⟩ := hv
  obtain ⟨b', hbb, _, h3⟩ := hu
  cases hbb
  obtain ⟨m, i, rb, eb⟩ := read_fin hb
  obtain ⟨n, j, rc, ec⟩ := read_fin hc
  show Bs false e (((D.read b).sum (D.read c)).map D.write)
  rw [rb, rc, hsb, hsc]
  rw [← eb] at h1 h3
  rw [← ec] at h2
  obtain ⟨q, mag, h4, h5, h6⟩ := sum_at false true m i n j
  rw [h4]
  generalize m * 2 ^ i = x at *
  generalize n * 2 ^ j = y at *
  have h7 : q = false := by
    rw [h6]
    simp only [Bool.false_eq_true, if_false, if_true]
    split
    · rfl
    · simp; omega
  subst h7
  refine near_at false ?_ he
  rw [h5]
  simp only [Bool.false_eq_true, if_false, if_true]
  omega
theorem bs_sqrt {E : Nat} {u : Option Nat} (hu : Bs false (1074 + 2 * E) u) (hE : E ≤ 500) : Bs false (1075 + E) (sqrt u) := by
  obtain ⟨b, rfl, hb, hs, h1⟩ := hu
  obtain ⟨r, h2, h3, h4, h5⟩ := sqrt_le hb hs h1 hE
  exact ⟨r, h2, h3, h4, h5⟩
theorem bs_neg {s : Bool} {e r : Nat} {u : Option Nat} (hu : Bs s e u) (hr : IsF .f64 r u) : Bs (!s) e (neg .f64 u) := by
  obtain ⟨b, rfl, hb, rfl, h1⟩ := hu
  obtain ⟨rfl, _⟩ := hr.num
  have hb2 : r < 18446744073709551616 := hr.lt
  have key : sg D (Op.negFloat .f64 r) = (!sg D r) ∧ rg D (Op.negFloat .f64 r) = rg D r := by
    rw [negFloat_at .f64 hb2]
    unfold sg rg
    rw [D_eq, D_sw]
    split
    · refine ⟨?_, by omega⟩
      rw [Bool.eq_iff_iff]; simp; omega
    · refine ⟨?_, by omega⟩
      rw [Bool.eq_iff_iff]; simp; omega
  obtain ⟨k1, k2⟩ := key
  exact ⟨_, rfl, by unfold Fin; rw [k2]; exact hb, k1, by rw [k2]; exact h1⟩

end Fl
end Go.Proofs.Ytaannebjpmdhjaa
