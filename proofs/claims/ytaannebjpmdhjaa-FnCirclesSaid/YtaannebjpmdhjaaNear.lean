/-
  float64 values told by fixed-point numbers with a bound of their error. No program is in sight.
-/
import Derived.Test.YtaannebjpmdhjaaMag
namespace Go.Proofs.Ytaannebjpmdhjaa
set_option linter.unusedVariables false
set_option linter.unusedSimpArgs false
set_option maxRecDepth 20000
namespace Fl
open Ieee

theorem p2_add (a b : Nat) : p2 (a + b) = p2 a * p2 b := Nat.pow_add ..
theorem p2_pos' (a : Nat) : 0 < p2 a := Nat.two_pow_pos a
/-- Rounding: the result is within 2^g of the exact value, where 2^(g+52) bounds it. -/
theorem near_err (s : Bool) {m x y g : Nat} {p : Int} (hp : p = D.leastPlace + x - y) (h : m * p2 x ≤ p2 (g + 52) * p2 y) (he : g + 52 ≤ 2097) :
    Fin D (D.nearest s m p) ∧ sg D (D.nearest s m p) = s ∧ U D (rg D (D.nearest s m p)) * p2 y ≤ m * p2 x + p2 g * p2 y ∧ m * p2 x ≤ U D (rg D (D.nearest s m p)) * p2 y + p2 g * p2 y := by
  have hb := near_off s (m := m) (x := x) (y := y) (e := g + 52) hp (by rw [Nat.pow_add]; exact h) he
  obtain ⟨b, hb1, hb2, hb3, _⟩ := hb
  obtain rfl := (Option.some.inj hb1).symm
  refine ⟨hb2, hb3, ?_⟩
  rw [rg_nearest]
  have hG : 0 < p2 g * p2 y := Nat.mul_pos (p2_pos' _) (p2_pos' _)
  obtain ⟨t, ht⟩ : ∃ t, t = m * p2 x / (p2 g * p2 y) := ⟨_, rfl⟩
  have h1 : t * (p2 g * p2 y) ≤ m * p2 x := by rw [ht]; exact Nat.div_mul_le_self ..
  have h2 : m * p2 x < (t + 1) * (p2 g * p2 y) := by rw [ht]; exact Nat.lt_mul_of_div_lt (Nat.lt_succ_self _) hG
  have h3 : t ≤ 2 ^ 52 := by
    have e : p2 (g + 52) * p2 y = 2 ^ 52 * (p2 g * p2 y) := by rw [p2_add, show p2 52 = 2 ^ 52 from rfl]; simp [Nat.mul_assoc, Nat.mul_left_comm, Nat.mul_comm]
    rw [e] at h
    exact Nat.le_of_mul_le_mul_right (Nat.le_trans h1 h) hG
  obtain ⟨r1, e1⟩ := rung_of D t g (by rw [show D.binade = 2 ^ 52 from rfl]; omega)
  obtain ⟨r2, e2⟩ := rung_of D (t + 1) g (by rw [show D.binade = 2 ^ 52 from rfl]; omega)
  have e1 : U D r1 = t * p2 g := e1
  have e2 : U D r2 = (t + 1) * p2 g := e2
  have hx : ∀ X Y : Nat, X * 2 ^ ((p - D.leastPlace).toNat + min x y) ≤ Y * 2 ^ ((D.leastPlace - p).toNat + min x y) ↔ X * p2 x ≤ Y * p2 y := by
    intro X Y
    subst hp
    rw [show (D.leastPlace + (x : Int) - y - D.leastPlace).toNat + min x y = x by omega, show (D.leastPlace - (D.leastPlace + (x : Int) - y)).toNat + min x y = y by omega]
    exact Iff.rfl
  have hx2 : ∀ X Y : Nat, Y * 2 ^ ((D.leastPlace - p).toNat + min x y) ≤ X * 2 ^ ((p - D.leastPlace).toNat + min x y) ↔ Y * p2 y ≤ X * p2 x := by
    intro X Y
    subst hp
    rw [show (D.leastPlace + (x : Int) - y - D.leastPlace).toNat + min x y = x by omega, show (D.leastPlace - (D.leastPlace + (x : Int) - y)).toNat + min x y = y by omega]
    exact Iff.rfl
  have hi : r1 ≤ D.infRung := by
    refine le_of_U (f := D) ?_
    rw [e1, U_D_inf]
    have a1 : t * p2 g ≤ p2 52 * p2 g := Nat.mul_le_mul_right _ h3
    rw [← p2_add] at a1
    exact Nat.le_trans a1 (Nat.le_of_lt (p2_lt (by omega)))
  have k1 : r1 ≤ rnd D m p := le_rnd hi (by unfold GeU; exact pow_cancel.1 ((hx2 _ _).2 (by rw [e1, Nat.mul_assoc]; exact h1)))
  have k2 : rnd D m p ≤ r2 := rnd_le (by unfold LeU; exact pow_cancel.1 ((hx _ _).2 (by rw [e2, Nat.mul_assoc]; exact Nat.le_of_lt h2)))
  have u1 := U_le (f := D) k1
  have u2 := U_le (f := D) k2
  rw [e1] at u1
  rw [e2] at u2
  have v1 := Nat.mul_le_mul_right (p2 y) u1
  have v2 := Nat.mul_le_mul_right (p2 y) u2
  rw [Nat.mul_assoc] at v1 v2
  rw [Nat.add_mul, Nat.one_mul] at h2 v2
  generalize U D (rnd D m p) * p2 y = R at *
  generalize t * (p2 g * p2 y) = T at *
  omega
/-- The unit: 2^-60. -/
def K : Nat := p2 1014
theorem K_pos : 0 < K := p2_pos' _
theorem K_pow : ∃ c : Nat, c = 1014 ∧ K = p2 c := ⟨_, rfl, rfl⟩
/-- The value is n, and at most d beside it. -/
def Ap (v : Option Nat) (n : Int) (d : Nat) : Prop := ∃ b, v = some b ∧ Fin D b ∧ (I D b - n * (K : Int)).natAbs ≤ d * K
theorem Ap.le {v : Option Nat} {n : Int} {d e : Nat} (h : Ap v n d) (hd : d ≤ e) : Ap v n e := by
  obtain ⟨b, h1, h2, h3⟩ := h
  exact ⟨b, h1, h2, Nat.le_trans h3 (Nat.mul_le_mul_right _ hd)⟩
theorem I_s {b : Nat} (s : Bool) (h : sg D b = s) : I D b = if s then -(U D (rg D b) : Int) else (U D (rg D b) : Int) := by unfold I; rw [h]
theorem ap_sum {s t : Bool} {m i n j : Nat} {zb zc x y : Int} {d e g : Nat} (eb : (if s then -((m * 2 ^ i : Nat) : Int) else ((m * 2 ^ i : Nat) : Int)) = zb) (ec : (if t then -((n * 2 ^ j : Nat) : Int) else ((n * 2 ^ j : Nat) : Int)) = zc)
    (h1 : (zb - x * (K : Int)).natAbs ≤ d * K) (h2 : (zc - y * (K : Int)).natAbs ≤ e * K) (hb : (x + y).natAbs + d + e ≤ p2 (g + 52)) (hg : g ≤ 1000) :
    Ap (((Datum.number s m (D.leastPlace + i)).sum (.number t n (D.leastPlace + j))).map D.write) (x + y) (d + e + p2 g) := by
  obtain ⟨q, mag, h4, h5, h6⟩ := sum_at s t m i n j
  rw [eb, ec] at h5 h6
  obtain ⟨c, hc, hK⟩ := K_pow
  have hz : (zb + zc - (x + y) * (K : Int)).natAbs ≤ (d + e) * K := by
    rw [Nat.add_mul, Int.add_mul]
    omega
  have hz2 : (zb + zc).natAbs ≤ p2 (g + 52) * K := by
    have a1 := Nat.mul_le_mul_right K hb
    have a2 : ((x + y) * (K : Int)).natAbs = (x + y).natAbs * K := by rw [Int.natAbs_mul, Int.natAbs_natCast]
    rw [Nat.add_mul, Nat.add_mul] at a1
    rw [Nat.add_mul] at hz
    generalize p2 (g + 52) * K = B at *
    generalize (x + y) * (K : Int) = w at *
    omega
  have hm : mag * p2 (min i j) ≤ p2 (g + c + 52) * p2 0 := by
    have : mag * p2 (min i j) = (zb + zc).natAbs := h5
    rw [this, show p2 0 = 1 from rfl, Nat.mul_one, show g + c + 52 = (g + 52) + c by omega, p2_add, ← hK]
    exact hz2
  obtain ⟨k1, k2, k3, k4⟩ := near_err q (p := D.leastPlace + ((min i j : Nat) : Int)) (y := 0) (by omega) hm (by omega)
  rw [show p2 0 = 1 from rfl, Nat.mul_one, Nat.mul_one, show mag * p2 (min i j) = (zb + zc).natAbs from h5, p2_add, ← hK] at k3 k4
  refine ⟨D.nearest q mag (D.leastPlace + ((min i j : Nat) : Int)), by rw [h4]; rfl, k1, ?_⟩
  rw [I_s q k2]
  generalize U D (rg D (D.nearest q mag (D.leastPlace + ((min i j : Nat) : Int)))) = R at *
  have hr : ((if q then -(R : Int) else (R : Int)) - (zb + zc)).natAbs ≤ p2 g * K := by
    rw [h6]
    by_cases h0 : zb + zc = 0
    · rw [if_pos h0]
      rw [h0] at k3 ⊢
      split <;> omega
    · rw [if_neg h0]
      by_cases h7 : zb + zc < 0
      · rw [decide_eq_true h7, if_pos rfl]; omega
      · rw [decide_eq_false h7, if_neg (by simp)]; omega
  rw [Nat.add_mul]
  generalize (if q then -(R : Int) else (R : Int)) = r at *
  generalize (x + y) * (K : Int) = w at *
  generalize p2 g * K = G at *
  omega
theorem ap_add {u v : Option Nat} {x y : Int} {d e : Nat} (g : Nat) (hu : Ap u x d) (hv : Ap v y e) (hb : (x + y).natAbs + d + e ≤ p2 (g + 52)) (hg : g ≤ 1000) : Ap (ar .add .f64 u v) (x + y) (d + e + p2 g) := by
  obtain ⟨b, rfl, hb1, h1⟩ := hu
  obtain ⟨c, rfl, hc1, h2⟩ := hv
  obtain ⟨m, i, rb, eb⟩ := read_fin hb1
  obtain ⟨n, j, rc, ec⟩ := read_fin hc1
  show Ap (((D.read b).sum (D.read c)).map D.write) _ _
  rw [rb, rc]
  exact ap_sum (by rw [eb]; rfl) (by rw [ec]; rfl) h1 h2 hb hg
theorem ap_sub {u v : Option Nat} {x y : Int} {d e : Nat} (g : Nat) (hu : Ap u x d) (hv : Ap v y e) (hb : (x - y).natAbs + d + e ≤ p2 (g + 52)) (hg : g ≤ 1000) : Ap (ar .sub .f64 u v) (x - y) (d + e + p2 g) := by
  obtain ⟨b, rfl, hb1, h1⟩ := hu
  obtain ⟨c, rfl, hc1, h2⟩ := hv
  obtain ⟨m, i, rb, eb⟩ := read_fin hb1
  obtain ⟨n, j, rc, ec⟩ := read_fin hc1
  show Ap (((D.read b).sum (D.read c).opposite).map D.write) _ _
  rw [rb, rc]
  have e1 : (if (!sg D c) then -((n * 2 ^ j : Nat) : Int) else ((n * 2 ^ j : Nat) : Int)) = -I D c := by
    unfold I
    rw [ec]
    cases sg D c <;> simp
  exact ap_sum (y := -y) (by rw [eb]; rfl) e1 h1 (by rw [Int.neg_mul]; omega) (by rw [← Int.sub_eq_add_neg]; exact hb) hg
/-- 2^1074. -/
theorem L_eq : p2 1074 = 2 ^ 60 * K := by
  obtain ⟨c, hc, hK⟩ := K_pow
  have e : p2 60 = 2 ^ 60 := rfl
  rw [hK, ← e, ← p2_add]
  congr 1
  omega
theorem sgn_mul (s t : Bool) (a b : Nat) : (if s then -(a : Int) else (a : Int)) * (if t then -(b : Int) else (b : Int)) = if (s ^^ t) then -((a * b : Nat) : Int) else ((a * b : Nat) : Int) := by
  cases s <;> cases t <;> simp [Int.neg_mul, Int.mul_neg]
theorem sgn_diff (q : Bool) (a b : Nat) (c : Nat) (h1 : a ≤ b + c) (h2 : b ≤ a + c) : ((if q then -(a : Int) else (a : Int)) - (if q then -(b : Int) else (b : Int))).natAbs ≤ c := by
  cases q <;> simp <;> omega
theorem tri (a b c : Int) : (a - c).natAbs ≤ (a - b).natAbs + (b - c).natAbs := by omega
theorem ap_mul {u v : Option Nat} {x y : Int} {d e : Nat} (g : Nat) (p : Int) (f : Nat) (hu : Ap u x d) (hv : Ap v y e) (hp : (p * 2 ^ 60 - x * y).natAbs + (x.natAbs * e + y.natAbs * d + d * e) ≤ f * 2 ^ 60) (hb : p.natAbs + f ≤ p2 (g + 52)) (hg : g ≤ 1000) : Ap (ar .mul .f64 u v) p (f + p2 g) := by
  obtain ⟨b, rfl, hb1, h1⟩ := hu
  obtain ⟨c, rfl, hc1, h2⟩ := hv
  obtain ⟨m, i, rb, eb⟩ := read_fin hb1
  obtain ⟨n, j, rc, ec⟩ := read_fin hc1
  have e1 : ar .mul .f64 (some b) (some c) = some (D.nearest (sg D b ^^ sg D c) (m * n) (D.leastPlace + i + (D.leastPlace + j))) := by
    show ((D.read b).product (D.read c)).map D.write = _
    rw [rb, rc]; rfl
  have hmag : m * n * p2 (i + j) = U D (rg D b) * U D (rg D c) := by
    rw [← eb, ← ec, p2_add]
    simp [p2, Nat.mul_assoc, Nat.mul_left_comm, Nat.mul_comm]
  have hI : I D b * I D c = if (sg D b ^^ sg D c) then -((U D (rg D b) * U D (rg D c) : Nat) : Int) else ((U D (rg D b) * U D (rg D c) : Nat) : Int) := sgn_mul ..
  obtain ⟨ka, hka, hK⟩ := K_pow
  have hL := L_eq
  obtain ⟨lb, hlb⟩ : ∃ lb : Nat, lb = 1074 := ⟨_, rfl⟩
  -- the exact product
  have hz : (I D b * I D c - p * 2 ^ 60 * ((K : Int) * K)).natAbs ≤ f * 2 ^ 60 * (K * K) := by
    obtain ⟨al, ha⟩ : ∃ al, al = I D b - x * (K : Int) := ⟨_, rfl⟩
    obtain ⟨be, hbe⟩ : ∃ be, be = I D c - y * (K : Int) := ⟨_, rfl⟩
    rw [← ha] at h1
    rw [← hbe] at h2
    have ez : I D b * I D c - p * 2 ^ 60 * ((K : Int) * K) = -((p * 2 ^ 60 - x * y) * ((K : Int) * K)) + (x * (K : Int) * be + y * (K : Int) * al + al * be) := by
      rw [show I D b = x * (K : Int) + al by omega, show I D c = y * (K : Int) + be by omega]
      grind
    rw [ez]
    have t1 : (x * (K : Int) * be).natAbs ≤ x.natAbs * e * (K * K) := by
      rw [Int.natAbs_mul, Int.natAbs_mul, Int.natAbs_natCast]
      have := Nat.mul_le_mul_left (x.natAbs * K) h2
      rw [show x.natAbs * e * (K * K) = x.natAbs * K * (e * K) by simp [Nat.mul_assoc, Nat.mul_left_comm, Nat.mul_comm]]
      exact this
    have t2 : (y * (K : Int) * al).natAbs ≤ y.natAbs * d * (K * K) := by
      rw [Int.natAbs_mul, Int.natAbs_mul, Int.natAbs_natCast]
      have := Nat.mul_le_mul_left (y.natAbs * K) h1
      rw [show y.natAbs * d * (K * K) = y.natAbs * K * (d * K) by simp [Nat.mul_assoc, Nat.mul_left_comm, Nat.mul_comm]]
      exact this
    have t3 : (al * be).natAbs ≤ d * e * (K * K) := by
      rw [Int.natAbs_mul]
      rw [show d * e * (K * K) = d * K * (e * K) by simp [Nat.mul_assoc, Nat.mul_left_comm, Nat.mul_comm]]
      exact Nat.mul_le_mul h1 h2
    have t4 : ((p * 2 ^ 60 - x * y) * ((K : Int) * K)).natAbs = (p * 2 ^ 60 - x * y).natAbs * (K * K) := by
      rw [Int.natAbs_mul, ← Int.natCast_mul, Int.natAbs_natCast]
    have t5 := Nat.mul_le_mul_right (K * K) hp
    rw [Nat.add_mul, Nat.add_mul, Nat.add_mul] at t5
    generalize (p * 2 ^ 60 - x * y) * ((K : Int) * K) = w0 at *
    generalize x * (K : Int) * be = w1 at *
    generalize y * (K : Int) * al = w2 at *
    generalize al * be = w3 at *
    generalize x.natAbs * e * (K * K) = a1 at *
    generalize y.natAbs * d * (K * K) = a2 at *
    generalize d * e * (K * K) = a3 at *
    generalize (p * 2 ^ 60 - x * y).natAbs * (K * K) = a0 at *
    generalize f * 2 ^ 60 * (K * K) = F at *
    omega
  obtain ⟨L, hLL⟩ : ∃ L, L = p2 lb := ⟨_, rfl⟩
  have hLK : L = 2 ^ 60 * K := by rw [hLL, hlb]; exact hL
  have hLp : 0 < L := by rw [hLL]; exact p2_pos' _
  have r1 : p * 2 ^ 60 * ((K : Int) * K) = p * (K : Int) * (L : Int) := by
    obtain ⟨t, ht⟩ : ∃ t : Nat, t = 2 ^ 60 := ⟨_, rfl⟩
    have ht2 : (2 : Int) ^ 60 = (t : Int) := by rw [ht]; rfl
    rw [hLK, ← ht, ht2, Int.natCast_mul]
    simp only [Int.mul_assoc, Int.mul_left_comm, Int.mul_comm]
  have r2 : f * 2 ^ 60 * (K * K) = f * K * L := by
    rw [hLK]
    simp only [Nat.mul_assoc, Nat.mul_left_comm, Nat.mul_comm]
  rw [r1, r2] at hz
  obtain ⟨Z, hZ⟩ : ∃ Z, Z = U D (rg D b) * U D (rg D c) := ⟨_, rfl⟩
  rw [← hZ] at hI hmag
  have hzn : Z ≤ p2 (g + 52) * K * L := by
    have a1 : (I D b * I D c).natAbs = Z := by rw [hI]; split <;> omega
    have a2 : (p * (K : Int) * (L : Int)).natAbs = p.natAbs * (K * L) := by rw [Int.natAbs_mul, Int.natAbs_mul, Int.natAbs_natCast, Int.natAbs_natCast, Nat.mul_assoc]
    have a3 := Nat.mul_le_mul_right (K * L) hb
    rw [Nat.add_mul] at a3
    rw [Nat.mul_assoc] at hz ⊢
    generalize I D b * I D c = w at *
    generalize p * (K : Int) * (L : Int) = w2 at *
    generalize p.natAbs * (K * L) = A at *
    generalize f * (K * L) = B at *
    generalize p2 (g + 52) * (K * L) = C at *
    omega
  obtain ⟨k1, k2, k3, k4⟩ := near_err (sg D b ^^ sg D c) (m := m * n) (x := i + j) (y := lb) (g := g + ka) (p := D.leastPlace + i + (D.leastPlace + j)) (by rw [D_least]; omega)
    (by rw [hmag, show g + ka + 52 = (g + 52) + ka by omega, p2_add, ← hK, ← hLL]; exact hzn) (by omega)
  rw [hmag, ← hLL, p2_add, ← hK] at k3 k4
  rw [e1]
  refine ⟨_, rfl, k1, ?_⟩
  rw [I_s _ k2]
  generalize U D (rg D (D.nearest (sg D b ^^ sg D c) (m * n) (D.leastPlace + i + (D.leastPlace + j)))) = R at *
  generalize (sg D b ^^ sg D c) = q at *
  have s1 := sgn_diff q (R * L) Z (p2 g * K * L) k3 k4
  rw [← hI] at s1
  have s2 : (if q then -((R * L : Nat) : Int) else ((R * L : Nat) : Int)) = (if q then -(R : Int) else (R : Int)) * (L : Int) := by cases q <;> simp [Int.neg_mul]
  rw [s2] at s1
  generalize (if q then -(R : Int) else (R : Int)) = r at *
  have s3 : ((r - p * (K : Int)) * (L : Int)).natAbs ≤ (f * K + p2 g * K) * L := by
    rw [Int.sub_mul, Nat.add_mul]
    exact Nat.le_trans (tri _ (I D b * I D c) _) (by omega)
  rw [Int.natAbs_mul, Int.natAbs_natCast] at s3
  rw [Nat.add_mul]
  exact Nat.le_of_mul_le_mul_right s3 hLp
end Fl
end Go.Proofs.Ytaannebjpmdhjaa
