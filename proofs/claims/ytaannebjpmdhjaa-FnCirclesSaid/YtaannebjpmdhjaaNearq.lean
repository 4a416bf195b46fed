/-
  float64 quotients told by fixed-point numbers. No program is in sight.
-/
import Derived.Test.YtaannebjpmdhjaaNear
namespace Go.Proofs.Ytaannebjpmdhjaa
set_option linter.unusedVariables false
set_option linter.unusedSimpArgs false
set_option maxRecDepth 20000
namespace Fl
open Ieee

/-- The digits of a quotient: n times them is 2 d, nearly. -/
theorem quo_digits {n d Qm : Nat} (hn : 0 < n) (hd : n * 2 ^ 53 ≤ d ∨ d = 0) (hQ : Qm = 2 * (d / n) + (d % n != 0).toNat) : n * Qm * 2 ^ 53 ≤ 2 * d * 2 ^ 53 + d ∧ 2 * d * 2 ^ 53 ≤ n * Qm * 2 ^ 53 + 2 * d := by
  have h1 := Nat.div_add_mod d n
  have h2 := Nat.mod_lt d hn
  rcases hd with hd | hd
  · have e : n * Qm = 2 * (n * (d / n)) + n * (d % n != 0).toNat := by
      rw [hQ, Nat.mul_add, Nat.mul_left_comm]
    have h3 : n * (d % n != 0).toNat ≤ n := by
      cases (d % n != 0)
      · simp
      · simp
    rw [e]
    generalize n * (d / n) = a at *
    generalize n * (d % n != 0).toNat = b at *
    generalize d % n = r at *
    omega
  · subst hd
    rw [hQ]
    simp
theorem pw1 (a P : Nat) : a * 2 * P = 2 * (a * P) := by rw [Nat.mul_right_comm, Nat.mul_comm]
theorem pw2 (a P : Nat) : a * (P * 2) = 2 * (a * P) := by rw [← Nat.mul_assoc, Nat.mul_comm]
theorem pw3 (a P : Nat) : 2 * a * P = 2 * (a * P) := Nat.mul_assoc ..
theorem gm1 {a1 a2 a3 a4 : Nat} (P : Nat) (h1 : a4 * P ≤ 2 * a3 * P + a3) (h2 : a1 * 2 ≤ a4 + a2 * 2) : a1 * (P * 2) ≤ a3 * (P * 2) + 2 * a3 + a2 * (P * 2) := by
  have h3 := Nat.mul_le_mul_right P h2
  rw [Nat.add_mul, pw1, pw1] at h3
  rw [pw3] at h1
  rw [pw2, pw2, pw2]
  generalize a1 * P = x1 at *
  generalize a2 * P = x2 at *
  generalize a3 * P = x3 at *
  generalize a4 * P = x4 at *
  omega
theorem gm2 {a1 a2 a3 a4 : Nat} (P : Nat) (h1 : 2 * a3 * P ≤ a4 * P + 2 * a3) (h2 : a4 ≤ a1 * 2 + a2 * 2) : a3 * (P * 2) ≤ a1 * (P * 2) + 2 * a3 + a2 * (P * 2) := by
  have h3 := Nat.mul_le_mul_right P h2
  rw [Nat.add_mul, pw1, pw1] at h3
  rw [pw3] at h1
  rw [pw2, pw2, pw2]
  generalize a1 * P = x1 at *
  generalize a2 * P = x2 at *
  generalize a3 * P = x3 at *
  generalize a4 * P = x4 at *
  omega
theorem gm3 {q1 q2 q3 q4 : Nat} (P : Nat) (hP : 0 < P) (h : q4 * P ≤ 2 * q3 * P + q3) (h1 : q3 ≤ q1) (h2 : 2 * q1 ≤ q2) : P * q4 ≤ P * 2 * q2 := by
  have h3 := Nat.mul_le_mul_right P h1
  have h4 := Nat.mul_le_mul_right P h2
  have h5 : q3 ≤ q3 * P := Nat.le_mul_of_pos_right _ hP
  rw [pw3] at h h4
  rw [Nat.mul_comm P q4, Nat.mul_comm (P * 2) q2, pw2]
  generalize q1 * P = x1 at *
  generalize q2 * P = x2 at *
  generalize q3 * P = x3 at *
  generalize q4 * P = x4 at *
  omega
theorem gm5 {q1 q2 q3 q4 q5 q6 q7 q8 : Nat} (P : Nat) (t : q3 ≤ q1 + q2) (h1 : q1 * (P * 2) ≤ 2 * q8 + q7 * (P * 2)) (h2 : q2 ≤ q5) (h3 : q5 + q4 ≤ q6) (h4 : q8 ≤ q4 * P) : q3 * (P * 2) ≤ (q6 + q7) * (P * 2) := by
  have t2 := Nat.mul_le_mul_right (P * 2) t
  have t3 := Nat.mul_le_mul_right (P * 2) h2
  have t4 := Nat.mul_le_mul_right (P * 2) h3
  rw [Nat.add_mul] at t2 t4 ⊢
  rw [pw2 q4] at t4
  generalize q1 * (P * 2) = x1 at *
  generalize q2 * (P * 2) = x2 at *
  generalize q3 * (P * 2) = x3 at *
  generalize q5 * (P * 2) = x5 at *
  generalize q6 * (P * 2) = x6 at *
  generalize q7 * (P * 2) = x7 at *
  generalize q4 * P = x4 at *
  omega
theorem p54 : (2 : Nat) ^ 54 = 2 ^ 53 * 2 := rfl
theorem om1 {a1 a2 a3 a4 : Nat} (h1 : a4 * 2 ^ 53 ≤ 2 * a3 * 2 ^ 53 + a3) (h2 : a1 * 2 ≤ a4 + a2 * 2) : a1 * 2 ^ 54 ≤ a3 * 2 ^ 54 + 2 * a3 + a2 * 2 ^ 54 := gm1 _ h1 h2
theorem om2 {a1 a2 a3 a4 : Nat} (h1 : 2 * a3 * 2 ^ 53 ≤ a4 * 2 ^ 53 + 2 * a3) (h2 : a4 ≤ a1 * 2 + a2 * 2) : a3 * 2 ^ 54 ≤ a1 * 2 ^ 54 + 2 * a3 + a2 * 2 ^ 54 := gm2 _ h1 h2
theorem om3 {q1 q2 q3 q4 : Nat} (h : q4 * 2 ^ 53 ≤ 2 * q3 * 2 ^ 53 + q3) (h1 : q3 ≤ q1) (h2 : 2 * q1 ≤ q2) : 2 ^ 53 * q4 ≤ 2 ^ 54 * q2 := gm3 _ (by decide) h h1 h2
theorem gm4 {q1 q2 q3 : Nat} (T : Nat) (s : Bool) (h1 : q1 * T ≤ q2 * T + 2 * q2 + q3 * T) (h2 : q2 * T ≤ q1 * T + 2 * q2 + q3 * T) :
    ((if s then -(q1 : Int) else (q1 : Int)) - (if s then -(q2 : Int) else (q2 : Int))).natAbs * T ≤ 2 * q2 + q3 * T := by
  have e : ((if s then -(q1 : Int) else (q1 : Int)) - (if s then -(q2 : Int) else (q2 : Int))).natAbs = (q1 - q2) + (q2 - q1) := by
    cases s <;> simp only [Bool.false_eq_true, if_false, if_true] <;> omega
  rw [e, Nat.add_mul, Nat.sub_mul, Nat.sub_mul]
  generalize q1 * T = x1 at *
  generalize q2 * T = x2 at *
  generalize q3 * T = x3 at *
  omega
theorem om4 {q1 q2 q3 : Nat} (s : Bool) (h1 : q1 * 2 ^ 54 ≤ q2 * 2 ^ 54 + 2 * q2 + q3 * 2 ^ 54) (h2 : q2 * 2 ^ 54 ≤ q1 * 2 ^ 54 + 2 * q2 + q3 * 2 ^ 54) :
    ((if s then -(q1 : Int) else (q1 : Int)) - (if s then -(q2 : Int) else (q2 : Int))).natAbs * 2 ^ 54 ≤ 2 * q2 + q3 * 2 ^ 54 := gm4 _ s h1 h2
theorem om5 {q1 q2 q3 q4 q5 q6 q7 q8 : Nat} (t : q3 ≤ q1 + q2) (h1 : q1 * 2 ^ 54 ≤ 2 * q8 + q7 * 2 ^ 54) (h2 : q2 ≤ q5) (h3 : q5 + q4 ≤ q6) (h4 : q8 ≤ q4 * 2 ^ 53) : q3 * 2 ^ 54 ≤ (q6 + q7) * 2 ^ 54 := gm5 _ t h1 h2 h3 h4
theorem quo_ex {b c : Nat} (hb : Fin D b) (hc : Fin D c) (h0 : 0 < U D (rg D c)) (g lb : Nat) (hlb : lb = 1074) (hg : g + 52 ≤ 2097)
    (hX : ∀ X V : Nat, 0 < V → U D (rg D c) * X * 2 ^ 53 ≤ 2 * (U D (rg D b) * p2 lb) * V * 2 ^ 53 + U D (rg D b) * p2 lb * V → X ≤ p2 (g + 52) * (2 * V)) :
    ∃ r, ar .quo .f64 (some b) (some c) = some r ∧ Fin D r ∧ sg D r = (sg D b ^^ sg D c) ∧
      U D (rg D c) * U D (rg D r) * 2 ^ 54 ≤ U D (rg D b) * p2 lb * 2 ^ 54 + 2 * (U D (rg D b) * p2 lb) + U D (rg D c) * p2 g * 2 ^ 54 ∧
      U D (rg D b) * p2 lb * 2 ^ 54 ≤ U D (rg D c) * U D (rg D r) * 2 ^ 54 + 2 * (U D (rg D b) * p2 lb) + U D (rg D c) * p2 g * 2 ^ 54 := by
  obtain ⟨m, i, rb, eb⟩ := read_fin hb
  obtain ⟨n, j, rc, ec⟩ := read_fin hc
  have hn : n ≠ 0 := by
    rintro rfl
    rw [Nat.zero_mul] at ec
    omega
  obtain ⟨more, hmore⟩ : ∃ more, more = D.fractionBits + 2 + n.log2 - m.log2 := ⟨_, rfl⟩
  obtain ⟨d, hd⟩ : ∃ d, d = m * 2 ^ more := ⟨_, rfl⟩
  obtain ⟨Qm, hQ⟩ : ∃ Qm, Qm = 2 * (d / n) + (d % n != 0).toNat := ⟨_, rfl⟩
  have e1 : ar .quo .f64 (some b) (some c) = some (D.nearest (sg D b ^^ sg D c) Qm (D.leastPlace + i - (D.leastPlace + j) - more - 1)) := by
    show ((D.read b).quotient (D.fractionBits + 2) (D.read c)).map D.write = _
    rw [rb, rc]
    simp only [Datum.quotient]
    rw [if_neg hn, ← hmore, Nat.shiftLeft_eq, ← hd, hQ]
    rfl
  have hbig : n * 2 ^ 53 ≤ d ∨ d = 0 := by
    by_cases hm : m = 0
    · right; rw [hd, hm, Nat.zero_mul]
    · left
      have a1 : 2 ^ m.log2 ≤ m := Nat.log2_self_le hm
      have a2 : n < 2 ^ (n.log2 + 1) := Nat.lt_log2_self
      have a3 : 2 ^ (m.log2 + more) ≤ d := by rw [hd, Nat.pow_add]; exact Nat.mul_le_mul_right _ a1
      have a4 : 2 ^ (n.log2 + 1 + 53) ≤ 2 ^ (m.log2 + more) := Nat.pow_le_pow_right (by decide) (by rw [hmore, show D.fractionBits = 52 from rfl]; omega)
      have a5 : n * 2 ^ 53 ≤ 2 ^ (n.log2 + 1) * 2 ^ 53 := Nat.mul_le_mul_right _ (Nat.le_of_lt a2)
      rw [← Nat.pow_add] at a5
      omega
  obtain ⟨f1, f2⟩ := quo_digits (Nat.pos_of_ne_zero hn) hbig hQ
  -- times 2^j * 2^(1074+i)
  obtain ⟨V, hV⟩ : ∃ V, V = p2 (j + more) := ⟨_, rfl⟩
  have hVp : 0 < V := by rw [hV]; exact p2_pos' _
  obtain ⟨X, hX0⟩ : ∃ X, X = Qm * p2 (lb + i) := ⟨_, rfl⟩
  obtain ⟨B, hB⟩ : ∃ B, B = U D (rg D b) * p2 lb := ⟨_, rfl⟩
  obtain ⟨C, hC⟩ : ∃ C, C = U D (rg D c) := ⟨_, rfl⟩
  have eN : n * Qm * (p2 j * p2 (lb + i)) = C * X := by
    rw [hC, hX0, ← ec]
    simp only [p2, Nat.mul_assoc, Nat.mul_left_comm, Nat.mul_comm]
  have eD : d * (p2 j * p2 (lb + i)) = B * V := by
    rw [hB, hV, hd, ← eb, p2_add, p2_add]
    simp only [p2, Nat.mul_assoc, Nat.mul_left_comm, Nat.mul_comm]
  rw [← hC, ← hB] at hX
  rw [← hC, ← hB]
  clear hB hC
  have g1 := Nat.mul_le_mul_right (p2 j * p2 (lb + i)) f1
  have g2 := Nat.mul_le_mul_right (p2 j * p2 (lb + i)) f2
  have e2 : ∀ Y : Nat, Y * 2 ^ 53 * (p2 j * p2 (lb + i)) = Y * (p2 j * p2 (lb + i)) * 2 ^ 53 := fun Y => by rw [Nat.mul_right_comm]
  rw [Nat.add_mul, e2, e2, Nat.mul_assoc 2 d, eN, eD] at g1 g2
  have hXb := hX X V hVp (by
    rw [Nat.mul_assoc 2 B V]
    exact g1)
  have hW : p2 (j + more + 1) = 2 * V := by rw [p2_add, hV, Nat.mul_comm]; rfl
  obtain ⟨k1, k2, k3, k4⟩ := near_err (sg D b ^^ sg D c) (m := Qm) (x := lb + i) (y := j + more + 1) (g := g) (p := D.leastPlace + i - (D.leastPlace + j) - more - 1) (by rw [D_least]; omega) (by rw [← hX0, hW]; exact hXb) hg
  rw [← hX0, hW] at k3 k4
  refine ⟨_, e1, k1, k2, ?_⟩
  generalize U D (rg D (D.nearest (sg D b ^^ sg D c) Qm (D.leastPlace + i - (D.leastPlace + j) - more - 1))) = R at *
  have l3 := Nat.mul_le_mul_left C k3
  have l4 := Nat.mul_le_mul_left C k4
  have m1 : C * (R * (2 * V)) = C * R * V * 2 := by simp only [Nat.mul_assoc, Nat.mul_left_comm, Nat.mul_comm]
  have m2 : C * (p2 g * (2 * V)) = C * p2 g * V * 2 := by simp only [Nat.mul_assoc, Nat.mul_left_comm, Nat.mul_comm]
  rw [Nat.mul_add, m1, m2] at l3 l4
  constructor
  · refine Nat.le_of_mul_le_mul_right (c := V) ?_ hVp
    rw [Nat.add_mul, Nat.add_mul, Nat.mul_right_comm (C * R), Nat.mul_right_comm B, Nat.mul_right_comm (C * p2 g), Nat.mul_assoc 2 B V]
    exact om1 g1 l3
  · refine Nat.le_of_mul_le_mul_right (c := V) ?_ hVp
    rw [Nat.add_mul, Nat.add_mul, Nat.mul_right_comm (C * R), Nat.mul_right_comm B, Nat.mul_right_comm (C * p2 g), Nat.mul_assoc 2 B V]
    exact om2 g2 l4
/-- A quotient: p is nearly x 2^60 / y. -/
theorem ap_quo {u v : Option Nat} {x y : Int} {d e : Nat} (g : Nat) (p : Int) (f : Nat) (hu : Ap u x d) (hv : Ap v y e) (he : e < y.natAbs)
    (hp : (x * 2 ^ 60 - p * y).natAbs + d * 2 ^ 60 + p.natAbs * e + (x.natAbs + d) * 2 ^ 7 ≤ f * (y.natAbs - e)) (hb : 2 * (p.natAbs + f) ≤ p2 (g + 52)) (hg : g ≤ 1000) : Ap (ar .quo .f64 u v) p (f + p2 g) := by
  obtain ⟨b, rfl, hb1, h1⟩ := hu
  obtain ⟨c, rfl, hc1, h2⟩ := hv
  obtain ⟨ka, hka, hK⟩ := K_pow
  have hKp := K_pos
  obtain ⟨lb, hlb⟩ : ∃ lb : Nat, lb = 1074 := ⟨_, rfl⟩
  have hLK : p2 lb = 2 ^ 60 * K := by rw [hlb]; exact L_eq
  obtain ⟨B, hB⟩ : ∃ B, B = U D (rg D b) := ⟨_, rfl⟩
  obtain ⟨C, hC⟩ : ∃ C, C = U D (rg D c) := ⟨_, rfl⟩
  obtain ⟨zb, hzb⟩ : ∃ zb, zb = I D b := ⟨_, rfl⟩
  obtain ⟨zc, hzc⟩ : ∃ zc, zc = I D c := ⟨_, rfl⟩
  have hBn : zb.natAbs = B := by rw [hzb, hB]; unfold I; cases sg D b <;> simp
  have hCn : zc.natAbs = C := by rw [hzc, hC]; unfold I; cases sg D c <;> simp
  have hBs : zb = if sg D b then -(B : Int) else (B : Int) := by rw [hzb, hB]; rfl
  have hCs : zc = if sg D c then -(C : Int) else (C : Int) := by rw [hzc, hC]; rfl
  rw [← hzb] at h1
  rw [← hzc] at h2
  obtain ⟨Y, hY⟩ : ∃ Y, Y = y.natAbs - e := ⟨_, rfl⟩
  have hYp : 0 < Y := by omega
  rw [← hY] at hp
  have hYC : Y * K ≤ C := by
    have a1 : (y * (K : Int)).natAbs = y.natAbs * K := by rw [Int.natAbs_mul, Int.natAbs_natCast]
    rw [hY, Nat.sub_mul]
    generalize y * (K : Int) = w at *
    omega
  have hXB : B ≤ (x.natAbs + d) * K := by
    have a1 : (x * (K : Int)).natAbs = x.natAbs * K := by rw [Int.natAbs_mul, Int.natAbs_natCast]
    rw [Nat.add_mul]
    generalize x * (K : Int) = w at *
    omega
  have hCp : 0 < C := Nat.lt_of_lt_of_le (Nat.mul_pos hYp hKp) hYC
  obtain ⟨A, hA⟩ : ∃ A, A = (x * 2 ^ 60 - p * y).natAbs + d * 2 ^ 60 + p.natAbs * e := ⟨_, rfl⟩
  rw [← hA] at hp
  obtain ⟨L, hL⟩ : ∃ L, L = p2 lb := ⟨_, rfl⟩
  have hLK2 : L = 2 ^ 60 * K := hL.trans hLK
  -- the exact quotient's remainder
  have hrem : (zb * (L : Int) - p * (K : Int) * zc).natAbs ≤ A * (K * K) := by
    obtain ⟨al, ha⟩ : ∃ al, al = zb - x * (K : Int) := ⟨_, rfl⟩
    obtain ⟨be, hbe⟩ : ∃ be, be = zc - y * (K : Int) := ⟨_, rfl⟩
    rw [← ha] at h1
    rw [← hbe] at h2
    have ez : zb * (L : Int) - p * (K : Int) * zc = (x * 2 ^ 60 - p * y) * ((K : Int) * K) + (al * (L : Int) - p * (K : Int) * be) := by
      rw [show zb = x * (K : Int) + al by omega, show zc = y * (K : Int) + be by omega, hLK2, Int.natCast_mul, show ((2 ^ 60 : Nat) : Int) = 2 ^ 60 from rfl]
      grind
    have t1 : ((x * 2 ^ 60 - p * y) * ((K : Int) * K)).natAbs = (x * 2 ^ 60 - p * y).natAbs * (K * K) := by rw [Int.natAbs_mul, ← Int.natCast_mul, Int.natAbs_natCast]
    have t2 : (al * (L : Int)).natAbs ≤ d * 2 ^ 60 * (K * K) := by
      rw [Int.natAbs_mul, Int.natAbs_natCast, show d * 2 ^ 60 * (K * K) = d * K * L by rw [hLK2]; simp only [Nat.mul_assoc, Nat.mul_left_comm, Nat.mul_comm]]
      exact Nat.mul_le_mul_right _ h1
    have t3 : (p * (K : Int) * be).natAbs ≤ p.natAbs * e * (K * K) := by
      rw [Int.natAbs_mul, Int.natAbs_mul, Int.natAbs_natCast, show p.natAbs * e * (K * K) = p.natAbs * K * (e * K) by simp only [Nat.mul_assoc, Nat.mul_left_comm, Nat.mul_comm]]
      exact Nat.mul_le_mul_left _ h2
    rw [ez, hA, Nat.add_mul, Nat.add_mul]
    generalize (x * 2 ^ 60 - p * y) * ((K : Int) * K) = w0 at *
    generalize (x * 2 ^ 60 - p * y).natAbs * (K * K) = a0 at *
    generalize al * (L : Int) = w1 at *
    generalize p * (K : Int) * be = w2 at *
    omega
  -- A K K <= f K C
  have hAf : A * (K * K) + (x.natAbs + d) * 2 ^ 7 * (K * K) ≤ f * K * C := by
    have a1 := Nat.mul_le_mul_right (K * K) hp
    rw [Nat.add_mul] at a1
    have a2 : f * Y * (K * K) = f * K * (Y * K) := by simp only [Nat.mul_assoc, Nat.mul_left_comm, Nat.mul_comm]
    rw [a2] at a1
    exact Nat.le_trans a1 (Nat.mul_le_mul_left _ hYC)
  have hBL : B * L ≤ (x.natAbs + d) * 2 ^ 60 * (K * K) := by
    have := Nat.mul_le_mul_right L hXB
    rw [show (x.natAbs + d) * 2 ^ 60 * (K * K) = (x.natAbs + d) * K * L by rw [hLK2]; simp only [Nat.mul_assoc, Nat.mul_left_comm, Nat.mul_comm]]
    exact this
  have hBL2 : B * L ≤ (p.natAbs + f) * K * C := by
    have a1 : (zb * (L : Int)).natAbs = B * L := by rw [Int.natAbs_mul, Int.natAbs_natCast, hBn]
    have a2 : (p * (K : Int) * zc).natAbs = p.natAbs * K * C := by rw [Int.natAbs_mul, Int.natAbs_mul, Int.natAbs_natCast, hCn]
    rw [Nat.add_mul, Nat.add_mul]
    generalize zb * (L : Int) = w1 at *
    generalize p * (K : Int) * zc = w2 at *
    generalize p.natAbs * K * C = q1 at *
    generalize f * K * C = q2 at *
    generalize A * (K * K) = q3 at *
    generalize (x.natAbs + d) * 2 ^ 7 * (K * K) = q4 at *
    omega
  obtain ⟨r, hr1, hr2, hr3, hr4, hr5⟩ := quo_ex hb1 hc1 (by rw [← hC]; exact hCp) (g + ka) lb hlb (by omega) (by
    intro X V hV h
    rw [← hB, ← hC, ← hL] at h
    refine Nat.le_of_mul_le_mul_left (c := C * 2 ^ 53) ?_ (Nat.mul_pos hCp (by decide))
    rw [show g + ka + 52 = (g + 52) + ka by omega, p2_add, ← hK]
    have a1 := Nat.mul_le_mul_right V hBL2
    have a2 := Nat.mul_le_mul_right (K * C * V) hb
    have a3 : (p.natAbs + f) * K * C * V = (p.natAbs + f) * (K * C * V) := by simp only [Nat.mul_assoc]
    rw [a3] at a1
    rw [Nat.mul_assoc 2] at a2
    have a4 : C * 2 ^ 53 * (p2 (g + 52) * K * (2 * V)) = 2 ^ 54 * (p2 (g + 52) * (K * C * V)) := by
      rw [show (2 : Nat) ^ 54 = 2 * 2 ^ 53 from rfl]
      simp only [Nat.mul_assoc, Nat.mul_left_comm, Nat.mul_comm]
    rw [Nat.mul_assoc 2 (B * L) V] at h
    rw [a4, show C * 2 ^ 53 * X = 2 ^ 53 * (C * X) by simp only [Nat.mul_assoc, Nat.mul_left_comm, Nat.mul_comm]]
    exact om3 h a1 a2)
  rw [← hB, ← hC, ← hL, p2_add, ← hK] at hr4 hr5
  refine ⟨r, hr1, hr2, ?_⟩
  rw [I_s _ hr3]
  generalize U D (rg D r) = R at *
  have hs : (if (sg D b ^^ sg D c) then -(R : Int) else (R : Int)) * zc = if sg D b then -((C * R : Nat) : Int) else ((C * R : Nat) : Int) := by
    rw [hCs, sgn_mul, Bool.xor_assoc, Bool.xor_self, Bool.xor_false, Nat.mul_comm]
  have hs2 : zb * (L : Int) = if sg D b then -((B * L : Nat) : Int) else ((B * L : Nat) : Int) := by
    rw [hBs]
    cases sg D b <;> simp [Int.neg_mul]
  generalize (if (sg D b ^^ sg D c) then -(R : Int) else (R : Int)) = z at *
  have hd2 : (z * zc - zb * (L : Int)).natAbs * 2 ^ 54 ≤ 2 * (B * L) + C * (p2 g * K) * 2 ^ 54 := by
    rw [hs, hs2]
    exact om4 _ hr4 hr5
  have hfin : ((z - p * (K : Int)) * zc).natAbs * 2 ^ 54 ≤ (f * K + p2 g * K) * C * 2 ^ 54 := by
    have t := tri (z * zc) (zb * (L : Int)) (p * (K : Int) * zc)
    rw [Int.sub_mul]
    rw [Nat.add_mul (f * K), Nat.mul_comm (p2 g * K) C]
    have a5 : (x.natAbs + d) * 2 ^ 60 * (K * K) = (x.natAbs + d) * 2 ^ 7 * (K * K) * 2 ^ 53 := by
      rw [show (2 : Nat) ^ 60 = 2 ^ 7 * 2 ^ 53 from rfl]
      simp only [Nat.mul_assoc, Nat.mul_left_comm, Nat.mul_comm]
    rw [a5] at hBL
    exact om5 t hd2 hrem hAf hBL
  rw [Int.natAbs_mul, hCn] at hfin
  rw [Nat.add_mul]
  exact Nat.le_of_mul_le_mul_right (Nat.le_of_mul_le_mul_right hfin (by decide)) hCp
end Fl
end Go.Proofs.Ytaannebjpmdhjaa
