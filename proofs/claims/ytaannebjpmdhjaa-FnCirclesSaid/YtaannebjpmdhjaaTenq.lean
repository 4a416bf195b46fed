/-
  Tenths of decibels told by fixed-point numbers. No program is in sight.
-/
import Derived.Test.YtaannebjpmdhjaaFix
import Derived.Test.YtaannebjpmdhjaaTen
namespace Go.Proofs.Ytaannebjpmdhjaa
set_option linter.unusedVariables false
set_option linter.unusedSimpArgs false
set_option maxRecDepth 20000
open Ieee Fl

/-- Rounding down. -/
theorem floor_bounds {b : Nat} (hf : Fl.Fin D b) (h : U D (rg D b) ≤ 2 ^ (1074 + 51)) : tz (floorD b) * ((p2 1074 : Nat) : Int) ≤ I D b ∧ I D b ≤ (tz (floorD b) + 1) * ((p2 1074 : Nat) : Int) := by
  obtain ⟨m, k, hr, hm⟩ := read_fin hf
  obtain ⟨c, hc⟩ : ∃ c : Nat, c = 1074 := ⟨_, rfl⟩
  have hl : D.leastPlace = -(c : Int) := by rw [D_least, hc]; rfl
  obtain ⟨n, hn⟩ : ∃ n, n = m <<< (D.leastPlace + (k : Int)).toNat := ⟨_, rfl⟩
  obtain ⟨d, hd⟩ : ∃ d, d = (-(D.leastPlace + (k : Int))).toNat := ⟨_, rfl⟩
  obtain ⟨Z, hZ⟩ : ∃ Z, Z = Ieee.Toward.zero.cut (sg D b) n d := ⟨_, rfl⟩
  obtain ⟨z1, z2⟩ := cut_zero_le (sg D b) n d
  rw [← hZ] at z1 z2
  -- from n, d to units
  have hsc : ∀ X : Nat, (X * 2 ^ d ≤ n ↔ X * p2 c ≤ U D (rg D b)) ∧ (n ≤ X * 2 ^ d ↔ U D (rg D b) ≤ X * p2 c) := by
    intro X
    have a1 : (X * 2 ^ (d + min k c) ≤ m * 2 ^ ((-(c : Int) + (k : Int)).toNat + min k c)) ↔ X * 2 ^ d ≤ n := by
      rw [hn, hl, Nat.shiftLeft_eq]; exact pow_cancel
    have a2 : (m * 2 ^ ((-(c : Int) + (k : Int)).toNat + min k c) ≤ X * 2 ^ (d + min k c)) ↔ n ≤ X * 2 ^ d := by
      rw [hn, hl, Nat.shiftLeft_eq]; exact pow_cancel
    rw [← a1, ← a2, hd, hl, show (-(-(c : Int) + (k : Int))).toNat + min k c = c by omega, show (-(c : Int) + (k : Int)).toNat + min k c = k by omega, hm]
    exact ⟨Iff.rfl, Iff.rfl⟩
  have u1 := (hsc Z).1.1 z1
  have u2 := (hsc (Z + 1)).2.1 (Nat.le_of_lt z2)
  have e1 : floorD b = D.nearest (sg D b) (Ieee.Toward.down.cut (sg D b) n d) 0 := by
    unfold floorD
    rw [hr]
    simp only [Ieee.Datum.integral]
    rw [← hn, ← hd]
    rfl
  obtain ⟨M, hM1, hM2, hM3⟩ := floor_fin hf h
  -- what is cut
  have e2 : ∃ t : Nat, Ieee.Toward.down.cut (sg D b) n d = Z + t ∧ (t = 0 ∨ t = 1) ∧ (sg D b = false → t = 0) ∧ (sg D b = true → t = 0 → n ≤ Z * 2 ^ d) := by
    obtain ⟨G, hG⟩ : ∃ G, G = 1 <<< min d (n.log2 + 2) := ⟨_, rfl⟩
    have a1 : Ieee.Toward.zero.cut (sg D b) n d = n / G := by rw [hG]; rfl
    have a2 : Ieee.Toward.down.cut (sg D b) n d = n / G + (sg D b && n % G != 0).toNat := by rw [hG]; rfl
    refine ⟨(sg D b && n % G != 0).toNat, by rw [a2, hZ, a1], ?_, ?_, ?_⟩
    · cases (sg D b && n % G != 0)
      · exact .inl rfl
      · exact .inr rfl
    · intro hs
      rw [hs]
      rfl
    · intro hs ht
      rw [hs] at ht
      have hm0 : n % G = 0 := by
        by_cases h0 : n % G = 0
        · exact h0
        · have : (n % G != 0) = true := by simp [h0]
          rw [this] at ht
          cases ht
      rcases gap_cases n d with hg | ⟨g1, g2⟩
      · rw [← hG] at hg
        have h3 := Nat.div_add_mod n G
        rw [hm0, Nat.add_zero, Nat.mul_comm] at h3
        rw [hZ, a1, ← hg, h3]
        exact Nat.le_refl _
      · rw [← hG] at g1
        rw [Nat.mod_eq_of_lt (by omega)] at hm0
        omega
  obtain ⟨t, t1, t2, t3, t4⟩ := e2
  have hZt : Z + t < 2 ^ 53 := by
    have a3 : Z * p2 c ≤ p2 51 * p2 c := by
      refine Nat.le_trans u1 ?_
      rw [← p2_add, p2_eq, hc, Nat.add_comm]
      exact h
    have a4 := Nat.le_of_mul_le_mul_right a3 (p2_pos' c)
    have a5 : p2 51 + 1 < 2 ^ 53 := by decide
    omega
  have hT : tz (floorD b) = if sg D b then -((Z + t : Nat) : Int) else ((Z + t : Nat) : Int) := by
    rw [e1, t1]
    obtain ⟨n1, n2, n3⟩ := near_int (sg D b) hZt
    obtain ⟨M2, _, q2, q3, q4, _⟩ := tz_fin n1
    rw [n3] at q3 q4
    rw [← hc] at q3 q4
    have b1 := Nat.le_of_mul_le_mul_right q3 (Nat.two_pow_pos c)
    have b2 := Nat.lt_of_mul_lt_mul_right q4
    rw [q2, n2]
    have : M2 = Z + t := by omega
    rw [this]
  rw [hT, ← hc]
  have hI := I_s (sg D b) (b := b) rfl
  rw [hI]
  generalize U D (rg D b) = R at *
  cases hs : sg D b
  · have := t3 hs
    subst this
    simp only [Bool.false_eq_true, if_false, Nat.add_zero]
    rw [← Int.natCast_mul, show ((Z : Int) + 1) = ((Z + 1 : Nat) : Int) by omega, ← Int.natCast_mul]
    omega
  · simp only [if_true]
    rcases t2 with rfl | rfl
    · have k1 := (hsc Z).2.1 (t4 hs rfl)
      rw [Nat.add_zero, Int.neg_mul, ← Int.natCast_mul, Int.add_mul, Int.neg_mul, ← Int.natCast_mul]
      omega
    · rw [Int.neg_mul, ← Int.natCast_mul, show (-((Z + 1 : Nat) : Int) + 1) = -(Z : Int) by omega, Int.neg_mul, ← Int.natCast_mul]
      omega
/-- An integer. -/
def intA (z : Int) : FA := if z.natAbs < 9007199254740992 then some (z * 1152921504606846976, 0) else none
theorem apO_int (z : Int) : ApO (ofInt .f64 z) (intA z) := by
  intro n d h
  unfold intA at h
  split at h
  · rename_i hc
    cases h
    obtain ⟨n1, n2, n3⟩ := near_int (decide (z < 0)) (M := z.natAbs) hc
    refine ⟨D.nearest (decide (z < 0)) z.natAbs 0, rfl, n1, ?_⟩
    have hL := L_eq
    rw [two60] at hL
    unfold p2 at hL
    rw [I_s _ n2, n3, hL]
    clear hL n1 n2 n3
    obtain ⟨k, hk⟩ : ∃ k : Nat, k = K := ⟨_, rfl⟩
    rw [← hk]
    have e : (if decide (z < 0) = true then -((z.natAbs * (1152921504606846976 * k) : Nat) : Int) else ((z.natAbs * (1152921504606846976 * k) : Nat) : Int)) = z * 1152921504606846976 * (k : Int) := by
      rw [← Nat.mul_assoc, Int.natCast_mul, Int.natCast_mul]
      by_cases hz : z < 0
      · rw [decide_eq_true hz, if_pos rfl, ← Int.neg_mul, ← Int.neg_mul, show -((z.natAbs : Nat) : Int) = z by omega]
        rfl
      · rw [decide_eq_false hz, if_neg (by simp), show ((z.natAbs : Nat) : Int) = z by omega]
        rfl
    rw [e]
    simp
  · cases h
def oneA : FA := some (1152921504606846976, 0)
theorem ap_zero : Ap (some 0) 0 0 := ⟨0, rfl, by unfold Fl.Fin; decide +kernel, by rw [show I D 0 = 0 by decide +kernel]; simp⟩
/-- The series' numbers, reckoned once. -/
def cQ : Nat → FA
  | 0 => some (46116860184273879, 2054)
  | 1 => some (50127021939428129, 2055)
  | 2 => some (54901024028897475, 2055)
  | 3 => some (60680079189834051, 2056)
  | 4 => some (67818912035696880, 2057)
  | 5 => some (76861433640456465, 2057)
  | 6 => some (88686269585142075, 2059)
  | 7 => some (104811045873349725, 2060)
  | 8 => some (128102389400760775, 2063)
  | 9 => some (164703072086692425, 2067)
  | 10 => some (230584300921369395, 2075)
  | 11 => some (384307168202282325, 2092)
  | 12 => some (1152921504606846976, 2178)
  | _ => none
theorem cQ_eq : ∀ j : Nat, j < 13 → quoA 11 (litA 4607182418800017408) (intA (25 - 2 * j)) = cQ j := by decide +kernel
theorem apO_cQ (j : Nat) : ApO (ar .quo .f64 (some 4607182418800017408) (ofInt .f64 (25 - 2 * j))) (cQ j) := by
  by_cases h : j < 13
  · rw [← cQ_eq j h]
    exact apO_quo 11 (by decide) (apO_lit _) (apO_int _)
  · obtain ⟨k, rfl⟩ : ∃ k, j = k + 13 := ⟨j - 13, by omega⟩
    intro n d hn
    cases hn
theorem apO_eq {b : Nat} {a : FA} (h : litA b = a) : ApO (some b) a := h ▸ apO_lit b
def A1 : FA := some (1152921504606846976, 1)
def A2 : FA := some (2305843009213693952, 1)
def Aln : FA := some (799144290325165952, 1)
def A43 : FA := some (50070744751834816512, 1)
def Ah : FA := some (576460752303423488, 1)
theorem apO_A1 : ApO (some 4607182418800017408) A1 := apO_eq (by decide +kernel)
theorem apO_A2 : ApO (some 4611686018427387904) A2 := apO_eq (by decide +kernel)
theorem apO_Aln : ApO (some 4604418534313441775) Aln := apO_eq (by decide +kernel)
theorem apO_A43 : ApO (some 4631308968768463603) A43 := apO_eq (by decide +kernel)
theorem apO_Ah : ApO (some 4602678819172646912) Ah := apO_eq (by decide +kernel)
def logQA (u : FA) : Nat → FA
  | 0 => some (0, 0)
  | j + 1 => addA 11 (cQ j) (mulA 11 u (logQA u j))
theorem apO_logQ {u : Option Nat} {a : FA} (hu : ApO u a) : ∀ j : Nat, ApO (logQ u j) (logQA a j)
  | 0 => by intro n d h; cases h; exact ap_zero
  | j + 1 => apO_add 11 (by decide) (apO_cQ j) (apO_mul 11 (by decide) hu (apO_logQ hu j))
/-- The mantissa's quotient, where a tells it. -/
def logSA (a : FA) : FA := quoA 11 (subA 11 a A1) (addA 11 a A1)
theorem apO_logS {y : Nat} {a : FA} (h : ApO (some y) a) : ApO (logS y) (logSA a) := apO_quo 11 (by decide) (apO_sub 11 (by decide) h apO_A1) (apO_add 11 (by decide) h apO_A1)
def logPA (s : FA) : FA := mulA 11 A2 (mulA 11 s (logQA (mulA 11 s s) 13))
def tenA (a : FA) (e : Int) : FA := addA 18 (mulA 18 (addA 11 (logPA (logSA a)) (mulA 11 (intA e) Aln)) A43) Ah
theorem apO_ten {b : Nat} {a : FA} {e : Int} (h : ApO (some (redX (wb b))) a) (he : redE (wb b) = e) : ApO (tenX b) (tenA a e) := by
  have h1 := apO_logS h
  have h2 : ApO (logTail (redX (wb b)) e) (addA 11 (logPA (logSA a)) (mulA 11 (intA e) Aln)) :=
    apO_add 11 (by decide) (apO_mul 11 (by decide) apO_A2 (apO_mul 11 (by decide) h1 (apO_logQ (apO_mul 11 (by decide) h1 h1) 13))) (apO_mul 11 (by decide) (apO_int e) apO_Aln)
  rw [← he] at h2 ⊢
  exact apO_add 18 (by decide) (apO_mul 18 (by decide) h2 apO_A43) apO_Ah
end Go.Proofs.Ytaannebjpmdhjaa
