/-
  Narrowing's error, a difference's bound; products of phasors. No program is in sight.
-/
import Derived.Test.YtaannebjpmdhjaaCirp
import Derived.Test.YtaannebjpmdhjaaFix
namespace Go.Proofs.Ytaannebjpmdhjaa
set_option linter.unusedVariables false
set_option linter.unusedSimpArgs false
set_option maxRecDepth 20000
open Ieee Fl

theorem big_fin : (8388608 + 1) * p2 127 < U S S.infRung := by decide +kernel
theorem nar_err {b : Nat} (hf : Fl.Fin D b) (h : U D (rg D b) ≤ p2 1075) : NarOk (some b) ∧ ∃ c, nar (some b) = some c ∧ Fl.Fin S c ∧ (I S c * (wide : Int) - I D b).natAbs ≤ p2 1052 := by
  refine ⟨narOk_fin hf (Nat.le_trans h (by decide +kernel)), ?_⟩
  obtain ⟨m, k, hr, hm⟩ := read_fin hf
  obtain ⟨c, hc⟩ : ∃ c : Nat, c = 925 := ⟨_, rfl⟩
  obtain ⟨g, hg⟩ : ∃ g : Nat, g = 127 := ⟨_, rfl⟩
  have e52 : p2 1052 = p2 g * p2 c := by rw [← p2_add]; congr 1; omega
  have e75 : p2 1075 = 8388608 * (p2 g * p2 c) := by
    rw [show (8388608 : Nat) = p2 23 from rfl, ← p2_add, ← p2_add]; congr 1; omega
  rw [e52]
  rw [e75] at h
  have hw : wide = p2 c := by rw [wide_eq, p2_eq, hc]
  have hbig := big_fin
  rw [← hg] at hbig
  obtain ⟨G, hG⟩ : ∃ G, G = p2 g * p2 c := ⟨_, rfl⟩
  have hGp : 0 < G := by rw [hG]; exact Nat.mul_pos (p2_pos' _) (p2_pos' _)
  rw [← hG] at h ⊢
  obtain ⟨x, hx⟩ : ∃ x, x = U D (rg D b) := ⟨_, rfl⟩
  rw [← hx] at h hm
  obtain ⟨t, ht⟩ : ∃ t, t = x / G := ⟨_, rfl⟩
  have h1 : t * G ≤ x := by rw [ht]; exact Nat.div_mul_le_self ..
  have h2 : x < (t + 1) * G := by rw [ht]; exact Nat.lt_mul_of_div_lt (Nat.lt_succ_self _) hGp
  have h3 : t ≤ 8388608 := Nat.le_of_mul_le_mul_right (Nat.le_trans h1 h) hGp
  have hB : S.binade = 8388608 := by decide
  obtain ⟨r1, e1⟩ := rung_of S t g (by rw [hB]; omega)
  obtain ⟨r2, e2⟩ := rung_of S (t + 1) g (by rw [hB]; omega)
  have e1 : U S r1 = t * p2 g := e1
  have e2 : U S r2 = (t + 1) * p2 g := e2
  have hi2 : r2 < S.infRung := by
    refine lt_of_U (f := S) ?_
    rw [e2]
    exact Nat.lt_of_le_of_lt (Nat.mul_le_mul_right _ (by omega)) hbig
  have hi1 : r1 ≤ S.infRung := by
    refine Nat.le_of_lt (lt_of_U (f := S) ?_)
    rw [e1]
    exact Nat.lt_of_le_of_lt (Nat.mul_le_mul_right _ (by omega)) hbig
  have a1 : (-1074 + (k : Int) - -149).toNat + min k c = k := by omega
  have a2 : ((-149 : Int) - (-1074 + (k : Int))).toNat + min k c = c := by omega
  have k1 : r1 ≤ rnd S m (D.leastPlace + k) := by
    refine le_rnd hi1 ?_
    unfold GeU
    rw [S_least, D_least]
    refine (pow_cancel (k := min k c)).1 ?_
    rw [a1, a2, e1, hm, ← p2_eq, Nat.mul_assoc, ← hG]
    exact h1
  have k2 : rnd S m (D.leastPlace + k) ≤ r2 := by
    refine rnd_le ?_
    unfold LeU
    rw [S_least, D_least]
    refine (pow_cancel (k := min k c)).1 ?_
    rw [a1, a2, e2, hm, ← p2_eq, Nat.mul_assoc, ← hG]
    exact Nat.le_of_lt h2
  have u1 := U_le (f := S) k1
  have u2 := U_le (f := S) k2
  rw [e1] at u1
  rw [e2] at u2
  refine ⟨S.nearest (sg D b) m (D.leastPlace + k), ?_, ?_, ?_⟩
  · show some (S.write (D.read b)) = _
    rw [hr]
    rfl
  · unfold Fl.Fin
    rw [rg_nearest]
    omega
  · unfold I
    rw [sg_nearest, rg_nearest, hw, ← hx]
    have v1 := Nat.mul_le_mul_right (p2 c) u1
    have v2 := Nat.mul_le_mul_right (p2 c) u2
    rw [Nat.mul_assoc, ← hG] at v1 v2
    rw [Nat.add_mul, Nat.one_mul] at h2 v2
    have e3 : ((U S (rnd S m (D.leastPlace + k)) * p2 c : Nat) : Int) = (U S (rnd S m (D.leastPlace + k)) : Int) * ((p2 c : Nat) : Int) := Int.natCast_mul ..
    generalize U S (rnd S m (D.leastPlace + k)) * p2 c = R at *
    generalize t * G = T at *
    cases sg D b
    · simp only [Bool.false_eq_true, if_false]
      rw [← e3]
      omega
    · simp only [if_true]
      rw [Int.neg_mul, ← e3]
      omega
theorem two_K (e : Nat) (he : e ≤ 61) : p2 (1014 + e) = p2 e * K := by
  obtain ⟨c, hc, hK⟩ := K_pow
  rw [hK, ← hc, p2_add, Nat.mul_comm]
theorem nar_ap {v : Option Nat} {n : Int} {d : Nat} (h : Ap v n d) (hb : n.natAbs + d ≤ 2305843009213693952) : NarOk v ∧ Ap (wid (nar v)) n (d + 274877906944) := by
  obtain ⟨b, rfl, hf, h1⟩ := h
  have hA := Go.Proofs.Ytaannebjpmdhjaa.I_abs (b := b)
  have hn : (n * (K : Int)).natAbs = n.natAbs * K := by rw [Int.natAbs_mul, Int.natAbs_natCast]
  have h61 := two_K 61 (by decide)
  have h38 := two_K 38 (by decide)
  rw [show (1014 + 61 : Nat) = 1075 from rfl, show p2 61 = 2305843009213693952 by decide] at h61
  rw [show (1014 + 38 : Nat) = 1052 from rfl, show p2 38 = 274877906944 by decide] at h38
  have hU : U D (rg D b) ≤ p2 1075 := by
    have a1 := Nat.mul_le_mul_right K hb
    rw [Nat.add_mul] at a1
    rw [h61]
    generalize n * (K : Int) = y at *
    omega
  obtain ⟨o, c, hc, fc, hI⟩ := nar_err hf hU
  refine ⟨o, ?_⟩
  rw [hc]
  refine ⟨wb c, rfl, (wid_fin fc).1, ?_⟩
  rw [I_wb fc]
  rw [h38] at hI
  rw [Nat.add_mul]
  exact Nat.le_trans (tri _ (I D b) _) (by omega)
theorem lit_most : Fl.Fin D 4547007122018943789 ∧ 115292150460684 * (K : Int) ≤ I D 4547007122018943789 := ⟨by unfold Fl.Fin; decide +kernel, by decide +kernel⟩
theorem ap_leq {g : Option Nat} {z : Int} {f : Nat} (h : Ap g z f) (h2 : z.natAbs + f ≤ 115292150460684) : cmpF .leq .f64 g (some 4547007122018943789) = true := by
  obtain ⟨b, rfl, hf, h1⟩ := h
  obtain ⟨q1, q2⟩ := lit_most
  have e : ord .f64 (some b) (some 4547007122018943789) = some (compare (I D b) (I D 4547007122018943789)) := order_fin hf q1
  have h3 : I D b ≤ I D 4547007122018943789 := by
    have a1 := Nat.mul_le_mul_right K h2
    rw [Nat.add_mul] at a1
    have hn : (z * (K : Int)).natAbs = z.natAbs * K := by rw [Int.natAbs_mul, Int.natAbs_natCast]
    generalize z * (K : Int) = y at *
    omega
  unfold cmpF
  simp only [e]
  rcases Int.lt_or_eq_of_le h3 with h | h
  · rw [Int.compare_eq_lt.2 h]; rfl
  · rw [h]; simp
theorem gap_leq {u v : Option Nat} {x y : Int} {d e : Nat} (hu : Ap u x d) (hv : Ap v y e) (hb : (x - y).natAbs + d + e + 1 ≤ 115292150460684) : cmpF .leq .f64 (gapC u v) (some 4547007122018943789) = true := by
  have p52 : p2 (0 + 52) = 4503599627370496 := by decide
  have p0 : p2 0 = 1 := rfl
  have hb2 : (y - x).natAbs = (x - y).natAbs := by omega
  unfold gapC
  split
  · have h := ap_sub 0 hv hu (by rw [p52, hb2]; omega) (by decide)
    rw [p0] at h
    exact ap_leq h (by omega)
  · have h := ap_sub 0 hu hv (by rw [p52]; omega) (by decide)
    rw [p0] at h
    exact ap_leq h (by omega)
theorem prod_x (t : Int) (x y : Nat) : (t * 16 * 1152921504606846976 - t * 18446744073709551616).natAbs + (x * 0 + y * 0 + 0 * 0) ≤ 0 * 1152921504606846976 := by
  have e : t * 16 * 1152921504606846976 - t * 18446744073709551616 = 0 := by omega
  rw [e]
  simp
theorem prod_y (t : Int) (h : t.natAbs ≤ 268435456 * 268435456) : (t * 16).natAbs + 0 ≤ 1152921504606846976 := by omega
theorem prod_z (a b : Int) : a * 4294967296 * (b * 4294967296) = a * b * 18446744073709551616 := by
  rw [Int.mul_assoc, Int.mul_left_comm 4294967296, ← Int.mul_assoc]
  rfl
theorem prod_ap {u v : Option Nat} {a b : Int} (hu : Ap u (a * 4294967296) 0) (hv : Ap v (b * 4294967296) 0) (ha : a.natAbs ≤ 268435456) (hb : b.natAbs ≤ 268435456) : Ap (ar .mul .f64 u v) (a * b * 16) 256 := by
  have hab : (a * b).natAbs ≤ 268435456 * 268435456 := by rw [Int.natAbs_mul]; exact Nat.mul_le_mul ha hb
  have h := ap_mul 8 (a * b * 16) 0 hu hv (by rw [prod_z, two60i, two60]; exact prod_x _ _ _) (by rw [show p2 (8 + 52) = 1152921504606846976 by decide]; exact prod_y _ hab) (by decide)
  rw [show p2 8 = 256 by decide] at h
  exact h
/-- The phasors in units of 2^-28. -/
def cTabC : Nat := 0x8fec46d08fb14be08f4fa0b08ec835e08e1c59808d4db3108c5e40308b504f308a26799088e39da0878ad750861f78a884a50188831f170881917a6c800000007e6e85947ce0e8f87b5afe7879e08758787528b0771c626075d9867074afb0d073a1bfd072b24cf071e3a6807137ca2070b05f50704eb4207013b930700000007013b930704eb42070b05f507137ca2071e3a68072b24cf073a1bfd074afb0d075d98670771c6260787528b079e087587b5afe787ce0e8f87e6e85948000000081917a6c831f170884a50188861f78a8878ad75088e39da08a2679908b504f308c5e40308d4db3108e1c59808ec835e08f4fa0b08fb14be08fec46d090000000
def cI (m : Nat) : Int := (((cTabC >>> (32 * m)) % 4294967296 : Nat) : Int) - 2147483648
def dTabC : Nat := 0x7e6e85947ce0e8f87b5afe7879e08758787528b0771c626075d9867074afb0d073a1bfd072b24cf071e3a6807137ca2070b05f50704eb4207013b930700000007013b930704eb42070b05f507137ca2071e3a68072b24cf073a1bfd074afb0d075d98670771c6260787528b079e087587b5afe787ce0e8f87e6e85948000000081917a6c831f170884a50188861f78a8878ad75088e39da08a2679908b504f308c5e40308d4db3108e1c59808ec835e08f4fa0b08fb14be08fec46d0900000008fec46d08fb14be08f4fa0b08ec835e08e1c59808d4db3108c5e40308b504f308a26799088e39da0878ad750861f78a884a50188831f170881917a6c80000000
def dI (m : Nat) : Int := (((dTabC >>> (32 * m)) % 4294967296 : Nat) : Int) - 2147483648
def cOk (m : Nat) : Bool := (Nat.blt (rg D (xB m)) D.infRung && (decide (I D (xB m) = cI m * 4294967296 * (K : Int)) && Nat.ble (cI m).natAbs 268435456)) && (Nat.blt (rg D (yB m)) D.infRung && (decide (I D (yB m) = dI m * 4294967296 * (K : Int)) && Nat.ble (dI m).natAbs 268435456))
theorem cOk_all (m : Nat) (hm : m < 64) : cOk m = true := allC_of (by kernel_rfl) m hm
theorem ap_of_eq {b : Nat} {n : Int} (h1 : Nat.blt (rg D b) D.infRung = true) (h2 : I D b = n * (K : Int)) : Ap (some b) n 0 := ⟨b, rfl, Nat.le_of_ble_eq_true h1, by rw [h2]; simp⟩
theorem ap_c {m : Nat} (hm : m < 64) : (Ap (some (xB m)) (cI m * 4294967296) 0 ∧ (cI m).natAbs ≤ 268435456) ∧ (Ap (some (yB m)) (dI m * 4294967296) 0 ∧ (dI m).natAbs ≤ 268435456) := by
  have h := cOk_all m hm
  unfold cOk at h
  simp only [Bool.and_eq_true, decide_eq_true_eq] at h
  obtain ⟨⟨h1, h2, h3⟩, h4, h5, h6⟩ := h
  exact ⟨⟨ap_of_eq h1 h2, Nat.le_of_ble_eq_true h3⟩, ap_of_eq h4 h5, Nat.le_of_ble_eq_true h6⟩
def nrOk (n m : Nat) : Bool := Nat.ble ((cI n * cI m * 16 - dI n * dI m * 16) - cI ((n + m) % 64) * 4294967296).natAbs 114000000000000 && Nat.ble ((cI n * dI m * 16 + dI n * cI m * 16) - dI ((n + m) % 64) * 4294967296).natAbs 114000000000000
theorem nrOk0 : allC (fun k => nrOk (k / 64) (k % 64)) 1024 = true := by kernel_rfl
theorem nrOk1 : allC (fun k => nrOk (16 + k / 64) (k % 64)) 1024 = true := by kernel_rfl
theorem nrOk2 : allC (fun k => nrOk (32 + k / 64) (k % 64)) 1024 = true := by kernel_rfl
theorem nrOk3 : allC (fun k => nrOk (48 + k / 64) (k % 64)) 1024 = true := by kernel_rfl
theorem nrOk_all {n m : Nat} (hn : n < 64) (hm : m < 64) : nrOk n m = true := by
  have e1 : (64 * (n % 16) + m) / 64 = n % 16 := by omega
  have e2 : (64 * (n % 16) + m) % 64 = m := by omega
  have h : n / 16 = 0 ∨ n / 16 = 1 ∨ n / 16 = 2 ∨ n / 16 = 3 := by omega
  rcases h with h | h | h | h
  · have := allC_of nrOk0 (64 * (n % 16) + m) (by omega)
    rwa [e1, e2, show n % 16 = n by omega] at this
  · have := allC_of nrOk1 (64 * (n % 16) + m) (by omega)
    rwa [e1, e2, show 16 + n % 16 = n by omega] at this
  · have := allC_of nrOk2 (64 * (n % 16) + m) (by omega)
    rwa [e1, e2, show 32 + n % 16 = n by omega] at this
  · have := allC_of nrOk3 (64 * (n % 16) + m) (by omega)
    rwa [e1, e2, show 48 + n % 16 = n by omega] at this
theorem near_part {u : Option Nat} {z c : Int} {r : Nat} (hu : Ap u z 1536) (hr : Ap (some r) (c * 4294967296) 0) (hc : c.natAbs ≤ 268435456) (h : (z - c * 4294967296).natAbs ≤ 114000000000000) :
    NarOk u ∧ cmpF .leq .f64 (gapC (wid (nar u)) (some r)) (some 4547007122018943789) = true := by
  obtain ⟨h1, h2⟩ := nar_ap hu (by omega)
  exact ⟨h1, gap_leq h2 hr (by omega)⟩
theorem wid_c {m : Nat} (hm : m < 64) : wid (some (rB m)) = some (xB m) ∧ wid (some (iB m)) = some (yB m) := by
  have h := pOk_all m hm
  unfold pOk at h
  simp only [Bool.and_eq_true] at h
  exact ⟨eqC_of h.2.2.1, eqC_of h.2.2.2⟩
/-- The product of two phasors. -/
theorem mul_facts {n m : Nat} (hn : n < 64) (hm : m < 64) :
    (NarOk (tRe (some (rB n)) (some (iB n)) (some (rB m)) (some (iB m))) ∧ cmpF .leq .f64 (gapC (wid (nar (tRe (some (rB n)) (some (iB n)) (some (rB m)) (some (iB m))))) (wid (some (rB ((n + m) % 64))))) (some 4547007122018943789) = true) ∧
    (NarOk (tIm (some (rB n)) (some (iB n)) (some (rB m)) (some (iB m))) ∧ cmpF .leq .f64 (gapC (wid (nar (tIm (some (rB n)) (some (iB n)) (some (rB m)) (some (iB m))))) (wid (some (iB ((n + m) % 64))))) (some 4547007122018943789) = true) := by
  obtain ⟨⟨a1, a2⟩, b1, b2⟩ := ap_c hn
  obtain ⟨⟨c1, c2⟩, d1, d2⟩ := ap_c hm
  obtain ⟨⟨e1, e2⟩, f1, f2⟩ := ap_c (show (n + m) % 64 < 64 by omega)
  have hk := nrOk_all hn hm
  unfold nrOk at hk
  rw [Bool.and_eq_true] at hk
  obtain ⟨k1, k2⟩ := hk
  have k1 := Nat.le_of_ble_eq_true k1
  have k2 := Nat.le_of_ble_eq_true k2
  unfold tRe tIm
  rw [(wid_c hn).1, (wid_c hn).2, (wid_c hm).1, (wid_c hm).2, (wid_c (show (n + m) % 64 < 64 by omega)).1, (wid_c (show (n + m) % 64 < 64 by omega)).2]
  have p62 : p2 (10 + 52) = 4611686018427387904 := by decide
  have p10 : p2 10 = 1024 := by decide
  have g1 := ap_sub 10 (prod_ap a1 c1 a2 c2) (prod_ap b1 d1 b2 d2) (by rw [p62]; omega) (by decide)
  have g2 := ap_add 10 (prod_ap a1 d1 a2 d2) (prod_ap b1 c1 b2 c2) (by rw [p62]; omega) (by decide)
  rw [p10] at g1 g2
  exact ⟨near_part g1 e1 e2 k1, near_part g2 f1 f2 k2⟩
end Go.Proofs.Ytaannebjpmdhjaa
