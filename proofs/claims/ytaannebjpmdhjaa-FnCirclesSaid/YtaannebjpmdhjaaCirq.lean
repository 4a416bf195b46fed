/-
  The phasors' powers, what is left of their angles, quarters of turns: checked by the kernel. No program is in sight.
-/
import Derived.Test.YtaannebjpmdhjaaCirm
namespace Go.Proofs.Ytaannebjpmdhjaa
set_option linter.unusedVariables false
set_option linter.unusedSimpArgs false
set_option maxRecDepth 20000
open Ieee Fl

/-- No finite float64 that is greater than the greatest float32. -/
def nOk (v : Option Nat) : Bool := match v with | none => true | some b => (D.read b).isInfinity || !(S.read (S.write (D.read b))).isInfinity
theorem nOk_ok {v : Option Nat} (h : nOk v = true) : NarOk v := by
  rintro b rfl
  unfold nOk at h
  rw [Bool.or_eq_true, Bool.not_eq_true'] at h
  exact h
def fOk (b : Nat) : Bool := !(S.read b).isNaN && Nat.blt b 4294967296
theorem fOk_of {b : Nat} (h : fOk b = true) : IsF .f32 b (some b) := by
  unfold fOk at h
  rw [Bool.and_eq_true, Bool.not_eq_true'] at h
  exact IsF.lit ⟨h.1, Nat.le_of_ble_eq_true h.2⟩
def wOk (m : Nat) : Bool := (fOk (rB m) && (fOk (iB m) && (fOk (aB m) && fOk (wB m)))) && (nOk (pW (some (rB m)) (some (iB m))) && (eqC (nar (pW (some (rB m)) (some (iB m)))) (some (wB m)) && !cmpF .gtr .f64 (gapC (wid (some (wB m))) (some 4607182418800017408)) (some 4547007122018943789)))
theorem wOk_all (m : Nat) (hm : m < 64) : wOk m = true := allC_of (by kernel_rfl) m hm
theorem w_facts {m : Nat} (hm : m < 64) : (IsF .f32 (rB m) (some (rB m)) ∧ IsF .f32 (iB m) (some (iB m)) ∧ IsF .f32 (aB m) (some (aB m)) ∧ IsF .f32 (wB m) (some (wB m))) ∧ NarOk (pW (some (rB m)) (some (iB m))) ∧ nar (pW (some (rB m)) (some (iB m))) = some (wB m) ∧
    cmpF .gtr .f64 (gapC (wid (some (wB m))) (some 4607182418800017408)) (some 4547007122018943789) = false := by
  have h := wOk_all m hm
  unfold wOk at h
  simp only [Bool.and_eq_true, Bool.not_eq_true'] at h
  obtain ⟨⟨h1, h2, h3, h4⟩, h5, h6, h7⟩ := h
  exact ⟨⟨fOk_of h1, fOk_of h2, fOk_of h3, fOk_of h4⟩, nOk_ok h5, eqC_of h6, h7⟩
/-- The angle's turns and 10000. -/
def zI (k : Nat) : Int := 10128 - 64 * ((k / 64 : Nat) : Int) - (if Nat.ble (k % 64) 32 then 0 else 64)
def eqZ (u : Option Int) (z : Int) : Bool := match u with | some y => decide (y = z) | none => false
theorem eqZ_of {u : Option Int} {z : Int} (h : eqZ u z = true) : u = some z := by
  cases u with
  | none => cases h
  | some y => exact congrArg some (of_decide_eq_true h)
def uOk (k : Nat) : Bool := eqC (ar .sub .f64 (ar .mul .f64 (wid (some (aB (k % 64)))) (some 4634204016564240384)) (ofInt .f64 ((k : Int) - 128))) (some (uB k)) && (eqC (ar .add .f64 (some (uB k)) (some 4666723447345250304)) (some (vB k)) &&
  (eqZ ((D.read (vB k)).toInt .zero) (zI k) && ((!cmpF .gtr .f64 (gapC (some (uB k)) (ofInt .f64 (zI k - 10000))) (some 4562254508917369340)) && decide ((zI k - 10000).tmod 64 = 0))))
theorem uOk_all (k : Nat) (hk : k < 256) : uOk k = true := allC_of (by kernel_rfl) k hk
theorem u_facts {k : Nat} (hk : k < 256) : ar .sub .f64 (ar .mul .f64 (wid (some (aB (k % 64)))) (some 4634204016564240384)) (ofInt .f64 ((k : Int) - 128)) = some (uB k) ∧ ar .add .f64 (some (uB k)) (some 4666723447345250304) = some (vB k) ∧ (D.read (vB k)).toInt .zero = some (zI k) ∧
    cmpF .gtr .f64 (gapC (some (uB k)) (ofInt .f64 (zI k - 10000))) (some 4562254508917369340) = false ∧ (zI k - 10000).tmod 64 = 0 ∧ -20000 ≤ zI k ∧ zI k ≤ 20000 := by
  have h := uOk_all k hk
  unfold uOk at h
  simp only [Bool.and_eq_true, Bool.not_eq_true', decide_eq_true_eq] at h
  obtain ⟨h1, h2, h3, h4, h5⟩ := h
  refine ⟨eqC_of h1, eqC_of h2, eqZ_of h3, h4, h5, ?_⟩
  unfold zI
  split <;> omega
/-- A quarter of a turn. -/
def hOk (j : Nat) : Bool := !(cmpF .neq .f64 (gapC (wid (some (rB (16 * j)))) (some 0)) (some 0) && cmpF .neq .f64 (gapC (wid (some (rB (16 * j)))) (some 0)) (some 4607182418800017408))
theorem h_facts {m : Nat} (hm : m < 64) (h : m % 16 = 0) : cmpF .neq .f64 (gapC (wid (some (rB m))) (some 0)) (some 0) = false ∨ (cmpF .neq .f64 (gapC (wid (some (rB m))) (some 0)) (some 0) = true ∧ cmpF .neq .f64 (gapC (wid (some (rB m))) (some 0)) (some 4607182418800017408) = false) := by
  have hj := allC_of (f := hOk) (n := 4) (by kernel_rfl) (m / 16) (by omega)
  unfold hOk at hj
  rw [show 16 * (m / 16) = m by omega, Bool.not_eq_true'] at hj
  cases h1 : cmpF .neq .f64 (gapC (wid (some (rB m))) (some 0)) (some 0)
  · exact .inl rfl
  · rw [h1, Bool.true_and] at hj
    exact .inr ⟨rfl, hj⟩
theorem q_fact {n : Nat} (hn : n < 511) : ar .quo .f64 (ofInt .f64 ((n : Int) - 256)) (some 4634204016564240384) = some (qB n) ∧ frac (some (qB n)) = some (tB (n % 64)) ∧ Small (qB n) := by
  have h := qOk_all n hn
  unfold qOk at h
  simp only [Bool.and_eq_true] at h
  exact ⟨eqC_of h.1, eqC_of h.2.1, smC_of h.2.2⟩
theorem j_fact {m : Nat} (hm : m < 64) : phJ (some (tB m)) (m / 16) ∧ phF (some (tB m)) (m / 16) = some (tB (m % 16)) ∧ ar .sub .f64 (some 4598175219545276416) (some (tB (m % 16))) = some (tB (16 - m % 16)) ∧ Small (tB m) := by
  have h := jOk_all m hm
  unfold jOk at h
  simp only [Bool.and_eq_true, Bool.not_eq_true'] at h
  obtain ⟨h1, h2, h3, h4, h5⟩ := h
  exact ⟨⟨fun i hi => allC_of h1 i hi, h2⟩, eqC_of h3, eqC_of h4, smC_of h5⟩
theorem p_fact {m : Nat} (hm : m < 64) : phC (m / 16) (sinV (some (tB (16 - m % 16)))) (sinV (some (tB (m % 16)))) = (some (rB m), some (iB m)) := by
  have h := pOk_all m hm
  unfold pOk at h
  simp only [Bool.and_eq_true] at h
  have s1 := eqC_of (show eqC (sinV (some (tB (16 - m % 16)))) (some (sB (16 - m % 16))) = true from sOk_all _ (by omega))
  have s2 := eqC_of (show eqC (sinV (some (tB (m % 16)))) (some (sB (m % 16))) = true from sOk_all _ (by omega))
  rw [s1, s2]
  exact Prod.ext (eqC_of h.1) (eqC_of h.2.1)
theorem a_fact {m : Nat} (hm : m < 64) : angN (some (iB m)) (some (rB m)) = some (aB m) := eqC_of (show eqC _ _ = true from aOk_all m hm)
theorem a_one : angN (some 1065353216) (some 0) = some 1048576000 := eqC_of (by kernel_rfl)
end Go.Proofs.Ytaannebjpmdhjaa
