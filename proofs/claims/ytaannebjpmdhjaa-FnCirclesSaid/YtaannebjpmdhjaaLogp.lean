/-
  The logarithm as a function of a positive float64's bits, and its bound. No program is in sight.
-/
import Derived.Test.YtaannebjpmdhjaaDbl
namespace Go.Proofs.Ytaannebjpmdhjaa
set_option linter.unusedVariables false
set_option linter.unusedSimpArgs false
set_option maxRecDepth 20000
open Go.RowKit
namespace Fl
open Ieee

/-- Bits of 1, 2 and 0.75. -/
def one : Nat := 4607182418800017408
def two : Nat := 4611686018427387904
def xL : Nat := 4604930618986332160
theorem isF_oneD : IsF .f64 4607182418800017408 (some 4607182418800017408) := IsF.lit (by decide +kernel)
/-- A literal's bound. -/
theorem bs_lit {b e : Nat} (h : (decide (rg D b < D.infRung) && !sg D b && decide (U D (rg D b) ≤ p2 e)) = true) : Bs false e (some b) := by
  simp only [Bool.and_eq_true, decide_eq_true_eq, Bool.not_eq_true'] at h
  exact ⟨b, rfl, h.1.1, h.1.2, by rw [← p2_eq]; exact h.2⟩
theorem lo_lit {b e : Nat} (h : (decide (rg D b < D.infRung) && decide (p2 e ≤ U D (rg D b))) = true) : Lo e (some b) := by
  simp only [Bool.and_eq_true, decide_eq_true_eq] at h
  exact ⟨b, rfl, h.1, by rw [← p2_eq]; exact h.2⟩
theorem bd_lit {b e : Nat} (h : (decide (rg D b < D.infRung) && decide (U D (rg D b) ≤ p2 e)) = true) : Bd e (some b) := by
  simp only [Bool.and_eq_true, decide_eq_true_eq] at h
  exact ⟨_, b, rfl, h.1, rfl, by rw [← p2_eq]; exact h.2⟩
theorem bs_one : Bs false 1074 (some 4607182418800017408) := bs_lit (by decide +kernel)
theorem lo_one : Lo 1074 (some 4607182418800017408) := lo_lit (by decide +kernel)
theorem bs_two : Bs false 1075 (some 4611686018427387904) := bs_lit (by decide +kernel)
/-- The difference of two numbers that are not negative. -/
theorem bd_subp {e : Nat} {u v : Option Nat} (hu : Bs false e u) (hv : Bs false e v) (he : e ≤ 2097) : Bd e (ar .sub .f64 u v) := by
  obtain ⟨b, rfl, hb, hsb, h1⟩ := hu
  obtain ⟨c, rfl, hc, hsc, h2⟩ := hv
  obtain ⟨m, i, rb, eb⟩ := read_fin hb
  obtain ⟨n, j, rc, ec⟩ := read_fin hc
  show Bd e (((D.read b).sum (D.read c).opposite).map D.write)
  rw [rb, rc, hsb, hsc]
  rw [← eb] at h1
  rw [← ec] at h2
  show Bd e (((Datum.number false m (D.leastPlace + i)).sum (.number true n (D.leastPlace + j))).map D.write)
  obtain ⟨q, mag, h4, h5, _⟩ := sum_at false true m i n j
  rw [h4]
  generalize m * 2 ^ i = x at *
  generalize n * 2 ^ j = y at *
  refine ⟨q, near_at q ?_ he⟩
  rw [h5]
  simp only [Bool.false_eq_true, if_false, if_true]
  omega

def logQ (u : Option Nat) : Nat → Option Nat
  | 0 => some 0
  | j + 1 => ar .add .f64 (ar .quo .f64 (some 4607182418800017408) (ofInt .f64 (25 - 2 * j))) (ar .mul .f64 u (logQ u j))
def logS (y : Nat) : Option Nat := ar .quo .f64 (ar .sub .f64 (some y) (some 4607182418800017408)) (ar .add .f64 (some y) (some 4607182418800017408))
def logTail (y : Nat) (e : Int) : Option Nat :=
  ar .add .f64 (ar .mul .f64 (some 4611686018427387904) (ar .mul .f64 (logS y) (logQ (ar .mul .f64 (logS y) (logS y)) 13))) (ar .mul .f64 (ofInt .f64 e) (some 4604418534313441775))
/-- How often a number is doubled (below 0) or halved, and what it becomes. -/
def redE (x : Nat) : Int := ((x : Int) - 4604930618986332160) / 4503599627370496
def redX (x : Nat) : Nat := ((x : Int) - redE x * 4503599627370496).toNat
def logV (x : Nat) : Option Nat := logTail (redX x) (redE x)
theorem red_dbl {x j : Nat} (h1 : 4604930618986332160 ≤ x + j * 4503599627370496) (h2 : x + j * 4503599627370496 < 4609434218613702656) : redE x = -(j : Int) ∧ redX x = x + j * 4503599627370496 := by
  have h3 : redE x = -(j : Int) := by unfold redE; omega
  refine ⟨h3, ?_⟩
  unfold redX
  rw [h3]
  omega
theorem red_hlv {x j : Nat} (h1 : 4604930618986332160 + j * 4503599627370496 ≤ x) (h2 : x < 4609434218613702656 + j * 4503599627370496) : redE x = (j : Int) ∧ redX x = x - j * 4503599627370496 := by
  have h3 : redE x = (j : Int) := by unfold redE; omega
  refine ⟨h3, ?_⟩
  unfold redX
  rw [h3]
  omega
theorem redX_bd {x : Nat} : 4604930618986332160 ≤ redX x ∧ redX x < 4609434218613702656 := by
  unfold redX redE
  omega
theorem e_dec : ∀ j : Nat, j < 160 → ar .sub .f64 (ofInt .f64 (-(j : Int))) (some 4607182418800017408) = ofInt .f64 (-((j + 1 : Nat) : Int)) := by decide +kernel
theorem e_inc : ∀ j : Nat, j < 160 → ar .add .f64 (ofInt .f64 (j : Int)) (some 4607182418800017408) = ofInt .f64 ((j + 1 : Nat) : Int) := by decide +kernel

/-! ### The bound -/
theorem bs_odd : ∀ j : Nat, j < 13 → (decide (rg D (floatOfInt .f64 (25 - 2 * (j : Int))) < D.infRung) && !sg D (floatOfInt .f64 (25 - 2 * (j : Int))) && decide (U D (rg D (floatOfInt .f64 (25 - 2 * (j : Int)))) ≤ p2 1079)) = true := by decide +kernel
theorem lo_odd : ∀ j : Nat, j < 13 → (decide (rg D (floatOfInt .f64 (25 - 2 * (j : Int))) < D.infRung) && decide (p2 1074 ≤ U D (rg D (floatOfInt .f64 (25 - 2 * (j : Int)))))) = true := by decide +kernel
theorem bs_int : ∀ j : Nat, j < 160 → (decide (rg D (floatOfInt .f64 ((j : Int))) < D.infRung) && !sg D (floatOfInt .f64 (j : Int)) && decide (U D (rg D (floatOfInt .f64 (j : Int))) ≤ p2 1085)) = true := by decide +kernel
theorem bs_nint : ∀ j : Nat, j < 160 → (decide (rg D (floatOfInt .f64 (-(j : Int))) < D.infRung) && decide (U D (rg D (floatOfInt .f64 (-(j : Int)))) ≤ p2 1085)) = true := by decide +kernel
theorem bd_redE {e : Int} (h1 : -160 < e) (h2 : e < 160) : Bd 1085 (ofInt .f64 e) := by
  unfold ofInt
  by_cases h : 0 ≤ e
  · obtain ⟨j, rfl⟩ : ∃ j : Nat, e = (j : Int) := ⟨e.toNat, by omega⟩
    exact (bs_lit (bs_int j (by omega))).bd
  · obtain ⟨j, rfl⟩ : ∃ j : Nat, e = -(j : Int) := ⟨(-e).toNat, by omega⟩
    exact bd_lit (bs_nint j (by omega))
theorem bs_redX {y : Nat} (h1 : 4604930618986332160 ≤ y) (h2 : y < 4609434218613702656) : Bs false 1075 (some y) := by
  have hn : Nrm y := ⟨by rw [D_binade]; omega, by rw [D_inf]; omega⟩
  obtain ⟨f, s, r⟩ := hn.fin
  refine ⟨y, rfl, f, s, ?_⟩
  rw [r]
  have h3 : U D y ≤ U D 4611686018427387904 := U_le (by omega)
  have h4 : U D 4611686018427387904 = p2 1075 := by decide +kernel
  rw [h4, p2_eq] at h3
  exact h3
theorem bd_logS {y : Nat} (h1 : 4604930618986332160 ≤ y) (h2 : y < 4609434218613702656) : Bd 1075 (logS y) := by
  have hy := bs_redX h1 h2
  have h3 := bd_subp hy (bs_one.mono (show 1074 ≤ 1075 by decide)) (by decide)
  have h4 : Bs false 1076 (ar .add .f64 (some y) (some 4607182418800017408)) := bs_addp hy bs_one (by decide) (by decide) (by decide)
  have h5 : Lo 1074 (ar .add .f64 (some y) (some 4607182418800017408)) := by
    have hlo : Lo 1073 (some y) := ⟨y, rfl, (Nrm.fin ⟨by rw [D_binade]; omega, by rw [D_inf]; omega⟩).1, by
      rw [(Nrm.fin (b := y) ⟨by rw [D_binade]; omega, by rw [D_inf]; omega⟩).2.2]
      have h3 : U D 4602678819172646912 ≤ U D y := U_le (by omega)
      have h4 : U D 4602678819172646912 = p2 1073 := by decide +kernel
      rw [h4, p2_eq] at h3
      exact h3⟩
    have e1 : ar .add .f64 (some y) (some 4607182418800017408) = ar .add .f64 (some 4607182418800017408) (some y) := by
      have hc : ∀ a b : Nat, ar .add .f64 (some a) (some b) = ar .add .f64 (some b) (some a) := by
        intro a b
        show ((D.read a).sum (D.read b)).map D.write = ((D.read b).sum (D.read a)).map D.write
        congr 1
        cases D.read a <;> cases D.read b <;> simp only [Datum.sum] 
        · rename_i s m i t n j
          rw [Int.min_comm, Int.add_comm, Bool.and_comm]
        · rename_i s t
          by_cases h : s = t
          · subst h; rfl
          · rw [if_neg h, if_neg (fun e => h e.symm)]
      exact hc _ _
    rw [e1]
    exact lo_add bs_one hy lo_one (by decide) (by decide) (by decide)
  exact bd_quo h3 h4.bd h5 (by decide) (by decide)
theorem bd_logQ {u : Option Nat} (hu : Bd 1076 u) (j : Nat) (hj : j ≤ 13) : Bd (1075 + 3 * j) (logQ u j) := by
  induction j with
  | zero => exact (bs_lit (b := 0) (e := 1075) (by decide +kernel)).bd
  | succ j ih =>
    have ih := ih (by omega)
    have h1 : Bd 1074 (ar .quo .f64 (some 4607182418800017408) (ofInt .f64 (25 - 2 * j))) := bd_quo bs_one.bd (bs_lit (bs_odd j (by omega))).bd (lo_lit (lo_odd j (by omega))) (by decide) (by decide)
    have h2 : Bd (1077 + 3 * j) (ar .mul .f64 u (logQ u j)) := bd_mul hu ih (by omega) (by omega)
    exact bd_add h1 h2 (by omega) (by omega) (by omega)
theorem bd_logTail {y : Nat} {e : Int} (h1 : 4604930618986332160 ≤ y) (h2 : y < 4609434218613702656) (h3 : -160 < e) (h4 : e < 160) : Bd 1118 (logTail y e) := by
  have hs := bd_logS h1 h2
  have hu : Bd 1076 (ar .mul .f64 (logS y) (logS y)) := bd_mul hs hs (by decide) (by decide)
  have hq := bd_logQ hu 13 (Nat.le_refl _)
  have hsq : Bd 1115 (ar .mul .f64 (logS y) (logQ (ar .mul .f64 (logS y) (logS y)) 13)) := bd_mul hs hq (by decide) (by decide)
  have h2sq : Bd 1116 (ar .mul .f64 (some 4611686018427387904) (ar .mul .f64 (logS y) (logQ (ar .mul .f64 (logS y) (logS y)) 13))) := bd_mul bs_two.bd hsq (by decide) (by decide)
  have hl : Bd 1085 (ar .mul .f64 (ofInt .f64 e) (some 4604418534313441775)) := bd_mul (bd_redE h3 h4) (bs_lit (b := 4604418534313441775) (e := 1074) (by decide +kernel)).bd (by decide) (by decide)
  exact bd_add h2sq hl (by decide) (by decide) (by decide)
theorem bd_logV {x : Nat} (h1 : 3936146074321813504 ≤ x) (h2 : x < 5188146770730811392) : Bd 1118 (logV x) := by
  obtain ⟨a, b⟩ := redX_bd (x := x)
  refine bd_logTail a b ?_ ?_ <;> (unfold redE; omega)
end Fl
end Go.Proofs.Ytaannebjpmdhjaa
