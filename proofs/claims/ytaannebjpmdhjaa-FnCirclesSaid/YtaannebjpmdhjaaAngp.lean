/-
  The angle of a point and the exponential function as functions of float64 values, and their bounds. No program is in sight.
-/
import Derived.Test.YtaannebjpmdhjaaLogp
namespace Go.Proofs.Ytaannebjpmdhjaa
set_option linter.unusedVariables false
set_option linter.unusedSimpArgs false
set_option maxRecDepth 20000
open Go.RowKit
namespace Fl
open Ieee

/-! ### The angle -/
def angStep (t : Option Nat) : Option Nat := ar .quo .f64 t (ar .add .f64 (some 4607182418800017408) (sqrt (ar .add .f64 (some 4607182418800017408) (ar .mul .f64 t t))))
def angIt (t : Option Nat) : Nat → Option Nat
  | 0 => t
  | j + 1 => angStep (angIt t j)
def angP (u : Option Nat) : Nat → Option Nat
  | 0 => some 0
  | j + 1 => ar .sub .f64 (ar .quo .f64 (some 4607182418800017408) (ofInt .f64 (15 - 2 * j))) (ar .mul .f64 u (angP u j))
def angB (t : Option Nat) : Option Nat := ar .quo .f64 (ar .mul .f64 (some 4620693217682128896) (ar .mul .f64 t (angP (ar .mul .f64 t t) 8))) (some 4618760256179416344)
/-- The quotient that is at most 1. -/
def angT (a b : Option Nat) : Option Nat := if cmpF .gtr .f64 a b then ar .quo .f64 b a else ar .quo .f64 a b
def ang1 (a b : Option Nat) : Option Nat := angB (angIt (angT a b) 3)
def ang2 (a b : Option Nat) : Option Nat := if cmpF .gtr .f64 a b then ar .sub .f64 (some 4598175219545276416) (ang1 a b) else ang1 a b
def ang3 (a b x : Option Nat) : Option Nat := if cmpF .lss .f64 x (some 0) then ar .sub .f64 (some 4602678819172646912) (ang2 a b) else ang2 a b
def angV (y x : Option Nat) : Option Nat := if cmpF .lss .f64 y (some 0) then neg .f64 (ang3 (absF y) (absF x) x) else ang3 (absF y) (absF x) x

theorem bs_angStep {t : Option Nat} (h : Bs false 1074 t) : Bs false 1074 (angStep t) := by
  have h1 : Bs false 1074 (ar .mul .f64 t t) := bs_sq h.bd (by decide) (by decide)
  have h2 : Bs false 1075 (ar .add .f64 (some 4607182418800017408) (ar .mul .f64 t t)) := bs_addp bs_one h1 (by decide) (by decide) (by decide)
  obtain ⟨E, hE⟩ : ∃ E : Nat, E = 1 := ⟨_, rfl⟩
  have h3 : Bs false (1075 + E) (sqrt (ar .add .f64 (some 4607182418800017408) (ar .mul .f64 t t))) := bs_sqrt (h2.mono (by omega)) (by omega)
  have h4 : Bs false 1077 (ar .add .f64 (some 4607182418800017408) (sqrt (ar .add .f64 (some 4607182418800017408) (ar .mul .f64 t t)))) := bs_addp bs_one h3 (by decide) (by omega) (by decide)
  have h5 : Lo 1074 (ar .add .f64 (some 4607182418800017408) (sqrt (ar .add .f64 (some 4607182418800017408) (ar .mul .f64 t t)))) := lo_add bs_one h3 lo_one (by decide) (by omega) (by decide)
  exact bs_quo h h4 h5 (by decide) (by decide)
theorem bs_angIt {t : Option Nat} (h : Bs false 1074 t) (j : Nat) : Bs false 1074 (angIt t j) := by
  induction j with
  | zero => exact h
  | succ j ih => exact bs_angStep ih
theorem bs_odd8 : ∀ j : Nat, j < 8 → (decide (rg D (floatOfInt .f64 (15 - 2 * (j : Int))) < D.infRung) && !sg D (floatOfInt .f64 (15 - 2 * (j : Int))) && decide (U D (rg D (floatOfInt .f64 (15 - 2 * (j : Int)))) ≤ p2 1079)) = true := by decide +kernel
theorem lo_odd8 : ∀ j : Nat, j < 8 → (decide (rg D (floatOfInt .f64 (15 - 2 * (j : Int))) < D.infRung) && decide (p2 1074 ≤ U D (rg D (floatOfInt .f64 (15 - 2 * (j : Int)))))) = true := by decide +kernel
theorem bd_angP {u : Option Nat} (hu : Bd 1074 u) (j : Nat) (hj : j ≤ 8) : Bd (1075 + j) (angP u j) := by
  induction j with
  | zero => exact (bs_lit (b := 0) (e := 1075) (by decide +kernel)).bd
  | succ j ih =>
    have ih := ih (by omega)
    have h1 : Bd 1074 (ar .quo .f64 (some 4607182418800017408) (ofInt .f64 (15 - 2 * j))) := bd_quo bs_one.bd (bs_lit (bs_odd8 j (by omega))).bd (lo_lit (lo_odd8 j (by omega))) (by decide) (by decide)
    have h2 : Bd (1075 + j) (ar .mul .f64 u (angP u j)) := bd_mul hu ih (by omega) (by omega)
    exact bd_sub h1 h2 (by omega) (by omega) (by omega)
theorem bd_angB {t : Option Nat} (h : Bs false 1074 t) : Bd 1086 (angB t) := by
  have hu : Bd 1074 (ar .mul .f64 t t) := bd_mul h.bd h.bd (by decide) (by decide)
  have hp := bd_angP hu 8 (Nat.le_refl _)
  have h1 : Bd 1083 (ar .mul .f64 t (angP (ar .mul .f64 t t) 8)) := bd_mul h.bd hp (by decide) (by decide)
  have h2 : Bd 1086 (ar .mul .f64 (some 4620693217682128896) (ar .mul .f64 t (angP (ar .mul .f64 t t) 8))) := bd_mul (bs_lit (b := 4620693217682128896) (e := 1077) (by decide +kernel)).bd h1 (by decide) (by decide)
  exact bd_quo h2 (bs_lit (b := 4618760256179416344) (e := 1077) (by decide +kernel)).bd (lo_lit (e := 1074) (by decide +kernel)) (by decide) (by decide)

theorem bs_p2 {b e : Nat} {s : Bool} (hf : Fin D b) (hs : sg D b = s) (h : U D (rg D b) ≤ p2 e) : Bs s e (some b) := ⟨b, rfl, hf, hs, by rw [← p2_eq]; exact h⟩
/-- The lesser one over the greater one. -/
theorem bs_ratio {a b : Nat} (ha : Fin D a) (hb : Fin D b) (sa : sg D a = false) (sb : sg D b = false) (h0 : 0 < U D (rg D b)) (h : U D (rg D a) ≤ U D (rg D b)) : Bs false 1074 (ar .quo .f64 (some a) (some b)) := by
  obtain ⟨k, hk⟩ : ∃ k : Nat, k = 1074 := ⟨_, rfl⟩
  have := quo_bs (g := k) ha hb h0 (by rw [← hk, Nat.mul_comm]; exact Nat.mul_le_mul_left _ h) (by omega)
  rw [sa, sb, hk] at this
  exact this
theorem I_pos {a : Nat} (sa : sg D a = false) : I D a = (U D (rg D a) : Int) := by unfold I; rw [sa]; rfl
theorem gt_iff {a b : Nat} (ha : Fin D a) (hb : Fin D b) (sa : sg D a = false) (sb : sg D b = false) : cmpF .gtr .f64 (some a) (some b) = decide (U D (rg D b) < U D (rg D a)) := by
  have e : ord .f64 (some a) (some b) = some (compare (I D a) (I D b)) := order_fin ha hb
  unfold cmpF
  simp only [e, I_pos sa, I_pos sb]
  generalize U D (rg D a) = x
  generalize U D (rg D b) = y
  rcases Nat.lt_trichotomy x y with h | h | h
  · rw [Int.compare_eq_lt.2 (by omega)]; simp; omega
  · subst h; simp
  · rw [Int.compare_eq_gt.2 (by omega)]; simp; omega
theorem bs_angT {a b : Nat} (ha : Fin D a) (hb : Fin D b) (sa : sg D a = false) (sb : sg D b = false) (h0 : 0 < U D (rg D a) ∨ 0 < U D (rg D b)) : Bs false 1074 (angT (some a) (some b)) := by
  unfold angT
  rw [gt_iff ha hb sa sb]
  by_cases h : U D (rg D b) < U D (rg D a)
  · rw [if_pos (by simpa using h)]
    exact bs_ratio hb ha sb sa (by omega) (by omega)
  · rw [if_neg (by simpa using h)]
    exact bs_ratio ha hb sa sb (by omega) (by omega)
theorem bd_neg {e r : Nat} {u : Option Nat} (hu : Bd e u) (hr : IsF .f64 r u) : Bd e (neg .f64 u) := by
  obtain ⟨s, hu⟩ := hu
  exact ⟨_, bs_neg hu hr⟩
theorem bd_ang3 {a b : Nat} {x : Option Nat} (ha : Fin D a) (hb : Fin D b) (sa : sg D a = false) (sb : sg D b = false) (h0 : 0 < U D (rg D a) ∨ 0 < U D (rg D b)) : Bd 1088 (ang3 (some a) (some b) x) := by
  have h1 : Bd 1086 (ang1 (some a) (some b)) := bd_angB (bs_angIt (bs_angT ha hb sa sb h0) 3)
  have h2 : Bd 1087 (ang2 (some a) (some b)) := by
    unfold ang2
    split
    · exact bd_sub (bs_lit (b := 4598175219545276416) (e := 1074) (by decide +kernel)).bd h1 (by decide) (by decide) (by decide)
    · exact h1.mono (by decide)
  unfold ang3
  split
  · exact bd_sub (bs_lit (b := 4602678819172646912) (e := 1074) (by decide +kernel)).bd h2 (by decide) (by decide) (by decide)
  · exact h2.mono (by decide)

/-! ### The exponential function -/
def expP (t : Option Nat) : Nat → Option Nat
  | 0 => some 4607182418800017408
  | j + 1 => ar .add .f64 (some 4607182418800017408) (ar .quo .f64 (ar .mul .f64 t (expP t j)) (ofInt .f64 (12 - j)))
def expS (p : Option Nat) : Nat → Option Nat
  | 0 => p
  | j + 1 => ar .mul .f64 (expS p j) (expS p j)
def expB (v : Option Nat) : Option Nat := expS (expP (ar .quo .f64 v (some 4643211215818981376)) 12) 8
/-- The exponential: 200 and -200 are the bounds. -/
def expV (v : Option Nat) : Option Nat :=
  if cmpF .gtr .f64 v (some 4641240890982006784) then some 9218868437227405312
  else if cmpF .lss .f64 v (some 13864612927836782592) then some 0
  else expB v
theorem expP_none (j : Nat) : expP none (j + 1) = none := by
  unfold expP
  cases expP none j <;> rfl
theorem expS_none (j : Nat) : expS none j = none := by
  induction j with
  | zero => rfl
  | succ j ih => unfold expS; rw [ih]; rfl
theorem expB_none : expB none = none := by
  unfold expB
  rw [show ar .quo .f64 none (some 4643211215818981376) = none from rfl, expP_none 11, expS_none]
theorem expV_none : expV none = none := by
  unfold expV
  rw [show cmpF .gtr .f64 none (some 4641240890982006784) = false from rfl, show cmpF .lss .f64 none (some 13864612927836782592) = false from rfl]
  exact expB_none
theorem bs_k12 : ∀ j : Nat, j < 12 → (decide (rg D (floatOfInt .f64 (12 - (j : Int))) < D.infRung) && !sg D (floatOfInt .f64 (12 - (j : Int))) && decide (U D (rg D (floatOfInt .f64 (12 - (j : Int)))) ≤ p2 1078)) = true := by decide +kernel
theorem lo_k12 : ∀ j : Nat, j < 12 → (decide (rg D (floatOfInt .f64 (12 - (j : Int))) < D.infRung) && decide (p2 1074 ≤ U D (rg D (floatOfInt .f64 (12 - (j : Int)))))) = true := by decide +kernel
theorem bs_expP {t : Option Nat} (h : Bs true 1074 t) (j : Nat) (hj : j ≤ 12) : Bs false 1074 (expP t j) := by
  induction j with
  | zero => exact bs_one
  | succ j ih =>
    have ih := ih (by omega)
    have h1 : Bs true 1074 (ar .mul .f64 t (expP t j)) := bs_mul h ih (by decide) (by decide)
    have h2 : Bs true 1074 (ar .quo .f64 (ar .mul .f64 t (expP t j)) (ofInt .f64 (12 - j))) := bs_quo h1 (bs_lit (bs_k12 j (by omega))) (lo_lit (lo_k12 j (by omega))) (by decide) (by decide)
    exact bs_one_sub lo_one bs_one h2 (by decide)
theorem bs_expS {p : Option Nat} (h : Bs false 1074 p) (j : Nat) : Bs false 1074 (expS p j) := by
  induction j with
  | zero => exact h
  | succ j ih => exact bs_mul ih ih (by decide) (by decide)
/-- The exponential of what is not above 0 is at most 1. -/
theorem narOk_exp {b : Nat} (hf : Fin D b) (hs : sg D b = true) (hl : cmpF .lss .f64 (some b) (some 13864612927836782592) = false) : NarOk (expB (some b)) := by
  have hU : U D (rg D b) ≤ p2 1082 := by
    have hl2 : Fin D 13864612927836782592 := by unfold Fin; decide +kernel
    have e : ord .f64 (some b) (some 13864612927836782592) = some (compare (I D b) (I D 13864612927836782592)) := order_fin hf hl2
    unfold cmpF at hl
    simp only [e] at hl
    have h2 : I D 13864612927836782592 = -(U D (rg D 4641240890982006784) : Int) := by decide +kernel
    have h3 : I D b = -(U D (rg D b) : Int) := by unfold I; rw [hs]; rfl
    rw [h2, h3] at hl
    have h4 : U D (rg D 4641240890982006784) ≤ p2 1082 := by decide +kernel
    refine Nat.le_trans ?_ h4
    rcases Nat.lt_or_ge (U D (rg D 4641240890982006784)) (U D (rg D b)) with h | h
    · rw [Int.compare_eq_lt.2 (by omega)] at hl; simp at hl
    · exact h
  have hb : Bs true 1082 (some b) := bs_p2 hf hs hU
  have ht : Bs true 1074 (ar .quo .f64 (some b) (some 4643211215818981376)) := bs_quo hb (bs_lit (b := 4643211215818981376) (e := 1082) (by decide +kernel)) (lo_lit (e := 1082) (by decide +kernel)) (by decide) (by decide)
  exact (bs_expS (bs_expP ht 12 (Nat.le_refl _)) 8).bd.narOk (by decide)
end Fl
end Go.Proofs.Ytaannebjpmdhjaa
