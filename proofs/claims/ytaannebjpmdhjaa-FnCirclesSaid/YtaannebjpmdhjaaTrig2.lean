/-
  Contracts: the sine of turns in the reference; SineTurns at both sides.
-/
import Derived.Test.YtaannebjpmdhjaaTrig
namespace Go.Proofs.Ytaannebjpmdhjaa
set_option linter.unusedVariables false
set_option linter.unusedSimpArgs false
set_option maxRecDepth 20000
open Go.RowKit Fl

theorem bigK : I D 4841369599423283200 = (U D 4841369599423283200 : Int) ∧ Fl.Fin D 4841369599423283200 ∧ I D 14064741636278059008 = -(U D 4841369599423283200 : Int) ∧ Fl.Fin D 14064741636278059008 :=
  ⟨by decide +kernel, by unfold Fl.Fin; decide +kernel, by decide +kernel, by unfold Fl.Fin; decide +kernel⟩
theorem geqK {b : Nat} (hf : Fl.Fin D b) : cmpF .geq .f64 (some b) (some 4841369599423283200) = decide ((U D 4841369599423283200 : Int) ≤ I D b) := by
  obtain ⟨k1, k2, _, _⟩ := bigK
  have e : ord .f64 (some b) (some 4841369599423283200) = some (compare (I D b) (I D 4841369599423283200)) := order_fin hf k2
  unfold cmpF
  simp only [e, k1]
  generalize (U D 4841369599423283200 : Int) = y
  generalize I D b = x
  rcases Int.lt_trichotomy x y with h | h | h
  · rw [Int.compare_eq_lt.2 h, decide_eq_false (by omega)]; rfl
  · subst h; simp
  · rw [Int.compare_eq_gt.2 h, decide_eq_true (by omega)]; rfl
theorem leqK {b : Nat} (hf : Fl.Fin D b) : cmpF .leq .f64 (some b) (some 14064741636278059008) = decide (I D b ≤ -(U D 4841369599423283200 : Int)) := by
  obtain ⟨_, _, k1, k2⟩ := bigK
  have e : ord .f64 (some b) (some 14064741636278059008) = some (compare (I D b) (I D 14064741636278059008)) := order_fin hf k2
  unfold cmpF
  simp only [e, k1]
  generalize -(U D 4841369599423283200 : Int) = y
  generalize I D b = x
  rcases Int.lt_trichotomy x y with h | h | h
  · rw [Int.compare_eq_lt.2 h, decide_eq_true (by omega)]; rfl
  · subst h; simp
  · rw [Int.compare_eq_gt.2 h, decide_eq_false (by omega)]; rfl
theorem abs_geqK {b : Nat} (hf : Fl.Fin D b) : cmpF .geq .f64 (absF (some b)) (some 4841369599423283200) = decide (U D 4841369599423283200 ≤ U D (rg D b)) := by
  have hf2 : Fl.Fin D (low63 b) := by unfold Fl.Fin; rw [rg_low63]; exact hf
  show cmpF .geq .f64 (some (low63 b)) _ = _
  rw [geqK hf2, I_low63]
  rw [decide_eq_decide]
  omega
theorem small_facts {b : Nat} (h : Small b) : cmpF .geq .f64 (some b) (some 4841369599423283200) = false ∧ cmpF .leq .f64 (some b) (some 14064741636278059008) = false ∧ cmpF .geq .f64 (absF (some b)) (some 4841369599423283200) = false ∧
    cmpF .neq .f64 (ar .sub .f64 (some b) (some b)) (some 0) = false := by
  obtain ⟨hf, hU⟩ := h
  rw [geqK hf, leqK hf, abs_geqK hf, sub_self (k := .f64) hf]
  have hI : I D b = (U D (rg D b) : Int) ∨ I D b = -(U D (rg D b) : Int) := by unfold I; cases sg D b <;> simp
  refine ⟨decide_eq_false ?_, decide_eq_false ?_, decide_eq_false ?_, by decide +kernel⟩ <;> omega
theorem huge_facts {b : Nat} (hf : Fl.Fin D b) (h : ¬ Small b) : (cmpF .geq .f64 (some b) (some 4841369599423283200) = true ∨ cmpF .geq .f64 (some b) (some 4841369599423283200) = false ∧ cmpF .leq .f64 (some b) (some 14064741636278059008) = true) ∧ cmpF .geq .f64 (absF (some b)) (some 4841369599423283200) = true ∧
    cmpF .neq .f64 (ar .sub .f64 (some b) (some b)) (some 0) = false := by
  have hU : U D 4841369599423283200 ≤ U D (rg D b) := by
    rcases Nat.lt_or_ge (U D (rg D b)) (U D 4841369599423283200) with h1 | h1
    · exact absurd ⟨hf, h1⟩ h
    · exact h1
  rw [geqK hf, leqK hf, abs_geqK hf, sub_self (k := .f64) hf]
  have hI : I D b = (U D (rg D b) : Int) ∨ I D b = -(U D (rg D b) : Int) := by unfold I; cases sg D b <;> simp
  have h0 : 0 < U D 4841369599423283200 := by decide +kernel
  refine ⟨?_, decide_eq_true hU, by decide +kernel⟩
  rcases hI with hI | hI
  · exact .inl (decide_eq_true (by omega))
  · exact .inr ⟨decide_eq_false (by omega), decide_eq_true (by omega)⟩

theorem k_small : ∀ j : Nat, j < 8 → 2 * (8 - (j : Int)) * (2 * (8 - (j : Int)) + 1) ≤ 1000 ∧ 0 ≤ 2 * (8 - (j : Int)) * (2 * (8 - (j : Int)) + 1) := by decide +kernel
end Go.Proofs.Ytaannebjpmdhjaa
