/-
  A reckoner of float64 values in fixed-point numbers with bounds of their error. No program is in sight.
-/
import Derived.Test.YtaannebjpmdhjaaNearq
namespace Go.Proofs.Ytaannebjpmdhjaa
set_option linter.unusedVariables false
set_option linter.unusedSimpArgs false
set_option maxRecDepth 20000
namespace Fl
open Ieee

/-- What is known of a value. -/
abbrev FA := Option (Int × Nat)
def ApO (v : Option Nat) (o : FA) : Prop := ∀ n d, o = some (n, d) → Ap v n d
def addA (g : Nat) : FA → FA → FA
  | some (x, d), some (y, e) => if (x + y).natAbs + d + e ≤ p2 (g + 52) then some (x + y, d + e + p2 g) else none
  | _, _ => none
def subA (g : Nat) : FA → FA → FA
  | some (x, d), some (y, e) => if (x - y).natAbs + d + e ≤ p2 (g + 52) then some (x - y, d + e + p2 g) else none
  | _, _ => none
def mulE (x y : Int) (d e : Nat) : Nat := (x.natAbs * e + y.natAbs * d + d * e) / 1152921504606846976 + 2
def mulA (g : Nat) : FA → FA → FA
  | some (x, d), some (y, e) => if (x * y / 1152921504606846976).natAbs + mulE x y d e ≤ p2 (g + 52) then some (x * y / 1152921504606846976, mulE x y d e + p2 g) else none
  | _, _ => none
def quoE (x y p : Int) (d e : Nat) : Nat := ((x * 1152921504606846976 - p * y).natAbs + d * 1152921504606846976 + p.natAbs * e + (x.natAbs + d) * 128) / (y.natAbs - e) + 1
def quoA (g : Nat) : FA → FA → FA
  | some (x, d), some (y, e) => if e < y.natAbs ∧ 2 * ((x * 1152921504606846976 / y).natAbs + quoE x y (x * 1152921504606846976 / y) d e) ≤ p2 (g + 52) then some (x * 1152921504606846976 / y, quoE x y (x * 1152921504606846976 / y) d e + p2 g) else none
  | _, _ => none
/-- A word. -/
def litA (b : Nat) : FA := if rg D b < D.infRung then some (I D b / (K : Int), 1) else none
theorem two60 : (2 : Nat) ^ 60 = 1152921504606846976 := by decide
theorem two60i : (2 : Int) ^ 60 = 1152921504606846976 := by decide
theorem apO_add {u v : Option Nat} {a b : FA} (g : Nat) (hg : g ≤ 1000) (hu : ApO u a) (hv : ApO v b) : ApO (ar .add .f64 u v) (addA g a b) := by
  intro n d h
  cases a with
  | none => cases h
  | some a =>
    cases b with
    | none => cases h
    | some b =>
      obtain ⟨x, d1⟩ := a
      obtain ⟨y, e1⟩ := b
      unfold addA at h
      simp only at h
      split at h
      · rename_i hc
        cases h
        exact ap_add g (hu _ _ rfl) (hv _ _ rfl) hc hg
      · cases h
theorem apO_sub {u v : Option Nat} {a b : FA} (g : Nat) (hg : g ≤ 1000) (hu : ApO u a) (hv : ApO v b) : ApO (ar .sub .f64 u v) (subA g a b) := by
  intro n d h
  cases a with
  | none => cases h
  | some a =>
    cases b with
    | none => cases h
    | some b =>
      obtain ⟨x, d1⟩ := a
      obtain ⟨y, e1⟩ := b
      unfold subA at h
      simp only at h
      split at h
      · rename_i hc
        cases h
        exact ap_sub g (hu _ _ rfl) (hv _ _ rfl) hc hg
      · cases h
theorem mul_fits (z : Int) (A T : Nat) (hT : 0 < T) : (z / (T : Int) * (T : Int) - z).natAbs + A ≤ (A / T + 2) * T := by
  have h1 := Int.emod_add_mul_ediv z (T : Int)
  have h2 := Int.emod_nonneg z (show (T : Int) ≠ 0 by omega)
  have h3 := Int.emod_lt_of_pos z (show (0 : Int) < T by omega)
  have h4 := Nat.div_add_mod A T
  have h5 := Nat.mod_lt A hT
  rw [Nat.add_mul]
  rw [Int.mul_comm] at h1
  rw [Nat.mul_comm] at h4
  generalize z / (T : Int) * (T : Int) = a at *
  generalize A / T * T = b at *
  omega
theorem apO_mul {u v : Option Nat} {a b : FA} (g : Nat) (hg : g ≤ 1000) (hu : ApO u a) (hv : ApO v b) : ApO (ar .mul .f64 u v) (mulA g a b) := by
  intro n d h
  cases a with
  | none => cases h
  | some a =>
    cases b with
    | none => cases h
    | some b =>
      obtain ⟨x, d1⟩ := a
      obtain ⟨y, e1⟩ := b
      unfold mulA at h
      simp only at h
      split at h
      · rename_i hc
        cases h
        refine ap_mul g _ _ (hu _ _ rfl) (hv _ _ rfl) ?_ hc hg
        unfold mulE
        rw [two60, two60i]
        exact mul_fits (x * y) _ 1152921504606846976 (by decide)
      · cases h
theorem div_fits (A Y : Nat) (hY : 0 < Y) : A ≤ (A / Y + 1) * Y := by
  have h4 := Nat.div_add_mod A Y
  have h5 := Nat.mod_lt A hY
  rw [Nat.add_mul, Nat.one_mul]
  rw [Nat.mul_comm] at h4
  omega
theorem apO_quo {u v : Option Nat} {a b : FA} (g : Nat) (hg : g ≤ 1000) (hu : ApO u a) (hv : ApO v b) : ApO (ar .quo .f64 u v) (quoA g a b) := by
  intro n d h
  cases a with
  | none => cases h
  | some a =>
    cases b with
    | none => cases h
    | some b =>
      obtain ⟨x, d1⟩ := a
      obtain ⟨y, e1⟩ := b
      unfold quoA at h
      simp only at h
      split at h
      · rename_i hc
        cases h
        refine ap_quo g _ _ (hu _ _ rfl) (hv _ _ rfl) hc.1 ?_ hc.2 hg
        unfold quoE
        rw [two60, two60i, show (2 : Nat) ^ 7 = 128 from rfl]
        exact div_fits _ _ (by omega)
      · cases h
theorem floor_fits (z : Int) (T : Nat) (hT : 0 < T) : (z - z / (T : Int) * (T : Int)).natAbs ≤ 1 * T := by
  have h1 := Int.emod_add_mul_ediv z (T : Int)
  have h2 := Int.emod_nonneg z (show (T : Int) ≠ 0 by omega)
  have h3 := Int.emod_lt_of_pos z (show (0 : Int) < T by omega)
  rw [Int.mul_comm] at h1
  generalize z / (T : Int) * (T : Int) = a at *
  omega
theorem apO_lit (b : Nat) : ApO (some b) (litA b) := by
  intro n d h
  unfold litA at h
  split at h
  · rename_i hc
    cases h
    exact ⟨b, rfl, hc, floor_fits _ _ K_pos⟩
  · cases h
end Fl
end Go.Proofs.Ytaannebjpmdhjaa
