/-
  Lists that are read from a text: what is returned, whatever the elements are.
-/
import Derived.Test.YtgaecoekhcdaeaaGreatDoorCut
import Derived.Test.YtgaecoekhcdaeaaGreatDoorOv
namespace Go.Proofs.YtgaecoekhcdaeaaGreatDoor
set_option linter.unusedVariables false
set_option linter.unusedSimpArgs false
set_option maxRecDepth 20000
open Go.RowKit

def lokG (rk : List UInt8 → Bool) (M : Nat) (P : List (List UInt8)) : Bool := decide (P.length ≤ M) && P.all rk
def lcG (rk : List UInt8 → Bool) (M : Nat) (cell : List UInt8 → Value) (P : List (List UInt8)) : List Value := if lokG rk M P then P.map cell else []
def vget (l : List Value) (i : Nat) : Value := l.getD i undef
section
variable {rk : List UInt8 → Bool} {M : Nat} {cell : List UInt8 → Value} {P : List (List UInt8)}
theorem lokG_no {j : Nat} (hj : j < P.length) (h : rk (pget P j) = false) : lokG rk M P = false := by unfold lokG; rw [pany hj h, Bool.and_false]
theorem lokG_big (h : M < P.length) : lokG rk M P = false := by unfold lokG; rw [decide_eq_false (by omega)]; rfl
theorem lokG_yes (h : ∀ j, j < P.length → rk (pget P j) = true) (hM : P.length ≤ M) : lokG rk M P = true := by unfold lokG; rw [pall h, decide_eq_true hM]; rfl
theorem lcG_no (h : lokG rk M P = false) : lcG rk M cell P = [] := by unfold lcG; rw [h]; rfl
theorem lcG_yes (h : lokG rk M P = true) : lcG rk M cell P = P.map cell := by unfold lcG; rw [h]; rfl
theorem lcG_len : (lcG rk M cell P).length ≤ M := by
  cases h : lokG rk M P
  · rw [lcG_no h]; simp
  · rw [lcG_yes h]
    unfold lokG at h
    simp only [Bool.and_eq_true, decide_eq_true_eq] at h
    simpa using h.1
/-- The call returns a list of its own and a bool. -/
def RG (rk : List UInt8 → Bool) (M : Nat) (cell : List UInt8 → Value) (w : World) (P : List (List UInt8)) (e : Ending) (w' : World) : Prop :=
  ∃ v, e = .returned (.tuple #[v, .bool (lokG rk M P)]) ∧ OV w' w.heap.size w'.heap.size v (lcG rk M cell P).length (vget (lcG rk M cell P)) ∧ Below w.heap.size w w'
theorem rg_no {w w' : World} (h : lokG rk M P = false) (hb : Below w.heap.size w w') : RG rk M cell w P (.returned (.tuple #[.slice none 0 0, .bool false])) w' :=
  ⟨_, by rw [h], by rw [lcG_no h]; exact OV.nil (Nat.le_refl _), hb⟩
theorem rg_yes {e : TypeId} {w w' : World} {v : Value} {k : Nat} (h : lokG rk M P = true) (hk : k = P.length) (ho : w'.ownsRow w.heap.size e 1 v k ((P.take k).map cell)) (hb : Below w.heap.size w w') : RG rk M cell w P (.returned (.tuple #[v, .bool true])) w' := by
  subst hk
  refine ⟨v, by rw [h], ?_, hb⟩
  rw [lcG_yes h, List.length_map]
  rw [List.take_length] at ho
  refine ov_own ho _ (fun i hi => ?_)
  unfold vget
  simp [List.getD, hi]
end
end Go.Proofs.YtgaecoekhcdaeaaGreatDoor
