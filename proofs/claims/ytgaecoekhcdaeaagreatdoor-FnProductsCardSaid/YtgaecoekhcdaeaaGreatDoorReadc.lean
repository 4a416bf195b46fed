/-
  ReadComplex at both sides: the digits, the marks, two slices compared.
-/
import Derived.Test.YtgaecoekhcdaeaaGreatDoorReadn
import Derived.Test.YtgaecoekhcdaeaaGreatDoorCx
import Derived.Deep.RegionWith
namespace Go.Proofs.YtgaecoekhcdaeaaGreatDoor
set_option linter.unusedVariables false
set_option linter.unusedSimpArgs false
set_option maxRecDepth 20000
open Go.RowKit Fl
attribute [local go_sem] run_store_complex

/-- A list of complex numbers. -/
def CxF (n : Nat) (f : Nat → Value) : Prop := ∀ i, i < n → ∃ a b, f i = .complex .f32 a b ∧ a < 4294967296 ∧ b < 4294967296
/-- The marks k, k + 1, .. -/
def cmark (k : Int) (i : Nat) : Value := .complex .f32 (floatOfInt .f32 (k + (i : Int))) 1065353216
theorem one32 : IsF .f32 1065353216 (some 1065353216) := IsF.lit (by decide +kernel)
theorem eql_self (k : Int) : cmpF .eql .f32 (ofInt .f32 k) (ofInt .f32 k) = true := by
  have := ord_refl (show IsF .f32 (floatOfInt .f32 k) (some (floatOfInt .f32 k)) from isF_ofInt .f32 k)
  simp [cmpF, ofInt, this]
theorem eql_one : cmpF .eql .f32 (some 1065353216) (some 1065353216) = true := by
  have := ord_refl one32
  simp [cmpF, this]
theorem narB_marks {j : Nat} (h : j < 300) : narB (floatOfInt .f64 (1 + (j : Int))) (floatOfInt .f32 (1 + (j : Int))) = true := by
  have : (List.range 300).all (fun j => narB (floatOfInt .f64 (1 + (j : Int))) (floatOfInt .f32 (1 + (j : Int)))) = true := by decide +kernel
  rw [List.all_eq_true] at this
  exact this j (by simpa using h)
theorem narB_one : narB 4607182418800017408 1065353216 = true := by decide +kernel
end Go.Proofs.YtgaecoekhcdaeaaGreatDoor
