/-
  Contracts of the functions on slices of floats that the laws call.
-/
import Derived.Test.YtaannebjpmdhjaaSl
import Derived.Test.YtaannebjpmdhjaaMore
import Derived.Deep.RegionWith
import Derived.BigQuiet
namespace Go.Proofs.Ytaannebjpmdhjaa
set_option linter.unusedVariables false
set_option linter.unusedSimpArgs false
set_option maxRecDepth 20000
open Go.RowKit Fl
attribute [local go_sem] run_store_float

/-- The cell of a float. -/
def fcell (bs : List Nat) (i : Nat) : Value := .float .f32 (fget bs i)



/-- The sum from left to right, of the first k. -/
def sumF (bs : List Nat) (k : Nat) : Option Nat := ((bs.take k).map (cl .f32)).foldl (ar .add .f32) (some 0)
theorem sumF_zero (bs : List Nat) : sumF bs 0 = some 0 := by simp [sumF]
theorem sumF_succ {bs : List Nat} {k : Nat} (h : k < bs.length) : sumF bs (k + 1) = ar .add .f32 (sumF bs k) (cl .f32 (fget bs k)) := by
  unfold sumF; rw [take_fget h, List.map_append, List.foldl_append]; rfl
theorem isF_zero : IsF .f32 0 (some 0) := IsF.lit (by decide +kernel)


/-- The call returns a float and a bool. -/
def RetFB (w : World) (v : Option Nat) (b : Bool) (e : Ending) (w' : World) : Prop := ∃ r n, e = .returned (.tuple #[.float .f32 r, .bool b]) ∧ IsF .f32 r v ∧ w' = w.drewN n

theorem FSl.len {k : FloatKind} {w : World} {v : Value} {bs : List Nat} (h : FSl k w v bs) : ∃ ao cap, v = .slice ao bs.length cap ∧ bs.length ≤ 9223372036854775807 := by
  obtain ⟨ao, cap, h1, h2, h3, _⟩ := h
  unfold maxLen at h3
  exact ⟨ao, cap, h1, by omega⟩
theorem FSl.bits {k : FloatKind} {w : World} {v : Value} {bs : List Nat} (h : FSl k w v bs) : ∀ b ∈ bs, b < 2 ^ k.format.width := by
  obtain ⟨ao, cap, h1, h2, h3, h4, _⟩ := h
  exact h4

end Go.Proofs.Ytaannebjpmdhjaa
