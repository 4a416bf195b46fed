/-
  Contracts: what passes between cells of a rod. Written by wip/gen_pass.py.
-/
import Derived.Test.YtiolmffcmbcgmaaRsum
import Derived.Test.YtiolmffcmbcgmaaHalf
namespace Go.Proofs.Ytiolmffcmbcgmaa
set_option linter.unusedVariables false
set_option linter.unusedSimpArgs false
open Go.RowKit Fl
attribute [local go_sem] run_store_float

/-- Half of what a cell hinders. -/
def halfV (R : Rl) (i : Nat) : Option Nat := ar .quo .f32 (ar .quo .f32 (cl .f32 (fget R.a i)) (cl .f32 (fget R.b i))) (some 1073741824)
def betV (R : Rl) (i : Nat) : Option Nat := ar .quo .f32 (some 1065353216) (ar .add .f32 (halfV R i) (halfV R (i + 1)))
theorem isF_two : IsF .f32 1073741824 (some 1073741824) := IsF.lit (by decide +kernel)
theorem isF_half : IsF .f32 1056964608 (some 1056964608) := IsF.lit (by decide +kernel)
theorem isF_one : IsF .f32 1065353216 (some 1065353216) := IsF.lit (by decide +kernel)

end Go.Proofs.Ytiolmffcmbcgmaa
