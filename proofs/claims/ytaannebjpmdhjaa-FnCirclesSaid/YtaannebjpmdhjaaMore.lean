/-
  Contracts of the next functions on numbers: the laws' own comparison of floats, numbers from bits, flushing.
-/
import Derived.Test.YtaannebjpmdhjaaCore
namespace Go.Proofs.Ytaannebjpmdhjaa
set_option linter.unusedVariables false
set_option linter.unusedSimpArgs false
set_option maxRecDepth 20000
open Go.RowKit Fl


theorem within_bool (lo n hi : Int) : (decide (lo ≤ n) && decide (n ≤ hi)) = decide (lo ≤ n ∧ n ≤ hi) := by
  rw [Bool.eq_iff_iff]; simp

end Go.Proofs.Ytaannebjpmdhjaa
