/-
  Contracts: valid ends.
-/
import Derived.Test.YtiolmffcmbcgmaaWave
namespace Go.Proofs.Ytiolmffcmbcgmaa
set_option linter.unusedVariables false
set_option linter.unusedSimpArgs false
open Go.RowKit Fl
attribute [local go_sem] run_store_float

def validEndB (k : Int) (u v : Option Nat) : Bool := decide (0 ≤ k ∧ k ≤ 2) && finF u && posF v
/-- The call returns a value and leaves what was there. -/
def RetB (w : World) (v : Value) (e : Ending) (w' : World) : Prop := e = .returned v ∧ Below w.heap.size w w'
end Go.Proofs.Ytiolmffcmbcgmaa
