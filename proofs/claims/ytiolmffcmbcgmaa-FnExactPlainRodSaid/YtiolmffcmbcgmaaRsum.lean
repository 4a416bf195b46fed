/-
  Contracts: sums over rods. Written by wip/gen_rsum.py.
-/
import Derived.Test.YtiolmffcmbcgmaaVrod
namespace Go.Proofs.Ytiolmffcmbcgmaa
set_option linter.unusedVariables false
set_option linter.unusedSimpArgs false
open Go.RowKit Fl
attribute [local go_sem] run_store_float

/-- The sum from left to right of the first k. -/
def foldF (g : Nat → Option Nat) : Nat → Option Nat
  | 0 => some 0
  | k + 1 => ar .add .f32 (foldF g k) (g k)
def heatG (R : Rl) (i : Nat) : Option Nat := ar .mul .f32 (ar .mul .f32 (cl .f32 (fget R.a i)) (cl .f32 (fget R.c i))) (cl .f32 (fget R.d i))
def massG (R : Rl) (i : Nat) : Option Nat := ar .mul .f32 (cl .f32 (fget R.a i)) (cl .f32 (fget R.c i))
def hindG (R : Rl) (i : Nat) : Option Nat := ar .quo .f32 (cl .f32 (fget R.a i)) (cl .f32 (fget R.b i))
/-- A number of a valid rod, that is finite. -/
def rodF (R : Rl) (x : Option Nat) : Option Nat := if okRod R then chkF x else some 0
def longV (R : Rl) : Option Nat := sumF R.a R.a.length
def heatV (R : Rl) : Option Nat := foldF (heatG R) R.a.length
def hindV (R : Rl) : Option Nat := foldF (hindG R) R.a.length
def meanV (R : Rl) : Option Nat := ar .quo .f32 (heatV R) (foldF (massG R) R.a.length)
def heatOk (R : Rl) : Bool := okRod R && finF (heatV R)
/-- The call returns a float and leaves what was there. -/
def RetFb (w : World) (v : Option Nat) (e : Ending) (w' : World) : Prop := ∃ r, e = .returned (.float .f32 r) ∧ IsF .f32 r v ∧ Below w.heap.size w w'

end Go.Proofs.Ytiolmffcmbcgmaa
