/-
  Contracts on ends of rods: copies, comparison.
-/
import Derived.Test.YtaannebjpmdhjaaMore
import Derived.Test.YtaannebjpmdhjaaPost
import Derived.Deep.RegionHeld3
import Derived.Deep.DeepCutAuto
import Derived.Deep.MidRow
import Derived.BigQuiet
import Derived.Test.YtaannebjpmdhjaaSl
namespace Go.Proofs.Ytaannebjpmdhjaa
set_option linter.unusedVariables false
set_option linter.unusedSimpArgs false
set_option maxRecDepth 20000
open Go.RowKit Fl
attribute [local go_sem] run_store_float

/-- What a call below block B leaves as it was, for the walk. -/
theorem bcell {B : Nat} {W w1 : World} (hb : Below B W w1) : (∀ b o, b < B → w1.cell? ⟨b, o, none⟩ = W.cell? ⟨b, o, none⟩) ∧ (∀ b o, b < B → w1.frozen? ⟨b, o, none⟩ = W.frozen? ⟨b, o, none⟩) :=
  ⟨fun b o h => hb.cell (p := ⟨b, o, none⟩) h, fun b o h => hb.frozen (p := ⟨b, o, none⟩) h⟩
/-- Two ends lie in the boxes at h and h + 1. -/
def TwoEnds (h : Nat) (k1 : Int) (a1 b1 : Nat) (k2 : Int) (a2 b2 : Nat) (w : World) : Prop :=
  (w.cell? ⟨h, 0, none⟩ = some (.int .i64 k1) ∧ w.cell? ⟨h, 1, none⟩ = some (.float .f32 a1) ∧ w.cell? ⟨h, 2, none⟩ = some (.float .f32 b1)) ∧
  (w.cell? ⟨h + 1, 0, none⟩ = some (.int .i64 k2) ∧ w.cell? ⟨h + 1, 1, none⟩ = some (.float .f32 a2) ∧ w.cell? ⟨h + 1, 2, none⟩ = some (.float .f32 b2)) ∧ h + 1 < w.heap.size
theorem TwoEnds.below {h : Nat} {k1 : Int} {a1 b1 : Nat} {k2 : Int} {a2 b2 : Nat} {w w' : World} (H : TwoEnds h k1 a1 b1 k2 a2 b2 w) (hb : Below w.heap.size w w') : TwoEnds h k1 a1 b1 k2 a2 b2 w' := by
  obtain ⟨⟨c1, c2, c3⟩, ⟨c4, c5, c6⟩, hs⟩ := H
  have e := (bcell hb).1
  exact ⟨⟨by rw [e _ _ (by omega)]; exact c1, by rw [e _ _ (by omega)]; exact c2, by rw [e _ _ (by omega)]; exact c3⟩, ⟨by rw [e _ _ hs]; exact c4, by rw [e _ _ hs]; exact c5, by rw [e _ _ hs]; exact c6⟩, Nat.lt_of_lt_of_le hs hb.size⟩
def sameEndB (k1 : Int) (a1 b1 : Option Nat) (k2 : Int) (a2 b2 : Option Nat) : Bool := (k1 == k2) && (bitsI a1 == bitsI a2) && (bitsI b1 == bitsI b2)
end Go.Proofs.Ytaannebjpmdhjaa
