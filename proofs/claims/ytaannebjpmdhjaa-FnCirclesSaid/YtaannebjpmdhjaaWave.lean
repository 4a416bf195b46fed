/-
  Contracts: depths of waves; valid ends.
-/
import Derived.Test.YtaannebjpmdhjaaPos
import Derived.Test.YtaannebjpmdhjaaEnd
namespace Go.Proofs.Ytaannebjpmdhjaa
set_option linter.unusedVariables false
set_option linter.unusedSimpArgs false
set_option maxRecDepth 20000
open Go.RowKit Fl
attribute [local go_sem] run_store_float

theorem anyF_cons (p : Option Nat → Bool) (b : Nat) (bs : List Nat) : anyF p (b :: bs) = (p (cl .f32 b) || anyF p bs) := by simp [anyF]
theorem anyF_nil (p : Option Nat → Bool) : anyF p [] = false := rfl
/-- A slice laid as a literal. -/
theorem FSl_lit (w : World) (bs : List Nat) (T : TypeId) (hb : ∀ b ∈ bs, b < 2 ^ FloatKind.f32.format.width) (hl : bs.length ≤ 1048576) :
    FSl .f32 (w.alloc (.cells (bs.map (Value.float .f32)).toArray T)) (.slice (some ⟨w.heap.size, 0, none⟩) bs.length bs.length) bs := by
  refine ⟨_, _, rfl, Nat.le_refl _, by unfold maxLen; omega, hb, .inr ⟨_, 0, rfl, by simp, fun i hi => ?_⟩⟩
  have hr := World.rowIs_alloc w (bs.map (Value.float .f32)).toArray T (fun i => .float .f32 (fget bs i)) (fun i hi => by
    have hi' : i < bs.length := by simpa using hi
    simp [fget, List.getD, hi'])
  rw [Nat.zero_add]
  exact hr.cell (by simpa using hi)
/-- The call returns a float and a bool, and leaves what was there. -/
def RetFBb (w : World) (v : Option Nat) (b : Bool) (e : Ending) (w' : World) : Prop := ∃ r, e = .returned (.tuple #[.float .f32 r, .bool b]) ∧ IsF .f32 r v ∧ Below w.heap.size w w'
theorem not_any3 {a b c : Nat} {u v x : Option Nat} (ha : IsF .f32 a u) (hb : IsF .f32 b v) (hc : IsF .f32 c x) : (!anyF nposF [a, b, c]) = (posF u && posF v && posF x) := by
  rw [anyF_cons, anyF_cons, anyF_cons, anyF_nil, ha.eq, hb.eq, hc.eq, nposF_eq u a ha, nposF_eq v b hb, nposF_eq x c hc]
  cases posF u <;> cases posF v <;> cases posF x <;> rfl

end Go.Proofs.Ytaannebjpmdhjaa
