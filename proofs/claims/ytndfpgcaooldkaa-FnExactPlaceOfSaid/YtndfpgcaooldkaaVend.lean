/-
  Contracts: valid ends.
-/
import Derived.Test.YtndfpgcaooldkaaWave
namespace Go.Proofs.Ytndfpgcaooldkaa
set_option linter.unusedVariables false
set_option linter.unusedSimpArgs false
open Go.RowKit Fl
attribute [local go_sem] run_store_float

def validEndB (k : Int) (u v : Option Nat) : Bool := decide (0 ≤ k ∧ k ≤ 2) && finF u && posF v
/-- The call returns a value and leaves what was there. -/
def RetB (w : World) (v : Value) (e : Ending) (w' : World) : Prop := e = .returned v ∧ Below w.heap.size w w'
set_option maxHeartbeats 1000000 in
theorem l02End_any (b : Nat) (k : Int) (a c : Nat) (u v : Option Nat) (ha : IsF .f32 a u) (hc : IsF .f32 c v) (w : World)
    (c0 : w.cell? ⟨b, 0, none⟩ = some (.int .i64 k)) (c1 : w.cell? ⟨b, 1, none⟩ = some (.float .f32 a)) (c2 : w.cell? ⟨b, 2, none⟩ = some (.float .f32 c)) :
    Calls Try.prog 45 #[.pointer (some ⟨b, 0, none⟩)] w (Ret w (.bool (validEndB k u v))) := by
  unfold validEndB
  cases h1 : decide (0 ≤ k ∧ k ≤ 2) <;> cases h2 : finF u <;>
    (go_enter Try.func45, Try.ntmps45
     go_wp2_with (first | (go_at_call 41; refine (l00In_any _ _ _ _).mono ?_; rintro e w' ⟨rfl, rfl⟩; rw [h1]) | (go_at_call 49; refine (l01Finite_any _ _ (by assumption) _).mono ?_; rintro e w' ⟨n, rfl, rfl⟩; rw [h2]) | (go_at_call 53; refine (l02Above_any _ _ (by assumption) _).mono ?_; rintro e w' ⟨n, rfl, rfl⟩))
     go_ret
     first | exact ret_mk rfl | exact ret_mk0 rfl | exact ret_mk (by simp) | exact ret_mk0 (by simp))
theorem not_any1 {c : Nat} {v : Option Nat} (hc : IsF .f32 c v) : (!anyF nposF [c]) = posF v := by
  rw [anyF_cons, anyF_nil, hc.eq, nposF_eq v c hc]
  cases posF v <;> rfl
set_option maxHeartbeats 1000000 in
theorem iValidEnd_any (k : Int) (a c : Nat) (u v : Option Nat) (ha : IsF .f32 a u) (hc : IsF .f32 c v) (w : World) :
    Calls Try.prog 47 #[.agg #[.int .i64 k, .float .f32 a, .float .f32 c]] w (RetB w (.bool (validEndB k u v))) := by
  have hp : ∀ w' : World, Below ((w.alloc (.cells #[.int .i64 k, .float .f32 a, .float .f32 c] 40)).alloc (.cells #[.float .f32 c] 26)).heap.size ((w.alloc (.cells #[.int .i64 k, .float .f32 a, .float .f32 c] 40)).alloc (.cells #[.float .f32 c] 26)) w' → Calls Try.prog 54 #[.slice (some ⟨w.heap.size + 1, 0, none⟩) 1 1] w' (Ret w' (.bool (posF v))) := by
    intro w' hw'
    have hsl := FSl_lit (w.alloc (.cells #[.int .i64 k, .float .f32 a, .float .f32 c] 40)) [c] 26 (by simp; exact hc.2) (by simp)
    have := arePositive_any _ _ w' (hsl.below hw')
    rw [not_any1 hc] at this
    simpa using this
  have HP := Lib.hid hp
  clear hp
  unfold validEndB
  cases h1 : decide (0 ≤ k ∧ k ≤ 2)
  · go_enter Try.func47, Try.ntmps47
    go_wp2_with (first | (go_at_call 43; refine (within_any _ _ _ _).mono ?_; rintro e w' ⟨rfl, rfl⟩; rw [h1]))
    go_ret
    exact ⟨rfl, (Below.refl _ _).alloc (Nat.le_refl _) _⟩
  · cases h2 : finF u
    · go_enter Try.func47, Try.ntmps47
      go_wp2_with (first | (go_at_call 43; refine (within_any _ _ _ _).mono ?_; rintro e w' ⟨rfl, rfl⟩; rw [h1]) | (go_at_call 51; refine (iIsFinite_any _ _ (by assumption) _).mono ?_; rintro e w' ⟨n, rfl, rfl⟩; rw [h2]))
      go_ret
      exact ⟨rfl, below_drewN ((Below.refl _ _).alloc (Nat.le_refl _) _) _⟩
    · go_enter Try.func47, Try.ntmps47
      go_wp2_with (first | (go_at_call 43; refine (within_any _ _ _ _).mono ?_; rintro e w' ⟨rfl, rfl⟩; rw [h1]) | (go_at_call 51; refine (iIsFinite_any _ _ (by assumption) _).mono ?_; rintro e w' ⟨n, rfl, rfl⟩; rw [h2]))
      refine (HP.out _ (below_draws _ _)).mono ?_
      rintro e w' ⟨m, rfl, rfl⟩
      go_wp2_with fail
      go_ret
      exact ⟨by simp, below_drewN (((Below.refl _ _).alloc (Nat.le_refl _) _).alloc (by simp) _) _⟩
end Go.Proofs.Ytndfpgcaooldkaa
