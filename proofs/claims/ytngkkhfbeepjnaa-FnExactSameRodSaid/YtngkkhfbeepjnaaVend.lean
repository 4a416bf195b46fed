/-
  Contracts: valid ends.
-/
import Derived.Test.YtngkkhfbeepjnaaWave
namespace Go.Proofs.Ytngkkhfbeepjnaa
set_option linter.unusedVariables false
set_option linter.unusedSimpArgs false
open Go.RowKit Fl
attribute [local go_sem] run_store_float

def validEndB (k : Int) (u v : Option Nat) : Bool := decide (0 ≤ k ∧ k ≤ 2) && finF u && posF v
/-- The call returns a value and leaves what was there. -/
def RetB (w : World) (v : Value) (e : Ending) (w' : World) : Prop := e = .returned v ∧ Below w.heap.size w w'
set_option maxHeartbeats 1000000 in
theorem l02End_any (b : Nat) (k : Int) (a c : Nat) (u v : Option Nat) (ha : IsF .f32 a u) (hc : IsF .f32 c v) (w : World)
    (c0 : w.cell? ⟨b, 0, none⟩ = some (.int .i64 k)) (c1 : w.cell? ⟨b, 1, none⟩ = some (.float .f32 a)) (c2 : w.cell? ⟨b, 2, none⟩ = some (.float .f32 c)) :
    Calls Try.prog 23 #[.pointer (some ⟨b, 0, none⟩)] w (Ret w (.bool (validEndB k u v))) := by
  unfold validEndB
  cases h1 : decide (0 ≤ k ∧ k ≤ 2) <;> cases h2 : finF u <;>
    (go_enter Try.func23, Try.ntmps23
     go_wp2_with (first | (go_at_call 41; refine (l00In_any _ _ _ _).mono ?_; rintro e w' ⟨rfl, rfl⟩; rw [h1]) | (go_at_call 42; refine (l01Finite_any _ _ (by assumption) _).mono ?_; rintro e w' ⟨n, rfl, rfl⟩; rw [h2]) | (go_at_call 27; refine (l02Above_any _ _ (by assumption) _).mono ?_; rintro e w' ⟨n, rfl, rfl⟩))
     go_ret
     first | exact ret_mk rfl | exact ret_mk0 rfl | exact ret_mk (by simp) | exact ret_mk0 (by simp))
theorem sValidEnd_any (k : Int) (a c : Nat) (u v : Option Nat) (ha : IsF .f32 a u) (hc : IsF .f32 c v) (w : World) :
    Calls Try.prog 8 #[.agg #[.int .i64 k, .float .f32 a, .float .f32 c]] w (RetB w (.bool (validEndB k u v))) := by
  go_enter Try.func8, Try.ntmps8
  go_wp2_with fail
  refine (l02End_any _ k a c u v ha hc _ (by simp) (by simp) (by simp)).mono ?_
  rintro e w' ⟨n, rfl, rfl⟩
  go_wp2_with fail
  go_ret
  exact ⟨rfl, below_drewN ((Below.refl _ _).alloc (Nat.le_refl _) _) _⟩
theorem not_any1 {c : Nat} {v : Option Nat} (hc : IsF .f32 c v) : (!anyF nposF [c]) = posF v := by
  rw [anyF_cons, anyF_nil, hc.eq, nposF_eq v c hc]
  cases posF v <;> rfl
set_option maxHeartbeats 1000000 in
theorem iValidEnd_any (k : Int) (a c : Nat) (u v : Option Nat) (ha : IsF .f32 a u) (hc : IsF .f32 c v) (w : World) :
    Calls Try.prog 10 #[.agg #[.int .i64 k, .float .f32 a, .float .f32 c]] w (RetB w (.bool (validEndB k u v))) := by
  have hp : ∀ w' : World, Below ((w.alloc (.cells #[.int .i64 k, .float .f32 a, .float .f32 c] 26)).alloc (.cells #[.float .f32 c] 22)).heap.size ((w.alloc (.cells #[.int .i64 k, .float .f32 a, .float .f32 c] 26)).alloc (.cells #[.float .f32 c] 22)) w' → Calls Try.prog 26 #[.slice (some ⟨w.heap.size + 1, 0, none⟩) 1 1] w' (Ret w' (.bool (posF v))) := by
    intro w' hw'
    have hsl := FSl_lit (w.alloc (.cells #[.int .i64 k, .float .f32 a, .float .f32 c] 26)) [c] 22 (by simp; exact hc.2) (by simp)
    have := arePositive_any _ _ w' (hsl.below hw')
    rw [not_any1 hc] at this
    simpa using this
  have HP := Lib.hid hp
  clear hp
  unfold validEndB
  cases h1 : decide (0 ≤ k ∧ k ≤ 2)
  · go_enter Try.func10, Try.ntmps10
    go_wp2_with (first | (go_at_call 24; refine (within_any _ _ _ _).mono ?_; rintro e w' ⟨rfl, rfl⟩; rw [h1]))
    go_ret
    exact ⟨rfl, (Below.refl _ _).alloc (Nat.le_refl _) _⟩
  · cases h2 : finF u
    · go_enter Try.func10, Try.ntmps10
      go_wp2_with (first | (go_at_call 24; refine (within_any _ _ _ _).mono ?_; rintro e w' ⟨rfl, rfl⟩; rw [h1]) | (go_at_call 25; refine (iIsFinite_any _ _ (by assumption) _).mono ?_; rintro e w' ⟨n, rfl, rfl⟩; rw [h2]))
      go_ret
      exact ⟨rfl, below_drewN ((Below.refl _ _).alloc (Nat.le_refl _) _) _⟩
    · go_enter Try.func10, Try.ntmps10
      go_wp2_with (first | (go_at_call 24; refine (within_any _ _ _ _).mono ?_; rintro e w' ⟨rfl, rfl⟩; rw [h1]) | (go_at_call 25; refine (iIsFinite_any _ _ (by assumption) _).mono ?_; rintro e w' ⟨n, rfl, rfl⟩; rw [h2]))
      refine (HP.out _ (below_draws _ _)).mono ?_
      rintro e w' ⟨m, rfl, rfl⟩
      go_wp2_with fail
      go_ret
      exact ⟨by simp, below_drewN (((Below.refl _ _).alloc (Nat.le_refl _) _).alloc (by simp) _) _⟩
end Go.Proofs.Ytngkkhfbeepjnaa
