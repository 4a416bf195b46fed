/-
  Contracts of the next functions on numbers: the laws' own comparison of floats, numbers from bits, flushing.
-/
import Derived.Test.YtgaecoekhcdaeaaGreatDoorCore
namespace Go.Proofs.YtgaecoekhcdaeaaGreatDoor
set_option linter.unusedVariables false
set_option linter.unusedSimpArgs false
set_option maxRecDepth 20000
open Go.RowKit Fl


theorem within_bool (lo n hi : Int) : (decide (lo ≤ n) && decide (n ≤ hi)) = decide (lo ≤ n ∧ n ≤ hi) := by
  rw [Bool.eq_iff_iff]; simp
theorem within_any (n lo hi : Int) (w : World) : Calls Tryz.prog 53 #[.int .i64 n, .int .i64 lo, .int .i64 hi] w fun e w' => e = .returned (.bool (decide (lo ≤ n ∧ n ≤ hi))) ∧ w' = w := by
  rw [← within_bool]
  by_cases h : lo ≤ n
  · go_enter Tryz.func53, Tryz.ntmps53
    go_wp2
    go_ret
    refine ⟨?_, rfl⟩
    simp [h]
  · have h' : decide (lo ≤ n) = false := by simpa using h
    go_enter Tryz.func53, Tryz.ntmps53
    go_wp2
    go_ret
    refine ⟨?_, rfl⟩
    simp [h']

theorem l01From_any (n : Int) (w : World) (h0 : 0 ≤ n) (h1 : n ≤ 4294967295) :
    Calls Tryz.prog 51 #[.int .i64 n] w fun e w' => e = .returned (.float .f32 n.toNat) ∧ w' = w := by
  obtain ⟨k, rfl⟩ := Int.eq_ofNat_of_zero_le h0
  have hx := ext_f32from
  go_enter Tryz.func51, Tryz.ntmps51
  go_wp2_with fail
  go_ret
  exact ⟨rfl, rfl⟩
theorem iFromBits_yes (n : Int) (w : World) (h0 : 0 ≤ n) (h1 : n ≤ 4294967295) :
    Calls Tryz.prog 20 #[.int .i64 n] w fun e w' => e = .returned (.tuple #[.float .f32 n.toNat, .bool true]) ∧ w' = w := by
  have hd : decide (0 ≤ n ∧ n ≤ 4294967295) = true := by simp; omega
  have hx := ext_f32from
  obtain ⟨k, rfl⟩ := Int.eq_ofNat_of_zero_le h0
  go_enter Tryz.func20, Tryz.ntmps20
  go_wp2_with (first | (go_at_call 53; refine (within_any _ _ _ _).mono ?_; rintro e w' ⟨rfl, rfl⟩; rw [hd]))
  go_ret2
  exact ⟨rfl, rfl⟩
theorem iFromBits_no (n : Int) (w : World) (h : n < 0 ∨ 4294967295 < n) :
    Calls Tryz.prog 20 #[.int .i64 n] w fun e w' => e = .returned (.tuple #[.float .f32 0, .bool false]) ∧ w' = w := by
  have hd : decide (0 ≤ n ∧ n ≤ 4294967295) = false := by simp; omega
  go_enter Tryz.func20, Tryz.ntmps20
  go_wp2_with (first | (go_at_call 53; refine (within_any _ _ _ _).mono ?_; rintro e w' ⟨rfl, rfl⟩; rw [hd]))
  go_ret2
  exact ⟨rfl, rfl⟩
end Go.Proofs.YtgaecoekhcdaeaaGreatDoor
