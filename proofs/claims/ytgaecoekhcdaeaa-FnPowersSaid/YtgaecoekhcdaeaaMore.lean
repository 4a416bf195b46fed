/-
  Contracts of the next functions on numbers: the laws' own comparison of floats, numbers from bits, flushing.
-/
import Derived.Test.YtgaecoekhcdaeaaCore
namespace Go.Proofs.Ytgaecoekhcdaeaa
set_option linter.unusedVariables false
set_option linter.unusedSimpArgs false
open Go.RowKit Fl


theorem within_bool (lo n hi : Int) : (decide (lo ≤ n) && decide (n ≤ hi)) = decide (lo ≤ n ∧ n ≤ hi) := by
  rw [Bool.eq_iff_iff]; simp

theorem l01From_any (n : Int) (w : World) (h0 : 0 ≤ n) (h1 : n ≤ 4294967295) :
    Calls Try.prog 79 #[.int .i64 n] w fun e w' => e = .returned (.float .f32 n.toNat) ∧ w' = w := by
  obtain ⟨k, rfl⟩ := Int.eq_ofNat_of_zero_le h0
  have hx := ext_f32from
  go_enter Try.func79, Try.ntmps79
  go_wp2_with fail
  go_ret
  exact ⟨rfl, rfl⟩
end Go.Proofs.Ytgaecoekhcdaeaa
