/-
  Hexadecimal texts at both sides.
-/
import Derived.Test.YtgaecoekhcdaeaaGreatDoorHex
import Derived.Test.YtgaecoekhcdaeaaGreatDoorCore
import Derived.Test.YtgaecoekhcdaeaaGreatDoorStr
import Derived.Lib.LaidTab
import Derived.Lib.TrailingZeros
namespace Go.Proofs.YtgaecoekhcdaeaaGreatDoor
set_option linter.unusedVariables false
set_option linter.unusedSimpArgs false
set_option maxRecDepth 20000
open Go.RowKit Fl

theorem gDeb : Tryz.prog.globalNamed "math/bits.deBruijn64tab" = some 6 := by kernel_rfl
theorem gDebT : (Tryz.prog.globals[6]?).map (·.type) = some 160 := by kernel_rfl
def debTab : List Int := Lib.deBruijn64tab.map fun (n : Nat) => (n : Int)
/-- The table's cell that base 16 asks for. -/
def Deb (w : World) : Prop := w.cell? ⟨6, 15, none⟩ = some (.int .u8 4)
theorem Deb.of {w : World} (h : Lib.TabIs Tryz.prog w "math/bits.deBruijn64tab" .u8 debTab) : Deb w := by
  have := h.cell gDeb 15 (by decide)
  unfold Deb
  rw [this]
  rfl
theorem Deb.below {w w' : World} (h : Deb w) (hb : Below w.heap.size w w') : Deb w' := by
  unfold Deb at h ⊢
  rw [hb.cell (World.block_lt_of_cell? w _ h)]
  exact h
theorem isPow16 (w : World) : Calls Tryz.prog 123 #[.int .i64 16] w fun e w' => e = .returned (.bool true) ∧ w' = w := by
  have hb : bits .and .i64 16 15 = 0 := by decide
  go_enter Tryz.func123, Tryz.ntmps123
  go_wp2_with fail
  go_ret
  exact ⟨rfl, rfl⟩
theorem tz64_16 (w : World) (h : Deb w) : Calls Tryz.prog 135 #[.int .u64 16] w fun e w' => e = .returned (.int .i64 4) ∧ w' = w := by
  unfold Deb at h
  have e1 : IntKind.u64.wrap (-16) = 18446744073709551600 := by decide
  have e2 : bits .and .u64 16 18446744073709551600 = 16 := by decide
  have e3 : IntKind.u64.wrap 4573923408821661840 = 4573923408821661840 := by decide
  go_enter Tryz.func135, Tryz.ntmps135
  go_wp2_with fail
  go_ret
  exact ⟨rfl, rfl⟩
theorem tz_16 (w : World) (h : Deb w) : Calls Tryz.prog 124 #[.int .u64 16] w fun e w' => e = .returned (.int .i64 4) ∧ w' = w := by
  have HT := Lib.hid (tz64_16 w h)
  go_enter Tryz.func124, Tryz.ntmps124
  go_wp2_with fail
  refine HT.out.mono ?_
  rintro e w' ⟨rfl, hw⟩
  obtain rfl := hw.symm
  go_wp2_with fail
  go_ret
  exact ⟨rfl, rfl⟩
end Go.Proofs.YtgaecoekhcdaeaaGreatDoor
