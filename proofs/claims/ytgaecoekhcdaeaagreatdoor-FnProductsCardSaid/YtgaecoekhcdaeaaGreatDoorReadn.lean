/-
  ReadNumbers at both sides.
-/
import Derived.Test.YtgaecoekhcdaeaaGreatDoorRg
import Derived.Test.YtgaecoekhcdaeaaGreatDoorRhex
import Derived.Test.YtgaecoekhcdaeaaGreatDoorSlc
namespace Go.Proofs.YtgaecoekhcdaeaaGreatDoor
set_option linter.unusedVariables false
set_option linter.unusedSimpArgs false
set_option maxRecDepth 20000
open Go.RowKit Fl

def hcell (x : List UInt8) : Value := .float .f32 (hval x)
theorem info_f32t : (Tryz.prog.info? 28).map (fun i => (i.zero, i.size, i.bytes)) = some (some (.float .f32 0), 1, 4) := by kernel_rfl
theorem nef_str : (28 : TypeId) ≠ 9 := by decide
/-- How far the reference's inner loop is. -/
def HxI (x : List UInt8) (j : Nat) (n : Nat) : Prop := (x.take j).all isH = true ∧ n = hval (x.take j)
theorem HxI.start (x : List UInt8) : HxI x 0 0 := ⟨rfl, rfl⟩
theorem HxI.next {x : List UInt8} {j n : Nat} (h : HxI x j n) {c : UInt8} (hc : x[j]? = some c) (hh : isH c = true) : HxI x (j + 1) (16 * n + hdv c) := by
  obtain ⟨h1, h2⟩ := h
  have hlt : j < x.length := by
    rcases Nat.lt_or_ge j x.length with h | h
    · exact h
    · rw [List.getElem?_eq_none h] at hc; cases hc
  have e : x.take (j + 1) = x.take j ++ [c] := by
    rw [List.take_succ_eq_append_getElem hlt]
    rw [List.getElem?_eq_getElem hlt] at hc
    rw [Option.some.inj hc]
  refine ⟨by rw [e, List.all_append, h1]; simp [hh], ?_⟩
  rw [e]
  show _ = hfold 0 _
  rw [hfold_snoc, h2]
  rfl
theorem HxI.lt {x : List UInt8} {j n : Nat} (h : HxI x j n) (hj : j ≤ 8) : n < 4294967296 := by
  rw [h.2]
  have h1 := hfold_lt _ h.1 0
  have h2 : 16 ^ (x.take j).length ≤ 16 ^ 8 := Nat.pow_le_pow_right (by decide) (by rw [List.length_take]; omega)
  have h3 : (16 : Nat) ^ 8 = 4294967296 := by decide
  show hfold 0 _ < _
  omega
theorem HxI.bad {x : List UInt8} {j : Nat} {c : UInt8} (hc : x[j]? = some c) (hh : isH c = false) : rhk x = false := by
  have : x.all isH = false := by
    rw [List.all_eq_false]
    exact ⟨c, List.mem_of_getElem? hc, by simp [hh]⟩
  unfold rhk
  rw [this, Bool.and_false, Bool.false_and]
theorem HxI.done {x : List UInt8} {n : Nat} (h8 : x.length = 8) (h : HxI x 8 n) : n = hval x ∧ rhk x = decide (bitsN (cl .f32 n) = n) := by
  obtain ⟨h1, h2⟩ := h
  rw [List.take_of_length_le (by omega)] at h1 h2
  refine ⟨h2, ?_⟩
  unfold rhk
  rw [decide_eq_true h8, h1, h2]
  simp
theorem rl01From_any (n : Nat) (hn : n < 4294967296) (w : World) : Calls Tryz.prog 51 #[.int .i64 (n : Int)] w fun e w' => e = .returned (.float .f32 n) ∧ w' = w := by
  have hx := fun (b : Nat) w => ext_f32from b w
  go_enter Tryz.func51, Tryz.ntmps51
  go_wp2_with fail
  go_ret
  exact ⟨rfl, rfl⟩
end Go.Proofs.YtgaecoekhcdaeaaGreatDoor
