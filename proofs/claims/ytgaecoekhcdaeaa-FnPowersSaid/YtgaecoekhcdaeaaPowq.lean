/-
  Sums, products and gaps of the exponentials that FnPowers draws, checked by the kernel. No program is in sight. Written by wip/gen_powp.py.
-/
import Derived.Test.YtgaecoekhcdaeaaPowp
namespace Go.Proofs.Ytgaecoekhcdaeaa
set_option linter.unusedVariables false
set_option linter.unusedSimpArgs false
open Go.RowKit Fl

def sOk (n m : Nat) : Bool := eqO (ar .add .f32 (some (sB (n + 32))) (some (sB (m + 32)))) (some (sB (n + m)))
theorem sOk0 : allB (fun k => (sOk) ((845 * 0 + k) / 65) ((845 * 0 + k) % 65)) 845 = true := by kernel_rfl
theorem sOk1 : allB (fun k => (sOk) ((845 * 1 + k) / 65) ((845 * 1 + k) % 65)) 845 = true := by kernel_rfl
theorem sOk2 : allB (fun k => (sOk) ((845 * 2 + k) / 65) ((845 * 2 + k) % 65)) 845 = true := by kernel_rfl
theorem sOk3 : allB (fun k => (sOk) ((845 * 3 + k) / 65) ((845 * 3 + k) % 65)) 845 = true := by kernel_rfl
theorem sOk4 : allB (fun k => (sOk) ((845 * 4 + k) / 65) ((845 * 4 + k) % 65)) 845 = true := by kernel_rfl
theorem s_add (n : Nat) (hn : n < 65) (m : Nat) (hm : m < 65) : ar .add .f32 (some (sB (n + 32))) (some (sB (m + 32))) = some (sB (n + m)) := eqO_of (all2 (f := sOk) (five (p := fun c => allB (fun k => sOk ((845 * c + k) / 65) ((845 * c + k) % 65)) 845 = true) sOk0 sOk1 sOk2 sOk3 sOk4) n hn m hm)
def gapV (a b : Option Nat) : Option Nat := if cmpF .lss .f64 a b then ar .sub .f64 b a else ar .sub .f64 a b
def g1 (n : Nat) : Bool := cmpF .lss .f64 (gapV (wid (logN (some (eB (n + 32))))) (wid (some (sB (n + 32))))) (some 4562254508917369340)
theorem g1_all (n : Nat) (hn : n < 65) : g1 n = true := allB_of (f := g1) (n := 65) (by kernel_rfl) n hn
def g2 (n m : Nat) : Bool := cmpF .lss .f64 (gapV (ar .mul .f64 (some (wB (n + 32))) (some (wB (m + 32)))) (some (wB (n + m)))) (some (cB (n + m)))
theorem g2_0 : allB (fun k => (g2) ((845 * 0 + k) / 65) ((845 * 0 + k) % 65)) 845 = true := by kernel_rfl
theorem g2_1 : allB (fun k => (g2) ((845 * 1 + k) / 65) ((845 * 1 + k) % 65)) 845 = true := by kernel_rfl
theorem g2_2 : allB (fun k => (g2) ((845 * 2 + k) / 65) ((845 * 2 + k) % 65)) 845 = true := by kernel_rfl
theorem g2_3 : allB (fun k => (g2) ((845 * 3 + k) / 65) ((845 * 3 + k) % 65)) 845 = true := by kernel_rfl
theorem g2_4 : allB (fun k => (g2) ((845 * 4 + k) / 65) ((845 * 4 + k) % 65)) 845 = true := by kernel_rfl
theorem g2_all (n : Nat) (hn : n < 65) (m : Nat) (hm : m < 65) : g2 n m = true := all2 (f := g2) (five (p := fun c => allB (fun k => g2 ((845 * c + k) / 65) ((845 * c + k) % 65)) 845 = true) g2_0 g2_1 g2_2 g2_3 g2_4) n hn m hm
def g3 (n : Nat) : Bool := cmpF .gtr .f32 (some (eB (n + 32))) (some 0)
theorem g3_all (n : Nat) (hn : n < 65) : g3 n = true := allB_of (f := g3) (n := 65) (by kernel_rfl) n hn
theorem e_one : eB 64 = 1065353216 := by decide +kernel
theorem log_one : logN (some 1065353216) = some 0 := by decide +kernel
end Go.Proofs.Ytgaecoekhcdaeaa
