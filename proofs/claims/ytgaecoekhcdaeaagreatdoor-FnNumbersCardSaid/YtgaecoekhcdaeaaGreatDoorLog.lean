/-
  Contracts: logarithms at both sides, at a positive finite number; math.NaN, math.Inf, math.IsInf.
-/
import Derived.Test.YtgaecoekhcdaeaaGreatDoorFlush
import Derived.Test.YtgaecoekhcdaeaaGreatDoorLogp
namespace Go.Proofs.YtgaecoekhcdaeaaGreatDoor
set_option linter.unusedVariables false
set_option linter.unusedSimpArgs false
set_option maxRecDepth 20000
open Go.RowKit Fl

def fltOf (v : Value) : Nat := match v with | .float _ b => b | _ => 0
theorem isF_nrm {y : Nat} (h : Nrm y) : IsF .f64 y (some y) := by
  refine IsF.lit ⟨?_, ?_⟩
  · show (D.read y).isNaN = false
    rw [read_nrm h]; rfl
  · have := h.2
    rw [D_inf] at this
    show y < 18446744073709551616
    omega
theorem isF_eq {k : FloatKind} {r y : Nat} {v : Option Nat} (h : IsF k r v) (hv : v = some y) : r = y := by
  subst hv; exact h.num.1
theorem isF_at {k : FloatKind} {r y : Nat} {v : Option Nat} (h : IsF k r v) (hv : v = some y) : IsF k r (some y) := by
  subst hv; exact h
def kF (j : Nat) : Option Nat := ofInt .f64 (25 - 2 * j)
theorem kF_ge : ∀ j : Nat, j ≤ 13 → cmpF .geq .f64 (kF j) (some 4607182418800017408) = decide (j < 13) := by decide +kernel
theorem kF_sub : ∀ j : Nat, j < 13 → ar .sub .f64 (kF j) (some 4611686018427387904) = kF (j + 1) := by decide +kernel
/-- A measure: the bits of a positive float. -/
def posN (v : Value) : Nat := match v with | .float _ b => if b < 9223372036854775808 then b else 0 | _ => 0
theorem kF_down : ∀ j : Nat, j < 13 → posN (.float .f64 (floatOfInt .f64 (25 - 2 * ((j + 1 : Nat) : Int)))) < posN (.float .f64 (floatOfInt .f64 (25 - 2 * (j : Int)))) := by decide +kernel
theorem kF_zero : IsF .f64 4627730092099895296 (kF 0) := by
  have e : kF 0 = some 4627730092099895296 := by decide +kernel
  rw [e]
  exact IsF.lit (by decide +kernel)
theorem isF_zeroD : IsF .f64 0 (some 0) := IsF.lit (by decide +kernel)
theorem e_zero : IsF .f64 0 (ofInt .f64 (-((0 : Nat) : Int))) := by
  have e : ofInt .f64 (-((0 : Nat) : Int)) = some 0 := by decide +kernel
  rw [e]
  exact IsF.lit (by decide +kernel)
theorem red_eq {x y : Nat} {e : Int} (h : (y : Int) = x - e * 4503599627370496) (h1 : 4604930618986332160 ≤ y) (h2 : y < 4609434218613702656) : logTail y e = logV x := by
  have h3 : redE x = e := by unfold redE; omega
  have h4 : redX x = y := by unfold redX; rw [h3]; omega
  unfold logV
  rw [h3, h4]

theorem nan_any (w : World) : Calls Tryz.prog 66 #[] w fun e w' => e = .returned (.float .f64 9221120237041090561) ∧ w' = w := by
  have hy : ∀ w, (callFunc 85 #[.int .u64 9221120237041090561]).run Tryz.prog w = .ok (.value (.float .f64 9221120237041090561)) w := ext_f64from 9221120237041090561
  go_enter Tryz.func66, Tryz.ntmps66
  go_wp2_with fail
  go_ret
  exact ⟨rfl, rfl⟩
theorem isF_nan : IsF .f64 9221120237041090561 none := IsF.lit_nan (by decide +kernel)
theorem isF_ninf : IsF .f64 18442240474082181120 (some 18442240474082181120) := IsF.lit (by decide +kernel)
theorem isF_pinf : IsF .f64 9218868437227405312 (some 9218868437227405312) := IsF.lit (by decide +kernel)
theorem pos_facts {x : Nat} (h1 : 3936146074321813504 ≤ x) (h2 : x < 5188146770730811392) : Nrm x ∧ cmpF .lss .f64 (some x) (some 0) = false ∧ cmpF .eql .f64 (some x) (some 0) = false ∧ cmpF .gtr .f64 (some x) (some 9218868437227405311) = false ∧ cmpF .neq .f64 (some x) (some x) = false := by
  have hN : Nrm x := ⟨by rw [D_binade]; omega, by rw [D_inf]; omega⟩
  have a0 : (0 : Nat) < Ieee.Format.infRung D := by rw [D_inf]; decide
  have a1 : (9218868437227405311 : Nat) < Ieee.Format.infRung D := by rw [D_inf]; decide
  refine ⟨hN, ?_, ?_, ?_, neq_self (isF_nrm hN)⟩
  · rw [lt_pos hN.2 a0]; simp
  · unfold cmpF; simp only [ord_pos hN.2 a0]; rw [Int.compare_eq_gt.2 (by omega)]; rfl
  · unfold cmpF; simp only [ord_pos hN.2 a1]; rw [Int.compare_eq_lt.2 (by omega)]; rfl
end Go.Proofs.YtgaecoekhcdaeaaGreatDoor
