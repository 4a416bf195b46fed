/-
  Complex numbers whose parts are small integers: plain laws.
-/
import Derived.Test.YtgaecoekhcdaeaaGreatDoorFpc
namespace Go.Proofs.YtgaecoekhcdaeaaGreatDoor
set_option linter.unusedVariables false
set_option linter.unusedSimpArgs false
set_option maxRecDepth 20000
open Go.RowKit Fl Ieee

theorem mulB {a b : Int} {A B : Nat} (ha : a.natAbs ≤ A) (hb : b.natAbs ≤ B) : (a * b).natAbs ≤ A * B := by
  rw [Int.natAbs_mul]; exact Nat.mul_le_mul ha hb
theorem tRe_w {a b c d : Int} {u1 v1 u2 v2 : Option Nat} (h1 : W32 a u1) (h2 : W32 b v1) (h3 : W32 c u2) (h4 : W32 d v2) (ha : a.natAbs ≤ 1000000) (hb : b.natAbs ≤ 1000000) (hc : c.natAbs ≤ 1000000) (hd : d.natAbs ≤ 1000000) : W (a * c - b * d) (tRe u1 v1 u2 v2) := by
  have e1 := mulB ha hc
  have e2 := mulB hb hd
  refine w_sub (w_mul (w_wid h1) (w_wid h3) ?_) (w_mul (w_wid h2) (w_wid h4) ?_) ?_
  · rw [← Int.natAbs_mul]; omega
  · rw [← Int.natAbs_mul]; omega
  · omega
theorem tIm_w {a b c d : Int} {u1 v1 u2 v2 : Option Nat} (h1 : W32 a u1) (h2 : W32 b v1) (h3 : W32 c u2) (h4 : W32 d v2) (ha : a.natAbs ≤ 1000000) (hb : b.natAbs ≤ 1000000) (hc : c.natAbs ≤ 1000000) (hd : d.natAbs ≤ 1000000) : W (a * d + b * c) (tIm u1 v1 u2 v2) := by
  have e1 := mulB ha hd
  have e2 := mulB hb hc
  refine w_add (w_mul (w_wid h1) (w_wid h4) ?_) (w_mul (w_wid h2) (w_wid h3) ?_) ?_
  · rw [← Int.natAbs_mul]; omega
  · rw [← Int.natAbs_mul]; omega
  · omega
theorem pW_w {a b : Int} {u v : Option Nat} (h1 : W32 a u) (h2 : W32 b v) (ha : a.natAbs ≤ 1000000) (hb : b.natAbs ≤ 1000000) : W (a * a + b * b) (pW u v) := by
  have e1 := mulB ha ha
  have e2 := mulB hb hb
  refine w_add (w_mul (w_wid h1) (w_wid h1) ?_) (w_mul (w_wid h2) (w_wid h2) ?_) ?_
  · rw [← Int.natAbs_mul]; omega
  · rw [← Int.natAbs_mul]; omega
  · omega
/-- A float32 that is an integer, by its bits. -/
def w32B (n : Int) (v : Option Nat) : Bool := match v with
  | none => false
  | some b => decide (rg S b < S.infRung) && decide (U S (rg S b) = n.natAbs * 2 ^ 149) && decide (sz (sg S b) n.natAbs = n)
theorem w32_of_B {n : Int} {v : Option Nat} (h : w32B n v = true) : W32 n v := by
  unfold w32B at h
  cases v with
  | none => cases h
  | some b =>
    simp only [Bool.and_eq_true, decide_eq_true_eq] at h
    exact ⟨sg S b, ⟨b, rfl, h.1.1, rfl, h.1.2⟩, h.2⟩
theorem small_of_nat {i : Int} (h0 : -200 ≤ i) (h1 : i ≤ 200) : ∃ k : Nat, k < 401 ∧ i = (k : Int) - 200 := ⟨(i + 200).toNat, by omega, by omega⟩
theorem neg_all : (List.range 401).all (fun k : Nat => w32B (-((k : Int) - 200)) (neg .f32 (ofInt .f32 ((k : Int) - 200)))) = true := by decide +kernel
theorem w32_neg {j : Int} (h0 : -200 ≤ j) (h1 : j ≤ 200) : W32 (-j) (neg .f32 (ofInt .f32 j)) := by
  obtain ⟨k, hk, rfl⟩ := small_of_nat h0 h1
  have := List.all_eq_true.1 neg_all k (by simpa using hk)
  exact w32_of_B this
theorem two_all : (List.range 401).all (fun k : Nat => w32B (2 * ((k : Int) - 200)) (ar .mul .f32 (ofInt .f32 ((k : Int) - 200)) (some 1073741824)) && w32B (2 * ((k : Int) - 200)) (ar .add .f32 (ofInt .f32 ((k : Int) - 200)) (ofInt .f32 ((k : Int) - 200)))) = true := by decide +kernel
theorem w32_two {j : Int} (h0 : -200 ≤ j) (h1 : j ≤ 200) : W32 (2 * j) (ar .mul .f32 (ofInt .f32 j) (some 1073741824)) ∧ W32 (2 * j) (ar .add .f32 (ofInt .f32 j) (ofInt .f32 j)) := by
  obtain ⟨k, hk, rfl⟩ := small_of_nat h0 h1
  have := List.all_eq_true.1 two_all k (by simpa using hk)
  simp only [Bool.and_eq_true] at this
  exact ⟨w32_of_B this.1, w32_of_B this.2⟩
theorem int_all : (List.range 401).all (fun k : Nat => ((FloatKind.decode .f32 (floatOfInt .f32 ((k : Int) - 200))).toInt .zero == some ((k : Int) - 200))) = true := by decide +kernel
/-- int64 of a small whole float32. -/
theorem run_int {P : Program} {src dst : TypeId} (hs : (P.underlying src).isSome = true) (hd : P.underlying dst = some (.int .i64)) {j : Int} (h0 : -200 ≤ j) (h1 : j ≤ 200) (w : World) : (convert src dst (.float .f32 (floatOfInt .f32 j))).run P w = .ok (.int .i64 j) w := by
  obtain ⟨k, hk, rfl⟩ := small_of_nat h0 h1
  have h := List.all_eq_true.1 int_all k (by simpa using hk)
  have h' : (FloatKind.decode .f32 (floatOfInt .f32 ((k : Int) - 200))).toInt .zero = some ((k : Int) - 200) := by simpa using h
  obtain ⟨u, hs'⟩ := Option.isSome_iff_exists.1 hs
  have e : (convert src dst (.float .f32 (floatOfInt .f32 ((k : Int) - 200)))).run P w = (Conv.floatToInt .f32 (floatOfInt .f32 ((k : Int) - 200)) .i64).run P w := by
    cases u <;> simp [convert, run_underlying hs', run_underlying hd]
  rw [e]
  simp only [Conv.floatToInt, h']
  rw [if_pos (by simp [IntKind.min, IntKind.max, IntKind.signed, IntKind.bits]; omega)]
  rfl
/-- The length of a point, and the root of its power. -/
theorem long_root {i j : Int} (hi0 : -200 ≤ i) (hi1 : i ≤ 200) (hj0 : -200 ≤ j) (hj1 : j ≤ 200) : pW (ofInt .f32 i) (ofInt .f32 j) = wid (ofInt .f32 (i * i + j * j)) := by
  have hI := wh32_int (n := i) (by omega)
  have hJ := wh32_int (n := j) (by omega)
  have e1 := mulB (a := i) (b := i) (A := 200) (B := 200) (by omega) (by omega)
  have e2 := mulB (a := j) (b := j) (A := 200) (B := 200) (by omega) (by omega)
  have hp := wh_power (wh_wid hI) (wh_wid hJ) (by rw [← Int.natAbs_mul, ← Int.natAbs_mul]; omega)
  have hn : 0 ≤ i * i + j * j := by
    have a1 := Int.natAbs_mul_self (a := i)
    have a2 := Int.natAbs_mul_self (a := j)
    omega
  have hq := wh_wid (wh32_int (n := i * i + j * j) (by omega))
  have hM : (i * i + j * j).natAbs = i.natAbs * i.natAbs + j.natAbs * j.natAbs := by
    have a1 := Int.natAbs_mul_self (a := i)
    have a2 := Int.natAbs_mul_self (a := j)
    omega
  rw [hM, decide_eq_false (show ¬ i * i + j * j < 0 by omega)] at hq
  refine Wh.eq hp hq (fun b hb => ?_) (fun b hb => ?_)
  · exact (ar_num hb).2
  · have : wid (ofInt .f32 (i * i + j * j)) = some b := hb
    exact (Option.some.inj this) ▸ Ieee.Format.write_lt D _
end Go.Proofs.YtgaecoekhcdaeaaGreatDoor
