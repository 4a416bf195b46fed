/-
  Narrowing what a float32 holds exactly. No program is in sight.
-/
import Derived.Test.YtaannebjpmdhjaaBits
import Derived.Test.YtaannebjpmdhjaaRoot
namespace Go.Proofs.Ytaannebjpmdhjaa
set_option linter.unusedVariables false
set_option linter.unusedSimpArgs false
set_option maxRecDepth 20000
open Ieee Fl

theorem pow_cancel_eq {X Y c d k : Nat} (h : X * 2 ^ (c + k) = Y * 2 ^ (d + k)) : X * 2 ^ c = Y * 2 ^ d :=
  Nat.le_antisymm (pow_cancel.1 (Nat.le_of_eq h)) (pow_cancel.1 (Nat.le_of_eq h.symm))
/-- A finite float64 whose number a float32 holds. -/
theorem nar_exact {b r : Nat} (hf : Fl.Fin D b) (hr : r ≤ S.infRung) (h : U D (rg D b) = U S r * wide) : nar (some b) = some (S.word (sg D b) r) := by
  obtain ⟨m, k, hrd, hm⟩ := read_fin hf
  unfold nar
  rw [Option.map_some]
  congr 1
  show S.write (D.read b) = _
  rw [hrd]
  show S.nearest (sg D b) m (D.leastPlace + k) = _
  rw [nearest_eq]
  congr 1
  refine rnd_exact hr ?_
  rw [S_least, D_least]
  rw [← hm, wide_eq] at h
  refine pow_cancel_eq (k := min k 925) ?_
  have a1 : (-1074 + (k : Int) - -149).toNat + (min k 925) = k := by omega
  have a2 : ((-149 : Int) - (-1074 + k)).toNat + (min k 925) = 925 := by omega
  rw [a1, a2]
  exact h
theorem wid_inf {b : Nat} (hb : b < 2 ^ FloatKind.f32.format.width) (hi : FloatKind.f32.format.read b = .infinity (sg S b)) : nar (wid (some b)) = some b := by
  have hrg := rg_of_inf (k := .f32) hi
  have hw := word_of S hb
  have e : nar (wid (some b)) = some (S.write (D.read (D.write (S.read b)))) := rfl
  rw [e]
  have hi' : S.read b = .infinity (sg S b) := hi
  rw [hi']
  rw [show rg S b = S.infRung from hrg] at hw
  cases hs : sg S b
  · rw [hs] at hw
    rw [hw]
    decide +kernel
  · rw [hs] at hw
    rw [hw]
    decide +kernel
/-- Widened and narrowed, a float32 is what it was. -/
theorem nar_wid {b : Nat} {v : Option Nat} (h : IsF .f32 b v) : nar (wid v) = v := by
  rcases fin_cases h with rfl | ⟨rfl, hf⟩ | ⟨rfl, hi⟩
  · rfl
  · obtain ⟨h1, h2, h3⟩ := wid_fin hf
    have e : wid (some b) = some (D.write (S.read b)) := rfl
    have hr : rg S b ≤ S.infRung := Nat.le_of_lt hf
    rw [e, nar_exact h1 hr h3, h2, ← word_of S h.2]
  · exact wid_inf h.2 hi
theorem narOk_wid {b : Nat} {v : Option Nat} (h : IsF .f32 b v) : NarOk (wid v) := by
  rcases fin_cases h with rfl | ⟨rfl, hf⟩ | ⟨rfl, hi⟩
  · exact narOk_none
  · obtain ⟨h1, h2, h3⟩ := wid_fin hf
    refine narOk_fin h1 ?_
    show U D (rg D (D.write (S.read b))) ≤ _
    rw [h3]
    exact Nat.mul_le_mul_right _ (U_le (by have : rg S b < S.infRung := hf; omega))
  · rintro x hx
    left
    have hrg := rg_of_inf (k := .f32) hi
    have hw := word_of S h.2
    rw [show rg S b = S.infRung from hrg] at hw
    obtain rfl : D.write (S.read b) = x := Option.some.inj hx
    have hi' : S.read b = .infinity (sg S b) := hi
    rw [hi']
    cases sg S b <;> decide +kernel
end Go.Proofs.Ytaannebjpmdhjaa
