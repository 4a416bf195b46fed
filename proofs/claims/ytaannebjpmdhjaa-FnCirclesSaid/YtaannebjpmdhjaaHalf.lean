/-
  Half of a number: what is multiplied by 0.5 is what is divided by 2. No program is in sight.
-/
import Derived.Test.YtaannebjpmdhjaaBits
namespace Go.Proofs.Ytaannebjpmdhjaa
set_option linter.unusedVariables false
set_option linter.unusedSimpArgs false
set_option maxRecDepth 20000
open Go.RowKit Fl
namespace Fl
open Ieee
theorem log2_two_mul {n : Nat} (h : n ≠ 0) : (2 * n).log2 = n.log2 + 1 := by
  rw [Nat.log2_def (2 * n), if_pos (by omega)]
  congr 1
  rw [show 2 * n / 2 = n by omega]
theorem cut_double {s : Bool} {n d : Nat} (h : n ≠ 0) : Toward.even.cut s (2 * n) (d + 1) = Toward.even.cut s n d := by
  unfold Toward.cut
  rw [log2_two_mul h, show min (d + 1) (n.log2 + 1 + 2) = min d (n.log2 + 2) + 1 by omega]
  generalize min d (n.log2 + 2) = e
  have hg : 1 <<< (e + 1) = 2 * (1 <<< e) := by simp [Nat.shiftLeft_eq, Nat.pow_succ]; omega
  have hp : 0 < 1 <<< e := by rw [Nat.shiftLeft_eq, Nat.one_mul]; exact Nat.two_pow_pos e
  rw [hg]
  generalize 1 <<< e = g at *
  have d1 : 2 * n / (2 * g) = n / g := Nat.mul_div_mul_left _ _ (by omega)
  have d2 : 2 * n % (2 * g) = 2 * (n % g) := Nat.mul_mod_mul_left _ _ _
  simp only [d1, d2]
  have e1 : decide (2 * g < 2 * (2 * (n % g))) = decide (g < 2 * (n % g)) := by rw [decide_eq_decide]; omega
  have e2 : ((2 * g == 2 * (2 * (n % g))) : Bool) = (g == 2 * (n % g)) := by rw [Bool.eq_iff_iff, beq_iff_eq, beq_iff_eq]; omega
  rw [e1, e2]
theorem rnd_double {f : Format} {mag : Nat} {place : Int} : rnd f (2 * mag) place = rnd f mag (place + 1) := by
  unfold rnd
  by_cases h : mag = 0
  · subst h; rfl
  · rw [if_neg (by omega), if_neg h, log2_two_mul h]
    have hl : max (place + ((mag.log2 + 1 : Nat) : Int) - f.fractionBits) f.leastPlace = max (place + 1 + (mag.log2 : Int) - f.fractionBits) f.leastPlace := by
      congr 2; omega
    simp only [hl]
    generalize max (place + 1 + (mag.log2 : Int) - f.fractionBits) f.leastPlace = last
    congr 2
    by_cases hp : place + 1 ≤ last
    · rw [show (place - last).toNat = 0 by omega, show (place + 1 - last).toNat = 0 by omega, show (last - place).toNat = (last - (place + 1)).toNat + 1 by omega]
      simp only [Nat.shiftLeft_zero]
      exact cut_double h
    · rw [show (last - place).toNat = 0 by omega, show (last - (place + 1)).toNat = 0 by omega, show (place + 1 - last).toNat = (place - last).toNat + 1 by omega]
      first | (congr 1; done) | (simp only [Nat.shiftLeft_eq, Nat.pow_succ]; rw [Nat.mul_comm 2 mag, Nat.mul_assoc, Nat.mul_comm 2])
theorem rnd_shift {f : Format} (t : Nat) : ∀ {mag : Nat} {place : Int}, rnd f (mag * 2 ^ t) place = rnd f mag (place + t) := by
  induction t with
  | zero => intro mag place; simp
  | succ t ih =>
    intro mag place
    rw [Nat.pow_succ, ← Nat.mul_assoc, Nat.mul_comm, rnd_double, ih]
    congr 1
    omega
theorem half_lit : FloatKind.f32.format.read 1056964608 = .number false (2 ^ 23) (-24) := by decide +kernel
theorem two_lit : FloatKind.f32.format.read 1073741824 = .number false (2 ^ 23) (-22) := by decide +kernel
theorem mag_lt {b m : Nat} {s : Bool} {p : Int} (h : FloatKind.f32.format.read b = .number s m p) : m < 2 ^ 24 := by
  have h1 := read_mag h
  have e : 2 * FloatKind.f32.format.binade = 2 ^ 24 := by decide +kernel
  rw [e] at h1
  exact h1
theorem half_eq (v : Option Nat) : ar .mul .f32 (some 1056964608) v = ar .quo .f32 v (some 1073741824) := by
  cases v with
  | none => rfl
  | some b =>
    show floatBits .mul .f32 1056964608 b = floatBits .quo .f32 b 1073741824
    simp only [floatBits, Format.mul, Format.div, half_lit, two_lit]
    cases hb : FloatKind.f32.format.read b with
    | nan s t => simp [Datum.product, Datum.quotient]
    | infinity s => simp [Datum.product, Datum.quotient]
    | number s m i =>
      have hm := mag_lt hb
      simp only [Datum.product, Datum.quotient]
      rw [if_neg (by decide)]
      simp only [Option.map_some, Option.some.injEq, Format.write]
      rw [nearest_eq, nearest_eq, Bool.false_xor, Bool.xor_false]
      congr 1
      by_cases h0 : m = 0
      · subst h0; simp [rnd]
      have hl : m.log2 < 24 := (Nat.log2_lt h0).2 hm
      have hlog : (2 ^ 23).log2 = 23 := by decide +kernel
      rw [hlog]
      have hf : FloatKind.f32.format.fractionBits = 23 := rfl
      rw [hf]
      obtain ⟨e, he⟩ : ∃ e, 23 + 2 + 23 - m.log2 = e + 23 := ⟨25 - m.log2, by omega⟩
      rw [he, Nat.shiftLeft_eq, Nat.pow_add, ← Nat.mul_assoc, Nat.mul_div_cancel _ (Nat.two_pow_pos 23), Nat.mul_mod_left]
      rw [show ((0 != 0 : Bool)).toNat = 0 from rfl, Nat.add_zero, Nat.mul_comm (2 ^ 23) m, show 2 * (m * 2 ^ e) = m * 2 ^ (e + 1) by rw [Nat.pow_succ, Nat.mul_comm 2, Nat.mul_assoc], rnd_shift, rnd_shift]
      congr 1
      omega
end Fl
end Go.Proofs.Ytaannebjpmdhjaa
