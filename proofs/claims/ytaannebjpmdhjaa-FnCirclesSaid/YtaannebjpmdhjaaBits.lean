/-
  Masks of bits, signs and absolute values of floats, subnormal numbers. No program is in sight.
-/
import Derived.Test.YtaannebjpmdhjaaVal
namespace Go.Proofs.Ytaannebjpmdhjaa
set_option linter.unusedVariables false
set_option linter.unusedSimpArgs false
set_option maxRecDepth 20000
open Go.RowKit
namespace Fl
open Ieee

/-- The lowest 63 bits. -/
def low63 (b : Nat) : Nat := b % 9223372036854775808
theorem andNot63 (b : Nat) (h : b < 18446744073709551616) : bits .andNot .u64 (b : Int) 9223372036854775808 = ((low63 b : Nat) : Int) := by
  have e := u64_andNot_nat b 9223372036854775808 h (by decide)
  have e2 : b &&& (18446744073709551615 - 9223372036854775808) = low63 b := Nat.and_two_pow_sub_one_eq_mod b 63
  rw [e2] at e
  exact e

theorem ofInt_i64 (a : Nat) (ha : a < 9223372036854775808) : (BitVec.ofInt 64 (a : Int)).toNat = a := by
  rw [BitVec.ofInt_natCast, BitVec.toNat_ofNat]; exact Nat.mod_eq_of_lt (by omega)
theorem i64_and_nat (a b : Nat) (ha : a < 9223372036854775808) (hb : b < 9223372036854775808) : bits .and .i64 (a : Int) (b : Int) = ((a &&& b : Nat) : Int) := by
  have hx : a &&& b < 2 ^ 63 := Nat.and_lt_two_pow _ (by omega)
  show IntKind.i64.wrap ((BitVec.ofInt 64 (a : Int) &&& BitVec.ofInt 64 (b : Int)).toNat : Int) = _
  rw [BitVec.toNat_and, ofInt_i64 a ha, ofInt_i64 b hb, IntKind.wrap_i64]
  omega

theorem mask_exp (b : Nat) : b &&& 2139095040 = (b / 8388608 % 256) * 8388608 := by
  have e : 2139095040 = 255 * 2 ^ 23 := rfl
  have e3 : b / 8388608 % 256 = (b >>> 23) &&& 255 := by
    rw [Nat.shiftRight_eq_div_pow]
    exact (Nat.and_two_pow_sub_one_eq_mod _ 8).symm
  rw [e, e3]
  show _ = _ * 2 ^ 23
  apply Nat.eq_of_testBit_eq
  intro j
  rw [Nat.testBit_and, Nat.testBit_mul_two_pow, Nat.testBit_mul_two_pow, Nat.testBit_and, Nat.testBit_shiftRight]
  by_cases hj : 23 ≤ j
  · rw [show 23 + (j - 23) = j by omega]
    simp [hj]
  · simp [hj]

theorem S_binade : S.binade = 8388608 := by decide
theorem S_sw : S.signWeight = 2147483648 := by decide
theorem S_inf : S.infRung = 2139095040 := by decide
theorem D_binade : D.binade = 4503599627370496 := by decide
theorem D_sw : D.signWeight = 9223372036854775808 := by decide
theorem D_inf : D.infRung = 9218868437227405312 := by decide

theorem mask_exp_zero {b : Nat} : (b &&& 2139095040 = 0) ↔ rg S b < S.binade := by
  rw [mask_exp, S_binade]
  unfold rg
  rw [S_sw]
  omega

/-- The absolute value. -/
def absF (v : Option Nat) : Option Nat := v.map low63
theorem low63_lt (b : Nat) : low63 b < 9223372036854775808 := Nat.mod_lt _ (by decide)
theorem isF_abs {b : Nat} {v : Option Nat} (h : IsF .f64 b v) : IsF .f64 (low63 b) (absF v) := by
  have h1 : (FloatKind.f64.format.read (low63 b)).isNaN = (FloatKind.f64.format.read b).isNaN := by
    refine isNaN_mod _ _ _ ?_
    show low63 b % D.signWeight = b % D.signWeight
    rw [D_sw]
    unfold low63
    omega
  have h2 : low63 b < 2 ^ FloatKind.f64.format.width := by
    have := low63_lt b
    show low63 b < 2 ^ 64
    omega
  cases v with
  | none => exact IsF.lit_nan ⟨by rw [h1]; exact h.nan, h2⟩
  | some x =>
    obtain ⟨rfl, hx⟩ := h.num
    exact IsF.lit ⟨by rw [h1]; exact hx, h2⟩
theorem sg_low63 (b : Nat) : sg D (low63 b) = false := by
  have := low63_lt b
  unfold sg
  rw [D_sw, Nat.div_eq_of_lt this]
  rfl
theorem rg_low63 (b : Nat) : rg D (low63 b) = rg D b := by
  unfold rg low63
  rw [D_sw]
  omega
theorem I_low63 (b : Nat) : I D (low63 b) = (U D (rg D b) : Int) := by
  unfold I
  rw [sg_low63, rg_low63]
  rfl

/-- Subnormal: not zero, and the exponent's bits are. -/
def subF (v : Option Nat) : Bool := match v with | none => false | some b => decide (0 < rg S b ∧ rg S b < S.binade)

theorem U_zero (f : Format) : U f 0 = 0 := by unfold U; rw [if_pos (binade_pos f)]
theorem U_eq_zero {f : Format} {r : Nat} : U f r = 0 ↔ r = 0 := by
  constructor
  · intro h
    rcases Nat.eq_zero_or_pos r with h0 | h0
    · exact h0
    · have := U_lt (f := f) h0; rw [U_zero] at this; omega
  · intro h; subst h; exact U_zero f
theorem I_eq_zero {f : Format} {b : Nat} : I f b = 0 ↔ rg f b = 0 := by
  unfold I
  split
  · rw [← U_eq_zero (f := f)]; omega
  · rw [← U_eq_zero (f := f)]; omega
theorem rg_zero (f : Format) : rg f 0 = 0 := Nat.zero_mod _
theorem I_zero (f : Format) : I f 0 = 0 := I_eq_zero.2 (rg_zero f)
theorem Fin_zero (k : FloatKind) : Fin k.format 0 := by unfold Fin; rw [rg_zero]; cases k <;> decide

/-- Compared with zero. -/
theorem cmp_zero {k : FloatKind} {b : Nat} (hf : Fin k.format b) : ord k (some b) (some 0) = some (compare (I k.format b) 0) := by
  show k.format.order b 0 = _
  rw [order_fin hf (Fin_zero k), I_zero]
theorem cmp_zero_inf {k : FloatKind} {b : Nat} {s : Bool} (hi : k.format.read b = .infinity s) : ord k (some b) (some 0) = some (if s then .lt else .gt) := by
  show Datum.order _ _ = _
  obtain ⟨m, j, hr, _⟩ := read_fin (Fin_zero k)
  rw [hi, hr]
  rfl


theorem fin_cases {k : FloatKind} {b : Nat} {v : Option Nat} (h : IsF k b v) : v = none ∨ (v = some b ∧ Fin k.format b) ∨ (v = some b ∧ k.format.read b = .infinity (sg k.format b)) := by
  rcases fin_or h with h | ⟨h1, h | h⟩
  · exact .inl h
  · exact .inr (.inl ⟨h1, h⟩)
  · exact .inr (.inr ⟨h1, h⟩)

theorem rg_of_inf {k : FloatKind} {b : Nat} {s : Bool} (h : k.format.read b = .infinity s) : rg k.format b = k.format.infRung := by
  have h1 : (k.format.read b).isNaN = false := by rw [h]; rfl
  have h2 := not_nan h1
  rcases Nat.lt_or_ge (rg k.format b) k.format.infRung with h3 | h3
  · obtain ⟨m, j, hr, _⟩ := read_fin (f := k.format) h3
    rw [hr] at h; cases h
  · omega

theorem c126 : U D (rg D 4039728865751334912) = U S S.binade * wide := by decide +kernel

/-- 'x != 0'. -/
theorem neq_zero {b : Nat} {v : Option Nat} (h : IsF .f32 b v) : cmpF .neq .f32 v (some 0) = match v with | none => true | some b => decide (rg S b ≠ 0) := by
  rcases fin_cases h with rfl | ⟨rfl, hf⟩ | ⟨rfl, hi⟩
  · rfl
  · simp only [cmpF, cmp_zero hf]
    have : I FloatKind.f32.format b = 0 ↔ rg S b = 0 := I_eq_zero
    by_cases h0 : rg S b = 0
    · rw [this.2 h0]; simp [h0]
    · have h1 : I FloatKind.f32.format b ≠ 0 := fun e => h0 (this.1 e)
      simp [h0, h1]
  · simp only [cmpF, cmp_zero_inf hi]
    have := rg_of_inf hi
    have h2 : rg S b ≠ 0 := by rw [show rg S b = S.infRung from this, S_inf]; decide
    cases sg FloatKind.f32.format b <;> simp [h2]

theorem abs_small {b r : Nat} {v : Option Nat} (h : IsF .f32 b v) (hr : IsF .f64 r (wid v)) :
    cmpF .lss .f64 (absF (wid v)) (some 4039728865751334912) = match v with | none => false | some b => decide (rg S b < S.binade) := by
  rcases fin_cases h with rfl | ⟨rfl, hf⟩ | ⟨rfl, hi⟩
  · rfl
  · obtain ⟨h1, h2, h3⟩ := wid_fin hf
    have hw : wid (some b) = some (D.write (S.read b)) := rfl
    rw [hw]
    generalize D.write (S.read b) = c at *
    have hfa : Fin D (low63 c) := by unfold Fin; rw [rg_low63]; exact h1
    have hfc : Fin D 4039728865751334912 := by unfold Fin; decide
    have e : ord .f64 (absF (some c)) (some 4039728865751334912) = some (compare (I D (low63 c)) (I D 4039728865751334912)) := order_fin hfa hfc
    have hI : I D 4039728865751334912 = (U S S.binade * wide : Nat) := by
      unfold I
      rw [show sg D 4039728865751334912 = false by decide, c126]
      rfl
    simp only [cmpF, e]
    rw [I_low63, h3, hI]
    have hwp := wide_pos
    by_cases hlt : rg S b < S.binade
    · have hU : U S (rg S b) < U S S.binade := U_lt hlt
      have : U S (rg S b) * wide < U S S.binade * wide := Nat.mul_lt_mul_of_pos_right hU hwp
      rw [Int.compare_eq_lt.2 (by omega)]
      simp [hlt]
    · have hU : U S S.binade ≤ U S (rg S b) := U_le (by omega)
      have : U S S.binade * wide ≤ U S (rg S b) * wide := Nat.mul_le_mul_right _ hU
      have hne : (some (compare ((U S (rg S b) * wide : Nat) : Int) ((U S S.binade * wide : Nat) : Int)) == some Ordering.lt) = false := by
        rw [beq_eq_false_iff_ne, Ne, Option.some.injEq, Int.compare_eq_lt]; omega
      rw [hne]
      simp [hlt]
  · have hrg := rg_of_inf hi
    have h2 : ¬ rg S b < S.binade := by rw [show rg S b = S.infRung from hrg, S_inf, S_binade]; decide
    have hw : wid (some b) = some (D.write (.infinity (sg S b))) := by
      show some (D.write (S.read b)) = _
      rw [show S.read b = .infinity (sg S b) from hi]
    rw [hw]
    cases sg S b <;> simp [h2] <;> decide

theorem subF_eq {b r : Nat} {v : Option Nat} (h : IsF .f32 b v) (hr : IsF .f64 r (wid v)) :
    (cmpF .neq .f32 v (some 0) && cmpF .lss .f64 (absF (wid v)) (some 4039728865751334912)) = subF v := by
  rw [neq_zero h, abs_small h hr]
  cases v with
  | none => rfl
  | some x =>
    simp only [subF]
    rw [Bool.eq_iff_iff]
    simp
    omega

/-- The same number: the same bits, all NaNs being one. -/
theorem same_bits {a b : Nat} {u v : Option Nat} (hu : IsF .f32 a u) (hv : IsF .f32 b v) :
    (bitsI u == bitsI v) = decide (u = v) := by
  unfold bitsI
  cases u with
  | none =>
    cases v with
    | none => simp
    | some y =>
      obtain ⟨rfl, hy⟩ := hv.num
      have hne : b ≠ 2143289344 := by
        rintro rfl
        exact absurd hy (by decide)
      simp
      omega
  | some x =>
    obtain ⟨rfl, hx⟩ := hu.num
    cases v with
    | none =>
      have hne : a ≠ 2143289344 := by
        rintro rfl
        exact absurd hx (by decide)
      simp
      omega
    | some y =>
      rw [Bool.eq_iff_iff]
      simp
      omega

/-- Equal, and of one sign. -/
theorem same_eq {k : FloatKind} {a b : Nat} (ha : IsF k a (some a)) (hb : IsF k b (some b)) (hs : sg k.format a = sg k.format b) : cmpF .eql k (some a) (some b) = decide (a = b) := by
  by_cases hab : a = b
  · subst hab
    simp [cmpF, ord_refl ha]
  have key : k.format.order a b ≠ some .eq := by
    intro he
    apply hab
    refine eq_of_parts ha.2 hb.2 hs ?_
    rcases fin_cases ha with h | ⟨_, hfa⟩ | ⟨_, hia⟩
    · cases h
    · rcases fin_cases hb with h | ⟨_, hfb⟩ | ⟨_, hib⟩
      · cases h
      · rw [order_fin hfa hfb] at he
        have : I k.format a = I k.format b := by simpa using he
        unfold I at this
        rw [hs] at this
        apply U_inj (f := k.format)
        split at this <;> omega
      · obtain ⟨m, j, hr, _⟩ := read_fin hfa
        unfold Format.order at he
        rw [hr, hib] at he
        simp only [Datum.order] at he
        split at he <;> simp at he
    · rcases fin_cases hb with h | ⟨_, hfb⟩ | ⟨_, hib⟩
      · cases h
      · obtain ⟨m, j, hr, _⟩ := read_fin hfb
        unfold Format.order at he
        rw [hr, hia] at he
        simp only [Datum.order] at he
        split at he <;> simp at he
      · rw [rg_of_inf hia, rg_of_inf hib]
  have : cmpF .eql k (some a) (some b) = (k.format.order a b == some .eq) := rfl
  rw [this]
  simp [hab, key]

/-- A float32's sign bit is that of its float64. -/
theorem sg_wid {b r : Nat} (h : IsF .f32 b (some b)) (hr : IsF .f64 r (wid (some b))) : sg D r = sg S b := by
  have hw : wid (some b) = some (D.write (S.read b)) := rfl
  rw [hw] at hr
  obtain ⟨rfl, _⟩ := hr.num
  rcases fin_cases h with h | ⟨_, hf⟩ | ⟨_, hi⟩
  · cases h
  · exact (wid_fin hf).2.1
  · rw [show S.read b = .infinity (sg S b) from hi]
    exact sg_word D _ D.infRung_lt

end Fl
end Go.Proofs.Ytaannebjpmdhjaa
