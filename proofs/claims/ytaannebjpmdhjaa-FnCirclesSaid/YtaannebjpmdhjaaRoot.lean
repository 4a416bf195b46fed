/-
  Bounds on values of float64, so that narrowing them is rounding: square roots. No program is in sight.
-/
import Derived.Test.YtaannebjpmdhjaaBits
namespace Go.Proofs.Ytaannebjpmdhjaa
set_option linter.unusedVariables false
set_option linter.unusedSimpArgs false
set_option maxRecDepth 20000
open Go.RowKit
namespace Fl
open Ieee

theorem S_least : S.leastPlace = -149 := by decide
theorem D_least : D.leastPlace = -1074 := by decide

/-- A power of two, kept folded. -/
def p2 (e : Nat) : Nat := 2 ^ e
theorem p2_eq (e : Nat) : p2 e = 2 ^ e := rfl
theorem p2_le {a b : Nat} (h : a ≤ b) : 2 ^ a ≤ p2 b := by rw [p2_eq]; exact Nat.pow_le_pow_right (by decide) h
theorem p2_lt {a b : Nat} (h : a < b) : 2 ^ a < p2 b := by rw [p2_eq]; exact Nat.pow_lt_pow_right (by decide) h
theorem le_p2 {a b : Nat} (h : a ≤ b) : p2 a ≤ 2 ^ b := by rw [p2_eq]; exact Nat.pow_le_pow_right (by decide) h
theorem U_D_inf : U D D.infRung = p2 2098 := by decide +kernel

/-- The greatest finite float32, in float64's units. -/
theorem narOk_fin {b : Nat} (hf : Fin D b) (h : U D (rg D b) ≤ U S (S.infRung - 1) * wide) : NarOk (some b) := by
  rintro x ⟨⟩
  right
  obtain ⟨m, k, hr, hm⟩ := read_fin hf
  show (S.read (S.write (D.read b))).isInfinity = false
  have hlt : rnd S m (D.leastPlace + k) ≤ S.infRung - 1 := by
    refine rnd_le ?_
    unfold LeU
    rw [S_least, D_least]
    rw [← hm, wide_eq] at h
    have e1 : m * 2 ^ ((-1074 + (k : Int) - -149).toNat + (min k 925)) ≤ U S (S.infRung - 1) * 2 ^ (((-149 : Int) - (-1074 + k)).toNat + (min k 925)) := by
      have a1 : (-1074 + (k : Int) - -149).toNat + (min k 925) = k := by omega
      have a2 : ((-149 : Int) - (-1074 + k)).toNat + (min k 925) = 925 := by omega
      rw [a1, a2]
      exact h
    exact pow_cancel.1 e1
  have hinf : 0 < S.infRung := by rw [S_inf]; omega
  have hfin : Fin S (S.write (D.read b)) := by
    rw [hr]
    show rg S (S.nearest (sg D b) m (D.leastPlace + k)) < S.infRung
    rw [rg_nearest]
    omega
  exact read_not_inf (k := .f32) hfin

theorem narOk_none : NarOk none := by rintro x ⟨⟩
theorem narOk_inf {b : Nat} {s : Bool} (h : D.read b = .infinity s) : NarOk (some b) := by
  rintro x ⟨⟩
  left
  show (D.read b).isInfinity = true
  rw [h]; rfl

/-- U of the rung of a power of two. -/
theorem U_pow2 {e : Nat} (h : e ≤ 2097) : ∃ r, U D r = 2 ^ e ∧ r ≤ D.infRung := by
  have hB : D.binade = 2 ^ 52 := by decide
  obtain ⟨r, hr⟩ := rung_of D 1 e (by rw [hB]; decide)
  rw [Nat.one_mul] at hr
  refine ⟨r, hr, ?_⟩
  refine le_of_U (f := D) ?_
  rw [hr, U_D_inf]
  exact p2_le (by omega)

theorem rootFrom_sq (n : Nat) : ∀ (todo root : Nat), root * root ≤ n → Datum.rootFrom n todo root * Datum.rootFrom n todo root ≤ n
  | 0, root, h => h
  | todo + 1, root, h => by
    unfold Datum.rootFrom
    dsimp only
    split
    · rename_i h1; exact rootFrom_sq n todo _ h1
    · exact rootFrom_sq n todo _ h

/-- A root of a number that is at most 2^(2E) is at most 2^(E+1). -/
theorem sqrt_le {b E : Nat} (hf : Fin D b) (hs : sg D b = false) (h : U D (rg D b) ≤ 2 ^ (1074 + 2 * E)) (hE : E ≤ 500) :
    ∃ r, sqrt (some b) = some r ∧ Fin D r ∧ sg D r = false ∧ U D (rg D r) ≤ 2 ^ (1075 + E) := by
  obtain ⟨m, k, hr, hm⟩ := read_fin hf
  rw [hs] at hr
  have hfb : D.fractionBits = 52 := by decide
  by_cases hm0 : m = 0
  · have hroot : (D.read b).root (D.fractionBits + 2) = some (.number false m (D.leastPlace + k)) := by rw [hr]; simp [Datum.root, hm0]
    refine ⟨D.write (.number false m (D.leastPlace + k)), ?_, ?_, sg_nearest .., ?_⟩
    · show Option.map D.write ((D.read b).root (D.fractionBits + 2)) = _; rw [hroot]; rfl
    · show rg D (D.nearest false m (D.leastPlace + k)) < D.infRung
      rw [rg_nearest, hm0]; unfold rnd; rw [if_pos rfl, D_inf]; decide
    · show U D (rg D (D.nearest false m (D.leastPlace + k))) ≤ _
      rw [rg_nearest, hm0]; unfold rnd; rw [if_pos rfl, U_zero]; exact Nat.zero_le _
  · have hmag := read_mag hr
    rw [D_binade] at hmag
    have hlog : m.log2 ≤ 52 := by
      have h1 : 2 ^ m.log2 ≤ m := Nat.log2_self_le hm0
      rcases Nat.lt_or_ge 52 m.log2 with h2 | h2
      · have : 2 ^ 53 ≤ 2 ^ m.log2 := Nat.pow_le_pow_right (by decide) h2
        have : (2 : Nat) ^ 53 = 9007199254740992 := by decide
        omega
      · exact h2
    have hk : k ≤ 2300 := by
      rcases Nat.lt_or_ge 2300 k with h2 | h2
      · exfalso
        have h3 : 2 ^ k ≤ m * 2 ^ k := Nat.le_mul_of_pos_left _ (by omega)
        have h6 : 2 ^ k ≤ 2 ^ (1074 + 2 * E) := by
          refine Nat.le_trans h3 ?_
          rw [hm]; exact h
        have h7 := (Nat.pow_le_pow_iff_right (a := 2) (by decide)).1 h6
        omega
      · exact h2
    generalize hmo : 2 * (D.fractionBits + 2) - m.log2 + ((D.leastPlace + (k : Int) - (2 * (D.fractionBits + 2) - m.log2 : Nat)) % 2).toNat = more
    generalize hw : Datum.rootFrom (m <<< more) ((m <<< more).log2 / 2 + 1) 0 = whole
    have hsq : whole * whole ≤ m <<< more := by rw [← hw]; exact rootFrom_sq _ _ _ (Nat.zero_le _)
    rw [Nat.shiftLeft_eq] at hsq
    generalize hst : (whole * whole != m <<< more).toNat = st
    have hst1 : st ≤ 1 := by rw [← hst]; cases (whole * whole != m <<< more) <;> decide
    rw [hfb, D_least] at hmo
    have hroot : (D.read b).root (D.fractionBits + 2) = some (.number false (2 * whole + st) ((D.leastPlace + k - more) / 2 - 1)) := by
      rw [hr]
      unfold Datum.root
      dsimp only
      rw [if_neg hm0]
      simp only [Bool.false_eq_true, if_false]
      rw [hfb, D_least]
      rw [hmo, hw, hst]
    have heven : (-1074 + (k : Int) - more) % 2 = 0 := by omega
    have hmore : more ≤ 109 := by omega
    obtain ⟨Q, hQ⟩ : ∃ Q : Nat, (D.leastPlace + (k : Int) - more) / 2 - 1 = -1074 + Q := ⟨((-1074 + (k : Int) - more) / 2 + 1073).toNat, by rw [D_least]; omega⟩
    rw [D_least] at hQ
    obtain ⟨c, hc⟩ : ∃ c : Nat, c = 1072 := ⟨_, rfl⟩
    have hQ2 : 2 * Q + more = k + c := by omega
    have hbound : whole * 2 ^ Q ≤ 2 ^ (1073 + E) := by
      rw [← Nat.mul_self_le_mul_self_iff]
      calc whole * 2 ^ Q * (whole * 2 ^ Q) = (whole * whole) * 2 ^ (2 * Q) := by rw [Nat.two_mul Q, Nat.pow_add]; simp [Nat.mul_assoc, Nat.mul_left_comm, Nat.mul_comm]
        _ ≤ (m * 2 ^ more) * 2 ^ (2 * Q) := Nat.mul_le_mul_right _ hsq
        _ = (m * 2 ^ k) * 2 ^ c := by rw [Nat.mul_assoc, Nat.mul_assoc, ← Nat.pow_add, ← Nat.pow_add]; congr 2; omega
        _ ≤ 2 ^ (1074 + 2 * E) * 2 ^ c := Nat.mul_le_mul_right _ (by rw [hm]; exact h)
        _ = 2 ^ (1073 + E) * 2 ^ (1073 + E) := by rw [← Nat.pow_add, ← Nat.pow_add]; congr 1; omega
    obtain ⟨r0, hr0, hr0i⟩ := U_pow2 (e := 1075 + E) (by omega)
    have hQp : 2 ^ Q ≤ 2 ^ (1073 + E) := by
      have h1 : 2 * Q ≤ 2 * (1073 + E) := by
        have h2 : 2 ^ k ≤ 2 ^ (1074 + 2 * E) := Nat.le_trans (Nat.le_mul_of_pos_left (2 ^ k) (show 0 < m by omega)) (by rw [hm]; exact h)
        have h3 : k ≤ 1074 + 2 * E := (Nat.pow_le_pow_iff_right (a := 2) (by decide)).1 h2
        omega
      exact Nat.pow_le_pow_right (by decide) (by omega)
    have hle : rnd D (2 * whole + st) (-1074 + Q) ≤ r0 := by
      refine rnd_le ?_
      unfold LeU
      rw [D_least, hr0]
      rw [show (-1074 + (Q : Int) - -1074).toNat = Q by omega, show ((-1074 : Int) - (-1074 + Q)).toNat = 0 by omega]
      calc (2 * whole + st) * 2 ^ Q = 2 * (whole * 2 ^ Q) + st * 2 ^ Q := by rw [Nat.add_mul, Nat.mul_assoc]
        _ ≤ 2 * 2 ^ (1073 + E) + 1 * 2 ^ (1073 + E) := Nat.add_le_add (Nat.mul_le_mul_left _ hbound) (Nat.mul_le_mul hst1 hQp)
        _ ≤ 4 * 2 ^ (1073 + E) := by omega
        _ = 2 ^ (1075 + E) * 2 ^ 0 := by rw [show 1075 + E = (1073 + E) + 2 by omega, Nat.pow_add 2 (1073 + E) 2, Nat.pow_zero, Nat.mul_one, Nat.mul_comm]
    have hfin : r0 < D.infRung := by
      refine lt_of_U (f := D) ?_
      rw [hr0, U_D_inf]
      exact p2_lt (by omega)
    have hwr : D.write (.number false (2 * whole + st) ((D.leastPlace + k - more) / 2 - 1)) = D.nearest false (2 * whole + st) (-1074 + Q) := by
      rw [← hQ, D_least]; rfl
    refine ⟨D.write (.number false (2 * whole + st) ((D.leastPlace + k - more) / 2 - 1)), ?_, ?_, ?_, ?_⟩
    · show Option.map D.write ((D.read b).root (D.fractionBits + 2)) = _; rw [hroot]; rfl
    · rw [hwr]; unfold Fin; rw [rg_nearest]; omega
    · rw [hwr]; exact sg_nearest ..
    · rw [hwr, rg_nearest, ← hr0]; exact U_le hle

theorem narOk_pow {b E : Nat} (hf : Fin D b) (h : U D (rg D b) ≤ 2 ^ (1074 + E)) (hE : E ≤ 127) : NarOk (some b) := by
  refine narOk_fin hf (Nat.le_trans h ?_)
  have h1 : 2 ^ (1074 + E) ≤ p2 1201 := p2_le (by omega)
  have h2 : p2 1201 ≤ U S (S.infRung - 1) * wide := by decide +kernel
  exact Nat.le_trans h1 h2

/-- A root of a float32 is not too great for a float32. -/
theorem narOk_sqrt {b r : Nat} {v : Option Nat} (h : IsF .f32 b v) (hr : IsF .f64 r (wid v)) : NarOk (sqrt (wid v)) := by
  rcases fin_cases h with rfl | ⟨rfl, hf⟩ | ⟨rfl, hi⟩
  · exact narOk_none
  · obtain ⟨h1, h2, h3⟩ := wid_fin hf
    have hw : wid (some b) = some (D.write (S.read b)) := rfl
    rw [hw] at hr ⊢
    generalize D.write (S.read b) = c at *
    have hU : ∀ E, E = 64 → U D (rg D c) ≤ 2 ^ (1074 + 2 * E) := by
      intro E hE
      rw [h3]
      have : U S (rg S b) ≤ U S S.infRung := U_le (Nat.le_of_lt hf)
      have h9 : U S S.infRung * wide ≤ p2 1202 := by decide +kernel
      exact Nat.le_trans (Nat.mul_le_mul_right _ this) (Nat.le_trans h9 (le_p2 (a := 1202) (by omega)))
    cases hs : sg D c
    · obtain ⟨E, hE⟩ : ∃ E : Nat, E = 64 := ⟨_, rfl⟩
      obtain ⟨q, hq, hqf, _, hqU⟩ := sqrt_le h1 hs (hU E hE) (by omega)
      rw [hq]
      exact narOk_pow (E := 1 + E) hqf (by rw [← Nat.add_assoc]; exact hqU) (by omega)
    · obtain ⟨m, k, hrd, hm⟩ := read_fin h1
      rw [hs] at hrd
      by_cases hm0 : m = 0
      · have : sqrt (some c) = some (D.write (.number true m (D.leastPlace + k))) := by
          show Option.map _ ((D.read c).root (D.fractionBits + 2)) = _
          rw [hrd]; simp [Datum.root, hm0]; rfl
        rw [this]
        have hfin : Fin D (D.write (.number true m (D.leastPlace + k))) := by
          show rg D (D.nearest true m (D.leastPlace + k)) < D.infRung
          rw [rg_nearest, hm0]; unfold rnd; rw [if_pos rfl, D_inf]; decide
        refine narOk_pow (E := 0) hfin ?_ (by decide)
        show U D (rg D (D.nearest true m (D.leastPlace + k))) ≤ _
        rw [rg_nearest, hm0]; unfold rnd; rw [if_pos rfl, U_zero]; exact Nat.zero_le _
      · have : sqrt (some c) = none := by
          show Option.map _ ((D.read c).root (D.fractionBits + 2)) = _
          rw [hrd]; simp [Datum.root, hm0]
        rw [this]
        exact narOk_none
  · have hw : wid (some b) = some (D.write (.infinity (sg S b))) := by
      show some (D.write (S.read b)) = _
      rw [show S.read b = .infinity (sg S b) from hi]
    rw [hw]
    cases sg S b
    · have : sqrt (some (D.write (.infinity false))) = some (D.write (.infinity false)) := by decide +kernel
      rw [this]
      exact narOk_inf (s := false) (by decide +kernel)
    · have : sqrt (some (D.write (.infinity true))) = none := by decide +kernel
      rw [this]
      exact narOk_none

theorem sqrt_num {v : Option Nat} {r : Nat} (h : sqrt v = some r) : IsF .f64 r (some r) := by
  cases v with
  | none => cases h
  | some x => exact map_write_num (fun e he => root_num _ _ _ he) h
section
variable {P : Program} (w : World)
theorem run_sqrt {b : Nat} {v : Option Nat} (h : IsF .f64 b v) : ∃ r n, (Extern.MathSqrt.sqrt #[.float .f64 b]).run P w = .ok (.float .f64 r) (w.drewN n) ∧ IsF .f64 r (sqrt v) := by
  have hb : FloatKind.f64.format.sqrt b = sqrt v := by
    cases v with
    | none =>
      obtain ⟨s, t, he⟩ := read_nan h.nan
      show Option.map _ ((FloatKind.f64.format.read b).root _) = none
      rw [he]; rfl
    | some x => obtain ⟨rfl, _⟩ := h.num; rfl
  cases hr : sqrt v with
  | some r =>
    rw [hr] at hb
    refine ⟨r, 0, ?_, sqrt_num hr⟩
    show Sem.run P (match FloatKind.f64.format.sqrt b with
      | some r => (pure (Value.float .f64 r) : Sem Value)
      | none => (do pure (Value.float .f64 (← choose (.nanBits .f64 b b))) : Sem Value)) w = _
    rw [hb]
    rfl
  | none =>
    rw [hr] at hb
    have hc := run_choose (P := P) w (.nanBits .f64 b b) rfl
    refine ⟨_, 1, ?_, nan_cut (.nanBits .f64 b b) .f64 (.inl ⟨b, b, rfl⟩) (w.tape w.drawn (.nanBits .f64 b b))⟩
    show Sem.run P (match FloatKind.f64.format.sqrt b with
      | some r => (pure (Value.float .f64 r) : Sem Value)
      | none => (do pure (Value.float .f64 (← choose (.nanBits .f64 b b))) : Sem Value)) w = _
    rw [hb]
    simp only [Sem.run_bind, Sem.run_pure, Result.andThen_ok, hc, World.drew_is_drewN]
end
end Fl
end Go.Proofs.Ytaannebjpmdhjaa
