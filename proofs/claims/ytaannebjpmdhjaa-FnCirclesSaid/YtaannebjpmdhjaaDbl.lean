/-
  Doubling and halving a positive float64 is exact; a logarithm's reduced argument; comparisons of positive floats are those of their bits. No program is in sight.
-/
import Derived.Test.YtaannebjpmdhjaaMag
namespace Go.Proofs.Ytaannebjpmdhjaa
set_option linter.unusedVariables false
set_option linter.unusedSimpArgs false
set_option maxRecDepth 20000
open Go.RowKit
namespace Fl
open Ieee

theorem two_litD : D.read 4611686018427387904 = .number false (2 ^ 52) (-51) := by decide +kernel
/-- A positive normal word. -/
def Nrm (b : Nat) : Prop := D.binade ≤ b ∧ b < D.infRung
theorem read_nrm {b : Nat} (h : Nrm b) : D.read b = .number false (D.binade + b % D.binade) (D.leastPlace + (b / D.binade - 1 : Nat)) := by
  obtain ⟨h1, h2⟩ := h
  have h3 := D.infRung_lt
  have h4 : b % D.signWeight = b := Nat.mod_eq_of_lt (by omega)
  have h5 : b / D.signWeight = 0 := Nat.div_eq_of_lt (by omega)
  unfold Format.read
  simp only [h4, h5]
  rw [if_neg (by omega), if_pos h2]
  rfl
theorem Nrm.fin {b : Nat} (h : Nrm b) : Fin D b ∧ sg D b = false ∧ rg D b = b := by
  obtain ⟨h1, h2⟩ := h
  have h3 := D.infRung_lt
  have h4 : rg D b = b := by unfold rg; exact Nat.mod_eq_of_lt (by omega)
  refine ⟨by unfold Fin; rw [h4]; exact h2, ?_, h4⟩
  unfold sg
  rw [Nat.div_eq_of_lt (by omega)]
  rfl
theorem Nrm.U {b : Nat} (h : Nrm b) : Fl.U D b = (D.binade + b % D.binade) * 2 ^ (b / D.binade - 1) := by
  unfold Fl.U
  rw [if_neg (by have := h.1; omega)]
theorem word_false (f : Format) (r : Nat) : f.word false r = r := rfl

theorem dbl {b : Nat} (h : Nrm b) (h' : b + D.binade < D.infRung) : ar .mul .f64 (some b) (some 4611686018427387904) = some (b + D.binade) := by
  show ((D.read b).product (D.read 4611686018427387904)).map D.write = _
  have hB := binade_pos D
  have hB2 : D.binade = 2 ^ 52 := rfl
  rw [read_nrm h, two_litD]
  simp only [Datum.product, Option.map_some, Option.some.injEq]
  show D.nearest _ _ _ = _
  rw [nearest_eq, Bool.xor_false, word_false, rnd_shift]
  refine rnd_exact (Nat.le_of_lt h') ?_
  have h1 : 1 ≤ b / D.binade := (Nat.one_le_div_iff hB).2 h.1
  have h2 : Nrm (b + D.binade) := ⟨by have := h.1; omega, h'⟩
  rw [h2.U, Nat.add_mod_right, Nat.add_div_right _ hB]
  rw [show (D.leastPlace + ((b / D.binade - 1 : Nat) : Int) + -51 + ((52 : Nat) : Int) - D.leastPlace).toNat = b / D.binade by omega, show (D.leastPlace - (D.leastPlace + ((b / D.binade - 1 : Nat) : Int) + -51 + ((52 : Nat) : Int))).toNat = 0 by omega]
  rw [Nat.pow_zero, Nat.mul_one]
  congr 1

theorem hlv {b : Nat} (h : Nrm b) (h' : D.binade ≤ b - D.binade) : ar .quo .f64 (some b) (some 4611686018427387904) = some (b - D.binade) := by
  show ((D.read b).quotient (D.fractionBits + 2) (D.read 4611686018427387904)).map D.write = _
  have hB := binade_pos D
  have hB2 : D.binade = 2 ^ 52 := rfl
  rw [read_nrm h, two_litD]
  have h2 : Nrm (b - D.binade) := ⟨h', by have := h.2; omega⟩
  have hm := Nat.mod_lt b hB
  obtain ⟨m, hmd⟩ : ∃ m, m = D.binade + b % D.binade := ⟨_, rfl⟩
  rw [← hmd]
  have hl : m.log2 = 52 := by
    have h4 : m ≠ 0 := by omega
    have h5 : m.log2 < 53 := (Nat.log2_lt h4).2 (by rw [hmd, hB2] at *; omega)
    have h6 : 52 ≤ m.log2 := (Nat.le_log2 h4).2 (by rw [hmd, hB2]; omega)
    omega
  have hl2 : (2 ^ 52 : Nat).log2 = 52 := by decide +kernel
  simp only [Datum.quotient]
  rw [if_neg (by decide), hl, hl2]
  have hf : D.fractionBits = 52 := rfl
  rw [hf]
  simp only [Option.map_some, Option.some.injEq]
  show D.nearest _ _ _ = _
  rw [nearest_eq, Bool.xor_false, word_false]
  have e1 : m <<< (52 + 2 + 52 - 52) = m * 4 * 2 ^ 52 := by rw [Nat.shiftLeft_eq, Nat.mul_assoc]
  rw [e1, Nat.mul_div_cancel _ (Nat.two_pow_pos 52), Nat.mul_mod_left]
  rw [show ((0 != 0 : Bool)).toNat = 0 from rfl, Nat.add_zero, show 2 * (m * 4) = m * 2 ^ 3 by omega, rnd_shift]
  refine rnd_exact (Nat.le_of_lt h2.2) ?_
  have h1 : 2 ≤ b / D.binade := (Nat.le_div_iff_mul_le hB).2 (by omega)
  rw [h2.U]
  have e2 : (b - D.binade) % D.binade = b % D.binade := by
    conv => rhs; rw [show b = b - D.binade + D.binade by omega, Nat.add_mod_right]
  have e3 : (b - D.binade) / D.binade = b / D.binade - 1 := by
    have := Nat.add_div_right (b - D.binade) hB
    rw [show b - D.binade + D.binade = b by omega] at this
    omega
  rw [e2, e3, ← hmd]
  rw [show (D.leastPlace + ((b / D.binade - 1 : Nat) : Int) - -51 - ((52 + 2 + 52 - 52 : Nat) : Int) - 1 + ((3 : Nat) : Int) - D.leastPlace).toNat = b / D.binade - 1 - 1 by omega]
  rw [show (D.leastPlace - (D.leastPlace + ((b / D.binade - 1 : Nat) : Int) - -51 - ((52 + 2 + 52 - 52 : Nat) : Int) - 1 + ((3 : Nat) : Int))).toNat = 0 by omega]
  rw [Nat.pow_zero, Nat.mul_one]

/-- Positive words are compared as numbers. -/
theorem ord_pos {a b : Nat} (ha : a < D.infRung) (hb : b < D.infRung) : ord .f64 (some a) (some b) = some (compare (a : Int) (b : Int)) := by
  have hi := D.infRung_lt
  have key : ∀ c, c < D.infRung → Fin D c ∧ I D c = (U D c : Int) := by
    intro c hc
    have h4 : rg D c = c := by unfold rg; exact Nat.mod_eq_of_lt (by omega)
    refine ⟨by unfold Fin; rw [h4]; exact hc, ?_⟩
    unfold I
    have : sg D c = false := by unfold sg; rw [Nat.div_eq_of_lt (by omega)]; rfl
    rw [this, h4]; rfl
  obtain ⟨fa, ia⟩ := key a ha
  obtain ⟨fb, ib⟩ := key b hb
  show FloatKind.f64.format.order a b = _
  rw [D_eq, order_fin fa fb, ia, ib]
  congr 1
  rcases Nat.lt_trichotomy a b with h | h | h
  · rw [Int.compare_eq_lt.2 (by have := U_lt (f := D) h; omega), Int.compare_eq_lt.2 (by omega)]
  · subst h; simp
  · rw [Int.compare_eq_gt.2 (by have := U_lt (f := D) h; omega), Int.compare_eq_gt.2 (by omega)]
theorem lt_pos {a b : Nat} (ha : a < D.infRung) (hb : b < D.infRung) : cmpF .lss .f64 (some a) (some b) = decide (a < b) := by
  unfold cmpF
  simp only [ord_pos ha hb]
  rcases Nat.lt_trichotomy a b with h | h | h
  · rw [Int.compare_eq_lt.2 (by omega)]; simp [h]
  · subst h; simp
  · rw [Int.compare_eq_gt.2 (by omega)]; simp; omega
theorem ge_pos {a b : Nat} (ha : a < D.infRung) (hb : b < D.infRung) : cmpF .geq .f64 (some a) (some b) = decide (b ≤ a) := by
  unfold cmpF
  simp only [ord_pos ha hb]
  rcases Nat.lt_trichotomy a b with h | h | h
  · rw [Int.compare_eq_lt.2 (by omega)]; simp; omega
  · subst h; simp
  · rw [Int.compare_eq_gt.2 (by omega)]; simp; omega
end Fl
end Go.Proofs.Ytaannebjpmdhjaa
