/-
  Reading a decimal: what is of no program.
-/
import Derived.Lib.ParseIntBCases
import Derived.Lib.ItoaMem
namespace Go.Proofs.YtgonnnnhibhekaaDoor
set_option linter.unusedVariables false
set_option linter.unusedSimpArgs false
open Go

/-- A byte that is a digit. -/
def isD (b : UInt8) : Bool := decide (48 ≤ b.toNat) && decide (b.toNat ≤ 57)
/-- What the reference's loop makes of bytes: it passes over what is no digit. -/
def fold10 : Nat → List UInt8 → Nat
  | acc, [] => acc
  | acc, c :: r => fold10 (if isD c then acc * 10 + (c.toNat - 48) else acc) r
theorem fold10_append (acc : Nat) (a b : List UInt8) : fold10 acc (a ++ b) = fold10 (fold10 acc a) b := by
  induction a generalizing acc with
  | nil => rfl
  | cons c r ih => exact ih _
theorem digit_nat {d : Nat} (h : d < 10) : (UInt8.ofNat (48 + d)).toNat = 48 + d := by
  rw [UInt8.toNat_ofNat']; omega
theorem isD_digit {d : Nat} (h : d < 10) : isD (UInt8.ofNat (48 + d)) = true := by
  unfold isD; rw [digit_nat h]; simp; omega
theorem fold10_one (acc : Nat) {d : Nat} (h : d < 10) : fold10 acc [UInt8.ofNat (48 + d)] = acc * 10 + d := by
  show (if isD (UInt8.ofNat (48 + d)) then acc * 10 + ((UInt8.ofNat (48 + d)).toNat - 48) else acc) = _
  rw [if_pos (isD_digit h), digit_nat h]; omega
theorem fold10_decDigits (u : Nat) : fold10 0 (Lib.decDigits u) = u := by
  induction u using Nat.strongRecOn with
  | _ u ih =>
    rw [Lib.decDigits]
    split
    · rename_i h; rw [fold10_one 0 h]; omega
    · rename_i h
      rw [fold10_append, ih (u / 10) (by omega), fold10_one _ (Nat.mod_lt _ (by omega))]
      omega
theorem all_decDigits (u : Nat) : (Lib.decDigits u).all isD = true := by
  induction u using Nat.strongRecOn with
  | _ u ih =>
    rw [Lib.decDigits]
    split
    · rename_i h; simp only [List.all_cons, List.all_nil, isD_digit h, Bool.and_true]
    · rename_i h
      rw [List.all_append, ih (u / 10) (by omega)]
      simp only [List.all_cons, List.all_nil, isD_digit (Nat.mod_lt u (by omega : 10 > 0)), Bool.and_true]
theorem decDigits_ne (u : Nat) : Lib.decDigits u ≠ [] := by
  rw [Lib.decDigits]; split <;> simp
/-- The shelf's reading of digits, where all is small. -/
theorem parse_fold (M : Nat) (hM : M ≤ 18446744073709551615) : ∀ (l : List UInt8) (acc : Nat), l.all isD = true → fold10 acc l ≤ M → fold10 acc l < 1844674407370955162 → Lib.parseUintM M acc l = .ok (fold10 acc l)
  | [], _, _, _, _ => rfl
  | c :: r, acc, h, h1, h2 => by
    simp only [List.all_cons, Bool.and_eq_true] at h
    have hc := h.1
    have e : fold10 acc (c :: r) = fold10 (acc * 10 + (c.toNat - 48)) r := by show fold10 (if isD c then _ else _) r = _; rw [if_pos hc]
    rw [e] at h1 h2 ⊢
    have hmono : ∀ (l : List UInt8) (a : Nat), a ≤ fold10 a l := by
      intro l
      induction l with
      | nil => intro a; exact Nat.le_refl _
      | cons x xs ih =>
        intro a
        show a ≤ fold10 (if isD x then _ else _) xs
        split
        · exact Nat.le_trans (by omega) (ih _)
        · exact ih _
    have hm := hmono r (acc * 10 + (c.toNat - 48))
    unfold isD at hc
    simp only [Bool.and_eq_true, decide_eq_true_eq] at hc
    rw [Lib.parseUintM, if_pos hc, if_neg (by omega), if_neg (by omega)]
    exact parse_fold M hM r _ h.2 h1 h2
theorem head_decDigits (u : Nat) : ∃ c r, Lib.decDigits u = c :: r ∧ isD c = true := by
  have h := all_decDigits u
  cases e : Lib.decDigits u with
  | nil => exact absurd e (decDigits_ne u)
  | cons c r => rw [e] at h; simp only [List.all_cons, Bool.and_eq_true] at h; exact ⟨c, r, rfl, h.1⟩
/-- The shelf's reading of a small number's own text gives the number. -/
theorem parse_itoa (n : Int) (h0 : -1000000000000000 ≤ n) (h1 : n ≤ 1000000000000000) : Lib.parseIntB 64 (Lib.itoa n) = .ok n := by
  by_cases hneg : n < 0
  · obtain ⟨u, rfl⟩ : ∃ u : Nat, n = -(u : Int) := ⟨n.natAbs, by omega⟩
    have hf := fold10_decDigits u
    rw [Lib.itoa_neg u (by omega), Lib.parseIntB_minus]
    unfold Lib.parseUintB
    rw [if_neg (decDigits_ne u), parse_fold _ (by decide) _ 0 (all_decDigits u) (by rw [hf]; omega) (by rw [hf]; omega), hf]
    simp only [Lib.signedC]
    rw [if_neg (by omega)]
  · obtain ⟨u, rfl⟩ : ∃ u : Nat, n = u := ⟨n.toNat, by omega⟩
    have hf := fold10_decDigits u
    rw [Lib.itoa_nonneg]
    obtain ⟨c, r, e, hc⟩ := head_decDigits u
    unfold isD at hc
    simp only [Bool.and_eq_true, decide_eq_true_eq] at hc
    rw [e, Lib.parseIntB_plain _ _ _ (by omega) (by omega), ← e]
    unfold Lib.parseUintB
    rw [if_neg (decDigits_ne u), parse_fold _ (by decide) _ 0 (all_decDigits u) (by rw [hf]; omega) (by rw [hf]; omega), hf]
    simp only [Lib.signlessC]
    rw [if_neg (by omega)]
/-- What the reference's loop makes of a number's own text: its greatness. -/
theorem fold_itoa (n : Int) : fold10 0 (Lib.itoa n) = n.natAbs := by
  by_cases hneg : n < 0
  · obtain ⟨u, rfl⟩ : ∃ u : Nat, n = -(u : Int) := ⟨n.natAbs, by omega⟩
    rw [Lib.itoa_neg u (by omega)]
    have e : fold10 0 (45 :: Lib.decDigits u) = fold10 (if isD 45 then 0 * 10 + ((45 : UInt8).toNat - 48) else 0) (Lib.decDigits u) := rfl
    rw [e]
    rw [if_neg (by decide), fold10_decDigits]; omega
  · obtain ⟨u, rfl⟩ : ∃ u : Nat, n = u := ⟨n.toNat, by omega⟩
    rw [Lib.itoa_nonneg, fold10_decDigits]; omega
theorem length_decDigits (k u : Nat) (h : u < 10 ^ (k + 1)) : (Lib.decDigits u).length ≤ k + 1 := by
  induction k generalizing u with
  | zero => rw [Lib.decDigits, dif_pos (by omega)]; simp
  | succ k ih =>
    rw [Lib.decDigits]
    split
    · simp
    · have := ih (u / 10) (by rw [Nat.pow_succ] at h; omega)
      simp only [List.length_append, List.length_cons, List.length_nil]; omega
theorem length_itoa (n : Int) (h0 : -1000000000000000 ≤ n) (h1 : n ≤ 1000000000000000) : 1 ≤ (Lib.itoa n).length ∧ (Lib.itoa n).length ≤ 17 := by
  by_cases hneg : n < 0
  · obtain ⟨u, rfl⟩ : ∃ u : Nat, n = -(u : Int) := ⟨n.natAbs, by omega⟩
    have := length_decDigits 15 u (by omega)
    rw [Lib.itoa_neg u (by omega), List.length_cons]; omega
  · obtain ⟨u, rfl⟩ : ∃ u : Nat, n = u := ⟨n.toNat, by omega⟩
    have := length_decDigits 15 u (by omega)
    rw [Lib.itoa_nonneg]
    have : (Lib.decDigits u).length ≠ 0 := fun h => decDigits_ne u (List.length_eq_zero_iff.1 h)
    omega
theorem head_itoa (n : Int) : (∃ r, Lib.itoa n = 45 :: r) ↔ n < 0 := by
  by_cases hneg : n < 0
  · refine ⟨fun _ => hneg, fun _ => ?_⟩
    obtain ⟨u, rfl⟩ : ∃ u : Nat, n = -(u : Int) := ⟨n.natAbs, by omega⟩
    exact ⟨_, Lib.itoa_neg u (by omega)⟩
  · refine ⟨fun ⟨r, h⟩ => ?_, fun h => absurd h hneg⟩
    obtain ⟨u, rfl⟩ : ∃ u : Nat, n = u := ⟨n.toNat, by omega⟩
    rw [Lib.itoa_nonneg] at h
    obtain ⟨c, r', e, hc⟩ := head_decDigits u
    rw [e] at h
    injection h with h _
    subst h
    exact absurd hc (by decide)
end Go.Proofs.YtgonnnnhibhekaaDoor
