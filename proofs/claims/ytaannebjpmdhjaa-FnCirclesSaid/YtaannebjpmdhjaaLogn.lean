/-
  Contracts: LogNumber at both sides.
-/
import Derived.Test.YtaannebjpmdhjaaLog
import Derived.Test.YtaannebjpmdhjaaPos
namespace Go.Proofs.Ytaannebjpmdhjaa
set_option linter.unusedVariables false
set_option linter.unusedSimpArgs false
set_option maxRecDepth 20000
open Go.RowKit Fl

/-- A float32 widened: its bits. -/
def wb (b : Nat) : Nat := D.write (S.read b)
theorem wid_some (b : Nat) : wid (some b) = some (wb b) := rfl
theorem isF_wb {r b : Nat} (h : IsF .f64 r (wid (some b))) : r = wb b := h.num.1
theorem wb_lt (b : Nat) : wb b < 18446744073709551616 := Ieee.Format.write_lt D _
/-- A positive finite float32, widened. -/
theorem wb_pos {b : Nat} (hf : Fin S b) (hs : sg S b = false) (h0 : 0 < rg S b) : 3936146074321813504 ≤ wb b ∧ wb b < 5188146770730811392 := by
  obtain ⟨h1, h2, h3⟩ := wid_fin hf
  change Fin D (wb b) at h1
  change sg D (wb b) = _ at h2
  change U D (rg D (wb b)) = _ at h3
  have hlt := wb_lt b
  have e : rg D (wb b) = wb b := by
    rw [hs] at h2
    unfold sg at h2
    unfold rg
    rw [D_sw] at h2 ⊢
    simp at h2
    omega
  rw [e] at h3
  have hU : 1 ≤ U S (rg S b) := by
    have := U_lt (f := S) h0
    rw [U_zero] at this
    omega
  have hU2 : U S (rg S b) ≤ U S S.infRung := U_le (Nat.le_of_lt hf)
  constructor
  · refine le_of_U (f := D) ?_
    rw [h3]
    have h4 : U D 3936146074321813504 = wide := by decide +kernel
    rw [h4]
    exact Nat.le_mul_of_pos_left _ hU
  · refine lt_of_U (f := D) ?_
    rw [h3]
    have h4 : U S S.infRung * wide < U D 5188146770730811392 := by decide +kernel
    exact Nat.lt_of_le_of_lt (Nat.mul_le_mul_right _ hU2) h4
theorem cmp_lss0 {k : FloatKind} {b : Nat} (hf : Fin k.format b) : cmpF .lss k (some b) (some 0) = decide (I k.format b < 0) := by
  unfold cmpF
  simp only [cmp_zero hf]
  rcases Int.lt_trichotomy (I k.format b) 0 with h | h | h
  · rw [Int.compare_eq_lt.2 h]; simp [h]
  · rw [h]; simp
  · rw [Int.compare_eq_gt.2 h]; simp; omega
theorem cmp_eql0 {k : FloatKind} {b : Nat} (hf : Fin k.format b) : cmpF .eql k (some b) (some 0) = decide (rg k.format b = 0) := by
  unfold cmpF
  simp only [cmp_zero hf]
  have hI := I_eq_zero (f := k.format) (b := b)
  rcases Int.lt_trichotomy (I k.format b) 0 with h | h | h
  · rw [Int.compare_eq_lt.2 h, decide_eq_false (by rw [← hI]; omega)]; rfl
  · rw [h, decide_eq_true (hI.1 h)]; simp
  · rw [Int.compare_eq_gt.2 h, decide_eq_false (by rw [← hI]; omega)]; rfl
theorem I_neg_iff {f : Ieee.Format} {b : Nat} (h0 : 0 < rg f b) : I f b < 0 ↔ sg f b = true := by
  have hU : 0 < U f (rg f b) := by
    have := U_lt (f := f) h0
    rw [U_zero] at this
    omega
  unfold I
  cases sg f b <;> simp <;> omega

def logN (v : Option Nat) : Option Nat := match v with
  | none => none
  | some b => if rg S b = 0 then some 4286578688 else if sg S b then none else if rg S b < S.infRung then nar (logV (wb b)) else some 2139095040
theorem nar_ninf : nar (some 18442240474082181120) = some 4286578688 := by decide +kernel
theorem nar_pinf : nar (some 9218868437227405312) = some 2139095040 := by decide +kernel
theorem narOk_ninf : NarOk (some 18442240474082181120) := narOk_inf (s := true) (by decide +kernel)
theorem narOk_pinf : NarOk (some 9218868437227405312) := narOk_inf (s := false) (by decide +kernel)

theorem sub_self {k : FloatKind} {b : Nat} (hf : Fl.Fin k.format b) : ar .sub k (some b) (some b) = some 0 := by
  obtain ⟨m, i, rb, eb⟩ := read_fin hf
  show ((k.format.read b).sum (k.format.read b).opposite).map k.format.write = _
  rw [rb]
  show ((Ieee.Datum.number (sg k.format b) m (k.format.leastPlace + i)).sum (.number (!sg k.format b) m (k.format.leastPlace + i))).map k.format.write = _
  simp only [Ieee.Datum.sum]
  have e : ∀ (s : Bool) (n : Nat), Ieee.signed s m n + Ieee.signed (!s) m n = 0 := by
    intro s n
    rw [signed_eq, signed_eq]
    cases s <;> simp <;> omega
  rw [Int.min_self, e]
  simp only [if_true, Option.map_some, Bool.and_not_self]
  rfl
theorem sub_inf {k : FloatKind} {b : Nat} {s : Bool} (hi : k.format.read b = .infinity s) : ar .sub k (some b) (some b) = none := by
  show ((k.format.read b).sum (k.format.read b).opposite).map k.format.write = _
  rw [hi]
  cases s <;> rfl
theorem finF_fin {b : Nat} (hf : Fl.Fin S b) : finF (some b) = true := by
  unfold finF
  rw [sub_self (k := .f32) hf]
  decide +kernel
theorem finF_inf {b : Nat} {s : Bool} (hi : FloatKind.f32.format.read b = .infinity s) : finF (some b) = false := by
  unfold finF
  rw [sub_inf hi]
  rfl
theorem finF_none : finF none = false := rfl
theorem posF_cases {b : Nat} {v : Option Nat} (h : IsF .f32 b v) : (posF v = true ∧ v = some b ∧ Fl.Fin S b ∧ sg S b = false ∧ 0 < rg S b) ∨ posF v = false := by
  cases hp : posF v
  · exact .inr rfl
  · left
    unfold posF at hp
    rw [Bool.and_eq_true] at hp
    obtain ⟨h1, h2⟩ := hp
    rcases fin_cases h with rfl | ⟨rfl, hf⟩ | ⟨rfl, hi⟩
    · cases h1
    · refine ⟨rfl, rfl, hf, ?_⟩
      unfold cmpF at h2
      simp only [cmp_zero hf] at h2
      have hI : 0 < I S b := by
        change (some (compare (I S b) 0) == some .gt) = true at h2
        rcases Int.lt_trichotomy (I S b) 0 with h | h | h
        · rw [Int.compare_eq_lt.2 h] at h2; cases h2
        · rw [h] at h2; cases h2
        · exact h
      have h0 : 0 < rg S b := by
        rcases Nat.eq_zero_or_pos (rg S b) with h | h
        · rw [I_eq_zero.2 h] at hI; omega
        · exact h
      refine ⟨?_, h0⟩
      cases hs : sg S b
      · rfl
      · have := (I_neg_iff h0).2 hs; omega
    · rw [finF_inf hi] at h1; cases h1
end Go.Proofs.Ytaannebjpmdhjaa
