/-
  Contracts: LogNumber at both sides.
-/
import Derived.Test.YtgaecoekhcdaeaaLog
import Derived.Test.YtgaecoekhcdaeaaPos
namespace Go.Proofs.Ytgaecoekhcdaeaa
set_option linter.unusedVariables false
set_option linter.unusedSimpArgs false
open Go.RowKit Fl

/-- A float32 widened: its bits. -/
def wb (b : Nat) : Nat := D.write (S.read b)
theorem wid_some (b : Nat) : wid (some b) = some (wb b) := rfl
theorem isF_wb {r b : Nat} (h : IsF .f64 r (wid (some b))) : r = wb b := h.num.1
theorem wb_lt (b : Nat) : wb b < 18446744073709551616 := Ieee.Format.write_lt D _
/-- A positive finite float32, widened. -/
theorem wb_pos {b : Nat} (hf : Fin S b) (hs : sg S b = false) (h0 : 0 < rg S b) : 3936146074321813504 ≤ wb b ∧ wb b < 5188146770730811392 := by
  obtain ⟨h1, h2, h3⟩ := wid_fin hf
  change Fin D (wb b) at h1
  change sg D (wb b) = _ at h2
  change U D (rg D (wb b)) = _ at h3
  have hlt := wb_lt b
  have e : rg D (wb b) = wb b := by
    rw [hs] at h2
    unfold sg at h2
    unfold rg
    rw [D_sw] at h2 ⊢
    simp at h2
    omega
  rw [e] at h3
  have hU : 1 ≤ U S (rg S b) := by
    have := U_lt (f := S) h0
    rw [U_zero] at this
    omega
  have hU2 : U S (rg S b) ≤ U S S.infRung := U_le (Nat.le_of_lt hf)
  constructor
  · refine le_of_U (f := D) ?_
    rw [h3]
    have h4 : U D 3936146074321813504 = wide := by decide +kernel
    rw [h4]
    exact Nat.le_mul_of_pos_left _ hU
  · refine lt_of_U (f := D) ?_
    rw [h3]
    have h4 : U S S.infRung * wide < U D 5188146770730811392 := by decide +kernel
    exact Nat.lt_of_le_of_lt (Nat.mul_le_mul_right _ hU2) h4
theorem cmp_lss0 {k : FloatKind} {b : Nat} (hf : Fin k.format b) : cmpF .lss k (some b) (some 0) = decide (I k.format b < 0) := by
  unfold cmpF
  simp only [cmp_zero hf]
  rcases Int.lt_trichotomy (I k.format b) 0 with h | h | h
  · rw [Int.compare_eq_lt.2 h]; simp [h]
  · rw [h]; simp
  · rw [Int.compare_eq_gt.2 h]; simp; omega
theorem cmp_eql0 {k : FloatKind} {b : Nat} (hf : Fin k.format b) : cmpF .eql k (some b) (some 0) = decide (rg k.format b = 0) := by
  unfold cmpF
  simp only [cmp_zero hf]
  have hI := I_eq_zero (f := k.format) (b := b)
  rcases Int.lt_trichotomy (I k.format b) 0 with h | h | h
  · rw [Int.compare_eq_lt.2 h, decide_eq_false (by rw [← hI]; omega)]; rfl
  · rw [h, decide_eq_true (hI.1 h)]; simp
  · rw [Int.compare_eq_gt.2 h, decide_eq_false (by rw [← hI]; omega)]; rfl
theorem I_neg_iff {f : Ieee.Format} {b : Nat} (h0 : 0 < rg f b) : I f b < 0 ↔ sg f b = true := by
  have hU : 0 < U f (rg f b) := by
    have := U_lt (f := f) h0
    rw [U_zero] at this
    omega
  unfold I
  cases sg f b <;> simp <;> omega

def logN (v : Option Nat) : Option Nat := match v with
  | none => none
  | some b => if rg S b = 0 then some 4286578688 else if sg S b then none else if rg S b < S.infRung then nar (logV (wb b)) else some 2139095040
theorem nar_ninf : nar (some 18442240474082181120) = some 4286578688 := by decide +kernel
theorem nar_pinf : nar (some 9218868437227405312) = some 2139095040 := by decide +kernel
theorem narOk_ninf : NarOk (some 18442240474082181120) := narOk_inf (s := true) (by decide +kernel)
theorem narOk_pinf : NarOk (some 9218868437227405312) := narOk_inf (s := false) (by decide +kernel)

theorem sub_self {k : FloatKind} {b : Nat} (hf : Fl.Fin k.format b) : ar .sub k (some b) (some b) = some 0 := by
  obtain ⟨m, i, rb, eb⟩ := read_fin hf
  show ((k.format.read b).sum (k.format.read b).opposite).map k.format.write = _
  rw [rb]
  show ((Ieee.Datum.number (sg k.format b) m (k.format.leastPlace + i)).sum (.number (!sg k.format b) m (k.format.leastPlace + i))).map k.format.write = _
  simp only [Ieee.Datum.sum]
  have e : ∀ (s : Bool) (n : Nat), Ieee.signed s m n + Ieee.signed (!s) m n = 0 := by
    intro s n
    rw [signed_eq, signed_eq]
    cases s <;> simp <;> omega
  rw [Int.min_self, e]
  simp only [if_true, Option.map_some, Bool.and_not_self]
  rfl
theorem sub_inf {k : FloatKind} {b : Nat} {s : Bool} (hi : k.format.read b = .infinity s) : ar .sub k (some b) (some b) = none := by
  show ((k.format.read b).sum (k.format.read b).opposite).map k.format.write = _
  rw [hi]
  cases s <;> rfl
theorem finF_fin {b : Nat} (hf : Fl.Fin S b) : finF (some b) = true := by
  unfold finF
  rw [sub_self (k := .f32) hf]
  decide +kernel
theorem finF_inf {b : Nat} {s : Bool} (hi : FloatKind.f32.format.read b = .infinity s) : finF (some b) = false := by
  unfold finF
  rw [sub_inf hi]
  rfl
theorem finF_none : finF none = false := rfl
theorem posF_cases {b : Nat} {v : Option Nat} (h : IsF .f32 b v) : (posF v = true ∧ v = some b ∧ Fl.Fin S b ∧ sg S b = false ∧ 0 < rg S b) ∨ posF v = false := by
  cases hp : posF v
  · exact .inr rfl
  · left
    unfold posF at hp
    rw [Bool.and_eq_true] at hp
    obtain ⟨h1, h2⟩ := hp
    rcases fin_cases h with rfl | ⟨rfl, hf⟩ | ⟨rfl, hi⟩
    · cases h1
    · refine ⟨rfl, rfl, hf, ?_⟩
      unfold cmpF at h2
      simp only [cmp_zero hf] at h2
      have hI : 0 < I S b := by
        change (some (compare (I S b) 0) == some .gt) = true at h2
        rcases Int.lt_trichotomy (I S b) 0 with h | h | h
        · rw [Int.compare_eq_lt.2 h] at h2; cases h2
        · rw [h] at h2; cases h2
        · exact h
      have h0 : 0 < rg S b := by
        rcases Nat.eq_zero_or_pos (rg S b) with h | h
        · rw [I_eq_zero.2 h] at hI; omega
        · exact h
      refine ⟨?_, h0⟩
      cases hs : sg S b
      · rfl
      · have := (I_neg_iff h0).2 hs; omega
    · rw [finF_inf hi] at h1; cases h1
set_option maxHeartbeats 1000000 in
theorem iLogNumber_any (b : Nat) (v : Option Nat) (h : IsF .f32 b v) (w : World) : Calls Try.prog 19 #[.float .f32 b] w (RetF w .f32 (logN v)) := by
  have hni := isF_ninf
  have hna := isF_nan
  have hok := narOk_ninf
  have hok2 := narOk_none
  rcases fin_cases h with rfl | ⟨rfl, hf⟩ | ⟨rfl, hi⟩
  · have c1 : cmpF .eql .f32 none (some 0) = false := rfl
    have c2 : cmpF .neq .f32 none none = true := rfl
    go_enter Try.func19, Try.ntmps19
    go_wp2_with (first | (refine wpList_far rfl rfl (by first | exact .inl rfl | exact .inr (.inl rfl) | exact .inr (.inr (.inl rfl)) | exact .inr (.inr (.inr rfl))) rfl rfl (by first | assumption | exact isF_ofInt _ _ | exact IsF.lit (by decide +kernel)) (by first | assumption | exact isF_ofInt _ _ | exact IsF.lit (by decide +kernel)) ?_; intro r n hr) | (refine wpList_fcmp rfl rfl (by first | exact .inl rfl | exact .inr (.inl rfl) | exact .inr (.inr (.inl rfl)) | exact .inr (.inr (.inr (.inl rfl))) | exact .inr (.inr (.inr (.inr (.inl rfl)))) | exact .inr (.inr (.inr (.inr (.inr rfl))))) rfl rfl (by first | assumption | exact isF_ofInt _ _ | exact IsF.lit (by decide +kernel)) (by first | assumption | exact isF_ofInt _ _ | exact IsF.lit (by decide +kernel)) (by first | assumption | exact rfl) ?_) | (first | (refine wpList_fsame rfl rfl rfl (congrArg Option.isSome Try.underlying34) Try.underlying34 ?_) | (refine wpList_fsame rfl rfl rfl (congrArg Option.isSome Try.underlying39) Try.underlying39 ?_)) | (refine wpList_fwid rfl rfl rfl (congrArg Option.isSome Try.underlying34) Try.underlying39 (by assumption) ?_; intro r n hr) | (refine wpList_fnar rfl rfl rfl (congrArg Option.isSome Try.underlying39) Try.underlying34 (by assumption) (by assumption) ?_; intro r n hr) | (refine wpList_fneg rfl rfl rfl (by assumption) ?_; intro r hr) | (go_at_call 38; refine (nan_any _).mono ?_; rintro e w' ⟨rfl, rfl⟩))
    go_ret
    exact ⟨_, _, rfl, by assumption, rfl⟩
  · by_cases h0 : rg S b = 0
    · have c1 : cmpF .eql .f32 (some b) (some 0) = true := by rw [cmp_eql0 (k := .f32) hf]; exact decide_eq_true h0
      have Hv := Lib.hid (show logN (some b) = some 4286578688 by unfold logN; simp [h0])
      rw [Hv.out]
      clear h0 hf
      go_enter Try.func19, Try.ntmps19
      go_wp2_with (first | (refine wpList_far rfl rfl (by first | exact .inl rfl | exact .inr (.inl rfl) | exact .inr (.inr (.inl rfl)) | exact .inr (.inr (.inr rfl))) rfl rfl (by first | assumption | exact isF_ofInt _ _ | exact IsF.lit (by decide +kernel)) (by first | assumption | exact isF_ofInt _ _ | exact IsF.lit (by decide +kernel)) ?_; intro r n hr) | (refine wpList_fcmp rfl rfl (by first | exact .inl rfl | exact .inr (.inl rfl) | exact .inr (.inr (.inl rfl)) | exact .inr (.inr (.inr (.inl rfl))) | exact .inr (.inr (.inr (.inr (.inl rfl)))) | exact .inr (.inr (.inr (.inr (.inr rfl))))) rfl rfl (by first | assumption | exact isF_ofInt _ _ | exact IsF.lit (by decide +kernel)) (by first | assumption | exact isF_ofInt _ _ | exact IsF.lit (by decide +kernel)) (by first | assumption | exact rfl) ?_) | (first | (refine wpList_fsame rfl rfl rfl (congrArg Option.isSome Try.underlying34) Try.underlying34 ?_) | (refine wpList_fsame rfl rfl rfl (congrArg Option.isSome Try.underlying39) Try.underlying39 ?_)) | (refine wpList_fwid rfl rfl rfl (congrArg Option.isSome Try.underlying34) Try.underlying39 (by assumption) ?_; intro r n hr) | (refine wpList_fnar rfl rfl rfl (congrArg Option.isSome Try.underlying39) Try.underlying34 (by assumption) (by assumption) ?_; intro r n hr) | (refine wpList_fneg rfl rfl rfl (by assumption) ?_; intro r hr) | (go_at_call 37; refine (inf_neg _).mono ?_; rintro e w' ⟨rfl, rfl⟩))
      go_ret
      exact ⟨_, _, rfl, by rw [← nar_ninf]; assumption, rfl⟩
    · have hp : 0 < rg S b := by omega
      have c1 : cmpF .eql .f32 (some b) (some 0) = false := by rw [cmp_eql0 (k := .f32) hf]; exact decide_eq_false h0
      have c2 : cmpF .neq .f32 (some b) (some b) = false := neq_self h
      cases hs : sg S b
      · have c3 : cmpF .lss .f32 (some b) (some 0) = false := by
          rw [cmp_lss0 (k := .f32) hf]; refine decide_eq_false (fun hh => ?_)
          have := (I_neg_iff hp).1 hh
          rw [hs] at this; cases this
        have c4 := finF_fin hf
        obtain ⟨k1, k2⟩ := wb_pos hf hs hp
        have ho := (bd_logV k1 k2).narOk (by decide)
        have Hv := Lib.hid (show logN (some b) = nar (logV (wb b)) by unfold logN; simp [h0, hs]; intro hh; exact absurd hh (Nat.not_le.2 hf))
        rw [Hv.out]
        clear h0 hp hs hf
        go_enter Try.func19, Try.ntmps19
        go_wp2_with (first | (refine wpList_far rfl rfl (by first | exact .inl rfl | exact .inr (.inl rfl) | exact .inr (.inr (.inl rfl)) | exact .inr (.inr (.inr rfl))) rfl rfl (by first | assumption | exact isF_ofInt _ _ | exact IsF.lit (by decide +kernel)) (by first | assumption | exact isF_ofInt _ _ | exact IsF.lit (by decide +kernel)) ?_; intro r n hr) | (refine wpList_fcmp rfl rfl (by first | exact .inl rfl | exact .inr (.inl rfl) | exact .inr (.inr (.inl rfl)) | exact .inr (.inr (.inr (.inl rfl))) | exact .inr (.inr (.inr (.inr (.inl rfl)))) | exact .inr (.inr (.inr (.inr (.inr rfl))))) rfl rfl (by first | assumption | exact isF_ofInt _ _ | exact IsF.lit (by decide +kernel)) (by first | assumption | exact isF_ofInt _ _ | exact IsF.lit (by decide +kernel)) (by first | assumption | exact rfl) ?_) | (first | (refine wpList_fsame rfl rfl rfl (congrArg Option.isSome Try.underlying34) Try.underlying34 ?_) | (refine wpList_fsame rfl rfl rfl (congrArg Option.isSome Try.underlying39) Try.underlying39 ?_)) | (refine wpList_fwid rfl rfl rfl (congrArg Option.isSome Try.underlying34) Try.underlying39 (by assumption) ?_; intro r n hr) | (refine wpList_fnar rfl rfl rfl (congrArg Option.isSome Try.underlying39) Try.underlying34 (by assumption) (by assumption) ?_; intro r n hr) | (refine wpList_fneg rfl rfl rfl (by assumption) ?_; intro r hr) | (go_at_call 39; refine (iIsFinite_any _ _ h _).mono ?_; rintro e w' ⟨n, rfl, rfl⟩; rw [c4]) | (go_at_call 40; obtain rfl := isF_wb (by assumption); refine (logarithm_any _ k1 k2 _).mono ?_; rintro e w' ⟨r, n, rfl, hr, rfl⟩))
        go_ret
        exact ⟨_, _, rfl, by assumption, rfl⟩
      · have c3 : cmpF .lss .f32 (some b) (some 0) = true := by
          rw [cmp_lss0 (k := .f32) hf]; exact decide_eq_true ((I_neg_iff hp).2 hs)
        have Hv := Lib.hid (show logN (some b) = none by unfold logN; simp [h0, hs])
        rw [Hv.out]
        clear h0 hp hs hf
        go_enter Try.func19, Try.ntmps19
        go_wp2_with (first | (refine wpList_far rfl rfl (by first | exact .inl rfl | exact .inr (.inl rfl) | exact .inr (.inr (.inl rfl)) | exact .inr (.inr (.inr rfl))) rfl rfl (by first | assumption | exact isF_ofInt _ _ | exact IsF.lit (by decide +kernel)) (by first | assumption | exact isF_ofInt _ _ | exact IsF.lit (by decide +kernel)) ?_; intro r n hr) | (refine wpList_fcmp rfl rfl (by first | exact .inl rfl | exact .inr (.inl rfl) | exact .inr (.inr (.inl rfl)) | exact .inr (.inr (.inr (.inl rfl))) | exact .inr (.inr (.inr (.inr (.inl rfl)))) | exact .inr (.inr (.inr (.inr (.inr rfl))))) rfl rfl (by first | assumption | exact isF_ofInt _ _ | exact IsF.lit (by decide +kernel)) (by first | assumption | exact isF_ofInt _ _ | exact IsF.lit (by decide +kernel)) (by first | assumption | exact rfl) ?_) | (first | (refine wpList_fsame rfl rfl rfl (congrArg Option.isSome Try.underlying34) Try.underlying34 ?_) | (refine wpList_fsame rfl rfl rfl (congrArg Option.isSome Try.underlying39) Try.underlying39 ?_)) | (refine wpList_fwid rfl rfl rfl (congrArg Option.isSome Try.underlying34) Try.underlying39 (by assumption) ?_; intro r n hr) | (refine wpList_fnar rfl rfl rfl (congrArg Option.isSome Try.underlying39) Try.underlying34 (by assumption) (by assumption) ?_; intro r n hr) | (refine wpList_fneg rfl rfl rfl (by assumption) ?_; intro r hr) | (go_at_call 38; refine (nan_any _).mono ?_; rintro e w' ⟨rfl, rfl⟩))
        go_ret
        exact ⟨_, _, rfl, by assumption, rfl⟩
  · have hr := rg_of_inf hi
    have h9 : S.infRung ≠ 0 := by rw [S_inf]; decide
    change rg S b = S.infRung at hr
    have e := cmp_zero_inf hi
    have c1 : cmpF .eql .f32 (some b) (some 0) = false := by unfold cmpF; simp only [e]; cases sg FloatKind.f32.format b <;> rfl
    have c2 : cmpF .neq .f32 (some b) (some b) = false := neq_self h
    have c3 : cmpF .lss .f32 (some b) (some 0) = sg S b := by unfold cmpF; simp only [e]; change _ = sg FloatKind.f32.format b; cases sg FloatKind.f32.format b <;> rfl
    have c4 := finF_inf hi
    cases hs : sg S b
    · rw [hs] at c3
      have hb : b = 2139095040 := by
        have hlt : b < 4294967296 := h.lt
        unfold sg at hs
        unfold rg at hr
        rw [S_sw] at hs hr
        rw [S_inf] at hr
        simp at hs
        omega
      have Hv := Lib.hid (show logN (some b) = some b by unfold logN; rw [hb]; decide +kernel)
      rw [Hv.out]
      clear hr h9 e hs hi hb
      go_enter Try.func19, Try.ntmps19
      go_wp2_with (first | (refine wpList_far rfl rfl (by first | exact .inl rfl | exact .inr (.inl rfl) | exact .inr (.inr (.inl rfl)) | exact .inr (.inr (.inr rfl))) rfl rfl (by first | assumption | exact isF_ofInt _ _ | exact IsF.lit (by decide +kernel)) (by first | assumption | exact isF_ofInt _ _ | exact IsF.lit (by decide +kernel)) ?_; intro r n hr) | (refine wpList_fcmp rfl rfl (by first | exact .inl rfl | exact .inr (.inl rfl) | exact .inr (.inr (.inl rfl)) | exact .inr (.inr (.inr (.inl rfl))) | exact .inr (.inr (.inr (.inr (.inl rfl)))) | exact .inr (.inr (.inr (.inr (.inr rfl))))) rfl rfl (by first | assumption | exact isF_ofInt _ _ | exact IsF.lit (by decide +kernel)) (by first | assumption | exact isF_ofInt _ _ | exact IsF.lit (by decide +kernel)) (by first | assumption | exact rfl) ?_) | (first | (refine wpList_fsame rfl rfl rfl (congrArg Option.isSome Try.underlying34) Try.underlying34 ?_) | (refine wpList_fsame rfl rfl rfl (congrArg Option.isSome Try.underlying39) Try.underlying39 ?_)) | (refine wpList_fwid rfl rfl rfl (congrArg Option.isSome Try.underlying34) Try.underlying39 (by assumption) ?_; intro r n hr) | (refine wpList_fnar rfl rfl rfl (congrArg Option.isSome Try.underlying39) Try.underlying34 (by assumption) (by assumption) ?_; intro r n hr) | (refine wpList_fneg rfl rfl rfl (by assumption) ?_; intro r hr) | (go_at_call 39; refine (iIsFinite_any _ _ h _).mono ?_; rintro e w' ⟨n, rfl, rfl⟩; rw [c4]))
      go_ret
      exact ⟨_, _, rfl, h, rfl⟩
    · rw [hs] at c3
      have Hv := Lib.hid (show logN (some b) = none by unfold logN; simp [hr, hs, h9])
      rw [Hv.out]
      clear hr h9 e hs hi c4
      go_enter Try.func19, Try.ntmps19
      go_wp2_with (first | (refine wpList_far rfl rfl (by first | exact .inl rfl | exact .inr (.inl rfl) | exact .inr (.inr (.inl rfl)) | exact .inr (.inr (.inr rfl))) rfl rfl (by first | assumption | exact isF_ofInt _ _ | exact IsF.lit (by decide +kernel)) (by first | assumption | exact isF_ofInt _ _ | exact IsF.lit (by decide +kernel)) ?_; intro r n hr) | (refine wpList_fcmp rfl rfl (by first | exact .inl rfl | exact .inr (.inl rfl) | exact .inr (.inr (.inl rfl)) | exact .inr (.inr (.inr (.inl rfl))) | exact .inr (.inr (.inr (.inr (.inl rfl)))) | exact .inr (.inr (.inr (.inr (.inr rfl))))) rfl rfl (by first | assumption | exact isF_ofInt _ _ | exact IsF.lit (by decide +kernel)) (by first | assumption | exact isF_ofInt _ _ | exact IsF.lit (by decide +kernel)) (by first | assumption | exact rfl) ?_) | (first | (refine wpList_fsame rfl rfl rfl (congrArg Option.isSome Try.underlying34) Try.underlying34 ?_) | (refine wpList_fsame rfl rfl rfl (congrArg Option.isSome Try.underlying39) Try.underlying39 ?_)) | (refine wpList_fwid rfl rfl rfl (congrArg Option.isSome Try.underlying34) Try.underlying39 (by assumption) ?_; intro r n hr) | (refine wpList_fnar rfl rfl rfl (congrArg Option.isSome Try.underlying39) Try.underlying34 (by assumption) (by assumption) ?_; intro r n hr) | (refine wpList_fneg rfl rfl rfl (by assumption) ?_; intro r hr) | (go_at_call 38; refine (nan_any _).mono ?_; rintro e w' ⟨rfl, rfl⟩))
      go_ret
      exact ⟨_, _, rfl, by assumption, rfl⟩
end Go.Proofs.Ytgaecoekhcdaeaa
