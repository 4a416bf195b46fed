/-
  Contracts: AngleTurns at both sides, for every argument.
-/
import Derived.Test.YtaannebjpmdhjaaAng
namespace Go.Proofs.Ytaannebjpmdhjaa
set_option linter.unusedVariables false
set_option linter.unusedSimpArgs false
set_option maxRecDepth 20000
open Go.RowKit Fl

def isZ (v : Option Nat) : Bool := cmpF .eql .f32 v (some 0)
/-- The angle of the point x, y in turns. -/
def angN (y x : Option Nat) : Option Nat := if finF y && finF x then (if isZ x && isZ y then some 0 else nar (angV (wid y) (wid x))) else none
theorem finF_cases {b : Nat} {v : Option Nat} (h : IsF .f32 b v) : (finF v = true ∧ v = some b ∧ Fl.Fin S b) ∨ (finF v = false ∧ cmpF .neq .f64 (ar .sub .f64 (wid v) (wid v)) (some 0) = true) := by
  rcases fin_cases h with rfl | ⟨rfl, hf⟩ | ⟨rfl, hi⟩
  · exact .inr ⟨rfl, rfl⟩
  · exact .inl ⟨finF_fin hf, rfl, hf⟩
  · exact .inr ⟨finF_inf hi, by rw [wid_some, wid_inf_sub hi]; rfl⟩
theorem I_wb {b : Nat} (hf : Fl.Fin S b) : I D (wb b) = I S b * wide := I_wid hf
theorem fin_wb {b : Nat} (hf : Fl.Fin S b) : Fl.Fin D (wb b) := (wid_fin hf).1
theorem lss_wb {b : Nat} (hf : Fl.Fin S b) : cmpF .lss .f64 (some (wb b)) (some 0) = cmpF .lss .f32 (some b) (some 0) := by
  rw [cmp_lss0 (k := .f64) (fin_wb hf), cmp_lss0 (k := .f32) hf]
  change decide (I D (wb b) < 0) = decide (I S b < 0)
  rw [I_wb hf, decide_eq_decide]
  have hp : (0 : Int) < wide := by have := wide_pos; omega
  generalize I S b = x
  generalize (wide : Int) = p at *
  constructor
  · intro h
    by_cases h1 : x < 0
    · exact h1
    · have := Int.mul_nonneg (show 0 ≤ x by omega) (Int.le_of_lt hp); omega
  · intro h; exact Int.mul_neg_of_neg_of_pos h hp
theorem rg_wb {b : Nat} (hf : Fl.Fin S b) : rg D (wb b) = 0 ↔ rg S b = 0 := by
  rw [← I_eq_zero, ← I_eq_zero (f := S), I_wb hf, Int.mul_eq_zero]
  have := wide_pos
  omega
theorem eql_wb {b : Nat} (hf : Fl.Fin S b) : cmpF .eql .f64 (some (wb b)) (some 0) = cmpF .eql .f32 (some b) (some 0) := by
  rw [cmp_eql0 (k := .f64) (fin_wb hf), cmp_eql0 (k := .f32) hf, decide_eq_decide]
  exact rg_wb hf
theorem bs_angT_wb {a b : Nat} (fa : Fl.Fin S a) (fb : Fl.Fin S b) (h0 : (isZ (some b) && isZ (some a)) = false) : Bs false 1074 (angT (absF (wid (some a))) (absF (wid (some b)))) := by
  have hf : ∀ {c : Nat}, Fl.Fin S c → Fl.Fin D (low63 (wb c)) := fun {c} h => by unfold Fl.Fin; rw [rg_low63]; exact fin_wb h
  have hz : ∀ {c : Nat}, Fl.Fin S c → isZ (some c) = false → 0 < U D (rg D (low63 (wb c))) := fun {c} h hc => by
    rw [rg_low63]
    unfold isZ at hc
    rw [cmp_eql0 (k := .f32) h] at hc
    have h1 : rg S c ≠ 0 := of_decide_eq_false hc
    have h2 : rg D (wb c) ≠ 0 := fun e => h1 ((rg_wb h).1 e)
    have h3 : U D (rg D (wb c)) ≠ 0 := fun e => h2 (U_eq_zero.1 e)
    omega
  refine bs_angT (hf fa) (hf fb) (sg_low63 _) (sg_low63 _) ?_
  cases hb : isZ (some b)
  · exact .inr (hz fb hb)
  · rw [hb] at h0
    exact .inl (hz fa h0)
theorem angV_wb {a b : Nat} (fa : Fl.Fin S a) (fb : Fl.Fin S b) : angV (wid (some a)) (wid (some b)) = angW (angT (absF (wid (some a))) (absF (wid (some b)))) (cmpF .gtr .f64 (absF (wid (some a))) (absF (wid (some b)))) (cmpF .lss .f32 (some b) (some 0)) (cmpF .lss .f32 (some a) (some 0)) := by
  rw [angV_eq, wid_some, wid_some, lss_wb fa, lss_wb fb]
theorem angT_over {u v : Option Nat} : (cmpF .gtr .f64 u v = true → angT u v = ar .quo .f64 v u) ∧ (cmpF .gtr .f64 u v = false → angT u v = ar .quo .f64 u v) := by
  unfold angT
  constructor <;> intro h <;> rw [h] <;> rfl
theorem zero_cases {a b : Nat} (h0 : (isZ (some b) && isZ (some a)) = false) : cmpF .eql .f32 (some b) (some 0) = false ∨ cmpF .eql .f32 (some b) (some 0) = true ∧ cmpF .eql .f32 (some a) (some 0) = false := by
  unfold isZ at h0
  cases h1 : cmpF .eql .f32 (some b) (some 0)
  · exact .inl rfl
  · rw [h1] at h0; exact .inr ⟨rfl, h0⟩
set_option maxRecDepth 100000 in
set_option maxHeartbeats 4000000 in
theorem iAngleTurns_any (a b : Nat) (u v : Option Nat) (ha : IsF .f32 a u) (hb : IsF .f32 b v) (w : World) : Calls Try.prog 18 #[.float .f32 a, .float .f32 b] w (RetFw w .f32 (angN u v)) := by
  have hna := isF_nan
  have hok2 := narOk_none
  by_cases hq : (finF u && finF v) = true
  · rcases finF_cases ha with ⟨e1, rfl, fa⟩ | ⟨e1, _⟩
    · rcases finF_cases hb with ⟨e2, rfl, fb⟩ | ⟨e2, _⟩
      · cases h0 : (isZ (some b) && isZ (some a))
        · have Hv := Lib.hid (show angN (some a) (some b) = nar (angV (wid (some a)) (wid (some b))) by unfold angN; rw [hq, h0]; rfl)
          rw [Hv.out, angV_wb fa fb]
          exact iAngle_fin a b ha hb fa fb (zero_cases h0) _ _ _ _ rfl rfl rfl (bs_angT_wb fa fb h0) angT_over.1 angT_over.2 w
        · have Hv := Lib.hid (show angN (some a) (some b) = some 0 by unfold angN; rw [hq, h0]; rfl)
          rw [Hv.out]
          unfold isZ at h0
          simp only [Bool.and_eq_true] at h0
          obtain ⟨c1, c2⟩ := h0
          have HF := Lib.hid (areFinite2 hb ha w true (by rw [Bool.and_comm]; exact hq))
          clear hq
          go_enter Try.func18, Try.ntmps18
          go_wp2_with (first | (refine wpList_far rfl rfl (by first | exact .inl rfl | exact .inr (.inl rfl) | exact .inr (.inr (.inl rfl)) | exact .inr (.inr (.inr rfl))) rfl rfl (by first | assumption | exact isF_ofInt _ _ | exact IsF.lit (by decide +kernel)) (by first | assumption | exact isF_ofInt _ _ | exact IsF.lit (by decide +kernel)) ?_; intro r n hr) | (refine wpList_fcmp rfl rfl (by first | exact .inl rfl | exact .inr (.inl rfl) | exact .inr (.inr (.inl rfl)) | exact .inr (.inr (.inr (.inl rfl))) | exact .inr (.inr (.inr (.inr (.inl rfl)))) | exact .inr (.inr (.inr (.inr (.inr rfl))))) rfl rfl (by first | assumption | exact isF_ofInt _ _ | exact IsF.lit (by decide +kernel)) (by first | assumption | exact isF_ofInt _ _ | exact IsF.lit (by decide +kernel)) (by first | assumption | exact rfl) ?_) | (first | (refine wpList_fsame rfl rfl rfl (congrArg Option.isSome Try.underlying28) Try.underlying28 ?_) | (refine wpList_fsame rfl rfl rfl (congrArg Option.isSome Try.underlying27) Try.underlying27 ?_)) | (refine wpList_fwid rfl rfl rfl (congrArg Option.isSome Try.underlying28) Try.underlying27 (by assumption) ?_; intro r n hr) | (refine wpList_fnar rfl rfl rfl (congrArg Option.isSome Try.underlying27) Try.underlying28 (by assumption) (by assumption) ?_; intro r n hr) | (refine wpList_fneg rfl rfl rfl (by assumption) ?_; intro r hr) | (go_at_call 28; refine (HF.out _ (Below.refl _ _)).mono ?_; rintro e w' ⟨n, rfl, rfl⟩))
          go_ret
          exact ⟨_, rfl, isF_zeroS, below_drewN ((Below.refl _ _).alloc (Nat.le_refl _) _) _⟩
      · rw [e2, Bool.and_false] at hq; cases hq
    · rw [e1] at hq; cases hq
  · have hq' : (finF u && finF v) = false := by simpa using hq
    have Hv := Lib.hid (show angN u v = none by unfold angN; rw [hq']; rfl)
    rw [Hv.out]
    have HF := Lib.hid (areFinite2 hb ha w false (by rw [Bool.and_comm]; exact hq'))
    clear hq hq'
    go_enter Try.func18, Try.ntmps18
    go_wp2_with (first | (refine wpList_far rfl rfl (by first | exact .inl rfl | exact .inr (.inl rfl) | exact .inr (.inr (.inl rfl)) | exact .inr (.inr (.inr rfl))) rfl rfl (by first | assumption | exact isF_ofInt _ _ | exact IsF.lit (by decide +kernel)) (by first | assumption | exact isF_ofInt _ _ | exact IsF.lit (by decide +kernel)) ?_; intro r n hr) | (refine wpList_fcmp rfl rfl (by first | exact .inl rfl | exact .inr (.inl rfl) | exact .inr (.inr (.inl rfl)) | exact .inr (.inr (.inr (.inl rfl))) | exact .inr (.inr (.inr (.inr (.inl rfl)))) | exact .inr (.inr (.inr (.inr (.inr rfl))))) rfl rfl (by first | assumption | exact isF_ofInt _ _ | exact IsF.lit (by decide +kernel)) (by first | assumption | exact isF_ofInt _ _ | exact IsF.lit (by decide +kernel)) (by first | assumption | exact rfl) ?_) | (first | (refine wpList_fsame rfl rfl rfl (congrArg Option.isSome Try.underlying28) Try.underlying28 ?_) | (refine wpList_fsame rfl rfl rfl (congrArg Option.isSome Try.underlying27) Try.underlying27 ?_)) | (refine wpList_fwid rfl rfl rfl (congrArg Option.isSome Try.underlying28) Try.underlying27 (by assumption) ?_; intro r n hr) | (refine wpList_fnar rfl rfl rfl (congrArg Option.isSome Try.underlying27) Try.underlying28 (by assumption) (by assumption) ?_; intro r n hr) | (refine wpList_fneg rfl rfl rfl (by assumption) ?_; intro r hr) | (go_at_call 28; refine (HF.out _ (Below.refl _ _)).mono ?_; rintro e w' ⟨n, rfl, rfl⟩) | (go_at_call 14; refine (nan_any _).mono ?_; rintro e w' ⟨rfl, rfl⟩))
    go_ret
    exact ⟨_, rfl, by assumption, by (repeat' first | assumption | exact Below.refl _ _ | refine B_drew ?_ _ | refine Below.drew ?_ | refine Below.alloc ?_ (by first | exact Nat.le_refl _ | (simp; done) | (simp; omega)) _)⟩
end Go.Proofs.Ytaannebjpmdhjaa
