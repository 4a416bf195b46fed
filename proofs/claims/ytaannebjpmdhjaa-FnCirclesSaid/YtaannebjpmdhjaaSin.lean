/-
  Contracts: SineTurns at both sides.
-/
import Derived.Test.YtaannebjpmdhjaaTrig2
namespace Go.Proofs.Ytaannebjpmdhjaa
set_option linter.unusedVariables false
set_option linter.unusedSimpArgs false
set_option maxRecDepth 20000
open Go.RowKit Fl

def smallB (b : Nat) : Bool := decide (U D (rg D b) < U D 4841369599423283200)
theorem isF_zeroS : IsF .f32 0 (some 0) := IsF.lit (by decide +kernel)
theorem nar_zero : nar (some 0) = some 0 := by decide +kernel
def sinN (v : Option Nat) : Option Nat := match v with
  | none => none
  | some b => if rg S b < S.infRung then (if smallB (wb b) then nar (sinV (some (wb b))) else some 0) else none
theorem sinN_none : sinN none = none := rfl
theorem narOk_zero : NarOk (some 0) := narOk_fin (by unfold Fl.Fin; decide +kernel) (by decide +kernel)
theorem bd_sinF {f : Option Nat} (h : Bd 1074 f) : Bd 1167 (sinF f) := by
  have h4 := bd_sin4 h
  unfold sinF
  split
  · obtain ⟨s, b, hb, hf, hs, hU⟩ := h4
    have hi : IsF .f64 b (some b) := ar_num (op := .mul) (u := sin3 f) (v := sinP (ar .mul .f64 (sin3 f) (sin3 f)) 8) hb
    exact ⟨_, bs_neg ⟨b, hb, hf, hs, hU⟩ (by rw [hb]; exact hi)⟩
  · exact h4
theorem narOk_sin {b : Nat} (h : Small b) : NarOk (sinV (some b)) := (bd_sinF (bd_frac h.1 (small_lt h))).narOk (by decide)
theorem wid_inf_sub {b : Nat} {s : Bool} (hi : FloatKind.f32.format.read b = .infinity s) : ar .sub .f64 (some (wb b)) (some (wb b)) = none := by
  have hw : wb b = D.write (.infinity s) := by unfold wb; rw [show S.read b = _ from hi]
  rw [hw]
  cases s <;> decide +kernel
theorem smallB_iff {b : Nat} (hf : Fl.Fin D b) : smallB b = true ↔ Small b := by
  unfold smallB Small
  simp [hf]
theorem isF_wbb {r b : Nat} (h : IsF .f64 r (wid (some b))) : IsF .f64 r (some r) := by
  have := isF_wb h
  subst this
  exact h
theorem isHuge_any (b : Nat) (h : IsF .f64 b (some b)) (w : World) : Calls Try.prog 15 #[.float .f64 b] w (Ret w (.bool (cmpF .geq .f64 (absF (some b)) (some 4841369599423283200)))) := by
  go_enter Try.func15, Try.ntmps15
  go_wp2_with (first | (refine wpList_far rfl rfl (by first | exact .inl rfl | exact .inr (.inl rfl) | exact .inr (.inr (.inl rfl)) | exact .inr (.inr (.inr rfl))) rfl rfl (by first | assumption | exact isF_ofInt _ _ | exact IsF.lit (by decide +kernel)) (by first | assumption | exact isF_ofInt _ _ | exact IsF.lit (by decide +kernel)) ?_; intro r n hr) | (refine wpList_fcmp rfl rfl (by first | exact .inl rfl | exact .inr (.inl rfl) | exact .inr (.inr (.inl rfl)) | exact .inr (.inr (.inr (.inl rfl))) | exact .inr (.inr (.inr (.inr (.inl rfl)))) | exact .inr (.inr (.inr (.inr (.inr rfl))))) rfl rfl (by first | assumption | exact isF_ofInt _ _ | exact IsF.lit (by decide +kernel)) (by first | assumption | exact isF_ofInt _ _ | exact IsF.lit (by decide +kernel)) (by first | assumption | exact rfl) ?_) | (first | (refine wpList_fsame rfl rfl rfl (congrArg Option.isSome Try.underlying28) Try.underlying28 ?_) | (refine wpList_fsame rfl rfl rfl (congrArg Option.isSome Try.underlying27) Try.underlying27 ?_)) | (refine wpList_fwid rfl rfl rfl (congrArg Option.isSome Try.underlying28) Try.underlying27 (by assumption) ?_; intro r n hr) | (refine wpList_fnar rfl rfl rfl (congrArg Option.isSome Try.underlying27) Try.underlying28 (by assumption) (by assumption) ?_; intro r n hr) | (refine wpList_fneg rfl rfl rfl (by assumption) ?_; intro r hr) | (go_at_call 26; refine (abs_any _ _ h _).mono ?_; rintro e w' ⟨rfl, hab, rfl⟩))
  go_ret
  exact ret_mk0 rfl
end Go.Proofs.Ytaannebjpmdhjaa
