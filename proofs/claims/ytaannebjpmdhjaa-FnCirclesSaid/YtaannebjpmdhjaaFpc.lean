/-
  Contracts of complex numbers: products, powers, quotients.
-/
import Derived.Test.YtaannebjpmdhjaaWh
import Derived.Test.YtaannebjpmdhjaaCx
import Derived.Test.YtaannebjpmdhjaaFlush
namespace Go.Proofs.Ytaannebjpmdhjaa
set_option linter.unusedVariables false
set_option linter.unusedSimpArgs false
set_option maxRecDepth 20000
open Go.RowKit Fl

/-- The call returns a complex number, behind some draws. -/
def RCx (w : World) (u v : Option Nat) (e : Ending) (w' : World) : Prop := ∃ r s n, e = .returned (.complex .f32 r s) ∧ IsF .f32 r u ∧ IsF .f32 s v ∧ w' = w.drewN n
def tRe (u1 v1 u2 v2 : Option Nat) : Option Nat := ar .sub .f64 (ar .mul .f64 (wid u1) (wid u2)) (ar .mul .f64 (wid v1) (wid v2))
def tIm (u1 v1 u2 v2 : Option Nat) : Option Nat := ar .add .f64 (ar .mul .f64 (wid u1) (wid v2)) (ar .mul .f64 (wid v1) (wid u2))
def pW (u v : Option Nat) : Option Nat := ar .add .f64 (ar .mul .f64 (wid u) (wid u)) (ar .mul .f64 (wid v) (wid v))
def RTm (w : World) (u1 v1 u2 v2 : Option Nat) (e : Ending) (w' : World) : Prop := ∃ r s n, e = .returned (.tuple #[.float .f64 r, .float .f64 s]) ∧ IsF .f64 r (tRe u1 v1 u2 v2) ∧ IsF .f64 s (tIm u1 v1 u2 v2) ∧ w' = w.drewN n
set_option maxHeartbeats 2000000 in
theorem times_any (a b c d : Nat) (u1 v1 u2 v2 : Option Nat) (ha : IsF .f32 a u1) (hb : IsF .f32 b v1) (hc : IsF .f32 c u2) (hd : IsF .f32 d v2) (w : World) :
    Calls Try.prog 20 #[.complex .f32 a b, .complex .f32 c d] w (RTm w u1 v1 u2 v2) := by
  go_enter Try.func20, Try.ntmps20
  go_wp2_with (first | (refine wpList_far rfl rfl (by first | exact .inl rfl | exact .inr (.inl rfl) | exact .inr (.inr (.inl rfl)) | exact .inr (.inr (.inr rfl))) rfl rfl (by first | assumption | exact isF_ofInt _ _ | exact IsF.lit (by decide +kernel)) (by first | assumption | exact isF_ofInt _ _ | exact IsF.lit (by decide +kernel)) ?_; intro r n hr) | (refine wpList_fcmp rfl rfl (by first | exact .inl rfl | exact .inr (.inl rfl) | exact .inr (.inr (.inl rfl)) | exact .inr (.inr (.inr (.inl rfl))) | exact .inr (.inr (.inr (.inr (.inl rfl)))) | exact .inr (.inr (.inr (.inr (.inr rfl))))) rfl rfl (by first | assumption | exact isF_ofInt _ _ | exact IsF.lit (by decide +kernel)) (by first | assumption | exact isF_ofInt _ _ | exact IsF.lit (by decide +kernel)) (by first | assumption | exact rfl) ?_) | (first | (refine wpList_fsame rfl rfl rfl (congrArg Option.isSome Try.underlying28) Try.underlying28 ?_) | (refine wpList_fsame rfl rfl rfl (congrArg Option.isSome Try.underlying27) Try.underlying27 ?_)) | (refine wpList_fwid rfl rfl rfl (congrArg Option.isSome Try.underlying28) Try.underlying27 (by assumption) ?_; intro r n hr) | (refine wpList_fnar rfl rfl rfl (congrArg Option.isSome Try.underlying27) Try.underlying28 (by assumption) (by assumption) ?_; intro r n hr) | (refine wpList_fneg rfl rfl rfl (by assumption) ?_; intro r hr))
  go_ret2
  exact ⟨_, _, _, rfl, by assumption, by assumption, rfl⟩
theorem mulC_any (a b c d : Nat) (u1 v1 u2 v2 : Option Nat) (ha : IsF .f32 a u1) (hb : IsF .f32 b v1) (hc : IsF .f32 c u2) (hd : IsF .f32 d v2) (n1 : NarOk (tRe u1 v1 u2 v2)) (n2 : NarOk (tIm u1 v1 u2 v2)) (w : World) :
    Calls Try.prog 11 #[.complex .f32 a b, .complex .f32 c d] w (RCx w (nar (tRe u1 v1 u2 v2)) (nar (tIm u1 v1 u2 v2))) := by
  have HT := Lib.hid (times_any a b c d u1 v1 u2 v2 ha hb hc hd w)
  clear ha hb hc hd
  unfold RTm at HT
  generalize tRe u1 v1 u2 v2 = x at *
  generalize tIm u1 v1 u2 v2 = y at *
  go_enter Try.func11, Try.ntmps11
  go_wp2_with fail
  refine HT.out.mono ?_
  rintro e w1 ⟨r, s, n, rfl, hr, hs, rfl⟩
  go_wp2_with (first | (refine wpList_far rfl rfl (by first | exact .inl rfl | exact .inr (.inl rfl) | exact .inr (.inr (.inl rfl)) | exact .inr (.inr (.inr rfl))) rfl rfl (by first | assumption | exact isF_ofInt _ _ | exact IsF.lit (by decide +kernel)) (by first | assumption | exact isF_ofInt _ _ | exact IsF.lit (by decide +kernel)) ?_; intro r n hr) | (refine wpList_fcmp rfl rfl (by first | exact .inl rfl | exact .inr (.inl rfl) | exact .inr (.inr (.inl rfl)) | exact .inr (.inr (.inr (.inl rfl))) | exact .inr (.inr (.inr (.inr (.inl rfl)))) | exact .inr (.inr (.inr (.inr (.inr rfl))))) rfl rfl (by first | assumption | exact isF_ofInt _ _ | exact IsF.lit (by decide +kernel)) (by first | assumption | exact isF_ofInt _ _ | exact IsF.lit (by decide +kernel)) (by first | assumption | exact rfl) ?_) | (first | (refine wpList_fsame rfl rfl rfl (congrArg Option.isSome Try.underlying28) Try.underlying28 ?_) | (refine wpList_fsame rfl rfl rfl (congrArg Option.isSome Try.underlying27) Try.underlying27 ?_)) | (refine wpList_fwid rfl rfl rfl (congrArg Option.isSome Try.underlying28) Try.underlying27 (by assumption) ?_; intro r n hr) | (refine wpList_fnar rfl rfl rfl (congrArg Option.isSome Try.underlying27) Try.underlying28 (by assumption) (by assumption) ?_; intro r n hr) | (refine wpList_fneg rfl rfl rfl (by assumption) ?_; intro r hr))
  go_ret
  exact ⟨_, _, _, rfl, by assumption, by assumption, rfl⟩
theorem power_any (a b : Nat) (u v : Option Nat) (ha : IsF .f32 a u) (hb : IsF .f32 b v) (w : World) : Calls Try.prog 19 #[.complex .f32 a b] w (RetF w .f64 (pW u v)) := by
  go_enter Try.func19, Try.ntmps19
  go_wp2_with (first | (refine wpList_far rfl rfl (by first | exact .inl rfl | exact .inr (.inl rfl) | exact .inr (.inr (.inl rfl)) | exact .inr (.inr (.inr rfl))) rfl rfl (by first | assumption | exact isF_ofInt _ _ | exact IsF.lit (by decide +kernel)) (by first | assumption | exact isF_ofInt _ _ | exact IsF.lit (by decide +kernel)) ?_; intro r n hr) | (refine wpList_fcmp rfl rfl (by first | exact .inl rfl | exact .inr (.inl rfl) | exact .inr (.inr (.inl rfl)) | exact .inr (.inr (.inr (.inl rfl))) | exact .inr (.inr (.inr (.inr (.inl rfl)))) | exact .inr (.inr (.inr (.inr (.inr rfl))))) rfl rfl (by first | assumption | exact isF_ofInt _ _ | exact IsF.lit (by decide +kernel)) (by first | assumption | exact isF_ofInt _ _ | exact IsF.lit (by decide +kernel)) (by first | assumption | exact rfl) ?_) | (first | (refine wpList_fsame rfl rfl rfl (congrArg Option.isSome Try.underlying28) Try.underlying28 ?_) | (refine wpList_fsame rfl rfl rfl (congrArg Option.isSome Try.underlying27) Try.underlying27 ?_)) | (refine wpList_fwid rfl rfl rfl (congrArg Option.isSome Try.underlying28) Try.underlying27 (by assumption) ?_; intro r n hr) | (refine wpList_fnar rfl rfl rfl (congrArg Option.isSome Try.underlying27) Try.underlying28 (by assumption) (by assumption) ?_; intro r n hr) | (refine wpList_fneg rfl rfl rfl (by assumption) ?_; intro r hr))
  go_ret
  exact ⟨_, _, rfl, by assumption, rfl⟩
theorem powerOf_any (a b : Nat) (u v : Option Nat) (ha : IsF .f32 a u) (hb : IsF .f32 b v) (hn : NarOk (pW u v)) (w : World) : Calls Try.prog 9 #[.complex .f32 a b] w (RetF w .f32 (nar (pW u v))) := by
  have HP := Lib.hid (power_any a b u v ha hb w)
  clear ha hb
  generalize pW u v = x at *
  go_enter Try.func9, Try.ntmps9
  go_wp2_with fail
  refine HP.out.mono ?_
  rintro e w1 ⟨r, n, rfl, hr, rfl⟩
  go_wp2_with (first | (refine wpList_far rfl rfl (by first | exact .inl rfl | exact .inr (.inl rfl) | exact .inr (.inr (.inl rfl)) | exact .inr (.inr (.inr rfl))) rfl rfl (by first | assumption | exact isF_ofInt _ _ | exact IsF.lit (by decide +kernel)) (by first | assumption | exact isF_ofInt _ _ | exact IsF.lit (by decide +kernel)) ?_; intro r n hr) | (refine wpList_fcmp rfl rfl (by first | exact .inl rfl | exact .inr (.inl rfl) | exact .inr (.inr (.inl rfl)) | exact .inr (.inr (.inr (.inl rfl))) | exact .inr (.inr (.inr (.inr (.inl rfl)))) | exact .inr (.inr (.inr (.inr (.inr rfl))))) rfl rfl (by first | assumption | exact isF_ofInt _ _ | exact IsF.lit (by decide +kernel)) (by first | assumption | exact isF_ofInt _ _ | exact IsF.lit (by decide +kernel)) (by first | assumption | exact rfl) ?_) | (first | (refine wpList_fsame rfl rfl rfl (congrArg Option.isSome Try.underlying28) Try.underlying28 ?_) | (refine wpList_fsame rfl rfl rfl (congrArg Option.isSome Try.underlying27) Try.underlying27 ?_)) | (refine wpList_fwid rfl rfl rfl (congrArg Option.isSome Try.underlying28) Try.underlying27 (by assumption) ?_; intro r n hr) | (refine wpList_fnar rfl rfl rfl (congrArg Option.isSome Try.underlying27) Try.underlying28 (by assumption) (by assumption) ?_; intro r n hr) | (refine wpList_fneg rfl rfl rfl (by assumption) ?_; intro r hr))
  go_ret
  exact ⟨_, _, rfl, by assumption, rfl⟩
end Go.Proofs.Ytaannebjpmdhjaa
