/-
  Contracts: depths of waves; valid ends.
-/
import Derived.Test.YtngkkhfbeepjnaaPos
import Derived.Test.YtngkkhfbeepjnaaEnd
namespace Go.Proofs.Ytngkkhfbeepjnaa
set_option linter.unusedVariables false
set_option linter.unusedSimpArgs false
open Go.RowKit Fl
attribute [local go_sem] run_store_float

theorem anyF_cons (p : Option Nat → Bool) (b : Nat) (bs : List Nat) : anyF p (b :: bs) = (p (cl .f32 b) || anyF p bs) := by simp [anyF]
theorem anyF_nil (p : Option Nat → Bool) : anyF p [] = false := rfl
/-- A slice laid as a literal. -/
theorem FSl_lit (w : World) (bs : List Nat) (T : TypeId) (hb : ∀ b ∈ bs, b < 2 ^ FloatKind.f32.format.width) (hl : bs.length ≤ 1048576) :
    FSl .f32 (w.alloc (.cells (bs.map (Value.float .f32)).toArray T)) (.slice (some ⟨w.heap.size, 0, none⟩) bs.length bs.length) bs := by
  refine ⟨_, _, rfl, Nat.le_refl _, by unfold maxLen; omega, hb, .inr ⟨_, 0, rfl, by simp, fun i hi => ?_⟩⟩
  have hr := World.rowIs_alloc w (bs.map (Value.float .f32)).toArray T (fun i => .float .f32 (fget bs i)) (fun i hi => by
    have hi' : i < bs.length := by simpa using hi
    simp [fget, List.getD, hi'])
  rw [Nat.zero_add]
  exact hr.cell (by simpa using hi)
/-- The call returns a float and a bool, and leaves what was there. -/
def RetFBb (w : World) (v : Option Nat) (b : Bool) (e : Ending) (w' : World) : Prop := ∃ r, e = .returned (.tuple #[.float .f32 r, .bool b]) ∧ IsF .f32 r v ∧ Below w.heap.size w w'
theorem not_any3 {a b c : Nat} {u v x : Option Nat} (ha : IsF .f32 a u) (hb : IsF .f32 b v) (hc : IsF .f32 c x) : (!anyF nposF [a, b, c]) = (posF u && posF v && posF x) := by
  rw [anyF_cons, anyF_cons, anyF_cons, anyF_nil, ha.eq, hb.eq, hc.eq, nposF_eq u a ha, nposF_eq v b hb, nposF_eq x c hc]
  cases posF u <;> cases posF v <;> cases posF x <;> rfl

def waveF (u v x : Option Nat) : Option Nat := nar (sqrt (wid (ar .quo .f32 u (ar .mul .f32 (ar .mul .f32 v (some 1078530011)) x))))
set_option maxHeartbeats 2000000 in
theorem sWaveDepth_any (a b c : Nat) (u v x : Option Nat) (ha : IsF .f32 a u) (hb : IsF .f32 b v) (hc : IsF .f32 c x) (w : World) :
    Calls Try.prog 11 #[.float .f32 a, .float .f32 b, .float .f32 c] w (RetFB w (if (posF u && posF v && posF x) then chkF (waveF u v x) else some 0) (posF u && posF v && posF x && finF (waveF u v x))) := by
  unfold waveF
  cases h1 : posF u <;> cases h2 : posF v <;> cases h3 : posF x <;>
    simp only [Bool.and_true, Bool.true_and, Bool.and_false, Bool.false_and, Bool.false_eq_true, if_false, if_true] <;>
    (go_enter Try.func11, Try.ntmps11
     go_wp2_with (first | (refine wpList_far rfl rfl (by first | exact .inl rfl | exact .inr (.inl rfl) | exact .inr (.inr (.inl rfl)) | exact .inr (.inr (.inr rfl))) rfl rfl (by first | assumption | exact isF_ofInt _ _ | exact IsF.lit (by decide +kernel)) (by first | assumption | exact isF_ofInt _ _ | exact IsF.lit (by decide +kernel)) ?_; intro r n hr) | (refine wpList_fcmp rfl rfl (by first | exact .inl rfl | exact .inr (.inl rfl) | exact .inr (.inr (.inl rfl)) | exact .inr (.inr (.inr (.inl rfl))) | exact .inr (.inr (.inr (.inr (.inl rfl)))) | exact .inr (.inr (.inr (.inr (.inr rfl))))) rfl rfl (by first | assumption | exact isF_ofInt _ _ | exact IsF.lit (by decide +kernel)) (by first | assumption | exact isF_ofInt _ _ | exact IsF.lit (by decide +kernel)) (by first | assumption | exact rfl) ?_) | (first | (refine wpList_fsame rfl rfl rfl (congrArg Option.isSome Try.underlying22) Try.underlying22 ?_) | (refine wpList_fsame rfl rfl rfl (congrArg Option.isSome Try.underlying32) Try.underlying32 ?_)) | (refine wpList_fwid rfl rfl rfl (congrArg Option.isSome Try.underlying22) Try.underlying32 (by assumption) ?_; intro r n hr) | (refine wpList_fnar rfl rfl rfl (congrArg Option.isSome Try.underlying32) Try.underlying22 (by assumption) (by assumption) ?_; intro r n hr) | (refine wpList_fneg rfl rfl rfl (by assumption) ?_; intro r hr) | (go_at_call 27; refine (l02Above_any _ _ (by assumption) _).mono ?_; rintro e w' ⟨n, rfl, rfl⟩; first | rw [h1] | rw [h2] | rw [h3]) | (go_at_call 29; refine (l01Sqrt_any _ _ (by assumption) _).mono ?_; rintro e w' ⟨r, n, rfl, hr, rfl⟩) | (go_at_call 28; refine (l02Number_any _ _ (by assumption) _).mono ?_; rintro e w' ⟨r, n, rfl, hr, rfl⟩))
     go_ret2
     first | exact ⟨_, _, rfl, by assumption, rfl⟩ | exact ⟨_, _, rfl, isF_zero, rfl⟩)
set_option maxHeartbeats 2000000 in
theorem iWaveDepth_any (a b c : Nat) (u v x : Option Nat) (ha : IsF .f32 a u) (hb : IsF .f32 b v) (hc : IsF .f32 c x) (w : World) :
    Calls Try.prog 12 #[.float .f32 a, .float .f32 b, .float .f32 c] w (RetFBb w (if (posF u && posF v && posF x) then chkF (waveF u v x) else some 0) (posF u && posF v && posF x && finF (waveF u v x))) := by
  have hsl := FSl_lit w [a, b, c] 22 (by simp; exact ⟨ha.2, hb.2, hc.2⟩) (by simp)
  have hp : ∀ q, (posF u && posF v && posF x) = q → ∀ w', Below (w.alloc (.cells #[.float .f32 a, .float .f32 b, .float .f32 c] 22)).heap.size (w.alloc (.cells #[.float .f32 a, .float .f32 b, .float .f32 c] 22)) w' → Calls Try.prog 26 #[.slice (some ⟨w.heap.size, 0, none⟩) 3 3] w' (Ret w' (.bool q)) := by
    intro q hq w' hw'
    have := arePositive_any _ _ w' (hsl.below hw')
    rw [not_any3 ha hb hc, hq] at this
    exact this
  unfold waveF
  generalize hq : (posF u && posF v && posF x) = q at *
  have HP := Lib.hid (hp q rfl)
  clear hp hsl hq
  cases q
  · simp only [Bool.false_and, Bool.false_eq_true, if_false]
    go_enter Try.func12, Try.ntmps12
    go_wp2_with fail
    refine (HP.out _ (Below.refl _ _)).mono ?_
    rintro e w' ⟨n, rfl, rfl⟩
    go_wp2_with fail
    go_ret2
    exact ⟨_, rfl, isF_zero, below_drewN ((Below.refl _ _).alloc (Nat.le_refl _) _) _⟩
  · simp only [Bool.true_and, if_true]
    go_enter Try.func12, Try.ntmps12
    go_wp2_with fail
    refine (HP.out _ (Below.refl _ _)).mono ?_
    rintro e w' ⟨n, rfl, rfl⟩
    go_wp2_with (first | (refine wpList_far rfl rfl (by first | exact .inl rfl | exact .inr (.inl rfl) | exact .inr (.inr (.inl rfl)) | exact .inr (.inr (.inr rfl))) rfl rfl (by first | assumption | exact isF_ofInt _ _ | exact IsF.lit (by decide +kernel)) (by first | assumption | exact isF_ofInt _ _ | exact IsF.lit (by decide +kernel)) ?_; intro r n hr) | (refine wpList_fcmp rfl rfl (by first | exact .inl rfl | exact .inr (.inl rfl) | exact .inr (.inr (.inl rfl)) | exact .inr (.inr (.inr (.inl rfl))) | exact .inr (.inr (.inr (.inr (.inl rfl)))) | exact .inr (.inr (.inr (.inr (.inr rfl))))) rfl rfl (by first | assumption | exact isF_ofInt _ _ | exact IsF.lit (by decide +kernel)) (by first | assumption | exact isF_ofInt _ _ | exact IsF.lit (by decide +kernel)) (by first | assumption | exact rfl) ?_) | (first | (refine wpList_fsame rfl rfl rfl (congrArg Option.isSome Try.underlying22) Try.underlying22 ?_) | (refine wpList_fsame rfl rfl rfl (congrArg Option.isSome Try.underlying32) Try.underlying32 ?_)) | (refine wpList_fwid rfl rfl rfl (congrArg Option.isSome Try.underlying22) Try.underlying32 (by assumption) ?_; intro r n hr) | (refine wpList_fnar rfl rfl rfl (congrArg Option.isSome Try.underlying32) Try.underlying22 (by assumption) (by assumption) ?_; intro r n hr) | (refine wpList_fneg rfl rfl rfl (by assumption) ?_; intro r hr) | (go_at_call 31; refine (iRootNumber_any _ _ (by assumption) _).mono ?_; rintro e w' ⟨r, n, rfl, hr, rfl⟩) | (go_at_call 30; refine (checked_any _ _ (by assumption) _).mono ?_; rintro e w' ⟨r, n, rfl, hr, rfl⟩))
    go_ret2
    exact ⟨_, rfl, by assumption, below_drewN ((Below.refl _ _).alloc (Nat.le_refl _) _) _⟩
end Go.Proofs.Ytngkkhfbeepjnaa
