/-
  Contracts of the functions on slices of floats that the laws call.
-/
import Derived.Test.YtgaecoekhcdaeaaGreatDoorSl
import Derived.Test.YtgaecoekhcdaeaaGreatDoorMore
import Derived.Deep.RegionWith
import Derived.BigQuiet
namespace Go.Proofs.YtgaecoekhcdaeaaGreatDoor
set_option linter.unusedVariables false
set_option linter.unusedSimpArgs false
set_option maxRecDepth 20000
open Go.RowKit Fl
attribute [local go_sem] run_store_float

/-- The cell of a float. -/
def fcell (bs : List Nat) (i : Nat) : Value := .float .f32 (fget bs i)



/-- The sum from left to right, of the first k. -/
def sumF (bs : List Nat) (k : Nat) : Option Nat := ((bs.take k).map (cl .f32)).foldl (ar .add .f32) (some 0)
theorem sumF_zero (bs : List Nat) : sumF bs 0 = some 0 := by simp [sumF]
theorem sumF_succ {bs : List Nat} {k : Nat} (h : k < bs.length) : sumF bs (k + 1) = ar .add .f32 (sumF bs k) (cl .f32 (fget bs k)) := by
  unfold sumF; rw [take_fget h, List.map_append, List.foldl_append]; rfl
theorem isF_zero : IsF .f32 0 (some 0) := IsF.lit (by decide +kernel)

set_option maxHeartbeats 1000000 in
theorem isum_any (v : Value) (bs : List Nat) (w : World) (h : FSl .f32 w v bs) :
    Calls Tryz.prog 64 #[v] w (RetF w .f32 (sumF bs bs.length)) := by
  obtain ⟨ao, cap, rfl, g1, g2, g3, g4⟩ := h
  have G3 := Lib.hid g3
  unfold maxLen at g2
  clear g3
  have hz := isF_zero
  rcases Nat.eq_zero_or_pos bs.length with h0 | h0
  · rw [h0]
    clear h0 g4 g1 g2
    go_enter Tryz.func64, Tryz.ntmps64
    go_wp2
    refine wp_loop_rounds 1 ?_
    rw [rounds_succ]
    go_wp2
    go_ret
    exact ⟨_, 0, rfl, by rw [sumF_zero]; exact hz, rfl⟩
  · rcases g4 with g4 | ⟨x1, o1, rfl, _, hc1⟩
    · subst g4; exact absurd h0 (Nat.lt_irrefl 0)
    have HC1 := Lib.hid hc1
    clear hc1
    go_enter Tryz.func64, Tryz.ntmps64
    go_wp2
    go_loopw [3, 8] (fun s i wr => ∃ k : Nat, k ≤ bs.length ∧ i = .int .i64 k ∧ ∃ r m, s = .float .f32 r ∧ IsF .f32 r (sumF bs k) ∧ wr = w.drewN m) (fun _ i _ => bs.length - (intOf i).toNat)
    case atStart => exact ⟨0, Nat.zero_le _, rfl, 0, 0, rfl, by rw [sumF_zero]; exact hz, rfl⟩
    case round =>
      obtain ⟨k, hk, rfl, r, m, rfl, hr, rfl⟩ := hrel
      by_cases hlt : k < bs.length
      · have s1 := HC1.out k hlt
        have i1 : IsF .f32 (fget bs k) (cl .f32 (fget bs k)) := IsF.of (G3.out _ (fget_mem hlt))
        have HS := Lib.hid (sumF_succ hlt)
        go_wp2_with (first | (refine wpList_far rfl rfl (by first | exact .inl rfl | exact .inr (.inl rfl) | exact .inr (.inr (.inl rfl)) | exact .inr (.inr (.inr rfl))) rfl rfl (by first | assumption | exact isF_ofInt _ _ | exact IsF.lit (by decide +kernel)) (by first | assumption | exact isF_ofInt _ _ | exact IsF.lit (by decide +kernel)) ?_; intro r n hr) | (refine wpList_fcmp rfl rfl (by first | exact .inl rfl | exact .inr (.inl rfl) | exact .inr (.inr (.inl rfl)) | exact .inr (.inr (.inr (.inl rfl))) | exact .inr (.inr (.inr (.inr (.inl rfl)))) | exact .inr (.inr (.inr (.inr (.inr rfl))))) rfl rfl (by first | assumption | exact isF_ofInt _ _ | exact IsF.lit (by decide +kernel)) (by first | assumption | exact isF_ofInt _ _ | exact IsF.lit (by decide +kernel)) (by first | assumption | exact rfl) ?_) | (first | (refine wpList_fsame rfl rfl rfl (congrArg Option.isSome Tryz.underlying28) Tryz.underlying28 ?_) | (refine wpList_fsame rfl rfl rfl (congrArg Option.isSome Tryz.underlying46) Tryz.underlying46 ?_)) | (refine wpList_fwid rfl rfl rfl (congrArg Option.isSome Tryz.underlying28) Tryz.underlying46 (by assumption) ?_; intro r n hr) | (refine wpList_fnar rfl rfl rfl (congrArg Option.isSome Tryz.underlying46) Tryz.underlying28 (by assumption) (by assumption) ?_; intro r n hr) | (refine wpList_fneg rfl rfl rfl (by assumption) ?_; intro r hr))
        all_goals
          go_roundw
          case rel => exact ⟨k + 1, by omega, by go_num, _, _, rfl, by rw [HS.out]; assumption, rfl⟩
          case measure => simp [intOf]; omega
      · have hkn : k = bs.length := by omega
        have HK := Lib.hid hkn
        clear hkn
        go_wp2
        go_ret
        exact ⟨_, _, rfl, by rw [← HK.out]; exact hr, rfl⟩

/-- The call returns a float and a bool. -/
def RetFB (w : World) (v : Option Nat) (b : Bool) (e : Ending) (w' : World) : Prop := ∃ r n, e = .returned (.tuple #[.float .f32 r, .bool b]) ∧ IsF .f32 r v ∧ w' = w.drewN n

theorem FSl.len {k : FloatKind} {w : World} {v : Value} {bs : List Nat} (h : FSl k w v bs) : ∃ ao cap, v = .slice ao bs.length cap ∧ bs.length ≤ 9223372036854775807 := by
  obtain ⟨ao, cap, h1, h2, h3, _⟩ := h
  unfold maxLen at h3
  exact ⟨ao, cap, h1, by omega⟩
theorem FSl.bits {k : FloatKind} {w : World} {v : Value} {bs : List Nat} (h : FSl k w v bs) : ∀ b ∈ bs, b < 2 ^ k.format.width := by
  obtain ⟨ao, cap, h1, h2, h3, h4, _⟩ := h
  exact h4

theorem iSumNumbers_any (v : Value) (bs : List Nat) (w : World) (h : FSl .f32 w v bs) :
    Calls Tryz.prog 30 #[v] w (RetFB w (if bs.length ≤ 256 then sumF bs bs.length else some 0) (decide (bs.length ≤ 256))) := by
  have h' := h
  obtain ⟨ao, cap, rfl, _⟩ := h.len
  by_cases hl : bs.length ≤ 256
  · rw [if_pos hl, decide_eq_true hl]
    go_enter Tryz.func30, Tryz.ntmps30
    go_wp2_with (first | (go_at_call 64; refine (isum_any _ _ _ h').mono ?_; rintro e w' ⟨r, n, rfl, hr, rfl⟩))
    go_ret2
    exact ⟨_, _, rfl, by assumption, rfl⟩
  · rw [if_neg hl, decide_eq_false hl]
    go_enter Tryz.func30, Tryz.ntmps30
    go_wp2_with fail
    go_ret2
    exact ⟨_, 0, rfl, isF_zero, rfl⟩
end Go.Proofs.YtgaecoekhcdaeaaGreatDoor
