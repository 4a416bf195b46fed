/-
  The sum of products of two slices of floats: what both functions compute.
-/
import Derived.Test.YtlbaenajpfiiiaaSlc
namespace Go.Proofs.Ytlbaenajpfiiiaa
set_option linter.unusedVariables false
set_option linter.unusedSimpArgs false
open Go.RowKit Fl
/-- The sum of the products, from left to right, of the first k. -/
def dotF (bs cs : List Nat) (k : Nat) : Option Nat := (List.range k).foldl (fun s i => ar .add .f32 s (ar .mul .f32 (cl .f32 (fget bs i)) (cl .f32 (fget cs i)))) (some 0)
theorem dotF_succ (bs cs : List Nat) (k : Nat) : dotF bs cs (k + 1) = ar .add .f32 (dotF bs cs k) (ar .mul .f32 (cl .f32 (fget bs k)) (cl .f32 (fget cs k))) := by
  unfold dotF; rw [List.range_succ, List.foldl_append]; rfl

set_option maxHeartbeats 1000000 in
theorem l01Dot_any (v1 v2 : Value) (b1 b2 : List Nat) (w : World) (h1 : FSl .f32 w v1 b1) (h2 : FSl .f32 w v2 b2) (hn : b1.length = b2.length) :
    Calls Try.prog 37 #[v1, v2] w (RetF w .f32 (dotF b1 b2 b1.length)) := by
  obtain ⟨ao1, cap1, rfl, g1, g2, g3, g4⟩ := h1
  obtain ⟨ao2, cap2, rfl, k1, k2, k3, k4⟩ := h2
  have G3 := Lib.hid g3
  have K3 := Lib.hid k3
  unfold maxLen at g2
  clear g3 k3
  have hz := isF_zero
  have hadd := run_fop (P := Try.prog) a_add 22 .f32
  have hmul := run_fop (P := Try.prog) a_mul 22 .f32
  rw [← hn]
  rcases Nat.eq_zero_or_pos b1.length with h0 | h0
  · rw [h0]
    clear h0 hn g4 k4 g1 k1 g2 k2
    go_enter Try.func37, Try.ntmps37
    go_wp2
    refine wp_loop_rounds 1 ?_
    rw [rounds_succ]
    go_wp2
    go_ret
    exact ⟨_, 0, rfl, hz, rfl⟩
  · rcases g4 with g4 | ⟨x1, o1, rfl, _, hc1⟩
    · subst g4; cases h0
    rcases k4 with k4 | ⟨x2, o2, rfl, _, hc2⟩
    · subst k4; rw [hn] at h0; exact absurd h0 (Nat.lt_irrefl 0)
    have HC1 := Lib.hid hc1
    have HC2 := Lib.hid hc2
    have HN := Lib.hid hn
    clear hc1 hc2 hn k1 k2
    go_enter Try.func37, Try.ntmps37
    go_wp2
    go_loopw [5, 6] (fun s i wr => ∃ k : Nat, k ≤ b1.length ∧ i = .int .i64 k ∧ ∃ r m, s = .float .f32 r ∧ IsF .f32 r (dotF b1 b2 k) ∧ wr = w.drewN m) (fun _ i _ => b1.length - (intOf i).toNat)
    case atStart => exact ⟨0, Nat.zero_le _, rfl, 0, 0, rfl, hz, rfl⟩
    case round =>
      obtain ⟨k, hk, rfl, r, m, rfl, hr, rfl⟩ := hrel
      by_cases hlt : k < b1.length
      · have s1 := HC1.out k hlt
        have s2 := HC2.out k (by rw [← HN.out]; exact hlt)
        have i1 : IsF .f32 (fget b1 k) (cl .f32 (fget b1 k)) := IsF.of (G3.out _ (fget_mem hlt))
        have i2 : IsF .f32 (fget b2 k) (cl .f32 (fget b2 k)) := IsF.of (K3.out _ (fget_mem (by rw [← HN.out]; exact hlt)))
        have HS := Lib.hid (dotF_succ b1 b2 k)
        go_wp2
        go_region
        all_goals go_wp2
        all_goals
          go_roundw
          case rel => exact ⟨k + 1, by omega, by go_num, _, _, rfl, by rw [HS.out]; exact isF_fop a_add hr (isF_fop a_mul i1 i2 _) _, rfl⟩
          case measure => simp [intOf]; omega
      · have hkn : k = b1.length := by omega
        have HK := Lib.hid hkn
        clear hkn
        go_wp2
        go_ret
        exact ⟨_, _, rfl, by rw [← HK.out]; exact hr, rfl⟩

theorem dotLen (b1 b2 : List Nat) : (decide (b1.length ≤ 256 ∧ b1.length = b2.length) = true ∨ decide (b1.length ≤ 256 ∧ b1.length = b2.length) = false) := by
  cases decide (b1.length ≤ 256 ∧ b1.length = b2.length) <;> simp

def dotV (b1 b2 : List Nat) : Option Nat := if b1.length ≤ 256 ∧ b1.length = b2.length then dotF b1 b2 b1.length else some 0

theorem sDotNumbers_any (v1 v2 : Value) (b1 b2 : List Nat) (w : World) (h1 : FSl .f32 w v1 b1) (h2 : FSl .f32 w v2 b2) :
    Calls Try.prog 19 #[v1, v2] w (RetFB w (dotV b1 b2) (decide (b1.length ≤ 256 ∧ b1.length = b2.length))) := by
  have h1' := h1
  have h2' := h2
  obtain ⟨ao, cap, rfl, hm1⟩ := h1.len
  obtain ⟨ao2, cap2, rfl, hm2⟩ := h2.len
  by_cases hl : b1.length ≤ 256
  · have hd : decide ((b1.length : Int) ≤ 256) = true := by simp; omega
    by_cases he : b1.length = b2.length
    · have e1 : dotV b1 b2 = dotF b1 b2 b1.length := if_pos ⟨hl, he⟩
      have e2 : ((b1.length : Int) != (b2.length : Int)) = false := by simp [he]
      rw [e1, decide_eq_true (show b1.length ≤ 256 ∧ b1.length = b2.length from ⟨hl, he⟩)]
      clear e1
      have HE := Lib.hid he
      clear he
      go_enter Try.func19, Try.ntmps19
      go_wp2_with (first | (go_at_call 36; refine (l01Few_any _ _ _ h1').mono ?_; rintro e w' ⟨rfl, rfl⟩; rw [hd]) | (go_at_call 37; refine (l01Dot_any _ _ _ _ _ h1' h2' HE.out).mono ?_; rintro e w' ⟨r, n, rfl, hr, rfl⟩))
      go_ret2
      exact ⟨_, _, rfl, by assumption, rfl⟩
    · have e1 : dotV b1 b2 = some 0 := if_neg (fun h => he h.2)
      have e2 : ((b1.length : Int) != (b2.length : Int)) = true := by rw [bne_iff_ne]; omega
      rw [e1, decide_eq_false (show ¬ (b1.length ≤ 256 ∧ b1.length = b2.length) from fun h => he h.2)]
      clear e1
      go_enter Try.func19, Try.ntmps19
      go_wp2_with (first | (go_at_call 36; refine (l01Few_any _ _ _ h1').mono ?_; rintro e w' ⟨rfl, rfl⟩; rw [hd]))
      go_ret2
      exact ⟨_, 0, rfl, isF_zero, rfl⟩
  · have hd : decide ((b1.length : Int) ≤ 256) = false := by simp; omega
    have e1 : dotV b1 b2 = some 0 := if_neg (fun h => hl h.1)
    rw [e1, decide_eq_false (show ¬ (b1.length ≤ 256 ∧ b1.length = b2.length) from fun h => hl h.1)]
    clear e1
    go_enter Try.func19, Try.ntmps19
    go_wp2_with (first | (go_at_call 36; refine (l01Few_any _ _ _ h1').mono ?_; rintro e w' ⟨rfl, rfl⟩; rw [hd]))
    go_ret2
    exact ⟨_, 0, rfl, isF_zero, rfl⟩
set_option maxHeartbeats 1000000 in
theorem iDotNumbers_any (v1 v2 : Value) (b1 b2 : List Nat) (w : World) (h1 : FSl .f32 w v1 b1) (h2 : FSl .f32 w v2 b2) :
    Calls Try.prog 21 #[v1, v2] w (RetFB w (dotV b1 b2) (decide (b1.length ≤ 256 ∧ b1.length = b2.length))) := by
  obtain ⟨ao1, cap1, rfl, g1, g2, g3, g4⟩ := h1
  obtain ⟨ao2, cap2, rfl, k1, k2, k3, k4⟩ := h2
  have G3 := Lib.hid g3
  have K3 := Lib.hid k3
  unfold maxLen at g2 k2
  clear g3 k3
  have hz := isF_zero
  by_cases hl : b1.length ≤ 256
  · by_cases he : b1.length = b2.length
    · have e1 : dotV b1 b2 = dotF b1 b2 b1.length := if_pos ⟨hl, he⟩
      have e2 : ((b1.length : Int) != (b1.length : Int)) = false := by simp
      rw [e1, decide_eq_true (show b1.length ≤ 256 ∧ b1.length = b2.length from ⟨hl, he⟩), ← he]
      clear e1
      rcases Nat.eq_zero_or_pos b1.length with h0 | h0
      · rw [h0]
        clear h0 he g4 k4 g1 k1 g2 k2 hl e2
        go_enter Try.func21, Try.ntmps21
        go_wp2
        refine wp_loop_rounds 1 ?_
        rw [rounds_succ]
        go_wp2
        go_ret2
        exact ⟨_, 0, rfl, hz, rfl⟩
      · rcases g4 with g4 | ⟨x1, o1, rfl, _, hc1⟩
        · subst g4; cases h0
        rcases k4 with k4 | ⟨x2, o2, rfl, _, hc2⟩
        · subst k4; rw [he] at h0; exact absurd h0 (Nat.lt_irrefl 0)
        have HC1 := Lib.hid hc1
        have HC2 := Lib.hid hc2
        have HN := Lib.hid he
        clear hc1 hc2 he k1 k2
        go_enter Try.func21, Try.ntmps21
        go_wp2
        go_loopw [6, 21] (fun s i wr => ∃ k : Nat, k ≤ b1.length ∧ i = .int .i64 k ∧ ∃ r m, s = .float .f32 r ∧ IsF .f32 r (dotF b1 b2 k) ∧ wr = w.drewN m) (fun _ i _ => b1.length - (intOf i).toNat)
        case atStart => exact ⟨0, Nat.zero_le _, rfl, 0, 0, rfl, hz, rfl⟩
        case round =>
          obtain ⟨k, hk, rfl, r, m, rfl, hr, rfl⟩ := hrel
          by_cases hlt : k < b1.length
          · have s1 := HC1.out k hlt
            have s2 := HC2.out k (by rw [← HN.out]; exact hlt)
            have i1 : IsF .f32 (fget b1 k) (cl .f32 (fget b1 k)) := IsF.of (G3.out _ (fget_mem hlt))
            have i2 : IsF .f32 (fget b2 k) (cl .f32 (fget b2 k)) := IsF.of (K3.out _ (fget_mem (by rw [← HN.out]; exact hlt)))
            have HS := Lib.hid (dotF_succ b1 b2 k)
            go_wp2_with (first | (refine wpList_far rfl rfl (by first | exact .inl rfl | exact .inr (.inl rfl) | exact .inr (.inr (.inl rfl)) | exact .inr (.inr (.inr rfl))) rfl rfl (by first | assumption | exact isF_ofInt _ _ | exact IsF.lit (by decide +kernel)) (by first | assumption | exact isF_ofInt _ _ | exact IsF.lit (by decide +kernel)) ?_; intro r n hr) | (refine wpList_fcmp rfl rfl (by first | exact .inl rfl | exact .inr (.inl rfl) | exact .inr (.inr (.inl rfl)) | exact .inr (.inr (.inr (.inl rfl))) | exact .inr (.inr (.inr (.inr (.inl rfl)))) | exact .inr (.inr (.inr (.inr (.inr rfl))))) rfl rfl (by first | assumption | exact isF_ofInt _ _ | exact IsF.lit (by decide +kernel)) (by first | assumption | exact isF_ofInt _ _ | exact IsF.lit (by decide +kernel)) (by first | assumption | exact rfl) ?_) | (first | (refine wpList_fsame rfl rfl rfl (congrArg Option.isSome Try.underlying22) Try.underlying22 ?_) | (refine wpList_fsame rfl rfl rfl (congrArg Option.isSome Try.underlying26) Try.underlying26 ?_)) | (refine wpList_fwid rfl rfl rfl (congrArg Option.isSome Try.underlying22) Try.underlying26 (by assumption) ?_; intro r n hr) | (refine wpList_fnar rfl rfl rfl (congrArg Option.isSome Try.underlying26) Try.underlying22 (by assumption) (by assumption) ?_; intro r n hr) | (refine wpList_fneg rfl rfl rfl (by assumption) ?_; intro r hr))
            all_goals
              go_roundw
              case rel => exact ⟨k + 1, by omega, by go_num, _, _, rfl, by rw [HS.out]; assumption, rfl⟩
              case measure => simp [intOf]; omega
          · have hkn : k = b1.length := by omega
            have HK := Lib.hid hkn
            clear hkn
            go_wp2
            go_ret2
            exact ⟨_, _, rfl, by rw [← HK.out]; exact hr, rfl⟩
    · have e1 : dotV b1 b2 = some 0 := if_neg (fun h => he h.2)
      have e2 : ((b1.length : Int) != (b2.length : Int)) = true := by rw [bne_iff_ne]; omega
      rw [e1, decide_eq_false (show ¬ (b1.length ≤ 256 ∧ b1.length = b2.length) from fun h => he h.2)]
      clear e1 g4 k4
      go_enter Try.func21, Try.ntmps21
      go_wp2
      go_ret2
      exact ⟨_, 0, rfl, isF_zero, rfl⟩
  · have e1 : dotV b1 b2 = some 0 := if_neg (fun h => hl h.1)
    rw [e1, decide_eq_false (show ¬ (b1.length ≤ 256 ∧ b1.length = b2.length) from fun h => hl h.1)]
    clear e1 g4 k4
    go_enter Try.func21, Try.ntmps21
    go_wp2
    go_ret2
    exact ⟨_, 0, rfl, isF_zero, rfl⟩
end Go.Proofs.Ytlbaenajpfiiiaa
