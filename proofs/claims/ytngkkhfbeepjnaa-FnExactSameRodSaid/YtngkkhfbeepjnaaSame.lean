/-
  Contracts: lists of floats and rods are the same, at both sides.
-/
import Derived.Test.YtngkkhfbeepjnaaVrod
import Derived.Deep.QuietTactic
import Derived.BigQuiet
namespace Go.Proofs.Ytngkkhfbeepjnaa
set_option linter.unusedVariables false
set_option linter.unusedSimpArgs false
open Go.RowKit Fl
attribute [local go_sem] run_store_float

/-- Two lists stand for the same numbers. -/
def sameL (b1 b2 : List Nat) : Bool := decide (b1.length = b2.length) && (List.range b1.length).all fun i => bitsI (cl .f32 (fget b1 i)) == bitsI (cl .f32 (fget b2 i))
theorem sameL_len {b1 b2 : List Nat} (h : b1.length ≠ b2.length) : sameL b1 b2 = false := by unfold sameL; rw [decide_eq_false h]; rfl
theorem sameL_no {b1 b2 : List Nat} {k : Nat} (hk : k < b1.length) (h : (bitsI (cl .f32 (fget b1 k)) == bitsI (cl .f32 (fget b2 k))) = false) : sameL b1 b2 = false := by
  unfold sameL
  rw [Bool.and_eq_false_iff]
  right
  rw [List.all_eq_false]
  exact ⟨k, by simpa using hk, by rw [h]; decide⟩
theorem sameL_yes {b1 b2 : List Nat} (hn : b1.length = b2.length) (h : ∀ j, j < b1.length → (bitsI (cl .f32 (fget b1 j)) == bitsI (cl .f32 (fget b2 j))) = true) : sameL b1 b2 = true := by
  unfold sameL
  rw [decide_eq_true hn, Bool.true_and, List.all_eq_true]
  intro j hj
  exact h j (by simpa using hj)
theorem quiet_ret {P : Program} {f : FuncId} {args : Array Value} {w : World} {n : Nat} {v : Value} (h : Calls P f args (w.drewN n) (Ret (w.drewN n) v)) : Calls P f args (w.drewN n) fun e w'' => e = .returned v ∧ ∃ m, w'' = w.drewN m :=
  Calls.quiet_of (h.mono fun _ _ ⟨m, he, hm⟩ => ⟨he, m, hm⟩)
set_option maxHeartbeats 2000000 in
theorem l01SameAll_any (v1 v2 : Value) (b1 b2 : List Nat) (w : World) (h1 : FSl .f32 w v1 b1) (h2 : FSl .f32 w v2 b2) : Calls Try.prog 48 #[v1, v2] w (Ret w (.bool (sameL b1 b2))) := by
  obtain ⟨ao1, cap1, rfl, g1, g2, g3, g4⟩ := h1
  obtain ⟨ao2, cap2, rfl, k1, k2, k3, k4⟩ := h2
  have G3 := Lib.hid g3
  have K3 := Lib.hid k3
  unfold maxLen at g2 k2
  clear g3 k3
  by_cases hn : b1.length = b2.length
  · have HN := Lib.hid hn
    rw [← hn]
    rcases Nat.eq_zero_or_pos b1.length with h0 | h0
    · have HZ := Lib.hid (sameL_yes hn (fun j hj => by omega))
      rw [HZ.out, h0]
      clear h0 hn g4 k4 g1 k1 g2 k2
      go_enter Try.func48, Try.ntmps48
      go_wp2
      refine wp_loop_rounds 1 ?_
      rw [rounds_succ]
      go_wp2
      go_ret
      exact ret_mk0 rfl
    · rcases g4 with g4 | ⟨x1, o1, rfl, _, hc1⟩
      · subst g4; exact absurd h0 (Nat.lt_irrefl 0)
      rcases k4 with k4 | ⟨x2, o2, rfl, _, hc2⟩
      · subst k4; rw [hn] at h0; exact absurd h0 (Nat.lt_irrefl 0)
      have HC1 := Lib.hid hc1
      have HC2 := Lib.hid hc2
      clear hc1 hc2 hn k1 k2
      go_enter Try.func48, Try.ntmps48
      go_wp2
      go_loopw [5] (fun i wr => ∃ k : Nat, k ≤ b1.length ∧ i = .int .i64 k ∧ Hid (∀ j, j < k → (bitsI (cl .f32 (fget b1 j)) == bitsI (cl .f32 (fget b2 j))) = true) ∧ ∃ m, wr = w.drewN m) (fun i _ => b1.length - (intOf i).toNat)
      case atStart => exact ⟨0, Nat.zero_le _, rfl, Lib.hid (fun j hj => absurd hj (Nat.not_lt_zero _)), 0, rfl⟩
      case round =>
        obtain ⟨k, hk, rfl, hall, m, rfl⟩ := hrel
        by_cases hlt : k < b1.length
        · have s1 := HC1.out k hlt
          have s2 := HC2.out k (by rw [← HN.out]; exact hlt)
          have i1 : IsF .f32 (fget b1 k) (cl .f32 (fget b1 k)) := IsF.of (G3.out _ (fget_mem hlt))
          have i2 : IsF .f32 (fget b2 k) (cl .f32 (fget b2 k)) := IsF.of (K3.out _ (fget_mem (by rw [← HN.out]; exact hlt)))
          have hcall := fun w' => l01Same_any _ _ _ _ i1 i2 w'
          cases hp : (bitsI (cl .f32 (fget b1 k)) == bitsI (cl .f32 (fget b2 k)))
          · rw [hp] at hcall
            have HCALL := Lib.hid hcall
            have HZ := Lib.hid (sameL_no hlt hp)
            rw [HZ.out]
            clear hp hcall i1 i2 HZ
            generalize fget b1 k = e1 at *
            generalize fget b2 k = e2 at *
            go_wp2
            go_region_with (go_at_call 55; refine (HCALL.out _).mono ?_; rintro e w' ⟨rfl, rfl⟩)
            all_goals go_wp2
            all_goals
              go_ret
              exact ret_mk rfl
          · rw [hp] at hcall
            have HCALL := Lib.hid hcall
            have HP := Lib.hid hp
            clear hp hcall i1 i2
            have hall2 : Hid (∀ j, j < k + 1 → (bitsI (cl .f32 (fget b1 j)) == bitsI (cl .f32 (fget b2 j))) = true) := Lib.hid (fun j hj => by
              by_cases hjk : j = k
              · subst hjk; exact HP.out
              · exact hall.out j (by omega))
            generalize fget b1 k = e1 at s1 HCALL HP
            generalize fget b2 k = e2 at s2 HCALL HP
            go_wp2
            go_region_with (go_at_call 55; refine (HCALL.out _).mono ?_; rintro e w' ⟨rfl, rfl⟩)
            all_goals go_wp2
            all_goals
              go_roundw
              case rel => exact ⟨k + 1, by omega, by go_num, hall2, _, rfl⟩
              case measure => simp [intOf]; omega
        · have hkn : k = b1.length := by omega
          have HZ := Lib.hid (sameL_yes HN.out (fun j hj => hall.out j (by omega)))
          have HK := Lib.hid hkn
          clear hkn
          go_wp2
          go_ret
          exact ret_mk (congrArg Value.bool HZ.out.symm)
  · have HZ := Lib.hid (sameL_len hn)
    rw [HZ.out]
    go_enter Try.func48, Try.ntmps48
    go_wp2
    go_ret
    exact ret_mk0 rfl
set_option maxHeartbeats 2000000 in
theorem equalFunc_any (v1 v2 : Value) (b1 b2 : List Nat) (w : World) (h1 : FSl .f32 w v1 b1) (h2 : FSl .f32 w v2 b2) : Calls Try.prog 49 #[v1, v2, .func (.func 50) #[] #[]] w (Ret w (.bool (sameL b1 b2))) := by
  obtain ⟨ao1, cap1, rfl, g1, g2, g3, g4⟩ := h1
  obtain ⟨ao2, cap2, rfl, k1, k2, k3, k4⟩ := h2
  have G3 := Lib.hid g3
  have K3 := Lib.hid k3
  unfold maxLen at g2 k2
  clear g3 k3
  by_cases hn : b1.length = b2.length
  · have HN := Lib.hid hn
    rw [← hn]
    rcases Nat.eq_zero_or_pos b1.length with h0 | h0
    · have HZ := Lib.hid (sameL_yes hn (fun j hj => by omega))
      rw [HZ.out, h0]
      clear h0 hn g4 k4 g1 k1 g2 k2
      go_enter Try.func49, Try.ntmps49
      go_wp2
      refine wp_loop_rounds 1 ?_
      rw [rounds_succ]
      go_wp2
      go_ret
      exact ret_mk0 rfl
    · rcases g4 with g4 | ⟨x1, o1, rfl, _, hc1⟩
      · subst g4; exact absurd h0 (Nat.lt_irrefl 0)
      rcases k4 with k4 | ⟨x2, o2, rfl, _, hc2⟩
      · subst k4; rw [hn] at h0; exact absurd h0 (Nat.lt_irrefl 0)
      have HC1 := Lib.hid hc1
      have HC2 := Lib.hid hc2
      clear hc1 hc2 hn k1 k2
      go_enter Try.func49, Try.ntmps49
      go_wp2
      go_loopw [17] (fun i wr => ∃ k : Nat, k ≤ b1.length ∧ i = .int .i64 k ∧ Hid (∀ j, j < k → (bitsI (cl .f32 (fget b1 j)) == bitsI (cl .f32 (fget b2 j))) = true) ∧ ∃ m, wr = w.drewN m) (fun i _ => b1.length - (intOf i).toNat)
      case atStart => exact ⟨0, Nat.zero_le _, rfl, Lib.hid (fun j hj => absurd hj (Nat.not_lt_zero _)), 0, rfl⟩
      case round =>
        obtain ⟨k, hk, rfl, hall, m, rfl⟩ := hrel
        by_cases hlt : k < b1.length
        · have s1 := HC1.out k hlt
          have s2 := HC2.out k (by rw [← HN.out]; exact hlt)
          have i1 : IsF .f32 (fget b1 k) (cl .f32 (fget b1 k)) := IsF.of (G3.out _ (fget_mem hlt))
          have i2 : IsF .f32 (fget b2 k) (cl .f32 (fget b2 k)) := IsF.of (K3.out _ (fget_mem (by rw [← HN.out]; exact hlt)))
          have hcall := fun w' => iSameNumber_any _ _ _ _ i1 i2 w'
          cases hp : (bitsI (cl .f32 (fget b1 k)) == bitsI (cl .f32 (fget b2 k)))
          · rw [hp] at hcall
            have HCALL := Lib.hid hcall
            have HZ := Lib.hid (sameL_no hlt hp)
            rw [HZ.out]
            clear hp hcall i1 i2 HZ
            generalize fget b1 k = e1 at *
            generalize fget b2 k = e2 at *
            go_wp2_with (go_at_call 50; refine (HCALL.out _).mono ?_; rintro e w' ⟨q, rfl, rfl⟩)
            go_ret
            exact ret_mk rfl
          · rw [hp] at hcall
            have HCALL := Lib.hid hcall
            have HP := Lib.hid hp
            clear hp hcall i1 i2
            have hall2 : Hid (∀ j, j < k + 1 → (bitsI (cl .f32 (fget b1 j)) == bitsI (cl .f32 (fget b2 j))) = true) := Lib.hid (fun j hj => by
              by_cases hjk : j = k
              · subst hjk; exact HP.out
              · exact hall.out j (by omega))
            generalize fget b1 k = e1 at s1 HCALL HP
            generalize fget b2 k = e2 at s2 HCALL HP
            go_wp2_with (go_at_call 50; refine (HCALL.out _).mono ?_; rintro e w' ⟨q, rfl, rfl⟩)
            all_goals
              go_roundw
              case rel => exact ⟨k + 1, by omega, by go_num, hall2, _, rfl⟩
              case measure => simp [intOf]; omega
        · have hkn : k = b1.length := by omega
          have HZ := Lib.hid (sameL_yes HN.out (fun j hj => hall.out j (by omega)))
          have HK := Lib.hid hkn
          clear hkn
          go_wp2
          go_ret
          exact ret_mk (congrArg Value.bool HZ.out.symm)
  · have HZ := Lib.hid (sameL_len hn)
    rw [HZ.out]
    go_enter Try.func49, Try.ntmps49
    go_wp2
    go_ret
    exact ret_mk0 rfl
theorem sameNumbers_any (v1 v2 : Value) (b1 b2 : List Nat) (w : World) (h1 : FSl .f32 w v1 b1) (h2 : FSl .f32 w v2 b2) : Calls Try.prog 38 #[v1, v2] w (Ret w (.bool (sameL b1 b2))) := by
  go_enter Try.func38, Try.ntmps38
  go_wp2_with (first | (go_at_call 49; refine (equalFunc_any _ _ _ _ _ h1 h2).mono ?_; rintro e w' ⟨n, rfl, rfl⟩))
  go_ret
  exact ret_mk rfl
def sameR (R1 R2 : Rl) : Bool := sameL R1.a R2.a && sameL R1.b R2.b && sameL R1.c R2.c && sameL R1.d R2.d
set_option maxHeartbeats 4000000 in
theorem iSameRod_any (v1 v2 v3 v4 x1 x2 x3 x4 : Value) (R1 R2 : Rl) (w : World) (h : Rod4 w v1 v2 v3 v4 R1) (h' : Rod4 w x1 x2 x3 x4 R2) :
    Calls Try.prog 20 #[.agg #[v1, v2, v3, v4], .agg #[x1, x2, x3, x4]] w (RetB w (.bool (sameR R1 R2))) := by
  have D0 : Below w.heap.size w ((w.alloc (.cells #[v1, v2, v3, v4] 39)).alloc (.cells #[x1, x2, x3, x4] 39)) := by (repeat' first | assumption | exact Below.refl _ _ | refine B_drew ?_ _ | refine Below.drew ?_ | refine Below.alloc ?_ (by first | exact Nat.le_refl _ | (simp; done) | (simp; omega)) _)
  have k1 := h.below D0
  have k2 := h'.below D0
  have c1 := fun n => sameNumbers_any _ _ _ _ _ (k1.1.drewN n) (k2.1.drewN n)
  have c2 := fun n => sameNumbers_any _ _ _ _ _ (k1.2.1.drewN n) (k2.2.1.drewN n)
  have c3 := fun n => sameNumbers_any _ _ _ _ _ (k1.2.2.1.drewN n) (k2.2.2.1.drewN n)
  have c4 := fun n => sameNumbers_any _ _ _ _ _ (k1.2.2.2.drewN n) (k2.2.2.2.drewN n)
  have c0 := sameNumbers_any _ _ _ _ _ k1.1 k2.1
  unfold sameR
  generalize sameL R1.a R2.a = q1 at *
  generalize sameL R1.b R2.b = q2 at *
  generalize sameL R1.c R2.c = q3 at *
  generalize sameL R1.d R2.d = q4 at *
  have C0 := Lib.hid c0
  have C2 := Lib.hid c2
  have C3 := Lib.hid c3
  have C4 := Lib.hid c4
  clear c0 c1 c2 c3 c4 h h' k1 k2
  cases q1
  · go_enter Try.func20, Try.ntmps20
    go_wp2_with fail
    refine C0.out.mono ?_
    rintro e w1 ⟨n1, rfl, rfl⟩
    go_wp2_with fail
    go_ret
    exact ⟨rfl, by (repeat' first | assumption | exact Below.refl _ _ | refine B_drew ?_ _ | refine Below.drew ?_ | refine Below.alloc ?_ (by first | exact Nat.le_refl _ | (simp; done) | (simp; omega)) _)⟩
  · cases q2
    · go_enter Try.func20, Try.ntmps20
      go_wp2_with fail
      refine C0.out.mono ?_
      rintro e w1 ⟨n1, rfl, rfl⟩
      go_wp2_with fail
      refine (C2.out _).mono ?_
      rintro e w2 ⟨n2, rfl, rfl⟩
      go_wp2_with fail
      go_ret
      exact ⟨rfl, by (repeat' first | assumption | exact Below.refl _ _ | refine B_drew ?_ _ | refine Below.drew ?_ | refine Below.alloc ?_ (by first | exact Nat.le_refl _ | (simp; done) | (simp; omega)) _)⟩
    · cases q3
      · go_enter Try.func20, Try.ntmps20
        go_wp2_with fail
        refine C0.out.mono ?_
        rintro e w1 ⟨n1, rfl, rfl⟩
        go_wp2_with fail
        refine (C2.out _).mono ?_
        rintro e w2 ⟨n2, rfl, rfl⟩
        go_wp2_with fail
        refine (C3.out _).mono ?_
        rintro e w3 ⟨n3, rfl, rfl⟩
        go_wp2_with fail
        go_ret
        exact ⟨rfl, by (repeat' first | assumption | exact Below.refl _ _ | refine B_drew ?_ _ | refine Below.drew ?_ | refine Below.alloc ?_ (by first | exact Nat.le_refl _ | (simp; done) | (simp; omega)) _)⟩
      · go_enter Try.func20, Try.ntmps20
        go_wp2_with fail
        refine C0.out.mono ?_
        rintro e w1 ⟨n1, rfl, rfl⟩
        go_wp2_with fail
        refine (C2.out _).mono ?_
        rintro e w2 ⟨n2, rfl, rfl⟩
        go_wp2_with fail
        refine (C3.out _).mono ?_
        rintro e w3 ⟨n3, rfl, rfl⟩
        go_wp2_with fail
        refine (C4.out _).mono ?_
        rintro e w4 ⟨n4, rfl, rfl⟩
        go_wp2_with fail
        go_ret
        exact ⟨by cases q4 <;> rfl, by (repeat' first | assumption | exact Below.refl _ _ | refine B_drew ?_ _ | refine Below.drew ?_ | refine Below.alloc ?_ (by first | exact Nat.le_refl _ | (simp; done) | (simp; omega)) _)⟩
set_option maxHeartbeats 4000000 in
theorem l02Same_any (p q : Nat) (v1 v2 v3 v4 x1 x2 x3 x4 : Value) (R1 R2 : Rl) (w : World) (hB : Box4 w p v1 v2 v3 v4) (hB' : Box4 w q x1 x2 x3 x4) (h : Rod4 w v1 v2 v3 v4 R1) (h' : Rod4 w x1 x2 x3 x4 R2) :
    Calls Try.prog 37 #[.pointer (some ⟨p, 0, none⟩), .pointer (some ⟨q, 0, none⟩)] w (Ret w (.bool (sameR R1 R2))) := by
  obtain ⟨⟨a0, a1, a2, a3⟩, _, _⟩ := hB
  obtain ⟨⟨b0, b1, b2, b3⟩, _, _⟩ := hB'
  have c1 := fun n => quiet_ret (l01SameAll_any _ _ _ _ _ (h.1.drewN n) (h'.1.drewN n))
  have c2 := fun n => quiet_ret (l01SameAll_any _ _ _ _ _ (h.2.1.drewN n) (h'.2.1.drewN n))
  have c3 := fun n => quiet_ret (l01SameAll_any _ _ _ _ _ (h.2.2.1.drewN n) (h'.2.2.1.drewN n))
  have c4 := fun n => quiet_ret (l01SameAll_any _ _ _ _ _ (h.2.2.2.drewN n) (h'.2.2.2.drewN n))
  unfold sameR
  generalize sameL R1.a R2.a = q1 at *
  generalize sameL R1.b R2.b = q2 at *
  generalize sameL R1.c R2.c = q3 at *
  generalize sameL R1.d R2.d = q4 at *
  have C1 := Lib.hid c1
  have C2 := Lib.hid c2
  have C3 := Lib.hid c3
  have C4 := Lib.hid c4
  clear c1 c2 c3 c4 h h'
  cases q1 <;> cases q2 <;> cases q3
  all_goals
    go_enter Try.func37, Try.ntmps37
    go_wp2_with fail
    go_quiet ((first | (go_at_call 48; with_reducible exact C1.out _) | (go_at_call 48; with_reducible exact C2.out _) | (go_at_call 48; with_reducible exact C3.out _) | (go_at_call 48; with_reducible exact C4.out _)))
    go_wp2_with fail
    go_ret
    exact ⟨_, by first | rfl | (cases q4 <;> rfl), rfl⟩
theorem sSameRod_any (v1 v2 v3 v4 x1 x2 x3 x4 : Value) (R1 R2 : Rl) (w : World) (h : Rod4 w v1 v2 v3 v4 R1) (h' : Rod4 w x1 x2 x3 x4 R2) :
    Calls Try.prog 19 #[.agg #[v1, v2, v3, v4], .agg #[x1, x2, x3, x4]] w (RetB w (.bool (sameR R1 R2))) := by
  have D0 : Below w.heap.size w ((w.alloc (.cells #[v1, v2, v3, v4] 39)).alloc (.cells #[x1, x2, x3, x4] 39)) := by (repeat' first | assumption | exact Below.refl _ _ | refine B_drew ?_ _ | refine Below.drew ?_ | refine Below.alloc ?_ (by first | exact Nat.le_refl _ | (simp; done) | (simp; omega)) _)
  have bA := (box4_alloc w 39 v1 v2 v3 v4).alloc (.cells #[x1, x2, x3, x4] 39)
  have bB := box4_alloc (w.alloc (.cells #[v1, v2, v3, v4] 39)) 39 x1 x2 x3 x4
  have hi := l02Same_any _ _ _ _ _ _ _ _ _ _ R1 R2 _ bA bB (h.below D0) (h'.below D0)
  have HI := Lib.hid hi
  clear hi bA bB h h'
  go_enter Try.func19, Try.ntmps19
  go_wp2_with fail
  have HI2 := HI.out
  simp at HI2
  refine HI2.mono ?_
  rintro e w1 ⟨n, rfl, rfl⟩
  go_wp2_with fail
  go_ret
  exact ⟨rfl, by (repeat' first | assumption | exact Below.refl _ _ | refine B_drew ?_ _ | refine Below.drew ?_ | refine Below.alloc ?_ (by first | exact Nat.le_refl _ | (simp; done) | (simp; omega)) _)⟩
end Go.Proofs.Ytngkkhfbeepjnaa
