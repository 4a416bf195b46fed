/-
  Contracts on numbers that are finite or greater than 0, one by one and in lists; square roots' callers.
-/
import Derived.Test.YtaannebjpmdhjaaSlc
import Derived.Test.YtaannebjpmdhjaaFlush
namespace Go.Proofs.Ytaannebjpmdhjaa
set_option linter.unusedVariables false
set_option linter.unusedSimpArgs false
set_option maxRecDepth 20000
open Go.RowKit Fl
attribute [local go_sem] run_store_float

/-- Finite and greater than 0. -/
def posF (v : Option Nat) : Bool := finF v && cmpF .gtr .f32 v (some 0)
/-- Not finite, or at most 0. -/
def nposF (v : Option Nat) : Bool := !finF v || cmpF .leq .f32 v (some 0)
theorem nposF_eq (v : Option Nat) (b : Nat) (h : IsF .f32 b v) : nposF v = !posF v := by
  unfold nposF posF
  cases hf : finF v
  · rfl
  · cases v with
    | none => cases hf
    | some x =>
      obtain ⟨rfl, _⟩ := h.num
      simp only [cmpF, Bool.not_true, Bool.false_or, Bool.true_and]
      rcases fin_cases h with h1 | ⟨_, h1⟩ | ⟨_, h1⟩
      · cases h1
      · rw [cmp_zero h1]
        generalize compare (I FloatKind.f32.format b) 0 = o
        cases o <;> rfl
      · rw [cmp_zero_inf h1]
        cases sg FloatKind.f32.format b <;> rfl

theorem arePositive1_any (b : Nat) (v : Option Nat) (h : IsF .f32 b v) (w : World) : Calls Try.prog 31 #[.float .f32 b] w (Ret w (.bool (nposF v))) := by
  unfold nposF
  cases hf : finF v
  · go_enter Try.func31, Try.ntmps31
    go_wp2_with (first | (refine wpList_far rfl rfl (by first | exact .inl rfl | exact .inr (.inl rfl) | exact .inr (.inr (.inl rfl)) | exact .inr (.inr (.inr rfl))) rfl rfl (by first | assumption | exact isF_ofInt _ _ | exact IsF.lit (by decide +kernel)) (by first | assumption | exact isF_ofInt _ _ | exact IsF.lit (by decide +kernel)) ?_; intro r n hr) | (refine wpList_fcmp rfl rfl (by first | exact .inl rfl | exact .inr (.inl rfl) | exact .inr (.inr (.inl rfl)) | exact .inr (.inr (.inr (.inl rfl))) | exact .inr (.inr (.inr (.inr (.inl rfl)))) | exact .inr (.inr (.inr (.inr (.inr rfl))))) rfl rfl (by first | assumption | exact isF_ofInt _ _ | exact IsF.lit (by decide +kernel)) (by first | assumption | exact isF_ofInt _ _ | exact IsF.lit (by decide +kernel)) (by first | assumption | exact rfl) ?_) | (first | (refine wpList_fsame rfl rfl rfl (congrArg Option.isSome Try.underlying28) Try.underlying28 ?_) | (refine wpList_fsame rfl rfl rfl (congrArg Option.isSome Try.underlying27) Try.underlying27 ?_)) | (refine wpList_fwid rfl rfl rfl (congrArg Option.isSome Try.underlying28) Try.underlying27 (by assumption) ?_; intro r n hr) | (refine wpList_fnar rfl rfl rfl (congrArg Option.isSome Try.underlying27) Try.underlying28 (by assumption) (by assumption) ?_; intro r n hr) | (refine wpList_fneg rfl rfl rfl (by assumption) ?_; intro r hr) | (go_at_call 32; refine (iIsFinite_any _ _ (by assumption) _).mono ?_; rintro e w' ⟨n, rfl, rfl⟩; rw [hf]))
    go_ret
    exact ret_mk rfl
  · go_enter Try.func31, Try.ntmps31
    go_wp2_with (first | (refine wpList_far rfl rfl (by first | exact .inl rfl | exact .inr (.inl rfl) | exact .inr (.inr (.inl rfl)) | exact .inr (.inr (.inr rfl))) rfl rfl (by first | assumption | exact isF_ofInt _ _ | exact IsF.lit (by decide +kernel)) (by first | assumption | exact isF_ofInt _ _ | exact IsF.lit (by decide +kernel)) ?_; intro r n hr) | (refine wpList_fcmp rfl rfl (by first | exact .inl rfl | exact .inr (.inl rfl) | exact .inr (.inr (.inl rfl)) | exact .inr (.inr (.inr (.inl rfl))) | exact .inr (.inr (.inr (.inr (.inl rfl)))) | exact .inr (.inr (.inr (.inr (.inr rfl))))) rfl rfl (by first | assumption | exact isF_ofInt _ _ | exact IsF.lit (by decide +kernel)) (by first | assumption | exact isF_ofInt _ _ | exact IsF.lit (by decide +kernel)) (by first | assumption | exact rfl) ?_) | (first | (refine wpList_fsame rfl rfl rfl (congrArg Option.isSome Try.underlying28) Try.underlying28 ?_) | (refine wpList_fsame rfl rfl rfl (congrArg Option.isSome Try.underlying27) Try.underlying27 ?_)) | (refine wpList_fwid rfl rfl rfl (congrArg Option.isSome Try.underlying28) Try.underlying27 (by assumption) ?_; intro r n hr) | (refine wpList_fnar rfl rfl rfl (congrArg Option.isSome Try.underlying27) Try.underlying28 (by assumption) (by assumption) ?_; intro r n hr) | (refine wpList_fneg rfl rfl rfl (by assumption) ?_; intro r hr) | (go_at_call 32; refine (iIsFinite_any _ _ (by assumption) _).mono ?_; rintro e w' ⟨n, rfl, rfl⟩; rw [hf]))
    go_ret
    exact ret_mk rfl
theorem areFinite1_any (b : Nat) (v : Option Nat) (h : IsF .f32 b v) (w : World) : Calls Try.prog 39 #[.float .f32 b] w (Ret w (.bool (!finF v))) := by
  go_enter Try.func39, Try.ntmps39
  go_wp2_with (first | (refine wpList_far rfl rfl (by first | exact .inl rfl | exact .inr (.inl rfl) | exact .inr (.inr (.inl rfl)) | exact .inr (.inr (.inr rfl))) rfl rfl (by first | assumption | exact isF_ofInt _ _ | exact IsF.lit (by decide +kernel)) (by first | assumption | exact isF_ofInt _ _ | exact IsF.lit (by decide +kernel)) ?_; intro r n hr) | (refine wpList_fcmp rfl rfl (by first | exact .inl rfl | exact .inr (.inl rfl) | exact .inr (.inr (.inl rfl)) | exact .inr (.inr (.inr (.inl rfl))) | exact .inr (.inr (.inr (.inr (.inl rfl)))) | exact .inr (.inr (.inr (.inr (.inr rfl))))) rfl rfl (by first | assumption | exact isF_ofInt _ _ | exact IsF.lit (by decide +kernel)) (by first | assumption | exact isF_ofInt _ _ | exact IsF.lit (by decide +kernel)) (by first | assumption | exact rfl) ?_) | (first | (refine wpList_fsame rfl rfl rfl (congrArg Option.isSome Try.underlying28) Try.underlying28 ?_) | (refine wpList_fsame rfl rfl rfl (congrArg Option.isSome Try.underlying27) Try.underlying27 ?_)) | (refine wpList_fwid rfl rfl rfl (congrArg Option.isSome Try.underlying28) Try.underlying27 (by assumption) ?_; intro r n hr) | (refine wpList_fnar rfl rfl rfl (congrArg Option.isSome Try.underlying27) Try.underlying28 (by assumption) (by assumption) ?_; intro r n hr) | (refine wpList_fneg rfl rfl rfl (by assumption) ?_; intro r hr) | (go_at_call 32; refine (iIsFinite_any _ _ (by assumption) _).mono ?_; rintro e w' ⟨n, rfl, rfl⟩))
  go_ret
  exact ret_mk rfl
/-- Whether one of the list's numbers is so. -/
def anyF (p : Option Nat → Bool) (bs : List Nat) : Bool := bs.any fun b => p (cl .f32 b)
theorem anyF_false {p : Option Nat → Bool} {bs : List Nat} (h : ∀ j, j < bs.length → p (cl .f32 (fget bs j)) = false) : anyF p bs = false := by
  unfold anyF
  rw [List.any_eq_false]
  intro x hx
  obtain ⟨j, hj, rfl⟩ := List.getElem_of_mem hx
  have := h j hj
  unfold fget at this
  simp [List.getD, hj] at this
  simp [this]
theorem anyF_true {p : Option Nat → Bool} {bs : List Nat} {j : Nat} (hj : j < bs.length) (h : p (cl .f32 (fget bs j)) = true) : anyF p bs = true := by
  unfold anyF
  rw [List.any_eq_true]
  exact ⟨fget bs j, fget_mem hj, h⟩
/-- The first index at which it is so, or -1. -/
def RetIdx (p : Option Nat → Bool) (bs : List Nat) (w : World) (e : Ending) (w' : World) : Prop := ∃ r n, e = .returned (.int .i64 r) ∧ decide (0 ≤ r) = anyF p bs ∧ w' = w.drewN n

set_option maxHeartbeats 1000000 in
theorem index_pos (v : Value) (bs : List Nat) (w : World) (h : FSl .f32 w v bs) :
    Calls Try.prog 41 #[v, .func (.func 31) #[] #[]] w (RetIdx nposF bs w) := by
  obtain ⟨ao, cap, rfl, g1, g2, g3, g4⟩ := h
  have G3 := Lib.hid g3
  unfold maxLen at g2
  clear g3
  rcases Nat.eq_zero_or_pos bs.length with h0 | h0
  · have hz : anyF nposF bs = false := anyF_false (fun j hj => by omega)
    have HZ := Lib.hid hz
    rw [h0]
    clear h0 g4 g1 g2 hz
    go_enter Try.func41, Try.ntmps41
    go_wp2
    refine wp_loop_rounds 1 ?_
    rw [rounds_succ]
    go_wp2
    go_ret
    exact ⟨_, 0, rfl, HZ.out.symm, rfl⟩
  · rcases g4 with g4 | ⟨x1, o1, rfl, _, hc1⟩
    · subst g4; exact absurd h0 (Nat.lt_irrefl 0)
    have HC1 := Lib.hid hc1
    clear hc1
    go_enter Try.func41, Try.ntmps41
    go_wp2
    go_loopw [8] (fun i wr => ∃ k : Nat, k ≤ bs.length ∧ i = .int .i64 k ∧ Hid (∀ j, j < k → nposF (cl .f32 (fget bs j)) = false) ∧ ∃ m, wr = w.drewN m) (fun i _ => bs.length - (intOf i).toNat)
    case atStart => exact ⟨0, Nat.zero_le _, rfl, Lib.hid (fun j hj => absurd hj (Nat.not_lt_zero _)), 0, rfl⟩
    case round =>
      obtain ⟨k, hk, rfl, hall, m, rfl⟩ := hrel
      by_cases hlt : k < bs.length
      · have s1 := HC1.out k hlt
        have i1 : IsF .f32 (fget bs k) (cl .f32 (fget bs k)) := IsF.of (G3.out _ (fget_mem hlt))
        cases hp : nposF (cl .f32 (fget bs k))
        · have hcall : ∀ w', Calls Try.prog 31 #[.float .f32 (fget bs k)] w' (Ret w' (.bool false)) := fun w' => by
            have h1 := arePositive1_any _ _ i1 w'
            have e : nposF (cl .f32 (fget bs k)) = false := hp
            rw [e] at h1
            exact h1
          have HCALL := Lib.hid hcall
          have HP := Lib.hid hp
          clear hp hcall
          go_wp2_with (first | (go_at_call 31; refine (HCALL.out _).mono ?_; rintro e w' ⟨n, rfl, rfl⟩))
          all_goals
            go_roundw
            case rel =>
              refine ⟨k + 1, by omega, by go_num, Lib.hid (fun j hj => ?_), _, rfl⟩
              by_cases hjk : j = k
              · subst hjk; exact HP.out
              · exact hall.out j (by omega)
            case measure => simp [intOf]; omega
        · have hcall : ∀ w', Calls Try.prog 31 #[.float .f32 (fget bs k)] w' (Ret w' (.bool true)) := fun w' => by
            have h1 := arePositive1_any _ _ i1 w'
            have e : nposF (cl .f32 (fget bs k)) = true := hp
            rw [e] at h1
            exact h1
          have HCALL := Lib.hid hcall
          have HP := Lib.hid hp
          clear hp hcall
          go_wp2_with (first | (go_at_call 31; refine (HCALL.out _).mono ?_; rintro e w' ⟨n, rfl, rfl⟩))
          go_ret
          exact ⟨_, _, rfl, by rw [anyF_true hlt HP.out]; simp, rfl⟩
      · have hn : k = bs.length := by omega
        have HN := Lib.hid hn
        clear hn
        go_wp2
        go_ret
        exact ⟨_, _, rfl, by rw [anyF_false (fun j hj => hall.out j (by rw [HN.out]; exact hj))]; rfl, rfl⟩
theorem contains_pos (v : Value) (bs : List Nat) (w : World) (h : FSl .f32 w v bs) :
    Calls Try.prog 30 #[v, .func (.func 31) #[] #[]] w (Ret w (.bool (anyF nposF bs))) := by
  go_enter Try.func30, Try.ntmps30
  go_wp2_with (first | (go_at_call 41; refine (index_pos _ _ _ h).mono ?_; rintro e w' ⟨r, n, rfl, hr, rfl⟩; have HR := Lib.hid hr; clear hr))
  go_ret
  exact ret_mk (congrArg Value.bool HR.out)
set_option maxHeartbeats 1000000 in
theorem index_fin (v : Value) (bs : List Nat) (w : World) (h : FSl .f32 w v bs) :
    Calls Try.prog 41 #[v, .func (.func 39) #[] #[]] w (RetIdx (fun v => !finF v) bs w) := by
  obtain ⟨ao, cap, rfl, g1, g2, g3, g4⟩ := h
  have G3 := Lib.hid g3
  unfold maxLen at g2
  clear g3
  rcases Nat.eq_zero_or_pos bs.length with h0 | h0
  · have hz : anyF (fun v => !finF v) bs = false := anyF_false (fun j hj => by omega)
    have HZ := Lib.hid hz
    rw [h0]
    clear h0 g4 g1 g2 hz
    go_enter Try.func41, Try.ntmps41
    go_wp2
    refine wp_loop_rounds 1 ?_
    rw [rounds_succ]
    go_wp2
    go_ret
    exact ⟨_, 0, rfl, HZ.out.symm, rfl⟩
  · rcases g4 with g4 | ⟨x1, o1, rfl, _, hc1⟩
    · subst g4; exact absurd h0 (Nat.lt_irrefl 0)
    have HC1 := Lib.hid hc1
    clear hc1
    go_enter Try.func41, Try.ntmps41
    go_wp2
    go_loopw [8] (fun i wr => ∃ k : Nat, k ≤ bs.length ∧ i = .int .i64 k ∧ Hid (∀ j, j < k → (fun v => !finF v) (cl .f32 (fget bs j)) = false) ∧ ∃ m, wr = w.drewN m) (fun i _ => bs.length - (intOf i).toNat)
    case atStart => exact ⟨0, Nat.zero_le _, rfl, Lib.hid (fun j hj => absurd hj (Nat.not_lt_zero _)), 0, rfl⟩
    case round =>
      obtain ⟨k, hk, rfl, hall, m, rfl⟩ := hrel
      by_cases hlt : k < bs.length
      · have s1 := HC1.out k hlt
        have i1 : IsF .f32 (fget bs k) (cl .f32 (fget bs k)) := IsF.of (G3.out _ (fget_mem hlt))
        cases hp : (fun v => !finF v) (cl .f32 (fget bs k))
        · have hcall : ∀ w', Calls Try.prog 39 #[.float .f32 (fget bs k)] w' (Ret w' (.bool false)) := fun w' => by
            have h1 := areFinite1_any _ _ i1 w'
            have e : (!finF (cl .f32 (fget bs k))) = false := hp
            rw [e] at h1
            exact h1
          have HCALL := Lib.hid hcall
          have HP := Lib.hid hp
          clear hp hcall
          go_wp2_with (first | (go_at_call 39; refine (HCALL.out _).mono ?_; rintro e w' ⟨n, rfl, rfl⟩))
          all_goals
            go_roundw
            case rel =>
              refine ⟨k + 1, by omega, by go_num, Lib.hid (fun j hj => ?_), _, rfl⟩
              by_cases hjk : j = k
              · subst hjk; exact HP.out
              · exact hall.out j (by omega)
            case measure => simp [intOf]; omega
        · have hcall : ∀ w', Calls Try.prog 39 #[.float .f32 (fget bs k)] w' (Ret w' (.bool true)) := fun w' => by
            have h1 := areFinite1_any _ _ i1 w'
            have e : (!finF (cl .f32 (fget bs k))) = true := hp
            rw [e] at h1
            exact h1
          have HCALL := Lib.hid hcall
          have HP := Lib.hid hp
          clear hp hcall
          go_wp2_with (first | (go_at_call 39; refine (HCALL.out _).mono ?_; rintro e w' ⟨n, rfl, rfl⟩))
          go_ret
          exact ⟨_, _, rfl, by rw [anyF_true hlt HP.out]; simp, rfl⟩
      · have hn : k = bs.length := by omega
        have HN := Lib.hid hn
        clear hn
        go_wp2
        go_ret
        exact ⟨_, _, rfl, by rw [anyF_false (fun j hj => hall.out j (by rw [HN.out]; exact hj))]; rfl, rfl⟩
theorem contains_fin (v : Value) (bs : List Nat) (w : World) (h : FSl .f32 w v bs) :
    Calls Try.prog 30 #[v, .func (.func 39) #[] #[]] w (Ret w (.bool (anyF (fun v => !finF v) bs))) := by
  go_enter Try.func30, Try.ntmps30
  go_wp2_with (first | (go_at_call 41; refine (index_fin _ _ _ h).mono ?_; rintro e w' ⟨r, n, rfl, hr, rfl⟩; have HR := Lib.hid hr; clear hr))
  go_ret
  exact ret_mk (congrArg Value.bool HR.out)
theorem arePositive_any (v : Value) (bs : List Nat) (w : World) (h : FSl .f32 w v bs) : Calls Try.prog 21 #[v] w (Ret w (.bool (!anyF nposF bs))) := by
  go_enter Try.func21, Try.ntmps21
  go_wp2_with (first | (go_at_call 30; refine (contains_pos _ _ _ h).mono ?_; rintro e w' ⟨n, rfl, rfl⟩))
  go_ret
  exact ret_mk rfl
theorem areFinite_any (v : Value) (bs : List Nat) (w : World) (h : FSl .f32 w v bs) : Calls Try.prog 28 #[v] w (Ret w (.bool (!anyF (fun v => !finF v) bs))) := by
  go_enter Try.func28, Try.ntmps28
  go_wp2_with (first | (go_at_call 30; refine (contains_fin _ _ _ h).mono ?_; rintro e w' ⟨n, rfl, rfl⟩))
  go_ret
  exact ret_mk rfl
/-- A number, if it is finite. -/
def chkF (v : Option Nat) : Option Nat := if finF v then v else some 0
end Go.Proofs.Ytaannebjpmdhjaa
