/-
  ListText at both sides.
-/
import Derived.Test.YtgonnnnhibhekaaDoorIsl
import Derived.Test.YtgonnnnhibhekaaDoorDecw
import Derived.Test.YtgonnnnhibhekaaDoorStr
import Derived.Deep.RegionWith
namespace Go.Proofs.YtgonnnnhibhekaaDoor
set_option linter.unusedVariables false
set_option linter.unusedSimpArgs false
open Go.RowKit

theorem small_mem {l : List Int} {k : Nat} (h : k < l.length) (hs : small (iget l k) = false) : l.all small = false := by
  rw [List.all_eq_false]
  exact ⟨iget l k, by unfold iget; simp [List.getD, h], by simp [hs]⟩
theorem small_all {l : List Int} (h : ∀ k, k < l.length → small (iget l k) = true) : l.all small = true := by
  rw [List.all_eq_true]
  intro x hx
  obtain ⟨i, hi, rfl⟩ := List.getElem_of_mem hx
  have := h i hi
  unfold iget at this
  simpa [List.getD, hi] using this
/-- Few numbers, none too great. -/
def fewI (l : List Int) : Bool := l.all small && decide (l.length ≤ 64)
def wordsI (l : List Int) : List (List UInt8) := l.map Lib.itoa
theorem wordsI_take {l : List Int} {k : Nat} (h : k < l.length) : wordsI (l.take (k + 1)) = wordsI (l.take k) ++ [Lib.itoa (iget l k)] := by
  unfold wordsI
  rw [List.take_succ_eq_append_getElem h, List.map_append]
  unfold iget
  simp [List.getD, h]
theorem wordsI_len (l : List Int) : (wordsI l).length = l.length := by unfold wordsI; simp
theorem wordsI_ne {l : List Int} {k : Nat} (h1 : 1 ≤ k) (h2 : k ≤ l.length) : wordsI (l.take k) ≠ [] := by
  intro e
  have := congrArg List.length e
  rw [wordsI_len, List.length_take, List.length_nil] at this
  omega
/-- What is returned. -/
def ltxt (l : List Int) : List UInt8 := if fewI l then txtOf (wordsI l) else []
def lto (l : List Int) : Value := .tuple #[.string ⟨(ltxt l).toArray⟩, .bool (fewI l)]
theorem lens_words (l : List Int) (h : ∀ n ∈ l, small n = true) : Lib.lens (wordsI l) ≤ 17 * l.length := by
  induction l with
  | nil => simp [wordsI, Lib.lens]
  | cons x r ih =>
    have h1 := ih (fun n hn => h n (List.mem_cons_of_mem _ hn))
    have h2 := h x (List.mem_cons_self ..)
    unfold small at h2
    simp only [Bool.and_eq_true, decide_eq_true_eq] at h2
    have h3 := length_itoa x h2.1 h2.2
    unfold wordsI Lib.lens at h1 ⊢
    simp only [List.map_cons, List.sum_cons, List.length_cons] at h1 ⊢
    omega
theorem join_words_len (l : List Int) (h : fewI l = true) : (Lib.join (wordsI l) [44]).length ≤ 140737488355328 := by
  unfold fewI at h
  simp only [Bool.and_eq_true, decide_eq_true_eq, List.all_eq_true] at h
  have h1 := lens_words l h.1
  have h2 := h.2
  have h3 := wordsI_len l
  cases hw : wordsI l with
  | nil => simp [Lib.join_nil]
  | cons x r =>
    rw [Lib.join_length]
    rw [hw] at h1 h3
    simp only [List.length_cons, List.length_nil] at h3 ⊢
    omega
theorem fewI_take {l : List Int} (h : fewI l = true) (k : Nat) : fewI (l.take k) = true := by
  unfold fewI at h ⊢
  simp only [Bool.and_eq_true, decide_eq_true_eq, List.all_eq_true] at h ⊢
  exact ⟨fun x hx => h.1 x (List.mem_of_mem_take hx), by rw [List.length_take]; omega⟩
theorem small_itoa_len {n : Int} (h : small n = true) : (Lib.itoa n).length ≤ 17 := by
  unfold small at h
  simp only [Bool.and_eq_true, decide_eq_true_eq] at h
  exact (length_itoa n h.1 h.2).2
theorem fewI_small {l : List Int} (h : fewI l = true) {k : Nat} (hk : k < l.length) : small (iget l k) = true := by
  unfold fewI at h
  simp only [Bool.and_eq_true, List.all_eq_true] at h
  exact h.1 _ (by unfold iget; simp [List.getD, hk])
set_option maxHeartbeats 1000000 in
theorem l01List_any (v : Value) (l : List Int) (w : World) (h : ISl w v l) : Calls Tryd.prog 27 #[v] w fun e w' => e = .returned (.bool (fewI l)) ∧ Below w.heap.size w w' := by
  obtain ⟨ao, cap, rfl, g1, g2, g3, g4⟩ := h
  unfold maxLen at g2
  clear g3
  rcases Nat.eq_zero_or_pos l.length with h0 | h0
  · have hx : l = [] := List.length_eq_zero_iff.1 h0
    have HZ := Lib.hid (show fewI l = true by rw [hx]; rfl)
    rw [h0]
    clear h0 g4 g1 g2 hx
    go_enter Tryd.func27, Tryd.ntmps27
    go_wp2
    refine wp_loop_rounds 1 ?_
    rw [rounds_succ]
    go_wp2
    go_ret
    exact ⟨by (rw [HZ.out]; try rfl), Below.refl _ _⟩
  · rcases g4 with g4 | ⟨x1, o1, rfl, _, hc1⟩
    · subst g4; cases h0
    have HC1 := Lib.hid hc1
    clear hc1
    go_enter Tryd.func27, Tryd.ntmps27
    go_wp2
    go_loopw [3] (fun i wr => ∃ k : Nat, k ≤ l.length ∧ i = .int .i64 k ∧ Hid (∀ j, j < k → small (iget l j) = true) ∧ ∃ m, wr = w.drewN m) (fun i _ => l.length - (intOf i).toNat)
    case atStart => exact ⟨0, Nat.zero_le _, rfl, Lib.hid (fun j hj => absurd hj (Nat.not_lt_zero _)), 0, rfl⟩
    case round =>
      obtain ⟨k, hk, rfl, hall, m, rfl⟩ := hrel
      by_cases hlt : k < l.length
      · have s1 := HC1.out k hlt
        have hcall : ∀ w', Calls Tryd.prog 34 #[.int .i64 (iget l k), .int .i64 (-1000000000000000), .int .i64 1000000000000000] w' fun e w'' => e = .returned (.bool (small (iget l k))) ∧ w'' = w' := fun w' => l00In_any _ _ _ w'
        cases hp : small (iget l k)
        · rw [hp] at hcall
          have HCALL := Lib.hid hcall
          have HZ := Lib.hid (show fewI l = false by unfold fewI; rw [small_mem hlt hp]; rfl)
          clear hp hcall
          generalize iget l k = e1 at *
          go_wp2_with (go_at_call 34; refine (HCALL.out _).mono ?_; rintro e w' ⟨rfl, rfl⟩)
          go_ret
          exact ⟨by (rw [HZ.out]; try rfl), below_draws _ _⟩
        · rw [hp] at hcall
          have HCALL := Lib.hid hcall
          have hall2 : Hid (∀ j, j < k + 1 → small (iget l j) = true) := Lib.hid (fun j hj => by
            by_cases hjk : j = k
            · subst hjk; exact hp
            · exact hall.out j (by omega))
          clear hp hcall
          generalize iget l k = e1 at s1 HCALL
          go_wp2_with (go_at_call 34; refine (HCALL.out _).mono ?_; rintro e w' ⟨rfl, rfl⟩)
          all_goals
            go_roundw
            case rel => exact ⟨k + 1, by omega, by go_num, hall2, _, rfl⟩
            case measure => simp [intOf]; omega
      · have HZ := Lib.hid (show fewI l = decide ((l.length : Int) ≤ 64) by
          unfold fewI
          rw [small_all (fun j hj => hall.out j (by omega)), Bool.true_and]
          exact decide_eq_decide.2 (by omega))
        go_wp2
        go_ret
        exact ⟨by (rw [HZ.out]; try rfl), below_draws _ _⟩
theorem ba_app (a b : List UInt8) : (⟨a.toArray⟩ : ByteArray) ++ (⟨b.toArray⟩ : ByteArray) = ⟨(a ++ b).toArray⟩ := by
  apply ByteArray.ext
  simp [ByteArray.data_append]
set_option maxHeartbeats 1000000 in
theorem l01Text_any (v : Value) (l : List Int) (w : World) (h : ISl w v l) (hfew : fewI l = true) : Calls Tryd.prog 28 #[v] w fun e w' => e = .returned (.string ⟨(txtOf (wordsI l)).toArray⟩) ∧ Below w.heap.size w w' := by
  obtain ⟨ao, cap, rfl, g1, g2, g3, g4⟩ := h
  unfold maxLen at g2
  have G3 := Lib.hid g3
  clear g3
  rcases Nat.eq_zero_or_pos l.length with h0 | h0
  · have hx : l = [] := List.length_eq_zero_iff.1 h0
    have HZ := Lib.hid (show txtOf (wordsI l) = noneL by rw [hx]; rfl)
    rw [h0]
    clear h0 g4 g1 g2 hx hfew
    go_enter Tryd.func28, Tryd.ntmps28
    go_wp2
    go_ret
    exact ⟨by (rw [HZ.out]; try rfl), Below.refl _ _⟩
  · rcases g4 with g4 | ⟨x1, o1, rfl, hlt1, hc1⟩
    · subst g4; cases h0
    have HC1 := Lib.hid hc1
    have s0 : w.cell? ⟨x1, o1, none⟩ = some (.int .i64 (iget l 0)) := by have := hc1 0 h0; rwa [Nat.add_zero] at this
    have hm : ∀ k, k < l.length → -9223372036854775808 ≤ iget l k ∧ iget l k ≤ 9223372036854775807 := fun k hk => G3.out _ (by unfold iget; simp [List.getD, hk])
    have HD0 := Lib.hid (fun w' => l01Dec_any (iget l 0) (hm 0 h0).1 (hm 0 h0).2 w')
    have HD := Lib.hid (fun k (hk : k < l.length) w' => l01Dec_any (iget l k) (hm k hk).1 (hm k hk).2 w')
    have H1 := Lib.hid (show Lib.itoa (iget l 0) = Lib.join (wordsI (l.take 1)) [44] by rw [wordsI_take (k := 0) h0]; simp [wordsI, Lib.join_one])
    have HS := Lib.hid (fun k (hk : k < l.length) (h1 : 1 ≤ k) => show (⟨(Lib.join (wordsI (l.take k)) [44]).toArray⟩ : ByteArray) ++ ((⟨#[44]⟩ : ByteArray) ++ ⟨(Lib.itoa (iget l k)).toArray⟩) = ⟨(Lib.join (wordsI (l.take (k + 1))) [44]).toArray⟩ by
      rw [wordsI_take hk, join_snoc (wordsI_ne h1 (by omega)), show (⟨#[44]⟩ : ByteArray) = ⟨([44] : List UInt8).toArray⟩ from rfl, ba_app, ba_app])
    have HE := Lib.hid (show txtOf (wordsI l) = Lib.join (wordsI (l.take l.length)) [44] by
      rw [txtOf_ne (by have := wordsI_ne (l := l) h0 (Nat.le_refl _); rwa [List.take_length] at this), List.take_length])
    have HJ := Lib.hid (fun k => join_words_len _ (fewI_take hfew k))
    have HL := Lib.hid (fun k (hk : k < l.length) => small_itoa_len (fewI_small hfew hk))
    clear hc1 hm hfew
    rw [HE.out]
    generalize iget l 0 = n0 at *
    generalize Lib.itoa n0 = t0 at *
    go_enter Tryd.func28, Tryd.ntmps28
    go_wp2_with fail
    refine (HD0.out _).mono ?_
    rintro e w1 ⟨rfl, hb1⟩
    go_wp2_with fail
    go_loopw [3, 4] (fun o i wr => ∃ k : Nat, 1 ≤ k ∧ k ≤ l.length ∧ i = .int .i64 k ∧ o = .string ⟨(Lib.join (wordsI (l.take k)) [44]).toArray⟩ ∧ Below w.heap.size w wr) (fun _ i _ => l.length - (intOf i).toNat)
    case atStart => exact ⟨1, Nat.le_refl _, h0, rfl, by rw [H1.out], hb1⟩
    case round =>
      obtain ⟨k, hk1, hk, rfl, rfl, hW⟩ := hrel
      by_cases hlt : k < l.length
      · have s1 : wr.cell? ⟨x1, o1 + k, none⟩ = some (.int .i64 (iget l k)) := by rw [hW.cell (p := ⟨x1, o1 + k, none⟩) hlt1]; exact HC1.out k hlt
        have HD2 := Lib.hid (HD.out k hlt)
        have HS2 := Lib.hid (HS.out k hlt hk1)
        have b1 := HJ.out k
        have b2 := HL.out k hlt
        generalize iget l k = e1 at *
        generalize Lib.itoa e1 = t1 at *
        go_wp2_with fail
        refine (HD2.out _).mono ?_
        rintro e w2 ⟨rfl, hb2⟩
        have D := B_trans hW hb2
        clear hb2
        go_wp2_with fail
        go_roundw
        case rel => exact ⟨k + 1, by omega, by omega, by go_num, by rw [← HS2.out], D⟩
        case measure => simp [intOf]; omega
      · obtain rfl : k = l.length := by omega
        go_wp2
        go_ret
        exact ⟨rfl, hW⟩
end Go.Proofs.YtgonnnnhibhekaaDoor
