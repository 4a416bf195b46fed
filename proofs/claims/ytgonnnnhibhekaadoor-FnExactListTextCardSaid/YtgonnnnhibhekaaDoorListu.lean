/-
  ListText at both sides: the whole.
-/
import Derived.Test.YtgonnnnhibhekaaDoorListt
namespace Go.Proofs.YtgonnnnhibhekaaDoor
set_option linter.unusedVariables false
set_option linter.unusedSimpArgs false
open Go.RowKit

theorem sListText_any (v : Value) (l : List Int) (w : World) (h : ISl w v l) : Calls Tryd.prog 12 #[v] w fun e w' => e = .returned (lto l) ∧ Below w.heap.size w w' := by
  have hv : ∃ ao n cap, v = .slice ao n cap := by obtain ⟨ao, cap, hv, _⟩ := h; exact ⟨ao, _, cap, hv⟩
  have HL := Lib.hid (fun w' (hb : Below w.heap.size w w') => l01List_any v l w' (h.below hb))
  have HX := Lib.hid (fun w' (hb : Below w.heap.size w w') (hf : fewI l = true) => l01Text_any v l w' (h.below hb) hf)
  unfold lto ltxt
  cases hf : fewI l
  · rw [hf] at HL
    obtain ⟨ao, n, cap, rfl⟩ := hv
    clear hf h HX
    go_enter Tryd.func12, Tryd.ntmps12
    go_wp2_with fail
    refine (HL.out _ (Below.refl _ _)).mono ?_
    rintro e w1 ⟨rfl, hb1⟩
    go_wp2_with fail
    go_ret2
    exact ⟨rfl, hb1⟩
  · have HX := Lib.hid (fun w' hb => HX.out w' hb hf)
    rw [hf] at HL
    rw [if_pos rfl]
    obtain ⟨ao, n, cap, rfl⟩ := hv
    clear hf h
    generalize txtOf (wordsI l) = T at *
    go_enter Tryd.func12, Tryd.ntmps12
    go_wp2_with fail
    refine (HL.out _ (Below.refl _ _)).mono ?_
    rintro e w1 ⟨rfl, hb1⟩
    go_wp2_with fail
    refine (HX.out _ hb1).mono ?_
    rintro e w2 ⟨rfl, hb2⟩
    have D := B_trans hb1 hb2
    clear hb1 hb2
    go_wp2_with fail
    go_ret2
    exact ⟨rfl, D⟩
set_option maxHeartbeats 4000000 in
theorem iListText_any (v : Value) (l : List Int) (w : World) (h : ISl w v l) (ht : Lib.TabIs Tryd.prog w "internal/strconv.uint64pow10" .u64 Lib.pow10Tab) : Calls Tryd.prog 14 #[v] w fun e w' => e = .returned (lto l) ∧ Below w.heap.size w w' := by
  obtain ⟨ao, cap, rfl, g1, g2, g3, g4⟩ := h
  unfold maxLen at g2
  have G3 := Lib.hid g3
  have HT := Lib.hid ht
  clear g3 ht
  obtain ⟨i0, hi, hz0, hz1, hz2⟩ := info_parts info_str
  rcases Nat.eq_zero_or_pos l.length with h0 | h0
  · have hx : l = [] := List.length_eq_zero_iff.1 h0
    have HZ := Lib.hid (show lto l = .tuple #[.string ⟨noneL.toArray⟩, .bool true] by rw [hx]; rfl)
    rw [h0]
    clear h0 g4 g1 g2 hx
    go_enter Tryd.func14, Tryd.ntmps14
    go_wp2_with fail
    refine wp_loop_rounds 1 ?_
    rw [rounds_succ]
    have hown0 : (w.alloc (.cells #[] 9)).ownsRow w.heap.size 9 1 (.slice (some ⟨w.heap.size, 0, none⟩) 0 0) 0 [] :=
      World.ownsRow_made (base := w.heap.size) (e := 9) (size := 1) w #[] 0 (Nat.le_refl _) (Nat.zero_le _) rfl
    have hl0 := listOrNone_any _ [] _ (SSl.of_own (xs := []) hown0 rfl) (Nat.zero_le _) (Nat.zero_le _)
    have HL0 := Lib.hid hl0
    clear hl0 hown0
    go_wp2_with fail
    refine HL0.out.mono ?_
    rintro e w1 ⟨rfl, hb1⟩
    have D : Below w.heap.size w w1 := B_trans (a := w.alloc (.cells #[] 9)) (by (repeat' first | assumption | exact Below.refl _ _ | refine B_drew ?_ _ | refine Below.drew ?_ | refine Below.alloc ?_ (by first | exact Nat.le_refl _ | (simp; done) | (simp; omega)) _)) hb1
    clear hb1
    go_wp2_with fail
    go_ret2
    exact ⟨by (rw [HZ.out]; try rfl), D⟩
  · rcases g4 with g4 | ⟨x1, o1, rfl, hlt1, hc1⟩
    · subst g4; cases h0
    have HC1 := Lib.hid hc1
    have hm : ∀ k, k < l.length → -9223372036854775808 ≤ iget l k ∧ iget l k ≤ 9223372036854775807 := fun k hk => G3.out _ (by unfold iget; simp [List.getD, hk])
    have HD := Lib.hid (fun k (hk : k < l.length) w' (hb : Below w.heap.size w w') => iDecimal_any (iget l k) (hm k hk).1 (hm k hk).2 w' (tab_below HT.out hb))
    clear hc1 hm
    go_enter Tryd.func14, Tryd.ntmps14
    go_wp2_with fail
    have hown0 : (w.alloc (.cells #[] 9)).ownsRow w.heap.size 9 1 (.slice (some ⟨w.heap.size, 0, none⟩) 0 0) 0 [] :=
      World.ownsRow_made (base := w.heap.size) (e := 9) (size := 1) w #[] 0 (Nat.le_refl _) (Nat.zero_le _) rfl
    go_loopw [4, 10] (fun v i wr => ∃ k : Nat, k ≤ l.length ∧ (k = 0 ∨ l.length ≤ 64) ∧ i = .int .i64 k ∧ Hid (∀ j, j < k → small (iget l j) = true) ∧ wr.ownsRow w.heap.size 9 1 v k ((wordsI (l.take k)).map scell) ∧ Below w.heap.size w wr) (fun _ i _ => l.length - (intOf i).toNat)
    case atStart => exact ⟨0, Nat.zero_le _, .inl rfl, rfl, Lib.hid (fun j hj => absurd hj (Nat.not_lt_zero _)), hown0, by (repeat' first | assumption | exact Below.refl _ _ | refine B_drew ?_ _ | refine Below.drew ?_ | refine Below.alloc ?_ (by first | exact Nat.le_refl _ | (simp; done) | (simp; omega)) _)⟩
    case round =>
      clear hown0
      obtain ⟨k, hk, hk64, rfl, hall, hown, hW⟩ := hrel
      by_cases hlt : k < l.length
      · have s1 : wr.cell? ⟨x1, o1 + k, none⟩ = some (.int .i64 (iget l k)) := by rw [hW.cell (p := ⟨x1, o1 + k, none⟩) hlt1]; exact HC1.out k hlt
        have hcall := isValue_any (iget l k)
        have HOWN := Lib.hid hown
        clear hown
        cases hp : small (iget l k)
        · rw [hp] at hcall
          have HCALL := Lib.hid hcall
          have HZ := Lib.hid (show lto l = .tuple #[.string ⟨([] : List UInt8).toArray⟩, .bool false] by
            have hf : fewI l = false := by unfold fewI; rw [small_mem hlt hp]; rfl
            unfold lto ltxt; rw [hf]; rfl)
          clear hp hcall hk64
          generalize iget l k = e1 at *
          go_wp2_with (go_at_call 26; refine (HCALL.out _).mono ?_; rintro e w' ⟨rfl, rfl⟩)
          go_ret2
          exact ⟨by (rw [HZ.out]; try rfl), hW⟩
        · rw [hp] at hcall
          have HCALL := Lib.hid hcall
          by_cases h64 : l.length ≤ 64
          · have HD2 := Lib.hid (fun w' (hb : Below w.heap.size w w') => HD.out k hlt w' hb)
            have HW2 := Lib.hid (wordsI_take hlt)
            have hall2 : Hid (∀ j, j < k + 1 → small (iget l j) = true) := Lib.hid (fun j hj => by
              by_cases hjk : j = k
              · subst hjk; exact hp
              · exact hall.out j (by omega))
            have hd : decide ((l.length : Int) > 64) = false := by simp; omega
            clear hp hcall hk64
            generalize iget l k = e1 at s1 HCALL HD2 HW2
            generalize Lib.itoa e1 = t1 at *
            go_wp2_with (go_at_call 26; refine (HCALL.out _).mono ?_; rintro e w' ⟨rfl, rfl⟩)
            refine (HD2.out _ hW).mono ?_
            rintro e w2 ⟨rfl, hb2⟩
            have hown2 := Lib.hid (own_below HOWN.out hb2)
            have D := B_trans hW hb2
            have hs2 := D.size
            clear hb2 HOWN
            go_wp2_with (at_builtin; refine wpList_append_own _ rfl _ _ 42 rfl w.heap.size 9 i0 (.string ⟨#[]⟩) 1 16 Tryd.underlying42 hi hz0 hz1 hz2 rfl (by decide) _ _ _ rfl (own_hp (hown2.out.alloc (.cells #[.string ⟨t1.toArray⟩] 9)) rfl) _ 1 _ [.string ⟨t1.toArray⟩] rfl rfl ?c1 ?c2 ?c3 ?c4 ?c5 ?_)
            case c1 =>
              intro j u hj
              match j, hj with
              | 0, hj => simp at hj; subst hj; exact cell_nw rfl
            case c2 => intro u hu; simp at hu; subst hu; rfl
            case c3 => unfold maxLen; omega
            case c4 => omega
            case c5 => simp; omega
            intro v' w1 hown' hgrow _
            have hown3 : w1.ownsRow w.heap.size 9 1 v' (k + 1) ((wordsI (l.take (k + 1))).map scell) := by rw [HW2.out, List.map_append]; exact hown'
            have D2 : Below w.heap.size w w1 := Below.grown (D.alloc hs2 _) hgrow (by simp; omega) (fun g hg => (hown2.out.lt g hg).1)
            clear hown' hgrow hown2
            go_wp2_with fail
            go_roundw
            case rel => exact ⟨k + 1, by omega, .inr h64, by go_num, hall2, own_hp hown3 rfl, D2⟩
            case measure => simp [intOf]; omega
          · obtain rfl : k = 0 := hk64.resolve_right h64
            have HZ := Lib.hid (show lto l = .tuple #[.string ⟨([] : List UInt8).toArray⟩, .bool false] by
              have hf : fewI l = false := by unfold fewI; rw [decide_eq_false h64, Bool.and_false]
              unfold lto ltxt; rw [hf]; rfl)
            have hd : decide ((l.length : Int) > 64) = true := by simp; omega
            clear hp hcall hk64 h64
            generalize iget l 0 = e1 at *
            rw [Nat.add_zero] at s1
            go_wp2_with fail
            refine (HCALL.out _).mono ?_
            rintro e w' ⟨rfl, rfl⟩
            go_wp2_with fail
            go_ret2
            exact ⟨by (rw [HZ.out]; try rfl), hW⟩
      · obtain rfl : k = l.length := by omega
        have h64 : l.length ≤ 64 := hk64.resolve_left (by omega)
        have hf : fewI l = true := by
          unfold fewI
          rw [small_all hall.out, decide_eq_true h64]; rfl
        rw [List.take_length] at hown
        have hl0 := listOrNone_any _ (wordsI l) _ (SSl.of_own hown (wordsI_len l)) (by rw [wordsI_len]; omega) (join_words_len l hf)
        have HL0 := Lib.hid hl0
        have HZ := Lib.hid (show lto l = .tuple #[.string ⟨(txtOf (wordsI l)).toArray⟩, .bool true] by unfold lto ltxt; rw [hf, if_pos rfl])
        clear hl0 hown hf hk64
        go_wp2_with fail
        refine HL0.out.mono ?_
        rintro e w1 ⟨rfl, hb1⟩
        have D := B_trans hW hb1
        clear hb1
        go_wp2_with fail
        go_ret2
        exact ⟨by (rw [HZ.out]; try rfl), D⟩
end Go.Proofs.YtgonnnnhibhekaaDoor
