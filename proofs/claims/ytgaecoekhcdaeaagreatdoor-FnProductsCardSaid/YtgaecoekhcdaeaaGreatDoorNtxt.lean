/-
  NumbersText at both sides.
-/
import Derived.Test.YtgaecoekhcdaeaaGreatDoorHexs
import Derived.Test.YtgaecoekhcdaeaaGreatDoorSlc
import Derived.Deep.RegionWith
namespace Go.Proofs.YtgaecoekhcdaeaaGreatDoor
set_option linter.unusedVariables false
set_option linter.unusedSimpArgs false
set_option maxRecDepth 20000
open Go.RowKit Fl

def hexF (b : Nat) : List UInt8 := hex8 (bitsN (cl .f32 b))
def wordsF (l : List Nat) : List (List UInt8) := l.map hexF
theorem wordsF_take {l : List Nat} {k : Nat} (h : k < l.length) : wordsF (l.take (k + 1)) = wordsF (l.take k) ++ [hexF (fget l k)] := by
  unfold wordsF
  rw [List.take_succ_eq_append_getElem h, List.map_append]
  unfold fget
  simp [List.getD, h]
theorem wordsF_len (l : List Nat) : (wordsF l).length = l.length := by unfold wordsF; simp
theorem wordsF_ne {l : List Nat} {k : Nat} (h1 : 1 ≤ k) (h2 : k ≤ l.length) : wordsF (l.take k) ≠ [] := by
  intro e
  have := congrArg List.length e
  rw [wordsF_len, List.length_take, List.length_nil] at this
  omega
theorem hexF_len (b : Nat) : (hexF b).length = 8 := hex8_len _
theorem lens_wordsF (l : List Nat) : Lib.lens (wordsF l) = 8 * l.length := by
  induction l with
  | nil => rfl
  | cons x r ih =>
    have h3 := hexF_len x
    unfold wordsF Lib.lens at ih ⊢
    simp only [List.map_cons, List.sum_cons, List.length_cons] at ih ⊢
    omega
theorem join_wordsF (l : List Nat) (h : l.length ≤ 1048576) : (Lib.join (wordsF l) [44]).length ≤ 140737488355328 := by
  have h1 := lens_wordsF l
  have h3 := wordsF_len l
  cases hw : wordsF l with
  | nil => simp [Lib.join_nil]
  | cons x r =>
    rw [Lib.join_length]
    rw [hw] at h1 h3
    simp only [List.length_cons, List.length_nil] at h3 ⊢
    omega
theorem join_wordsF_take (l : List Nat) (k : Nat) (h : l.length ≤ 1048576) : (Lib.join (wordsF (l.take k)) [44]).length ≤ 140737488355328 :=
  join_wordsF _ (by rw [List.length_take]; omega)
/-- What is returned. -/
def fewF (l : List Nat) : Bool := decide (l.length ≤ 256)
def ntxt (l : List Nat) : List UInt8 := if fewF l then txtOf (wordsF l) else []
def nto (l : List Nat) : Value := .tuple #[.string ⟨(ntxt l).toArray⟩, .bool (fewF l)]
theorem FSl.isF {w : World} {v : Value} {l : List Nat} (h : FSl .f32 w v l) : ∀ k, k < l.length → IsF .f32 (fget l k) (cl .f32 (fget l k)) := fun k hk => IsF.of (h.bits _ (fget_mem hk))
set_option maxHeartbeats 4000000 in
theorem iNumbersText_any (v : Value) (l : List Nat) (w : World) (h : FSl .f32 w v l) (ht : Deb w) : Calls Tryz.prog 31 #[v] w fun e w' => e = .returned (nto l) ∧ Below w.heap.size w w' := by
  have hF := h.isF
  obtain ⟨ao, cap, rfl, g1, g2, g3, g4⟩ := h
  unfold maxLen at g2
  have HT := Lib.hid ht
  clear g3 ht
  obtain ⟨i0, hi, hz0, hz1, hz2⟩ := info_parts info_str
  by_cases h256 : l.length ≤ 256
  · have hd : decide ((l.length : Int) > 256) = false := by simp; omega
    have hown0 : (w.alloc (.cells #[] 9)).ownsRow w.heap.size 9 1 (.slice (some ⟨w.heap.size, 0, none⟩) 0 0) 0 [] :=
      World.ownsRow_made (base := w.heap.size) (e := 9) (size := 1) w #[] 0 (Nat.le_refl _) (Nat.zero_le _) rfl
    rcases Nat.eq_zero_or_pos l.length with h0 | h0
    · have hx : l = [] := List.length_eq_zero_iff.1 h0
      have HZ := Lib.hid (show nto l = .tuple #[.string ⟨noneL.toArray⟩, .bool true] by rw [hx]; rfl)
      rw [h0] at hd ⊢
      have hl0 := listOrNone_any _ [] _ (SSl.of_own (xs := []) hown0 rfl) (Nat.zero_le _) (Nat.zero_le _)
      have HL0 := Lib.hid hl0
      clear h0 g4 g1 g2 hx hl0 hown0 hF h256
      go_enter Tryz.func31, Tryz.ntmps31
      go_wp2_with fail
      refine wp_loop_rounds 1 ?_
      rw [rounds_succ]
      go_wp2_with fail
      refine HL0.out.mono ?_
      rintro e w1 ⟨rfl, hb1⟩
      have D : Below w.heap.size w w1 := B_trans (a := w.alloc (.cells #[] 9)) (by (repeat' first | assumption | exact Below.refl _ _ | refine B_drew ?_ _ | refine Below.drew ?_ | refine Below.alloc ?_ (by first | exact Nat.le_refl _ | (simp; done) | (simp; omega)) _)) hb1
      clear hb1
      go_wp2_with fail
      go_ret2
      exact ⟨by rw [HZ.out]; rfl, D⟩
    · rcases g4 with g4 | ⟨x1, o1, rfl, hlt1, hc1⟩
      · subst g4; cases h0
      have HC1 := Lib.hid hc1
      have HD := Lib.hid (fun k (hk : k < l.length) w' (hb : Below w.heap.size w w') => hexOf_any (fget l k) _ (hF k hk) w' (HT.out.below hb))
      clear hc1 hF
      go_enter Tryz.func31, Tryz.ntmps31
      go_wp2_with fail
      go_loopw [4, 13] (fun v i wr => ∃ k : Nat, k ≤ l.length ∧ i = .int .i64 k ∧ wr.ownsRow w.heap.size 9 1 v k ((wordsF (l.take k)).map scell) ∧ Below w.heap.size w wr) (fun _ i _ => l.length - (intOf i).toNat)
      case atStart => exact ⟨0, Nat.zero_le _, rfl, hown0, by (repeat' first | assumption | exact Below.refl _ _ | refine B_drew ?_ _ | refine Below.drew ?_ | refine Below.alloc ?_ (by first | exact Nat.le_refl _ | (simp; done) | (simp; omega)) _)⟩
      case round =>
        clear hown0
        obtain ⟨k, hk, rfl, hown, hW⟩ := hrel
        by_cases hlt : k < l.length
        · have s1 : wr.cell? ⟨x1, o1 + k, none⟩ = some (.float .f32 (fget l k)) := by rw [hW.cell (p := ⟨x1, o1 + k, none⟩) hlt1]; exact HC1.out k hlt
          have HOWN := Lib.hid hown
          have HD2 := Lib.hid (fun w' (hb : Below w.heap.size w w') => HD.out k hlt w' hb)
          have HW2 := Lib.hid (wordsF_take hlt)
          have HX2 := Lib.hid (show hexF (fget l k) = hex8 (bitsN (cl .f32 (fget l k))) from rfl)
          clear hown
          generalize hex8 (bitsN (cl .f32 (fget l k))) = t1 at *
          generalize fget l k = e1 at s1 HD2 HW2 HX2
          go_wp2_with fail
          refine (HD2.out _ hW).mono ?_
          rintro e w2 ⟨rfl, hb2⟩
          have hown2 := Lib.hid (own_below HOWN.out hb2)
          have D := B_trans hW hb2
          have hs2 := D.size
          clear hb2 HOWN
          go_wp2_with (at_builtin; refine wpList_append_own _ rfl _ _ 68 rfl w.heap.size 9 i0 (.string ⟨#[]⟩) 1 16 Tryz.underlying68 hi hz0 hz1 hz2 rfl (by decide) _ _ _ rfl (own_hp (hown2.out.alloc (.cells #[.string ⟨t1.toArray⟩] 9)) rfl) _ 1 _ [.string ⟨t1.toArray⟩] rfl rfl ?c1 ?c2 ?c3 ?c4 ?c5 ?_)
          case c1 =>
            intro j u hj
            match j, hj with
            | 0, hj => simp at hj; subst hj; exact cell_nw rfl
          case c2 => intro u hu; simp at hu; subst hu; rfl
          case c3 => unfold maxLen; omega
          case c4 => omega
          case c5 => simp; omega
          intro v' w1 hown' hgrow _
          have hown3 : w1.ownsRow w.heap.size 9 1 v' (k + 1) ((wordsF (l.take (k + 1))).map scell) := by rw [HW2.out, HX2.out, List.map_append]; exact hown'
          have D2 : Below w.heap.size w w1 := Below.grown (D.alloc hs2 _) hgrow (by simp; omega) (fun g hg => (hown2.out.lt g hg).1)
          clear hown' hgrow hown2
          go_wp2_with fail
          go_roundw
          case rel => exact ⟨k + 1, by omega, by go_num, own_hp hown3 rfl, D2⟩
          case measure => simp [intOf]; omega
        · obtain rfl : k = l.length := by omega
          have hf : fewF l = true := by unfold fewF; exact decide_eq_true h256
          rw [List.take_length] at hown
          have hl0 := listOrNone_any _ (wordsF l) _ (SSl.of_own hown (wordsF_len l)) (by rw [wordsF_len]; omega) (join_wordsF l (by omega))
          have HL0 := Lib.hid hl0
          have HZ := Lib.hid (show nto l = .tuple #[.string ⟨(txtOf (wordsF l)).toArray⟩, .bool true] by unfold nto ntxt; rw [hf, if_pos rfl])
          clear hl0 hown hf
          go_wp2_with fail
          refine HL0.out.mono ?_
          rintro e w1 ⟨rfl, hb1⟩
          have D := B_trans hW hb1
          clear hb1
          go_wp2_with fail
          go_ret2
          exact ⟨by (rw [HZ.out]; try rfl), D⟩
  · have hd : decide ((l.length : Int) > 256) = true := by simp; omega
    have HZ := Lib.hid (show nto l = .tuple #[.string ⟨([] : List UInt8).toArray⟩, .bool false] by
      have hf : fewF l = false := by unfold fewF; exact decide_eq_false h256
      unfold nto ntxt; rw [hf]; rfl)
    clear hF h256 g4
    go_enter Tryz.func31, Tryz.ntmps31
    go_wp2_with fail
    go_ret2
    exact ⟨by rw [HZ.out]; rfl, Below.refl _ _⟩
end Go.Proofs.YtgaecoekhcdaeaaGreatDoor
