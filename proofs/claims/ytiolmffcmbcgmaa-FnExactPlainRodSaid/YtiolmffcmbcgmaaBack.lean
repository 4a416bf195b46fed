/-
  Copies of lists and lists backwards, at both sides.
-/
import Derived.Test.YtiolmffcmbcgmaaOwn
import Derived.RegionTactic
import Derived.ChangeAlike
import Derived.WalkSpells
namespace Go.Proofs.Ytiolmffcmbcgmaa
set_option linter.unusedVariables false
set_option linter.unusedSimpArgs false
open Go.RowKit Fl
attribute [local go_sem] run_store_float

/-- The call returns a list of its own. -/
def ROwn (w : World) (bs : List Nat) (e : Ending) (w' : World) : Prop := ∃ v', e = .returned v' ∧ OSl w' w.heap.size w'.heap.size v' bs ∧ Below w.heap.size w w'
theorem news_cell {w : World} {b off : Nat} {bs : List Nat} (h : ∀ i, i < bs.length → w.cell? ⟨b, off + i, none⟩ = some (.float .f32 (fget bs i))) : ∀ j u, (bs.map (Value.float .f32))[j]? = some u → w.cell? ((⟨b, off, none⟩ : Addr).add j) = some u := by
  intro j u hj
  have hlt : j < bs.length := by
    have := (List.getElem?_eq_some_iff.1 hj).1
    simpa using this
  rw [Addr.add_lit, h j hlt]
  simp [fget, List.getD, hlt] at hj ⊢
  exact hj
theorem news_one {bs : List Nat} : ∀ u ∈ bs.map (Value.float .f32), u.oneCell' = true := by
  intro u hu
  obtain ⟨b, _, rfl⟩ := List.mem_map.1 hu
  rfl
set_option maxHeartbeats 1000000 in
theorem l02Copy_any (v : Value) (bs : List Nat) (h1 : 1 ≤ bs.length) (h2 : bs.length ≤ 1048576) (w : World) (h : FSl .f32 w v bs) : Calls Try.prog 34 #[v] w (ROwn w bs) := by
  have hb := h.bits
  obtain ⟨ao, cap, rfl, m1, m2, m3, m4⟩ := h
  rcases m4 with rfl | ⟨q, o, rfl, hq, hc⟩
  · cases h1
  obtain ⟨i0, hi, hz0, hz1, hz2⟩ := info_parts infoF
  have hown0 : (w.alloc (.cells #[] 33)).ownsRow w.heap.size 33 1 (.slice (some ⟨w.heap.size, 0, none⟩) 0 0) 0 [] :=
    World.ownsRow_made (base := w.heap.size) (e := 33) (size := 1) w #[] 0 (Nat.le_refl _) (Nat.zero_le _) rfl
  have HN := Lib.hid (news_cell (w := w.alloc (.cells #[] 33)) (b := q) (off := o) (bs := bs) (fun i hi => by
    rw [show (w.alloc (.cells #[] 33)).cell? ⟨q, o + i, none⟩ = w.cell? ⟨q, o + i, none⟩ from ((Below.refl w.heap.size w).alloc (Nat.le_refl _) _).cell (p := ⟨q, o + i, none⟩) hq]
    exact hc i hi))
  have HB := Lib.hid hb
  unfold maxLen at m2
  clear hc m3 hb
  go_enter Try.func34, Try.ntmps34
  go_wp2_with (at_builtin; refine wpList_append_own _ rfl _ _ 22 rfl w.heap.size 33 i0 (.float .f32 0) 1 4 Try.underlying22 hi hz0 hz1 hz2 rfl (by decide) _ _ _ rfl hown0 ⟨q, o, none⟩ bs.length _ (bs.map (Value.float .f32)) rfl ?c1 ?c2 ?c3 ?c4 ?c5 ?c6 ?_)
  case c1 => simp
  case c2 => exact HN.out
  case c3 => exact news_one
  case c4 => unfold maxLen; omega
  case c5 => omega
  case c6 => simp
  · intro v' w1 hown' hgrow _
    have hB : Below w.heap.size w w1 := Below.grown (by (repeat' first | assumption | exact Below.refl _ _ | refine B_drew ?_ _ | refine Below.drew ?_ | refine Below.alloc ?_ (by first | exact Nat.le_refl _ | (simp; done) | (simp; omega)) _)) hgrow (by simp) (fun g hg => by first | exact (hown0.lt g hg).1 | (simp [Value.ownBlock] at hg; omega))
    have hO := osl_own (xs := bs) (n := bs.length) (by simpa using hown') rfl HB.out
    clear hown' hgrow hown0
    go_wp2_with fail
    go_ret
    exact ⟨_, rfl, hO, hB⟩
set_option maxHeartbeats 1000000 in
theorem clone_any (v : Value) (bs : List Nat) (h1 : 1 ≤ bs.length) (h2 : bs.length ≤ 1048576) (w : World) (h : FSl .f32 w v bs) : Calls Try.prog 41 #[v] w (ROwn w bs) := by
  have hb := h.bits
  obtain ⟨ao, cap, rfl, m1, m2, m3, m4⟩ := h
  rcases m4 with rfl | ⟨q, o, rfl, hq, hc⟩
  · cases h1
  obtain ⟨i0, hi, hz0, hz1, hz2⟩ := info_parts infoF
  have hown0 : (w.alloc (.cells #[] 33)).ownsRow w.heap.size 33 1 (.slice (some ⟨w.heap.size, 0, none⟩) 0 0) 0 [] :=
    World.ownsRow_made (base := w.heap.size) (e := 33) (size := 1) w #[] 0 (Nat.le_refl _) (Nat.zero_le _) rfl
  have HN := Lib.hid (news_cell (w := w.alloc (.cells #[] 33)) (b := q) (off := o) (bs := bs) (fun i hi => by
    rw [show (w.alloc (.cells #[] 33)).cell? ⟨q, o + i, none⟩ = w.cell? ⟨q, o + i, none⟩ from ((Below.refl w.heap.size w).alloc (Nat.le_refl _) _).cell (p := ⟨q, o + i, none⟩) hq]
    exact hc i hi))
  have HB := Lib.hid hb
  have heq := fun w' => Lib.run_eql_slice_nil (P := Try.prog) w' 22 33 (some ⟨q, o, none⟩) bs.length cap 0 0 Try.underlying22
  unfold maxLen at m2
  clear hc m3 hb
  go_enter Try.func41, Try.ntmps41
  go_wp2_with (at_builtin; refine wpList_append_own _ rfl _ _ 22 rfl w.heap.size 33 i0 (.float .f32 0) 1 4 Try.underlying22 hi hz0 hz1 hz2 rfl (by decide) _ _ _ rfl hown0 ⟨q, o, none⟩ bs.length _ (bs.map (Value.float .f32)) rfl ?c1 ?c2 ?c3 ?c4 ?c5 ?c6 ?_)
  case c1 => simp
  case c2 => exact HN.out
  case c3 => exact news_one
  case c4 => unfold maxLen; omega
  case c5 => omega
  case c6 => simp
  · intro v' w1 hown' hgrow _
    have hB : Below w.heap.size w w1 := Below.grown (by (repeat' first | assumption | exact Below.refl _ _ | refine B_drew ?_ _ | refine Below.drew ?_ | refine Below.alloc ?_ (by first | exact Nat.le_refl _ | (simp; done) | (simp; omega)) _)) hgrow (by simp) (fun g hg => by first | exact (hown0.lt g hg).1 | (simp [Value.ownBlock] at hg; omega))
    have hO := osl_own (xs := bs) (n := bs.length) (by simpa using hown') rfl HB.out
    clear hown' hgrow hown0 heq
    go_wp2_with fail
    go_ret
    exact ⟨_, rfl, hO, hB⟩
theorem back_snoc {bs : List Nat} {k r : Nat} (h : k + r + 1 = bs.length) : bs.reverse.take k ++ [fget bs r] = bs.reverse.take (k + 1) := by
  have hk : k < bs.reverse.length := by simp; omega
  rw [List.take_succ_eq_append_getElem hk]
  congr 1
  have hr : r < bs.length := by omega
  simp [fget, List.getD, hr, List.getElem_reverse]
  congr 1
  omega
theorem back_all {bs : List Nat} {k : Nat} (h : bs.length ≤ k) : bs.reverse.take k = bs.reverse := List.take_of_length_le (by simpa using h)
theorem back_bits {bs : List Nat} (h : ∀ b ∈ bs, b < 2 ^ FloatKind.f32.format.width) : ∀ b ∈ bs.reverse, b < 2 ^ FloatKind.f32.format.width := fun b hb => h b (by simpa using hb)
theorem back_get {bs : List Nat} {i : Nat} (h : i < bs.length) : fget bs.reverse i = fget bs (bs.length - 1 - i) := by
  have h2 : bs.length - 1 - i < bs.length := by omega
  simp [fget, List.getD, h, h2, List.getElem_reverse]
set_option maxHeartbeats 4000000 in
theorem l02Back_any (v : Value) (bs : List Nat) (h1 : 1 ≤ bs.length) (h2 : bs.length ≤ 1048576) (w : World) (h : FSl .f32 w v bs) : Calls Try.prog 22 #[v] w (ROwn w bs.reverse) := by
  have hb := h.bits
  obtain ⟨ao, cap, rfl, m1, m2, m3, m4⟩ := h
  rcases m4 with rfl | ⟨q, o, rfl, hq, hc⟩
  · cases h1
  obtain ⟨i0, hi, hz0, hz1, hz2⟩ := info_parts infoF
  have HC := Lib.hid hc
  have HB := Lib.hid (back_bits hb)
  unfold maxLen at m2
  clear hc m3 hb
  go_enter Try.func22, Try.ntmps22
  go_wp2_with fail
  go_simp
  have hown0 : (w.alloc (.cells #[] 33)).ownsRow w.heap.size 33 1 (.slice (some ⟨w.heap.size, 0, none⟩) 0 0) 0 [] :=
    World.ownsRow_made (base := w.heap.size) (e := 33) (size := 1) w #[] 0 (Nat.le_refl _) (Nat.zero_le _) rfl
  go_loopw [3, 4] (fun v i wr => ∃ (k : Nat) (z : Int), z = (bs.length : Int) - 1 - (k : Int) ∧ k ≤ bs.length ∧ i = .int .i64 z ∧ ∃ xs : List Nat, Hid (xs = bs.reverse.take k) ∧ wr.ownsRow w.heap.size 33 1 v k (xs.map (Value.float .f32)) ∧ Below w.heap.size w wr) (fun _ i _ => (intOf i + 1).toNat)
  case atStart => exact ⟨0, _, rfl, Nat.zero_le _, by simp, [], Lib.hid (by simp), by simpa using hown0, by (repeat' first | assumption | exact Below.refl _ _ | refine B_drew ?_ _ | refine Below.drew ?_ | refine Below.alloc ?_ (by first | exact Nat.le_refl _ | (simp; done) | (simp; omega)) _)⟩
  case round =>
    clear hown0
    obtain ⟨k, z, hz, hk, rfl, xs, hxs, hown, hW⟩ := hrel
    have hs := hW.size
    by_cases hlt : k < bs.length
    · obtain ⟨r, hr⟩ : ∃ r : Nat, k + r + 1 = bs.length := ⟨bs.length - 1 - k, by omega⟩
      obtain rfl : z = (r : Int) := by omega
      have hr2 : r < bs.length := by omega
      have hcx : wr.cell? ⟨q, o + r, none⟩ = some (.float .f32 (fget bs r)) := (hW.cell (p := ⟨q, o + r, none⟩) hq).trans (HC.out r hr2)
      have HS := Lib.hid (show xs ++ [fget bs r] = bs.reverse.take (k + 1) by rw [hxs.out]; exact back_snoc hr)
      have HR := Lib.hid hr
      clear hr hz
      go_wp2_with (first | (at_builtin; refine wpList_append_own _ rfl _ _ 22 rfl w.heap.size 33 i0 (.float .f32 0) 1 4 Try.underlying22 hi hz0 hz1 hz2 rfl (by decide) _ _ _ rfl (own_heap (hown.alloc (.cells #[.float .f32 (fget bs r)] 33)) rfl) _ 1 _ [.float .f32 (fget bs r)] rfl rfl ?c1 ?c2 ?c3 ?c4 ?c5 ?_))
      case c1 =>
        intro j u hj
        match j, hj with
        | 0, hj => simp at hj; subst hj; exact cell_new0 rfl
      case c2 => intro u hu; simp at hu; subst hu; rfl
      case c3 => unfold maxLen; omega
      case c4 => omega
      case c5 => simp; omega
      · intro v' w1 hown' hgrow _
        have hown2 : w1.ownsRow w.heap.size 33 1 v' (k + 1) ((xs ++ [fget bs r]).map (Value.float .f32)) := by rw [List.map_append]; exact hown'
        have hW2 : Below w.heap.size w w1 := Below.grown (hW.alloc hs _) hgrow (by simp; omega) (fun g hg => (hown.lt g hg).1)
        clear hown' hgrow hown hW hs hcx
        go_wp2_with fail
        go_roundw
        case rel => exact ⟨k + 1, (r : Int) - 1, by have := HR.out; omega, by omega, rfl, _, HS, own_heap hown2 rfl, by (repeat' first | assumption | exact Below.refl _ _ | refine B_drew ?_ _ | refine Below.drew ?_ | refine Below.alloc ?_ (by first | exact Nat.le_refl _ | (simp; done) | (simp; omega)) _)⟩
        case measure => simp [intOf]
    · obtain rfl : k = bs.length := by omega
      obtain rfl : z = -1 := by omega
      have hO := osl_own (xs := bs.reverse) (n := bs.length) (by rw [← back_all (bs := bs) (k := bs.length) (Nat.le_refl _), ← hxs.out]; exact hown) (by simp) HB.out
      clear hown
      go_wp2_with fail
      go_ret
      exact ⟨_, rfl, hO, by (repeat' first | assumption | exact Below.refl _ _ | refine B_drew ?_ _ | refine Below.drew ?_ | refine Below.alloc ?_ (by first | exact Nat.le_refl _ | (simp; done) | (simp; omega)) _)⟩
/-- Behind k exchanges. -/
def swp (bs : List Nat) (k : Nat) (i : Nat) : Nat := if i < k ∨ bs.length - k ≤ i then fget bs (bs.length - 1 - i) else fget bs i
theorem swp_step {bs : List Nat} {k r i : Nat} (h1 : k + r + 1 ≤ bs.length) (h2 : bs.length ≤ k + r + 1) (h3 : k < r) (hi : i < bs.length) :
    swp bs (k + 1) i = if i = r then swp bs k k else if i = k then swp bs k r else swp bs k i := by
  unfold swp
  by_cases e1 : i = r
  · subst e1
    rw [if_pos rfl, if_pos (by omega), if_neg (by omega)]
    congr 1
    omega
  · rw [if_neg e1]
    by_cases e2 : i = k
    · subst e2
      rw [if_pos rfl, if_pos (by omega), if_neg (by omega)]
      congr 1
      omega
    · rw [if_neg e2]
      by_cases e3 : i < k ∨ bs.length - k ≤ i
      · rw [if_pos e3, if_pos (by omega)]
      · rw [if_neg e3, if_neg (by omega)]
theorem cell_drew (w : World) (a : Addr) : w.drew.cell? a = w.cell? a := rfl
theorem frozen_drew (w : World) (a : Addr) : w.drew.frozen? a = w.frozen? a := rfl
theorem Frm.drew {B N : Nat} {w w' : World} (h : Frm B N w w') : Frm B N w w'.drew := ⟨h.os, h.tape, h.output, h.size, h.block⟩
set_option maxHeartbeats 4000000 in
theorem reverse_any (B N : Nat) (v : Value) (bs : List Nat) (h1 : 1 ≤ bs.length) (w : World) (h : OSl w B N v bs) :
    Calls Try.prog 42 #[v] w fun e w' => e = .returned (.tuple #[]) ∧ OSl w' B N v bs.reverse ∧ Frm B N w w' := by
  obtain ⟨hb, h2, ⟨rfl, h3⟩ | ⟨g, cap, rfl, h5, h6, h7, h8, h9, h10⟩⟩ := h
  · omega
  · have H10 := Lib.hid h10
    have H9 := Lib.hid h9
    have HB := Lib.hid hb
    unfold maxLen at h6
    clear h10 h9 hb
    go_enter Try.func42, Try.ntmps42
    go_wp2_with fail
    go_simp
    go_loopw [2, 3] (fun i j wr => ∃ (k : Nat) (z : Int), z = (bs.length : Int) - 1 - (k : Int) ∧ k ≤ bs.length ∧ (k : Int) ≤ z + 1 ∧ i = .int .i64 (k : Int) ∧ j = .int .i64 z ∧ Hid (∀ i, i < bs.length → wr.cell? ⟨g, i, none⟩ = some (.float .f32 (swp bs k i))) ∧ Hid (∀ o, wr.frozen? ⟨g, o, none⟩ = false) ∧ Frm B N w wr) (fun _ i _ => (intOf i + 1).toNat)
    case atStart =>
      refine ⟨0, _, rfl, Nat.zero_le _, by omega, rfl, by simp, Lib.hid (fun i hi => ?_), H9, Frm.refl _ _ _⟩
      rw [H10.out i hi]
      unfold swp
      rw [if_neg (by omega)]
    case round =>
      obtain ⟨k, z, hz, hk, hkz, rfl, rfl, hc, hf, hF⟩ := hrel
      by_cases hlt : (k : Int) < z
      · obtain ⟨r, rfl⟩ : ∃ r : Nat, z = (r : Int) := ⟨z.toNat, by omega⟩
        have hkr : k < r := by omega
        have hrn : r < bs.length := by omega
        have hz1 : k + r + 1 ≤ bs.length := by omega
        have hz2 : bs.length ≤ k + r + 1 := by omega
        clear hz hkz
        have c0 : wr.cell? ⟨g, k, none⟩ = some (.float .f32 (swp bs k k)) := hc.out k (by omega)
        have c1 : wr.cell? ⟨g, r, none⟩ = some (.float .f32 (swp bs k r)) := hc.out r (by omega)
        have f0 := hf.out k
        have f1 := hf.out r
        have hne : (⟨g, k, none⟩ : Addr) ≠ ⟨g, r, none⟩ := by intro e; cases e; omega
        have hne2 : (⟨g, r, none⟩ : Addr) ≠ ⟨g, k, none⟩ := by intro e; cases e; omega
        have hi0 : (0 : Int) ≤ (k : Int) := by omega
        have hi1 : (k : Int) < (bs.length : Int) := by omega
        have hi2 : (0 : Int) ≤ (r : Int) := by omega
        have hi3 : (r : Int) < (bs.length : Int) := by omega
        go_wp2_with fail
        go_region
        all_goals go_wp2_with fail
        all_goals
          refine ⟨⟨k + 1, (r : Int) - 1, by omega, by omega, by omega, by go_num, rfl, Lib.hid (fun i hi => ?_), Lib.hid (fun o => ?_), ?_⟩, by simp [intOf]⟩
          · rw [cell_drew, swp_step hz1 hz2 hkr hi]
            by_cases e1 : i = r
            · subst e1
              rw [if_pos rfl]
              exact World.cell?_setCell_same _ _ _ ((World.cell?_setCell_other _ _ _ _ hne).trans c1)
            · rw [if_neg e1, World.cell?_setCell_other _ _ _ _ (by intro e; cases e; exact e1 rfl)]
              by_cases e2 : i = k
              · subst e2
                rw [if_pos rfl]
                exact World.cell?_setCell_same _ _ _ c0
              · rw [if_neg e2, World.cell?_setCell_other _ _ _ _ (by intro e; cases e; exact e2 rfl)]
                exact hc.out i hi
          · rw [frozen_drew, World.frozen?_setCell, World.frozen?_setCell]
            exact hf.out o
          · exact ((hF.set (a := ⟨g, k, none⟩) h7 h8 _).set (a := ⟨g, r, none⟩) h7 h8 _).drew
      · have hz1 : bs.length ≤ k + k + 1 := by omega
        have hz2 : k + k ≤ bs.length := by omega
        clear hz hkz
        go_wp2_with fail
        go_end0
        refine ⟨rfl, ⟨fun i hi => by rw [back_get (by simpa using hi)]; exact HB.out _ (by simp at hi; omega), Nat.le_trans h2 hF.size, .inr ⟨g, cap, by simp, by simpa using h5, by unfold maxLen; omega, h7, h8, hf.out, fun i hi => ?_⟩⟩, hF⟩
        have hi' : i < bs.length := by simpa using hi
        rw [back_get hi', hc.out i hi']
        congr 2
        unfold swp
        by_cases e : i < k ∨ bs.length - k ≤ i
        · rw [if_pos e]
        · rw [if_neg e]
          congr 1
          omega
end Go.Proofs.Ytiolmffcmbcgmaa
