/-
  ComplexText, and its reading back; what else FnProducts calls.
-/
import Derived.Test.YtgaecoekhcdaeaaGreatDoorSrcc
import Derived.Test.YtgaecoekhcdaeaaGreatDoorNtxt
import Derived.Test.YtgaecoekhcdaeaaGreatDoorReadf
namespace Go.Proofs.YtgaecoekhcdaeaaGreatDoor
set_option linter.unusedVariables false
set_option linter.unusedSimpArgs false
set_option maxRecDepth 20000
open Go.RowKit Fl

def hexC (p : Nat × Nat) : List UInt8 := hexF p.1 ++ hexF p.2
def wordsC (l : List (Nat × Nat)) : List (List UInt8) := l.map hexC
theorem wordsC_take {l : List (Nat × Nat)} {k : Nat} (h : k < l.length) : wordsC (l.take (k + 1)) = wordsC (l.take k) ++ [hexC (cg l k)] := by
  unfold wordsC
  rw [List.take_succ_eq_append_getElem h, List.map_append]
  unfold cg
  simp [List.getD, h]
theorem wordsC_len (l : List (Nat × Nat)) : (wordsC l).length = l.length := by unfold wordsC; simp
theorem hexC_len (b : Nat × Nat) : (hexC b).length = 16 := by unfold hexC; rw [List.length_append, hexF_len, hexF_len]
theorem lens_wordsC (l : List (Nat × Nat)) : Lib.lens (wordsC l) = 16 * l.length := by
  induction l with
  | nil => rfl
  | cons x r ih =>
    have h3 := hexC_len x
    unfold wordsC Lib.lens at ih ⊢
    simp only [List.map_cons, List.sum_cons, List.length_cons] at ih ⊢
    omega
theorem join_wordsC (l : List (Nat × Nat)) (h : l.length ≤ 256) : (Lib.join (wordsC l) [44]).length ≤ 1048576 := by
  have h1 := lens_wordsC l
  have h3 := wordsC_len l
  cases hw : wordsC l with
  | nil => simp [Lib.join_nil]
  | cons x r =>
    rw [Lib.join_length]
    rw [hw] at h1 h3
    simp only [List.length_cons, List.length_nil] at h3 ⊢
    omega
theorem ctxt_len (l : List (Nat × Nat)) (h : l.length ≤ 256) : (txtOf (wordsC l)).length ≤ 1048576 := by
  unfold txtOf
  split
  · decide
  · exact join_wordsC l h
theorem hexC_all (b : Nat × Nat) : (hexC b).all isH = true := by
  unfold hexC
  rw [List.all_append]
  have h1 : (hexF b.1).all isH = true := hex8_all _
  have h2 : (hexF b.2).all isH = true := hex8_all _
  rw [h1, h2]
  rfl
theorem c_word {x : List UInt8} (h : x.all isH = true) : ∀ j, j < x.length → x[j]? ≠ some 44 := by
  intro j hj e
  rw [List.all_eq_true] at h
  have := h _ (List.mem_of_getElem? e)
  revert this
  decide
theorem c_join : ∀ (x : List UInt8) (r : List (List UInt8)), x.all isH = true → (∀ y ∈ r, y.all isH = true) → cutL 44 (Lib.join (x :: r) [44]) = x :: r
  | x, [], hx, _ => by
    rw [Lib.join_one]
    exact cut_miss 44 x (c_word hx)
  | x, y :: r, hx, hr => by
    have ih := c_join y r (hr y (List.mem_cons_self ..)) (fun z hz => hr z (List.mem_cons_of_mem _ hz))
    have e : Lib.join (x :: y :: r) [44] = x ++ (44 :: Lib.join (y :: r) [44]) := by
      rw [Lib.join_cons, Lib.join_cons]
      simp [Lib.joinTail]
    rw [e]
    have hh := cut_hit 44 x.length (x ++ (44 :: Lib.join (y :: r) [44])) (fun j hj => by rw [List.getElem?_append_left hj]; exact c_word hx j hj) (by rw [List.getElem?_append_right (Nat.le_refl _)]; simp)
    rw [hh, List.take_left' rfl]
    congr 1
    rw [show x ++ (44 :: Lib.join (y :: r) [44]) = (x ++ [44]) ++ Lib.join (y :: r) [44] by simp, List.drop_left' (by simp)]
    exact ih
theorem parts_ctxt (l : List (Nat × Nat)) : partsL (txtOf (wordsC l)) = wordsC l := by
  cases l with
  | nil => rfl
  | cons b r =>
    have hne : wordsC (b :: r) ≠ [] := by simp [wordsC]
    rw [txtOf_ne hne]
    have hw : wordsC (b :: r) = hexC b :: wordsC r := rfl
    rw [hw]
    have hl : (Lib.join (hexC b :: wordsC r) [44]).length ≠ noneL.length := by
      rw [Lib.join_length]
      unfold Lib.lens
      simp only [List.map_cons, List.sum_cons, hexC_len]
      show _ ≠ 4
      omega
    have hn : Lib.join (hexC b :: wordsC r) [44] ≠ noneL := fun e => hl (by rw [e])
    rw [partsL_cut hn]
    exact c_join _ _ (hexC_all b) (fun y hy => by
      obtain ⟨z, _, rfl⟩ := List.mem_map.1 hy
      exact hexC_all z)
theorem isF_bitsC {b : Nat} {v : Option Nat} (h : IsF .f32 b v) : IsF .f32 (bitsN v) v := by
  cases v with
  | none => exact IsF.lit_nan (by decide +kernel)
  | some x => obtain ⟨rfl, _⟩ := h.num; exact h
theorem rhk_hexC {b : Nat} (hb : b < 4294967296) : rhk (hexF b) = true ∧ hval (hexF b) = bitsN (cl .f32 b) := by
  have hi : IsF .f32 b (cl .f32 b) := IsF.of (show b < 4294967296 from hb)
  have hn := bitsN_lt hi
  have hv : hval (hexF b) = bitsN (cl .f32 b) := hex8_val hn
  refine ⟨?_, hv⟩
  unfold rhk
  rw [decide_eq_true (hexF_len b), show (hexF b).all isH = true from hex8_all _, hv, (isF_bitsC hi).eq]
  simp
/-- The number that is read back. -/
def backC (p : Nat × Nat) : Nat × Nat := (bitsN (cl .f32 p.1), bitsN (cl .f32 p.2))
theorem rck_hexC {p : Nat × Nat} (hp : p.1 < 4294967296 ∧ p.2 < 4294967296) : rck (hexC p) = true ∧ ccell (hexC p) = ccv (backC p) := by
  obtain ⟨h1, h2⟩ := rhk_hexC hp.1
  obtain ⟨h3, h4⟩ := rhk_hexC hp.2
  have e1 : (hexC p).take 8 = hexF p.1 := by unfold hexC; exact List.take_left' (hexF_len _)
  have e2 : (hexC p).drop 8 = hexF p.2 := by unfold hexC; exact List.drop_left' (hexF_len _)
  unfold rck ccell
  rw [e1, e2, hexC_len, h1, h2, h3, h4]
  exact ⟨rfl, rfl⟩
/-- A list's text is read back. -/
theorem read_backC (l : List (Nat × Nat)) (hl : l.length ≤ 256) (hb : ∀ b ∈ l, b.1 < 4294967296 ∧ b.2 < 4294967296) : lokG rck 256 (partsL (txtOf (wordsC l))) = true ∧ lcG rck 256 ccell (partsL (txtOf (wordsC l))) = (l.map backC).map ccv := by
  rw [parts_ctxt]
  have hok : lokG rck 256 (wordsC l) = true := by
    unfold lokG
    rw [wordsC_len, decide_eq_true hl, Bool.true_and, List.all_eq_true]
    intro x hx
    obtain ⟨z, hz, rfl⟩ := List.mem_map.1 hx
    exact (rck_hexC (hb z hz)).1
  refine ⟨hok, ?_⟩
  rw [lcG_yes hok]
  unfold wordsC
  rw [List.map_map, List.map_map]
  exact List.map_congr_left (fun b h => (rck_hexC (hb b h)).2)
theorem backC_lt {p : Nat × Nat} (hp : p.1 < 4294967296 ∧ p.2 < 4294967296) : (backC p).1 < 4294967296 ∧ (backC p).2 < 4294967296 :=
  ⟨bitsN_lt (IsF.of (show p.1 < 4294967296 from hp.1)), bitsN_lt (IsF.of (show p.2 < 4294967296 from hp.2))⟩
theorem csl_of_ov {w : World} {B N : Nat} {v : Value} {l : List (Nat × Nat)} (hb : ∀ b ∈ l, b.1 < 4294967296 ∧ b.2 < 4294967296) (h : OV w B N v (l.map ccv).length (vget (l.map ccv))) : CSl w v l := by
  rw [List.length_map] at h
  obtain ⟨h2, ⟨rfl, h3⟩ | ⟨g, cap, rfl, h5, h6, h7, h8, h9, h10⟩⟩ := h
  · rw [List.length_eq_zero_iff.1 h3]
    exact CSl.nil
  · refine ⟨_, cap, rfl, h5, h6, hb, .inr ⟨g, 0, rfl, by omega, fun i hi => ?_⟩⟩
    rw [Nat.zero_add, h10 i hi]
    unfold vget cg
    simp [List.getD, hi, ccv]
theorem cg_back {l : List (Nat × Nat)} {i : Nat} (h : i < l.length) : cg (l.map backC) i = backC (cg l i) := by
  unfold cg
  simp [List.getD, h]
theorem join_wordsC_take (l : List (Nat × Nat)) (k : Nat) (h : l.length ≤ 256) : (Lib.join (wordsC (l.take k)) [44]).length ≤ 1048576 :=
  join_wordsC _ (by rw [List.length_take]; omega)
theorem ba_hexC (a b : Nat) : (⟨(hex8 (bitsN (cl .f32 a))).toArray⟩ : ByteArray) ++ ⟨(hex8 (bitsN (cl .f32 b))).toArray⟩ = ⟨(hexC (a, b)).toArray⟩ := by
  rw [ba_app2]; rfl
set_option maxHeartbeats 4000000 in
theorem iComplexText_any (v : Value) (l : List (Nat × Nat)) (w : World) (h : CSl w v l) (h256 : l.length ≤ 256) (ht : Deb w) : Calls Tryz.prog 17 #[v] w fun e w' => e = .returned (.tuple #[.string ⟨(txtOf (wordsC l)).toArray⟩, .bool true]) ∧ Below w.heap.size w w' := by
  obtain ⟨ao, cap, rfl, g1, g2, g3, g4⟩ := h
  have hF := fun k (hk : k < l.length) => (⟨IsF.of (show (cg l k).1 < 4294967296 from (g3 _ (cg_mem hk)).1), IsF.of (show (cg l k).2 < 4294967296 from (g3 _ (cg_mem hk)).2)⟩ : IsF .f32 (cg l k).1 (cl .f32 (cg l k).1) ∧ IsF .f32 (cg l k).2 (cl .f32 (cg l k).2))
  unfold maxLen at g2
  have HT := Lib.hid ht
  clear g3 ht
  obtain ⟨i0, hi, hz0, hz1, hz2⟩ := info_parts info_str
  have hd : decide ((l.length : Int) > 256) = false := by simp; omega
  have hown0 : (w.alloc (.cells #[] 9)).ownsRow w.heap.size 9 1 (.slice (some ⟨w.heap.size, 0, none⟩) 0 0) 0 [] :=
    World.ownsRow_made (base := w.heap.size) (e := 9) (size := 1) w #[] 0 (Nat.le_refl _) (Nat.zero_le _) rfl
  rcases Nat.eq_zero_or_pos l.length with h0 | h0
  · have hx : l = [] := List.length_eq_zero_iff.1 h0
    have HZ := Lib.hid (show txtOf (wordsC l) = noneL by rw [hx]; rfl)
    rw [h0] at hd ⊢
    have hl0 := listOrNone_any _ [] _ (SSl.of_own (xs := []) hown0 rfl) (Nat.zero_le _) (Nat.zero_le _)
    have HL0 := Lib.hid hl0
    clear h0 g4 g1 g2 hx hl0 hown0 hF h256
    rw [HZ.out]
    go_enter Tryz.func17, Tryz.ntmps17
    go_wp2_with fail
    refine wp_loop_rounds 1 ?_
    rw [rounds_succ]
    go_wp2_with fail
    refine HL0.out.mono ?_
    rintro e w1 ⟨rfl, hb1⟩
    have D : Below w.heap.size w w1 := B_trans (a := w.alloc (.cells #[] 9)) (by (repeat' first | assumption | exact Below.refl _ _ | refine B_drew ?_ _ | refine Below.drew ?_ | refine Below.alloc ?_ (by first | exact Nat.le_refl _ | (simp; done) | (simp; omega)) _)) hb1
    clear hb1
    go_wp2_with fail
    go_ret2
    exact ⟨rfl, D⟩
  · rcases g4 with g4 | ⟨x1, o1, rfl, hlt1, hc1⟩
    · subst g4; cases h0
    have HC1 := Lib.hid hc1
    have HD := Lib.hid (fun k (hk : k < l.length) w' (hb : Below w.heap.size w w') => hexOf_any (cg l k).1 _ (hF k hk).1 w' (HT.out.below hb))
    have HE := Lib.hid (fun k (hk : k < l.length) w' (hb : Below w.heap.size w w') => hexOf_any (cg l k).2 _ (hF k hk).2 w' (HT.out.below hb))
    obtain ⟨T, hT⟩ : ∃ T, T = txtOf (wordsC l) := ⟨_, rfl⟩
    have HT0 := Lib.hid hT
    rw [← hT]
    clear hc1 hF hT
    go_enter Tryz.func17, Tryz.ntmps17
    go_wp2_with fail
    go_loopw [4, 13] (fun v i wr => ∃ k : Nat, k ≤ l.length ∧ i = .int .i64 k ∧ wr.ownsRow w.heap.size 9 1 v k ((wordsC (l.take k)).map scell) ∧ Below w.heap.size w wr) (fun _ i _ => l.length - (intOf i).toNat)
    case atStart => exact ⟨0, Nat.zero_le _, rfl, hown0, by (repeat' first | assumption | exact Below.refl _ _ | refine B_drew ?_ _ | refine Below.drew ?_ | refine Below.alloc ?_ (by first | exact Nat.le_refl _ | (simp; done) | (simp; omega)) _)⟩
    case round =>
      clear hown0
      obtain ⟨k, hk, rfl, hown, hW⟩ := hrel
      by_cases hlt : k < l.length
      · have s1 : wr.cell? ⟨x1, o1 + k, none⟩ = some (.complex .f32 (cg l k).1 (cg l k).2) := by rw [hW.cell (p := ⟨x1, o1 + k, none⟩) hlt1]; exact HC1.out k hlt
        have HOWN := Lib.hid hown
        have HD2 := Lib.hid (fun w' (hb : Below w.heap.size w w') => HD.out k hlt w' hb)
        have HE2 := Lib.hid (fun w' (hb : Below w.heap.size w w') => HE.out k hlt w' hb)
        have HW2 := Lib.hid (wordsC_take hlt)
        have HX2 := Lib.hid (show (⟨(hex8 (bitsN (cl .f32 (cg l k).1))).toArray⟩ : ByteArray) ++ ⟨(hex8 (bitsN (cl .f32 (cg l k).2))).toArray⟩ = ⟨(hexC (cg l k)).toArray⟩ from ba_hexC _ _)
        have b1 : (hex8 (bitsN (cl .f32 (cg l k).1))).length = 8 := hex8_len _
        have b2 : (hex8 (bitsN (cl .f32 (cg l k).2))).length = 8 := hex8_len _
        clear hown
        generalize hex8 (bitsN (cl .f32 (cg l k).1)) = t1 at *
        generalize hex8 (bitsN (cl .f32 (cg l k).2)) = t2 at *
        generalize (cg l k).1 = e1 at s1 HD2
        generalize (cg l k).2 = e2 at s1 HE2
        generalize hexC (cg l k) = hx at HW2 HX2
        go_wp2_with fail
        refine (HD2.out _ hW).mono ?_
        rintro e w2 ⟨rfl, hb2⟩
        have D := B_trans hW hb2
        have hown2 := Lib.hid (own_below HOWN.out hb2)
        clear hb2 HOWN
        go_wp2_with fail
        refine (HE2.out _ D).mono ?_
        rintro e w3 ⟨rfl, hb3⟩
        have D3 := B_trans D hb3
        have hown3 := Lib.hid (own_below hown2.out hb3)
        have hs3 := D3.size
        clear hb3 hown2 D
        go_wp2_with (at_builtin; refine wpList_append_own _ rfl _ _ 68 rfl w.heap.size 9 i0 (.string ⟨#[]⟩) 1 16 Tryz.underlying68 hi hz0 hz1 hz2 rfl (by decide) _ _ _ rfl (own_hp (hown3.out.alloc (.cells #[.string ((⟨t1.toArray⟩ : ByteArray) ++ ⟨t2.toArray⟩)] 9)) rfl) _ 1 _ [.string ((⟨t1.toArray⟩ : ByteArray) ++ ⟨t2.toArray⟩)] rfl rfl ?c1 ?c2 ?c3 ?c4 ?c5 ?_)
        case c1 =>
          intro j u hj
          match j, hj with
          | 0, hj => simp at hj; subst hj; exact cell_nw rfl
        case c2 => intro u hu; simp at hu; subst hu; rfl
        case c3 => unfold maxLen; omega
        case c4 => omega
        case c5 => simp; omega
        intro v' w1 hown' hgrow _
        have hown4 : w1.ownsRow w.heap.size 9 1 v' (k + 1) ((wordsC (l.take (k + 1))).map scell) := by rw [HW2.out, List.map_append, List.map_singleton, show scell hx = .string ((⟨t1.toArray⟩ : ByteArray) ++ ⟨t2.toArray⟩) by rw [HX2.out]; rfl]; exact hown'
        have D2 : Below w.heap.size w w1 := Below.grown (D3.alloc hs3 _) hgrow (by simp; omega) (fun g hg => (hown3.out.lt g hg).1)
        clear hown' hgrow hown3
        go_wp2_with fail
        go_roundw
        case rel => exact ⟨k + 1, by omega, by go_num, own_hp hown4 rfl, D2⟩
        case measure => simp [intOf]; omega
      · obtain rfl : k = l.length := by omega
        rw [List.take_length] at hown
        have hl0 := listOrNone_any _ (wordsC l) _ (SSl.of_own hown (wordsC_len l)) (by rw [wordsC_len]; omega) (by have := join_wordsC l h256; omega)
        rw [← HT0.out] at hl0
        have HL0 := Lib.hid hl0
        clear hl0 hown
        go_wp2_with fail
        refine HL0.out.mono ?_
        rintro e w1 ⟨rfl, hb1⟩
        have D := B_trans hW hb1
        clear hb1
        go_wp2_with fail
        go_ret2
        exact ⟨rfl, D⟩
end Go.Proofs.YtgaecoekhcdaeaaGreatDoor
