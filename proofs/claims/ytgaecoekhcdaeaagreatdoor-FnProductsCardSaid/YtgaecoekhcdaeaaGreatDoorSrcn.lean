/-
  Numbers, and lists of them, drawn by bytes.
-/
import Derived.Test.YtgaecoekhcdaeaaGreatDoorSrcf
namespace Go.Proofs.YtgaecoekhcdaeaaGreatDoor
set_option linter.unusedVariables false
set_option linter.unusedSimpArgs false
set_option maxRecDepth 20000
open Go.RowKit Fl

def RFrom (w : World) (e : Ending) (w' : World) : Prop := e = .returned (.pointer (some ⟨w.heap.size, 0, none⟩)) ∧ Src w' w.heap.size 0 ∧ Below w.heap.size w w'
theorem from_any (v : Value) (n : Nat) (hn : n ≤ 1048576) (w : World) (h : BySl w v n) : Calls Tryz.prog 38 #[v] w (RFrom w) := by
  obtain ⟨ao, cap, rfl, h1, h2, h3⟩ := h
  have H3 := Lib.hid h3
  clear h3
  go_enter Tryz.func38, Tryz.ntmps38
  go_wp2_with fail
  go_ret
  refine ⟨rfl, ⟨ao, n, cap, 0, 0, hn, h1, Nat.le_refl _, by decide, ?_, ?_, ?_, fun o => World.frozen?_alloc_new _ _ _ _, by simp, ?_⟩, (Below.refl _ _).alloc (Nat.le_refl _) _⟩
  · rw [World.cell?_alloc_new]; rfl
  · rw [World.cell?_alloc_new]; rfl
  · rw [World.cell?_alloc_new]; rfl
  · rcases H3.out with h3 | ⟨x, off, e1, e2, e3⟩
    · exact .inl h3
    · refine .inr ⟨x, off, e1, e2, fun i hi => ?_⟩
      obtain ⟨c, c1, c2, c3⟩ := e3 i hi
      exact ⟨c, c1, by omega, by rw [World.cell?_of_block (a := ⟨x, off + i, none⟩) (((Below.refl _ _).alloc (Nat.le_refl _) _).block x e2)]; exact c3⟩
def RNum (w : World) (e : Ending) (w' : World) : Prop := ∃ r : Nat, e = .returned (.float .f32 r) ∧ r < 4294967296 ∧ Below w.heap.size w w'
theorem fr_below {w w1 w2 : World} (h1 : Below w.heap.size w w1) (h2 : Fr w.heap.size (w.heap.size + 1) w1 w2) : Below w.heap.size w w2 := h1.trans (h2.below h1.size)
set_option maxHeartbeats 2000000 in
theorem b10Number_any (v : Value) (n : Nat) (hn : n ≤ 1048576) (w : World) (h : BySl w v n) : Calls Tryz.prog 19 #[v] w (RNum w) := by
  have hv : ∃ ao m cap, v = .slice ao m cap := by obtain ⟨ao, cap, hv, _⟩ := h; exact ⟨ao, n, cap, hv⟩
  have HM := Lib.hid (from_any v n hn w h)
  have HO := Lib.hid (fun w' (h' : Src w' w.heap.size 0) => one_any w.heap.size 0 (by omega) 2 (by decide) (by decide) w' h')
  have HB := Lib.hid (fun w' (h' : Src w' w.heap.size 2) => pick_any w.heap.size 2 (by omega) 65536 (by decide) (by decide) w' h')
  have HC := Lib.hid (fun w' (h' : Src w' w.heap.size 4) => pick_any w.heap.size 4 (by omega) 65536 (by decide) (by decide) w' h')
  have HF := Lib.hid (fun n w' h0 h1 => l01From_any n w' h0 h1)
  have HD := Lib.hid (fun w' (h' : Src w' w.heap.size 2) => drawFloat_any w.heap.size 2 (by omega) w' h')
  have HW := Lib.hid (fun w1 w2 h1 h2 => fr_below (w := w) (w1 := w1) (w2 := w2) h1 h2)
  obtain ⟨ao, m, cap, rfl⟩ := hv
  clear h
  unfold RFrom at HM
  unfold RNum
  generalize hb : w.heap.size = b at *
  clear hb
  go_enter Tryz.func19, Tryz.ntmps19
  go_wp2_with fail
  refine HM.out.mono ?_
  rintro e w1 ⟨rfl, hs, hb1⟩
  go_wp2_with fail
  refine (HO.out _ hs).mono ?_
  rintro e w2 ⟨q, rfl, hs2, hf2⟩
  cases q
  · go_wp2_with fail
    refine (HD.out _ hs2).mono ?_
    rintro e w3 ⟨r, rfl, hr, hs3, hf3⟩
    have D := HW.out _ _ hb1 (hf2.trans hf3)
    clear hb1 hs hs2 hf2 hs3 hf3
    go_wp2_with fail
    go_ret
    exact ⟨_, rfl, hr, D⟩
  · go_wp2_with fail
    refine (HB.out _ hs2).mono ?_
    rintro e w3 ⟨x, rfl, hx0, hx1, hs4, hf4⟩
    have hf5 := hf2.trans hf4
    clear hs2 hf2 hf4 hs
    go_wp2_with fail
    refine (HC.out _ hs4).mono ?_
    rintro e w4 ⟨y, rfl, hy0, hy1, hs5, hf6⟩
    have D := HW.out _ _ hb1 (hf5.trans hf6)
    clear hs4 hs5 hf5 hf6 hb1
    go_wp2_with fail
    refine (HF.out _ _ (by omega) (by omega)).mono ?_
    rintro e w5 ⟨rfl, hw5⟩
    obtain rfl := hw5.symm
    go_wp2_with fail
    go_ret
    exact ⟨_, rfl, by omega, D⟩
theorem info_f32u : (Tryz.prog.info? 28).map (fun i => (i.zero, i.size, i.bytes)) = some (some (.float .f32 0), 1, 4) := by kernel_rfl
/-- A list of numbers that is drawn. -/
def RNums (w : World) (n : Nat) (e : Ending) (w' : World) : Prop := ∃ v bs, e = .returned v ∧ FSl .f32 w' v bs ∧ bs.length = n ∧ Below w.heap.size w w'
theorem own_fsl2 {w : World} {B : Nat} {e : TypeId} {v : Value} {n : Nat} {xs : List Nat} (h : w.ownsRow B e 1 v n (xs.map (Value.float .f32))) (hn : xs.length = n) (hb : ∀ b ∈ xs, b < 4294967296) : FSl .f32 w v xs := by
  have h0 := h
  obtain ⟨h1, ⟨rfl, h2⟩ | ⟨g, cap, cur, rfl, h2, h3, h4, h5, h6, h7⟩⟩ := h
  · have : xs = [] := by apply List.length_eq_zero_iff.1; omega
    subst this
    exact FSl.nil
  · subst hn
    refine ⟨_, cap, rfl, h4, h5, hb, ?_⟩
    rcases Nat.eq_zero_or_pos xs.length with hz | hz
    · exact .inl (List.length_eq_zero_iff.1 hz)
    · refine .inr ⟨g, 0, rfl, (Array.getElem?_eq_some_iff.1 h3).1, fun i hi => ?_⟩
      have := h0.cells (g := g) rfl i (.float .f32 (fget xs i)) (by simp [fget, List.getD, hi])
      rw [Addr.add_lit] at this
      exact this
set_option maxHeartbeats 8000000 in
theorem drawFloats_any (b A n : Nat) (hA : A ≤ 1000) (hn : n ≤ 1000) (w : World) (h : Src w b A) : Calls Tryz.prog 63 #[.pointer (some ⟨b, 0, none⟩), .int .i64 n] w fun e w' => ∃ v bs, e = .returned v ∧ FSl .f32 w' v bs ∧ bs.length = n ∧ Fr b (b + 1) w w' := by
  obtain ⟨i0, hi, hz0, hz1, hz2⟩ := info_parts info_f32u
  have hbw := h.lt
  have h0 := h.alloc (.cells #[] 28)
  have HO := Lib.hid (one_any b A (by omega) 4 (by decide) (by decide) _ h0)
  have HF := fun k (hk : k ≤ 1000) w' (h' : Src w' b (A + 2 + 12 * k)) => drawFloat_any b (A + 2 + 12 * k) (by omega) w' h'
  have HP := fun k (hk : k ≤ 1000) w' (h' : Src w' b (A + 2 + 12 * k)) => (drawPlain_any b (A + 2 + 12 * k) (by omega) w' h').mono (R' := RFl w' b (A + 2 + 12 * k + 12)) (by
    rintro e w'' ⟨r, h1, h2, h3, h4⟩
    exact ⟨r, h1, h2, h3.up (by omega), h4⟩)
  have HF := Lib.hid HF
  have HP := Lib.hid HP
  have hown0 : (w.alloc (.cells #[] 28)).ownsRow w.heap.size 28 1 (.slice (some ⟨w.heap.size, 0, none⟩) 0 0) 0 [] :=
    World.ownsRow_made (base := w.heap.size) (e := 28) (size := 1) w #[] 0 (Nat.le_refl _) (Nat.zero_le _) rfl
  have hf0 : Fr b (b + 1) w (w.alloc (.cells #[] 28)) := (Fr.refl _ _ _).alloc _
  clear h h0
  go_enter Tryz.func63, Tryz.ntmps63
  go_wp2_with fail
  refine HO.out.mono ?_
  rintro e w1 ⟨q, rfl, hs, hf⟩
  have hown1 := own_fr hown0 hf hbw
  have hf1 := hf0.trans hf
  clear hown0 hf0 hf HO
  cases q
  case' false => have HG := HP
  case' true => have HG := HF
  all_goals
    clear HF HP
    go_wp2_with fail
    go_loopw [1, 5] (fun m v wr => ∃ (k : Nat) (xs : List Nat), k ≤ n ∧ m = .int .i64 ((n - k : Nat) : Int) ∧ Hid (xs.length = k ∧ ∀ x ∈ xs, x < 4294967296) ∧ wr.ownsRow w.heap.size 28 1 v k (xs.map (Value.float .f32)) ∧ Src wr b (A + 2 + 12 * k) ∧ Fr b (b + 1) w wr) (fun m _ _ => (intOf m).toNat)
    case atStart => exact ⟨0, [], Nat.zero_le _, rfl, Lib.hid ⟨rfl, fun x hx => absurd hx (List.not_mem_nil)⟩, hown1, hs, hf1⟩
    case round =>
      clear hown1 hs hf1
      obtain ⟨k, xs, hk, rfl, hxs, hown, hs, hF⟩ := hrel
      by_cases hlt : k < n
      · have hpos : 0 < n - k := by omega
        have HOWN := Lib.hid hown
        clear hown
        go_wp2_with fail
        refine (HG.out k (by omega) _ hs).mono ?_
        rintro e w2 ⟨r, rfl, hr, hs2, hf2⟩
        have hown2 := Lib.hid (own_fr HOWN.out hf2 hbw)
        have hF2 := hF.trans hf2
        have hsz := hF2.size
        clear HOWN hs hF hf2
        go_wp2_with (at_builtin; refine wpList_append_own _ rfl _ _ 52 rfl w.heap.size 28 i0 (.float .f32 0) 1 4 Tryz.underlying52 hi hz0 hz1 hz2 rfl (by decide) _ _ _ rfl (own_hp (hown2.out.alloc (.cells #[.float .f32 r] 28)) rfl) _ 1 _ [.float .f32 r] rfl rfl ?_ ?_ ?_ ?_ ?_ ?_)
        · intro j u hj
          match j, hj with
          | 0, hj => simp at hj; subst hj; exact cell_nw rfl
        · intro u hu; simp at hu; subst hu; rfl
        · unfold maxLen; omega
        · omega
        · simp; omega
        intro v' w3 hown' hgrow _
        have hown3 : w3.ownsRow w.heap.size 28 1 v' (k + 1) ((xs ++ [r]).map (Value.float .f32)) := by rw [List.map_append]; exact hown'
        have hF3 : Fr b (b + 1) w w3 := (hF2.alloc _).grown hgrow (fun g hg => (hown2.out.lt g hg).1)
        have hs3 : Src w3 b (A + 2 + 12 * (k + 1)) := ((hs2.alloc _).grown hgrow (fun g hg => by have := (hown2.out.lt g hg).1; omega)).up (by omega)
        have hx3 : Hid ((xs ++ [r]).length = k + 1 ∧ ∀ x ∈ xs ++ [r], x < 4294967296) := Lib.hid ⟨by simp [hxs.out.1], fun x hx => by
          rcases List.mem_append.1 hx with hx | hx
          · exact hxs.out.2 x hx
          · simp at hx; omega⟩
        have e1 : ((n - k : Nat) : Int) - 1 = ((n - (k + 1) : Nat) : Int) := by omega
        clear hown' hgrow hown2 hs2 hF2
        go_wp2_with fail
        go_roundw
        case rel => exact ⟨k + 1, xs ++ [r], by omega, rfl, hx3, own_hp hown3 rfl, hs3, hF3⟩
        case measure => simp [intOf]; omega
      · obtain rfl : k = n := by omega
        have hv := own_fsl2 hown hxs.out.1 hxs.out.2
        have hl := hxs.out.1
        have HL := Lib.hid hl
        have e0 : k - k = 0 := by omega
        clear hown hxs hl
        rw [e0]
        clear e0
        go_wp2_with fail
        go_ret
        exact ⟨_, xs, rfl, hv, HL.out, hF⟩
end Go.Proofs.YtgaecoekhcdaeaaGreatDoor
