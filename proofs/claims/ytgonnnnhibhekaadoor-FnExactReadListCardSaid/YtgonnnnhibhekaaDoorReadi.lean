/-
  ReadList, the program's side.
-/
import Derived.Test.YtgonnnnhibhekaaDoorReadl
namespace Go.Proofs.YtgonnnnhibhekaaDoor
set_option linter.unusedVariables false
set_option linter.unusedSimpArgs false
open Go.RowKit

theorem gSyn : Tryd.prog.globalNamed "strconv.ErrSyntax" = some 1 := by kernel_rfl
theorem gRan : Tryd.prog.globalNamed "strconv.ErrRange" = some 2 := by kernel_rfl
/-- A variable that holds an error. -/
def ErrIs (W : World) (n : String) : Prop := ∃ tp p, W.var? Tryd.prog n = some #[.iface tp p]
theorem err_below {W W' : World} {n : String} {g : Nat} (hg : Tryd.prog.globalNamed n = some g) (h : ErrIs W n) (hb : Below W.heap.size W W') : ErrIs W' n := by
  obtain ⟨tp, p, h⟩ := h
  refine ⟨tp, p, ?_⟩
  have hlt : g < W.heap.size := World.block_lt_of_cell? W ⟨g, 0, none⟩ (World.var?_cell hg h 0)
  unfold World.var? at h ⊢
  rw [hg] at h ⊢
  simp only [Option.bind_some] at h ⊢
  rw [hb.block g hlt]
  exact h
/-- What is laid when the call begins. -/
structure RdF (w : World) : Prop where
  tab : Lib.TabIs Tryd.prog w "internal/strconv.uint64pow10" .u64 Lib.pow10Tab
  syn : ErrIs w "strconv.ErrSyntax"
  ran : ErrIs w "strconv.ErrRange"
  mx : ∃ m : Int, w.cell? ⟨7, 0, none⟩ = some (.int .i64 m)
theorem mx_below {w w' : World} {g : Nat} (h : ∃ m : Int, w.cell? ⟨g, 0, none⟩ = some (.int .i64 m)) (hb : Below w.heap.size w w') : ∃ m : Int, w'.cell? ⟨g, 0, none⟩ = some (.int .i64 m) := by
  obtain ⟨m, h⟩ := h
  exact ⟨m, by rw [hb.cell (p := ⟨g, 0, none⟩) (World.block_lt_of_cell? w _ h)]; exact h⟩
theorem RdF.below {w w' : World} (h : RdF w) (hb : Below w.heap.size w w') : RdF w' :=
  ⟨tab_below h.tab hb, err_below gSyn h.syn hb, err_below gRan h.ran hb, mx_below h.mx hb⟩
theorem iRd_any (s : ByteArray) (hs : s.size ≤ 281474976710656) (w : World) (h : RdF w) : Calls Tryd.prog 11 #[.string s] w fun e w' => e = .returned (rdo s.data.toList) ∧ Below w.heap.size w w' := by
  obtain ⟨tp, p, h1⟩ := h.syn
  obtain ⟨tq, q, h2⟩ := h.ran
  exact iReadDecimal_any s hs w h.tab tp p h1 tq q h2
theorem sReadList_any (s : ByteArray) (hs : s.size ≤ 1048576) (w : World) : Calls Tryd.prog 16 #[.string s] w (RList w (partsL s.data.toList)) := by
  have HS := Lib.hid (l01Numbers_any s hs w)
  generalize partsL s.data.toList = P at *
  unfold RList at *
  generalize lokI P = q at *
  generalize lvalI P = L at *
  go_enter Tryd.func16, Tryd.ntmps16
  go_wp2_with fail
  refine HS.out.mono ?_
  rintro e w1 ⟨v, rfl, hv, hb⟩
  go_wp2_with fail
  go_ret2
  exact ⟨v, rfl, hv, hb⟩
set_option maxHeartbeats 8000000 in
theorem iReadList_any (s : ByteArray) (hs : s.size ≤ 1048576) (w : World) (hf : RdF w) : Calls Tryd.prog 17 #[.string s] w (RList w (partsL s.data.toList)) := by
  obtain ⟨i0, hi, hz0, hz1, hz2⟩ := info_parts info_i64t
  have hlen := partsL_len s.data.toList
  have hpc : ∀ j, j < (partsL s.data.toList).length → (pget (partsL s.data.toList) j).length ≤ 281474976710656 := fun j hj => by
    have := parts_piece (pget_mem hj)
    have h2 : s.data.toList.length = s.size := by simp
    omega
  have HC := Lib.hid (partsOrNone_any s hs w hf.mx)
  have hl2 : (partsL s.data.toList).length ≤ 1048577 := by
    have h2 : s.data.toList.length = s.size := by simp
    omega
  clear hlen
  generalize partsL s.data.toList = P at *
  have HP := Lib.hid (fun j hj w' (hb : Below w.heap.size w w') => iRd_any ⟨(pget P j).toArray⟩ (by show (pget P j).toArray.size ≤ _; simpa using hpc j hj) w' (hf.below hb))
  clear hpc hf
  go_enter Tryd.func17, Tryd.ntmps17
  go_wp2_with fail
  refine HC.out.mono ?_
  rintro e w1 ⟨pv, rfl, hpv, hb1⟩
  have hs1 := hb1.size
  obtain ⟨pao, pcap, rfl, pc1, pc2⟩ := hpv
  have hown0 : (w1.alloc (.cells #[] 2)).ownsRow w.heap.size 2 1 (.slice (some ⟨w1.heap.size, 0, none⟩) 0 0) 0 [] :=
    World.ownsRow_made (base := w.heap.size) (e := 2) (size := 1) w1 #[] 0 hs1 (Nat.zero_le _) rfl
  have D1 : Below w.heap.size w (w1.alloc (.cells #[] 2)) := hb1.alloc hs1 _
  rcases pc2 with pc2 | ⟨b, off, rfl, ⟨pl, pt⟩, pc⟩
  · subst pc2
    have HY := Lib.hid (rlist_yes (w := w) (P := []) (k := 0) rfl rfl hown0 D1)
    clear hown0 HC HP
    simp only [List.length_nil] at *
    go_wp2_with fail
    refine wp_loop_rounds 1 ?_
    rw [rounds_succ]
    go_wp2_with fail
    go_ret2
    exact HY.out
  · have HPC := Lib.hid pc
    have HPT := Lib.hid pt
    clear pc pt HC
    go_wp2_with fail
    go_loopw [5, 15] (fun v i wr => ∃ k : Nat, k ≤ P.length ∧ (k = 0 ∨ P.length ≤ 64) ∧ i = .int .i64 (k : Int) ∧ Hid (∀ j, j < k → rdk (pget P j) = true) ∧ wr.ownsRow w.heap.size 2 1 v k ((P.take k).map ncell) ∧ Below w.heap.size w wr ∧ Hid (wr.heap[b]? = w1.heap[b]?) ∧ w1.heap.size ≤ wr.heap.size) (fun _ i _ => P.length - (intOf i).toNat)
    case atStart => exact ⟨0, Nat.zero_le _, .inl rfl, rfl, Lib.hid (fun j hj => absurd hj (Nat.not_lt_zero _)), hown0, D1, Lib.hid (((Below.refl _ _).alloc (Nat.le_refl _) _).block b pl), by simp⟩
    case round =>
      clear hown0
      obtain ⟨k, hk, hk64, rfl, hall, hown, hW, hB, hZ⟩ := hrel
      have HOWN := Lib.hid hown
      clear hown
      by_cases hlt : k < P.length
      · have s1 : wr.cell? ⟨b, off + k, none⟩ = some (.string ⟨(pget P k).toArray⟩) := by
          rw [World.cell?_of_block (a := ⟨b, off + k, none⟩) hB.out]
          exact HPC.out k _ (pget_get hlt)
        have HV := Lib.hid (HP.out k hlt)
        have hr : rdo (⟨(pget P k).toArray⟩ : ByteArray).data.toList = .tuple #[.int .i64 (if rdk (pget P k) then rdv (pget P k) else 0), .bool (rdk (pget P k))] := by simp [rdo]
        rw [hr] at HV
        clear hr
        cases hp : rdk (pget P k)
        · have HN := Lib.hid (fun w' hb => rlist_no (w := w) (w' := w') (lokI_no hlt hp) hb)
          rw [hp] at HV
          clear hp hk64
          generalize pget P k = x at s1 HV
          go_wp2_with fail
          refine (HV.out _ hW).mono ?_
          rintro e w2 ⟨rfl, hb2⟩
          have D2 := B_trans hW hb2
          clear hb2
          go_wp2_with fail
          go_ret2
          exact HN.out _ D2
        · rw [hp, if_pos rfl] at HV
          by_cases h64 : P.length ≤ 64
          · have hd : decide ((P.length : Int) > 64) = false := by simp; omega
            have HT := Lib.hid (ptake hlt)
            have hall2 : Hid (∀ j, j < k + 1 → rdk (pget P j) = true) := Lib.hid (fun j hj => by
              by_cases hjk : j = k
              · subst hjk; exact hp
              · exact hall.out j (by omega))
            clear hp hk64
            generalize pget P k = x at s1 HV HT
            have hnc : ncell x = .int .i64 (rdv x) := rfl
            have HNC := Lib.hid hnc
            clear hnc
            generalize rdv x = z at *
            go_wp2_with fail
            refine (HV.out _ hW).mono ?_
            rintro e w2 ⟨rfl, hb2⟩
            have hown2 := Lib.hid (own_below HOWN.out hb2)
            have D2 := B_trans hW hb2
            have hs2 := D2.size
            have hZ2 := Nat.le_trans hZ hb2.size
            have hB2 : Hid (w2.heap[b]? = w1.heap[b]?) := Lib.hid ((hb2.block b (by omega)).trans hB.out)
            clear hb2 HOWN hB
            go_wp2_with (at_builtin; refine wpList_append_own _ rfl _ _ 27 rfl w.heap.size 2 i0 (.int .i64 0) 1 8 Tryd.underlying27 hi hz0 hz1 hz2 rfl (by decide) _ _ _ rfl (own_hp (hown2.out.alloc (.cells #[.int .i64 z] 2)) rfl) _ 1 _ [.int .i64 z] rfl rfl ?c1 ?c2 ?c3 ?c4 ?c5 ?_)
            case c1 =>
              intro j u hj
              match j, hj with
              | 0, hj => simp at hj; subst hj; exact cell_nw rfl
            case c2 => intro u hu; simp at hu; subst hu; rfl
            case c3 => unfold maxLen; omega
            case c4 => omega
            case c5 => simp; omega
            intro v' w3 hown' hgrow _
            have hown3 : w3.ownsRow w.heap.size 2 1 v' (k + 1) ((P.take (k + 1)).map ncell) := by rw [HT.out, List.map_append, List.map_singleton, HNC.out, List.map_take]; exact hown'
            have D3 : Below w.heap.size w w3 := Below.grown (D2.alloc hs2 _) hgrow (by simp; omega) (fun g hg => (hown2.out.lt g hg).1)
            have hB3 : Hid (w3.heap[b]? = w1.heap[b]?) := Lib.hid (by
              have h1 := hgrow.block b (by simp; omega) (fun e => own_ne hown2.out ne_str (b := b) (by rw [hB2.out]; exact HPT.out) e.symm)
              rw [h1, ← hB2.out]
              exact ((Below.refl _ _).alloc (Nat.le_refl _) _).block b (by omega))
            have hZ3 : w1.heap.size ≤ w3.heap.size := by have := hgrow.size; simp at this; omega
            clear hown' hgrow hown2 hB2
            go_wp2_with fail
            go_roundw
            case rel => exact ⟨k + 1, by omega, .inr h64, by go_num, hall2, own_hp hown3 rfl, D3, hB3, hZ3⟩
            case measure => simp [intOf]; omega
          · have hd : decide ((P.length : Int) > 64) = true := by simp; omega
            have HN := Lib.hid (fun w' hb => rlist_no (w := w) (w' := w') (P := P) (lokI_big (by omega)) hb)
            clear hp hk64 h64
            generalize pget P k = x at s1 HV
            generalize rdv x = z at *
            go_wp2_with fail
            refine (HV.out _ hW).mono ?_
            rintro e w2 ⟨rfl, hb2⟩
            have D2 := B_trans hW hb2
            clear hb2
            go_wp2_with fail
            go_ret2
            exact HN.out _ D2
      · have h64 : P.length ≤ 64 := by
          rcases hk64 with e | e
          · subst e; omega
          · exact e
        have HY := Lib.hid (rlist_yes (w := w) (P := P) (lokI_yes (fun j hj => hall.out j (by omega)) h64) (by omega) HOWN.out hW)
        clear HOWN hB hk64
        go_wp2_with fail
        go_ret2
        exact HY.out
end Go.Proofs.YtgonnnnhibhekaaDoor
