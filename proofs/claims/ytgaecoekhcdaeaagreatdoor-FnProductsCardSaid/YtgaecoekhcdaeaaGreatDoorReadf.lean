/-
  ReadComplex, the program's side.
-/
import Derived.Test.YtgaecoekhcdaeaaGreatDoorReade
namespace Go.Proofs.YtgaecoekhcdaeaaGreatDoor
set_option linter.unusedVariables false
set_option linter.unusedSimpArgs false
set_option maxRecDepth 20000
open Go.RowKit Fl

set_option maxHeartbeats 8000000 in
theorem iReadComplex_any (s : ByteArray) (hs : s.size ≤ 1048576) (w : World) (hf : RxF w) : Calls Tryz.prog 18 #[.string s] w (RG rck 256 ccell w (partsL s.data.toList)) := by
  obtain ⟨i0, hi, hz0, hz1, hz2⟩ := info_parts info_c64t
  have hlen := partsL_len s.data.toList
  have HC := Lib.hid (partsOrNone_any s hs w hf.mx)
  have hl2 : (partsL s.data.toList).length ≤ 1048577 := by
    have h2 : s.data.toList.length = s.size := by simp
    omega
  clear hlen
  generalize partsL s.data.toList = P at *
  have HFX := Lib.hid hf
  clear hf
  go_enter Tryz.func18, Tryz.ntmps18
  go_wp2_with fail
  refine HC.out.mono ?_
  rintro e w1 ⟨pv, rfl, hpv, hb1⟩
  have hs1 := hb1.size
  obtain ⟨pao, pcap, rfl, pc1, pc2⟩ := hpv
  have hown0 : (w1.alloc (.cells #[] 24)).ownsRow w.heap.size 24 1 (.slice (some ⟨w1.heap.size, 0, none⟩) 0 0) 0 [] :=
    World.ownsRow_made (base := w.heap.size) (e := 24) (size := 1) w1 #[] 0 hs1 (Nat.zero_le _) rfl
  have D1 : Below w.heap.size w (w1.alloc (.cells #[] 24)) := hb1.alloc hs1 _
  rcases pc2 with pc2 | ⟨b, off, rfl, ⟨pl, pt⟩, pc⟩
  · subst pc2
    have HY := Lib.hid (rg_yes (rk := rck) (M := 256) (cell := ccell) (w := w) (P := []) (k := 0) rfl rfl hown0 D1)
    clear hown0 HC
    simp only [List.length_nil] at *
    go_wp2_with fail
    refine wp_loop_rounds 1 ?_
    rw [rounds_succ]
    go_wp2_with fail
    go_ret2
    exact HY.out
  · have HPC := Lib.hid pc
    have HPT := Lib.hid pt
    clear pc pt HC
    go_wp2_with fail
    go_loopw [5, 17] (fun v i wr => ∃ k : Nat, k ≤ P.length ∧ (k = 0 ∨ P.length ≤ 256) ∧ i = .int .i64 (k : Int) ∧ Hid (∀ j, j < k → rck (pget P j) = true) ∧ wr.ownsRow w.heap.size 24 1 v k ((P.take k).map ccell) ∧ Below w.heap.size w wr ∧ Hid (wr.heap[b]? = w1.heap[b]?) ∧ w1.heap.size ≤ wr.heap.size) (fun _ i _ => P.length - (intOf i).toNat)
    case atStart => exact ⟨0, Nat.zero_le _, .inl rfl, rfl, Lib.hid (fun j hj => absurd hj (Nat.not_lt_zero _)), hown0, D1, Lib.hid (((Below.refl _ _).alloc (Nat.le_refl _) _).block b pl), by simp⟩
    case round =>
      clear hown0
      obtain ⟨k, hk, hk64, rfl, hall, hown, hW, hB, hZ⟩ := hrel
      have HOWN := Lib.hid hown
      clear hown
      by_cases hlt : k < P.length
      · have s1 : wr.cell? ⟨b, off + k, none⟩ = some (.string ⟨(pget P k).toArray⟩) := by
          rw [World.cell?_of_block (a := ⟨b, off + k, none⟩) hB.out]
          exact HPC.out k _ (pget_get hlt)
        obtain ⟨t, ht⟩ : ∃ t : ByteArray, t = ⟨(pget P k).toArray⟩ := ⟨_, rfl⟩
        have htx : pget P k = t.data.toList := by rw [ht]
        have hsz : t.size = (pget P k).length := by rw [ht]; show (pget P k).toArray.size = _; simp
        rw [← ht] at s1
        clear ht
        by_cases h16 : (pget P k).length = 16
        · have hd16 : ((t.size : Int) != 16) = false := by rw [hsz, h16]; rfl
          have ht16 : t.size ≤ 16 ∧ 16 ≤ t.size := by omega
          obtain ⟨ht16a, ht16b⟩ := ht16
          by_cases h64 : P.length ≤ 256
          · have hd : decide ((P.length : Int) > 256) = false := by simp; omega
            have HA := fun w' (hb : Below w.heap.size w w') => readHex_any (t.extract 0 8) (by rw [ByteArray.size_extract]; omega) w' (HFX.out.below hb)
            have HB2 := fun w' (hb : Below w.heap.size w w') => readHex_any (t.extract 8 t.size) (by rw [ByteArray.size_extract]; omega) w' (HFX.out.below hb)
            have hra := rck_16 htx h16
            have hca := ccell_16 htx h16
            generalize (t.extract 0 8).data.toList = xa at *
            generalize (t.extract 8 t.size).data.toList = xb at *
            have HDA := Lib.hid HA
            have HDB := Lib.hid HB2
            have HRA := Lib.hid hra
            have HCA := Lib.hid hca
            clear HA HB2 hra hca hsz h16 htx hk64
            unfold RHex at HDA HDB
            cases hpa : rhk xa
            · have HN := Lib.hid (fun w' hb => rg_no (cell := ccell) (w := w) (w' := w') (lokG_no (M := 256) hlt (show rck (pget P k) = false by rw [HRA.out, hpa]; rfl)) hb)
              rw [hpa] at HDA
              generalize rhk xb = qb at *
              clear hpa HRA HCA
              go_wp2_with fail
              refine (HDA.out _ hW).mono ?_
              rintro e w2 ⟨x2, rfl, hx2, hb2⟩
              have D2 := B_trans hW hb2
              clear hb2 hx2
              go_wp2_with fail
              refine (HDB.out _ D2).mono ?_
              rintro e w3 ⟨x3, rfl, hx3, hb3⟩
              have D3 := B_trans D2 hb3
              clear hb3 hx3
              go_wp2_with fail
              go_ret2
              exact HN.out _ D3
            · rw [hpa] at HDA
              cases hpb : rhk xb
              · have HN := Lib.hid (fun w' hb => rg_no (cell := ccell) (w := w) (w' := w') (lokG_no (M := 256) hlt (show rck (pget P k) = false by rw [HRA.out, hpa, hpb]; rfl)) hb)
                rw [hpb] at HDB
                clear hpa hpb HRA HCA
                go_wp2_with fail
                refine (HDA.out _ hW).mono ?_
                rintro e w2 ⟨x2, rfl, hx2, hb2⟩
                have D2 := B_trans hW hb2
                clear hb2 hx2
                go_wp2_with fail
                refine (HDB.out _ D2).mono ?_
                rintro e w3 ⟨x3, rfl, hx3, hb3⟩
                have D3 := B_trans D2 hb3
                clear hb3 hx3
                go_wp2_with fail
                go_ret2
                exact HN.out _ D3
              · rw [hpb] at HDB
                have HT := Lib.hid (ptake hlt)
                have hall2 : Hid (∀ j, j < k + 1 → rck (pget P j) = true) := Lib.hid (fun j hj => by
                  by_cases hjk : j = k
                  · subst hjk; rw [HRA.out, hpa, hpb]; rfl
                  · exact hall.out j (by omega))
                generalize hva : hval xa = va at *
                generalize hvb : hval xb = vb at *
                clear hva hvb hpa hpb HRA
                go_wp2_with fail
                refine (HDA.out _ hW).mono ?_
                rintro e w2 ⟨x2, rfl, hx2, hb2⟩
                obtain rfl : va = x2 := (hx2 (by first | rfl | trivial)).symm
                have D2 := B_trans hW hb2
                have hown2 := own_below HOWN.out hb2
                have hZ2 := Nat.le_trans hZ hb2.size
                have hB2 : Hid (w2.heap[b]? = w1.heap[b]?) := Lib.hid ((hb2.block b (by omega)).trans hB.out)
                have HOWN2 := Lib.hid hown2
                clear hx2 hb2 hown2 HOWN hB
                go_wp2_with fail
                refine (HDB.out _ D2).mono ?_
                rintro e w3 ⟨x3, rfl, hx3, hb3⟩
                obtain rfl : vb = x3 := (hx3 (by first | rfl | trivial)).symm
                have D3 := B_trans D2 hb3
                have HOWN3 := Lib.hid (own_below HOWN2.out hb3)
                have hZ3 := Nat.le_trans hZ2 hb3.size
                have hB3 : Hid (w3.heap[b]? = w1.heap[b]?) := Lib.hid ((hb3.block b (by omega)).trans hB2.out)
                have hs3 := D3.size
                clear hx3 hb3 HOWN2 hB2
                go_wp2_with (at_builtin; refine wpList_append_own _ rfl _ _ 25 rfl w.heap.size 24 i0 (.complex .f32 0 0) 1 8 Tryz.underlying25 hi hz0 hz1 hz2 rfl (by decide) _ _ _ rfl (own_hp (HOWN3.out.alloc (.cells #[.complex .f32 va vb] 24)) rfl) _ 1 _ [.complex .f32 va vb] rfl rfl ?c1 ?c2 ?c3 ?c4 ?c5 ?_)
                case c1 =>
                  intro j u hj
                  match j, hj with
                  | 0, hj => simp at hj; subst hj; exact cell_nw rfl
                case c2 => intro u hu; simp at hu; subst hu; rfl
                case c3 => unfold maxLen; omega
                case c4 => omega
                case c5 => simp; omega
                intro v' w4 hown' hgrow _
                have hown4 : w4.ownsRow w.heap.size 24 1 v' (k + 1) ((P.take (k + 1)).map ccell) := by rw [HT.out, List.map_append, List.map_singleton, HCA.out, List.map_take]; first | exact hown' | (rw [← List.map_take]; exact hown')
                have D4 : Below w.heap.size w w4 := Below.grown (D3.alloc hs3 _) hgrow (by simp; omega) (fun g hg => (HOWN3.out.lt g hg).1)
                have hB4 : Hid (w4.heap[b]? = w1.heap[b]?) := Lib.hid (by
                  have h1 := hgrow.block b (by simp; omega) (fun e => own_ne HOWN3.out nec_str (b := b) (by rw [hB3.out]; exact HPT.out) e.symm)
                  rw [h1, ← hB3.out]
                  exact ((Below.refl _ _).alloc (Nat.le_refl _) _).block b (by omega))
                have hZ4 : w1.heap.size ≤ w4.heap.size := by have := hgrow.size; simp at this; omega
                clear hown' hgrow HOWN3 hB3
                go_wp2_with fail
                go_roundw
                case rel => exact ⟨k + 1, by omega, .inr h64, by go_num, hall2, own_hp hown4 rfl, D4, hB4, hZ4⟩
                case measure => simp [intOf]; omega
          · have hd : decide ((P.length : Int) > 256) = true := by simp; omega
            have HN := Lib.hid (fun w' hb => rg_no (rk := rck) (cell := ccell) (w := w) (w' := w') (P := P) (lokG_big (M := 256) (by omega)) hb)
            clear hk64 h64 hsz h16 htx
            go_wp2_with fail
            go_ret2
            exact HN.out _ hW
        · have hd16 : ((t.size : Int) != 16) = true := by rw [bne_iff_ne]; omega
          have HN := Lib.hid (fun w' hb => rg_no (cell := ccell) (w := w) (w' := w') (lokG_no (M := 256) hlt (rck_len h16)) hb)
          clear hsz h16 htx hk64
          go_wp2_with fail
          go_ret2
          exact HN.out _ hW
      · have h64 : P.length ≤ 256 := by
          rcases hk64 with e | e
          · subst e; omega
          · exact e
        have HY := Lib.hid (rg_yes (w := w) (P := P) (lokG_yes (M := 256) (fun j hj => hall.out j (by omega)) h64) (by omega) HOWN.out hW)
        clear HOWN hB hk64
        go_wp2_with fail
        go_ret2
        exact HY.out
end Go.Proofs.YtgaecoekhcdaeaaGreatDoor
