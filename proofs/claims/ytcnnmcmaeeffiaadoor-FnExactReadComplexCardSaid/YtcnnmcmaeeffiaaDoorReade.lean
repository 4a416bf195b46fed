/-
  ReadComplex at both sides: the whole.
-/
import Derived.Test.YtcnnmcmaeeffiaaDoorReadc
import Derived.Stop.LaidErr
namespace Go.Proofs.YtcnnmcmaeeffiaaDoor
set_option linter.unusedVariables false
set_option linter.unusedSimpArgs false
open Go.RowKit Fl

def rck (x : List UInt8) : Bool := (decide (x.length = 16) && rhk (x.take 8)) && rhk (x.drop 8)
def ccell (x : List UInt8) : Value := .complex .f32 (hval (x.take 8)) (hval (x.drop 8))
theorem rck_len {x : List UInt8} (h : x.length ≠ 16) : rck x = false := by unfold rck; rw [decide_eq_false h]; rfl
theorem ext_lo (t : ByteArray) : (t.extract 0 8).data.toList = t.data.toList.take 8 := by rw [Lib.extract_data]; simp
theorem ext_hi (t : ByteArray) : (t.extract 8 t.size).data.toList = t.data.toList.drop 8 := by
  rw [Lib.extract_data, List.take_of_length_le (by simp)]
theorem rck_16 {x : List UInt8} {t : ByteArray} (h : x = t.data.toList) (h16 : x.length = 16) : rck x = (rhk (t.extract 0 8).data.toList && rhk (t.extract 8 t.size).data.toList) := by
  unfold rck
  rw [decide_eq_true h16, Bool.true_and, ext_lo, ext_hi, h]
theorem ccell_16 {x : List UInt8} {t : ByteArray} (h : x = t.data.toList) (h16 : x.length = 16) : ccell x = .complex .f32 (hval (t.extract 0 8).data.toList) (hval (t.extract 8 t.size).data.toList) := by
  unfold ccell
  rw [ext_lo, ext_hi, h]
theorem lcG_cx (P : List (List UInt8)) : CxF (lcG rck 256 ccell P).length (vget (lcG rck 256 ccell P)) := by
  intro i hi
  cases h : lokG rck 256 P
  · rw [lcG_no h] at hi; cases hi
  · rw [lcG_yes h] at hi ⊢
    have hi' : i < P.length := by simpa using hi
    have hr : rck P[i] = true := by
      unfold lokG at h
      simp only [Bool.and_eq_true, List.all_eq_true] at h
      exact h.2 _ (List.getElem_mem hi')
    have hb : ∀ {l : List UInt8}, rhk l = true → hval l < 4294967296 := fun {l} hl => by
      unfold rhk at hl
      simp only [Bool.and_eq_true, decide_eq_true_eq] at hl
      exact hval_lt hl.1.2 hl.1.1
    unfold rck at hr
    simp only [Bool.and_eq_true, decide_eq_true_eq] at hr
    refine ⟨_, _, ?_, hb hr.1.2, hb hr.2⟩
    unfold vget ccell
    simp [List.getD, hi']
theorem info_c64t : (Tryd.prog.info? 47).map (fun i => (i.zero, i.size, i.bytes)) = some (some (.complex .f32 0 0), 1, 8) := by kernel_rfl
theorem nec_str : (47 : TypeId) ≠ 9 := by decide
set_option maxRecDepth 100000 in
set_option maxHeartbeats 16000000 in
theorem l01CRead_any (s : ByteArray) (hs : s.size ≤ 1048576) (w : World) : Calls Tryd.prog 27 #[.string s] w (RG rck 256 ccell w (partsL s.data.toList)) := by
  obtain ⟨i0, hi, hz0, hz1, hz2⟩ := info_parts info_c64t
  by_cases hn : s.data.toList = noneL
  · have HY := Lib.hid (fun (w' : World) (v : Value) (ho : w'.ownsRow w.heap.size 47 1 v 0 []) (hb : Below w.heap.size w w') => show RG rck 256 ccell w (partsL s.data.toList) (.returned (.tuple #[v, .bool true])) w' from by
      have e : partsL s.data.toList = [] := by unfold partsL; rw [if_pos hn]
      rw [e]
      exact rg_yes (k := 0) rfl rfl ho hb)
    generalize partsL s.data.toList = P at *
    obtain rfl : s = ⟨#[110, 111, 110, 101]⟩ := bs_none hn
    clear hn hs
    have hown0 : (w.alloc (.cells #[] 47)).ownsRow w.heap.size 47 1 (.slice (some ⟨w.heap.size, 0, none⟩) 0 0) 0 [] :=
      World.ownsRow_made (base := w.heap.size) (e := 47) (size := 1) w #[] 0 (Nat.le_refl _) (Nat.zero_le _) rfl
    have hb0 : Below w.heap.size w (w.alloc (.cells #[] 47)) := by (repeat' first | assumption | exact Below.refl _ _ | refine B_drew ?_ _ | refine Below.drew ?_ | refine Below.alloc ?_ (by first | exact Nat.le_refl _ | (simp; done) | (simp; omega)) _)
    have HF := Lib.hid (HY.out _ _ hown0 hb0)
    clear hown0 hb0 HY
    go_enter Tryd.func27, Tryd.ntmps27
    go_wp2_with fail
    go_ret2
    exact HF.out
  · have hx := partsL_cut hn
    have hb : (s.toList == [110, 111, 110, 101]) = false := by
      rw [beq_eq_false_iff_ne]
      intro e
      exact hn (by rw [← Lib.toList_data, e]; rfl)
    have hlen := partsL_len s.data.toList
    have HC := Lib.hid (fun w' => l01Cut_any s hs w')
    rw [← hx] at HC
    have hl2 : (partsL s.data.toList).length ≤ 1048577 := by
      have h2 : s.data.toList.length = s.size := by simp
      omega
    clear hx hn hlen
    generalize partsL s.data.toList = P at *
    go_enter Tryd.func27, Tryd.ntmps27
    go_wp2_with fail
    refine (HC.out _).mono ?_
    rintro e w1 ⟨pv, rfl, hpv, hb1⟩
    have D1 : Below w.heap.size w w1 := B_trans (a := w.alloc (.cells #[] 47)) (by (repeat' first | assumption | exact Below.refl _ _ | refine B_drew ?_ _ | refine Below.drew ?_ | refine Below.alloc ?_ (by first | exact Nat.le_refl _ | (simp; done) | (simp; omega)) _)) hb1
    have hown0 : w1.ownsRow w.heap.size 47 1 (.slice (some ⟨w.heap.size, 0, none⟩) 0 0) 0 [] :=
      own_below (World.ownsRow_made (base := w.heap.size) (e := 47) (size := 1) w #[] 0 (Nat.le_refl _) (Nat.zero_le _) rfl) hb1
    clear hb1
    obtain ⟨pao, pcap, rfl, pc1, pc2⟩ := hpv
    by_cases h256 : P.length ≤ 256
    · have hd : decide ((P.length : Int) > 256) = false := by simp; omega
      rcases pc2 with pc2 | ⟨b, off, rfl, ⟨pl, pt⟩, pc⟩
      · subst pc2
        have HY := Lib.hid (rg_yes (rk := rck) (M := 256) (cell := ccell) (w := w) (P := []) (k := 0) rfl rfl hown0 D1)
        clear hown0 HC
        simp only [List.length_nil] at *
        go_wp2_with fail
        refine wp_loop_rounds 1 ?_
        rw [rounds_succ]
        go_wp2_with fail
        go_ret2
        exact HY.out
      · have HPC := Lib.hid pc
        have HPT := Lib.hid pt
        clear pc pt HC
        go_wp2_with fail
        go_loopw [4, 6] (fun v i wr => ∃ k : Nat, k ≤ P.length ∧ i = .int .i64 (k : Int) ∧ Hid (∀ j, j < k → rck (pget P j) = true) ∧ wr.ownsRow w.heap.size 47 1 v k ((P.take k).map ccell) ∧ Below w.heap.size w wr ∧ Hid (wr.heap[b]? = w1.heap[b]?) ∧ w1.heap.size ≤ wr.heap.size) (fun _ i _ => P.length - (intOf i).toNat)
        case atStart => exact ⟨0, Nat.zero_le _, rfl, Lib.hid (fun j hj => absurd hj (Nat.not_lt_zero _)), hown0, D1, Lib.hid rfl, Nat.le_refl _⟩
        case round =>
          clear hown0
          obtain ⟨k, hk, rfl, hall, hown, hW, hB, hZ⟩ := hrel
          have HOWN := Lib.hid hown
          clear hown
          by_cases hlt : k < P.length
          · have s1 : wr.cell? ⟨b, off + k, none⟩ = some (.string ⟨(pget P k).toArray⟩) := by
              rw [World.cell?_of_block (a := ⟨b, off + k, none⟩) hB.out]
              exact HPC.out k _ (pget_get hlt)
            obtain ⟨t, ht⟩ : ∃ t : ByteArray, t = ⟨(pget P k).toArray⟩ := ⟨_, rfl⟩
            have htx : pget P k = t.data.toList := by rw [ht]
            have hsz : t.size = (pget P k).length := by rw [ht]; show (pget P k).toArray.size = _; simp
            rw [← ht] at s1
            clear ht
            have HTX := Lib.hid htx
            by_cases h16 : (pget P k).length = 16
            · have hd16 : ((t.size : Int) != 16) = false := by rw [hsz, h16]; rfl
              have ht16 : t.size ≤ 16 ∧ 16 ≤ t.size := by omega
              obtain ⟨ht16a, ht16b⟩ := ht16
              have hsa : (t.extract 0 8).size = 8 := by rw [ByteArray.size_extract]; omega
              have hsb : (t.extract 8 t.size).size = 8 := by rw [ByteArray.size_extract]; omega
              have HA := l01Digits_any (t.extract 0 8) hsa
              have HB2 := l01Digits_any (t.extract 8 t.size) hsb
              have hra := rck_16 htx h16
              have hca := ccell_16 htx h16
              generalize (t.extract 0 8).data.toList = xa at *
              generalize (t.extract 8 t.size).data.toList = xb at *
              have HDA := Lib.hid HA
              have HDB := Lib.hid HB2
              have HRA := Lib.hid hra
              have HCA := Lib.hid hca
              clear HA HB2 hra hca hsa hsb hsz h16 htx
              unfold RHex at HDA HDB
              cases hpa : rhk xa
              · have HN := Lib.hid (fun w' hb => rg_no (cell := ccell) (w := w) (w' := w') (lokG_no (M := 256) hlt (show rck (pget P k) = false by rw [HRA.out, hpa]; rfl)) hb)
                rw [hpa] at HDA
                generalize rhk xb = qb at *
                clear hpa HRA HCA
                go_wp2_with fail
                refine (HDA.out _).mono ?_
                rintro e w2 ⟨x2, rfl, hx2, hb2⟩
                have D2 := B_trans hW hb2
                have s2 : w2.cell? ⟨b, off + k, none⟩ = some (.string t) := by rw [hb2.cell (World.block_lt_of_cell? wr _ s1)]; exact s1
                clear hb2 hx2
                go_wp2_with fail
                refine (HDB.out _).mono ?_
                rintro e w3 ⟨x3, rfl, hx3, hb3⟩
                have D3 := B_trans D2 hb3
                clear hb3 hx3
                go_wp2_with fail
                go_ret2
                exact HN.out _ D3
              · rw [hpa] at HDA
                cases hpb : rhk xb
                · have HN := Lib.hid (fun w' hb => rg_no (cell := ccell) (w := w) (w' := w') (lokG_no (M := 256) hlt (show rck (pget P k) = false by rw [HRA.out, hpa, hpb]; rfl)) hb)
                  rw [hpb] at HDB
                  clear hpa hpb HRA HCA
                  go_wp2_with fail
                  refine (HDA.out _).mono ?_
                  rintro e w2 ⟨x2, rfl, hx2, hb2⟩
                  have D2 := B_trans hW hb2
                  have s2 : w2.cell? ⟨b, off + k, none⟩ = some (.string t) := by rw [hb2.cell (World.block_lt_of_cell? wr _ s1)]; exact s1
                  clear hb2 hx2
                  go_wp2_with fail
                  refine (HDB.out _).mono ?_
                  rintro e w3 ⟨x3, rfl, hx3, hb3⟩
                  have D3 := B_trans D2 hb3
                  clear hb3 hx3
                  go_wp2_with fail
                  go_ret2
                  exact HN.out _ D3
                · rw [hpb] at HDB
                  have HT := Lib.hid (ptake hlt)
                  have hall2 : Hid (∀ j, j < k + 1 → rck (pget P j) = true) := Lib.hid (fun j hj => by
                    by_cases hjk : j = k
                    · subst hjk; rw [HRA.out, hpa, hpb]; rfl
                    · exact hall.out j (by omega))
                  generalize hva : hval xa = va at *
                  generalize hvb : hval xb = vb at *
                  clear hva hvb hpa hpb HRA
                  go_wp2_with fail
                  refine (HDA.out _).mono ?_
                  rintro e w2 ⟨x2, rfl, hx2, hb2⟩
                  obtain rfl : va = x2 := (hx2 (by first | rfl | trivial)).symm
                  have D2 := B_trans hW hb2
                  have s2 : w2.cell? ⟨b, off + k, none⟩ = some (.string t) := by rw [hb2.cell (World.block_lt_of_cell? wr _ s1)]; exact s1
                  have hown2 := own_below HOWN.out hb2
                  have hZ2 := Nat.le_trans hZ hb2.size
                  have hB2 : Hid (w2.heap[b]? = w1.heap[b]?) := Lib.hid ((hb2.block b (by omega)).trans hB.out)
                  have HOWN2 := Lib.hid hown2
                  clear hx2 hb2 hown2 HOWN hB
                  go_wp2_with fail
                  refine (HDB.out _).mono ?_
                  rintro e w3 ⟨x3, rfl, hx3, hb3⟩
                  obtain rfl : vb = x3 := (hx3 (by first | rfl | trivial)).symm
                  have D3 := B_trans D2 hb3
                  have HOWN3 := Lib.hid (own_below HOWN2.out hb3)
                  have hZ3 := Nat.le_trans hZ2 hb3.size
                  have hB3 : Hid (w3.heap[b]? = w1.heap[b]?) := Lib.hid ((hb3.block b (by omega)).trans hB2.out)
                  have hs3 := D3.size
                  clear hx3 hb3 HOWN2 hB2 s2
                  go_wp2_with (at_builtin; refine wpList_append_own _ rfl _ _ 32 rfl w.heap.size 47 i0 (.complex .f32 0 0) 1 8 Tryd.underlying32 hi hz0 hz1 hz2 rfl (by decide) _ _ _ rfl (own_hp (HOWN3.out.alloc (.cells #[.complex .f32 va vb] 47)) rfl) _ 1 _ [.complex .f32 va vb] rfl rfl ?c1 ?c2 ?c3 ?c4 ?c5 ?_)
                  case c1 =>
                    intro j u hj
                    match j, hj with
                    | 0, hj => simp at hj; subst hj; exact cell_nw rfl
                  case c2 => intro u hu; simp at hu; subst hu; rfl
                  case c3 => unfold maxLen; omega
                  case c4 => omega
                  case c5 => simp; omega
                  intro v' w4 hown' hgrow _
                  have hown4 : w4.ownsRow w.heap.size 47 1 v' (k + 1) ((P.take (k + 1)).map ccell) := by rw [HT.out, List.map_append, List.map_singleton, HCA.out, List.map_take]; first | exact hown' | (rw [← List.map_take]; exact hown')
                  have D4 : Below w.heap.size w w4 := Below.grown (D3.alloc hs3 _) hgrow (by simp; omega) (fun g hg => (HOWN3.out.lt g hg).1)
                  have hB4 : Hid (w4.heap[b]? = w1.heap[b]?) := Lib.hid (by
                    have h1 := hgrow.block b (by simp; omega) (fun e => own_ne HOWN3.out nec_str (b := b) (by rw [hB3.out]; exact HPT.out) e.symm)
                    rw [h1, ← hB3.out]
                    exact ((Below.refl _ _).alloc (Nat.le_refl _) _).block b (by omega))
                  have hZ4 : w1.heap.size ≤ w4.heap.size := by have := hgrow.size; simp at this; omega
                  clear hown' hgrow HOWN3 hB3
                  go_wp2_with fail
                  go_roundw
                  case rel => exact ⟨k + 1, by omega, by go_num, hall2, own_hp hown4 rfl, D4, hB4, hZ4⟩
                  case measure => simp [intOf]; omega
            · have hd16 : ((t.size : Int) != 16) = true := by rw [bne_iff_ne]; omega
              have HN := Lib.hid (fun w' hb => rg_no (cell := ccell) (w := w) (w' := w') (lokG_no (M := 256) hlt (rck_len h16)) hb)
              clear hsz h16 htx
              go_wp2_with fail
              go_ret2
              exact HN.out _ hW
          · have HY := Lib.hid (rg_yes (w := w) (P := P) (lokG_yes (M := 256) (fun j hj => hall.out j (by omega)) h256) (by omega) HOWN.out hW)
            clear HOWN hB
            go_wp2_with fail
            go_ret2
            exact HY.out
    · have hd : decide ((P.length : Int) > 256) = true := by simp; omega
      have HN := Lib.hid (fun w' hb => rg_no (rk := rck) (cell := ccell) (w := w) (w' := w') (P := P) (lokG_big (M := 256) (by omega)) hb)
      clear hown0 HC pc2 h256
      go_wp2_with fail
      go_ret2
      exact HN.out _ D1
end Go.Proofs.YtcnnmcmaeeffiaaDoor
