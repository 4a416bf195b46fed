/-
  ReadNumbers: marks, and the program's side.
-/
import Derived.Test.YtgaecoekhcdaeaaGreatDoorReadn
import Derived.Stop.LaidErr
namespace Go.Proofs.YtgaecoekhcdaeaaGreatDoor
set_option linter.unusedVariables false
set_option linter.unusedSimpArgs false
set_option maxRecDepth 20000
open Go.RowKit Fl
attribute [local go_sem] run_store_float

/-- The numbers that are read. -/
def lvF (P : List (List UInt8)) : List Nat := if lokG rhk 256 P then P.map hval else []
theorem lcG_lvF (P : List (List UInt8)) : lcG rhk 256 hcell P = (lvF P).map (Value.float .f32) := by
  unfold lcG lvF
  cases lokG rhk 256 P
  · rfl
  · simp only [if_true, List.map_map]
    rfl
theorem lvF_bits (P : List (List UInt8)) : ∀ b ∈ lvF P, b < 2 ^ FloatKind.f32.format.width := by
  intro b hb
  unfold lvF at hb
  cases h : lokG rhk 256 P
  · rw [h] at hb; cases hb
  · rw [h, if_pos rfl] at hb
    obtain ⟨x, hx, rfl⟩ := List.mem_map.1 hb
    unfold lokG at h
    simp only [Bool.and_eq_true, List.all_eq_true] at h
    have := h.2 x hx
    unfold rhk at this
    simp only [Bool.and_eq_true, decide_eq_true_eq] at this
    exact hval_lt this.1.2 this.1.1
theorem vget_float (l : List Nat) {i : Nat} (h : i < l.length) : vget (l.map (Value.float .f32)) i = .float .f32 (fget l i) := by
  unfold vget fget
  simp [List.getD, h]
theorem fsl_of_ov {w : World} {B N : Nat} {v : Value} {P : List (List UInt8)} (h : OV w B N v (lcG rhk 256 hcell P).length (vget (lcG rhk 256 hcell P))) : FSl .f32 w v (lvF P) := by
  rw [lcG_lvF, List.length_map] at h
  obtain ⟨h2, ⟨rfl, h3⟩ | ⟨g, cap, rfl, h5, h6, h7, h8, h9, h10⟩⟩ := h
  · rw [List.length_eq_zero_iff.1 h3]
    exact FSl.nil
  · exact ⟨_, cap, rfl, h5, h6, lvF_bits P, .inr ⟨g, 0, rfl, by omega, fun i hi => by rw [Nat.zero_add, ← vget_float _ hi]; exact h10 i hi⟩⟩
theorem lcG_float (P : List (List UInt8)) : ∀ i, i < (lcG rhk 256 hcell P).length → ∃ b, vget (lcG rhk 256 hcell P) i = .float .f32 b := by
  intro i hi
  rw [lcG_lvF] at hi ⊢
  exact ⟨_, vget_float _ (by simpa using hi)⟩
def fmark (k : Int) (i : Nat) : Value := .float .f32 (floatOfInt .f32 (k + (i : Int)))
theorem fneq_self (k : Int) : cmpF .neq .f32 (ofInt .f32 k) (ofInt .f32 k) = false := by
  have := ord_refl (show IsF .f32 (floatOfInt .f32 k) (some (floatOfInt .f32 k)) from isF_ofInt .f32 k)
  simp [cmpF, ofInt, this]
set_option maxHeartbeats 8000000 in
theorem iReadNumbers_any (s : ByteArray) (hs : s.size ≤ 1048576) (w : World) (hf : RxF w) : Calls Tryz.prog 32 #[.string s] w (RG rhk 256 hcell w (partsL s.data.toList)) := by
  obtain ⟨i0, hi, hz0, hz1, hz2⟩ := info_parts info_f32t
  have hlen := partsL_len s.data.toList
  have hpc : ∀ j, j < (partsL s.data.toList).length → (pget (partsL s.data.toList) j).length ≤ 281474976710656 := fun j hj => by
    have := parts_piece (pget_mem hj)
    have h2 : s.data.toList.length = s.size := by simp
    omega
  have HC := Lib.hid (partsOrNone_any s hs w hf.mx)
  have hl2 : (partsL s.data.toList).length ≤ 1048577 := by
    have h2 : s.data.toList.length = s.size := by simp
    omega
  clear hlen
  generalize partsL s.data.toList = P at *
  have HP := Lib.hid (fun j hj w' (hb : Below w.heap.size w w') => readHex_any ⟨(pget P j).toArray⟩ (by show (pget P j).toArray.size ≤ _; simpa using hpc j hj) w' (hf.below hb))
  clear hpc hf
  go_enter Tryz.func32, Tryz.ntmps32
  go_wp2_with fail
  refine HC.out.mono ?_
  rintro e w1 ⟨pv, rfl, hpv, hb1⟩
  have hs1 := hb1.size
  obtain ⟨pao, pcap, rfl, pc1, pc2⟩ := hpv
  have hown0 : (w1.alloc (.cells #[] 28)).ownsRow w.heap.size 28 1 (.slice (some ⟨w1.heap.size, 0, none⟩) 0 0) 0 [] :=
    World.ownsRow_made (base := w.heap.size) (e := 28) (size := 1) w1 #[] 0 hs1 (Nat.zero_le _) rfl
  have D1 : Below w.heap.size w (w1.alloc (.cells #[] 28)) := hb1.alloc hs1 _
  rcases pc2 with pc2 | ⟨b, off, rfl, ⟨pl, pt⟩, pc⟩
  · subst pc2
    have HY := Lib.hid (rg_yes (rk := rhk) (M := 256) (cell := hcell) (w := w) (P := []) (k := 0) rfl rfl hown0 D1)
    clear hown0 HC HP
    simp only [List.length_nil] at *
    go_wp2_with fail
    refine wp_loop_rounds 1 ?_
    rw [rounds_succ]
    go_wp2_with fail
    go_ret2
    exact HY.out
  · have HPC := Lib.hid pc
    have HPT := Lib.hid pt
    clear pc pt HC
    go_wp2_with fail
    go_loopw [5, 15] (fun v i wr => ∃ k : Nat, k ≤ P.length ∧ (k = 0 ∨ P.length ≤ 256) ∧ i = .int .i64 (k : Int) ∧ Hid (∀ j, j < k → rhk (pget P j) = true) ∧ wr.ownsRow w.heap.size 28 1 v k ((P.take k).map hcell) ∧ Below w.heap.size w wr ∧ Hid (wr.heap[b]? = w1.heap[b]?) ∧ w1.heap.size ≤ wr.heap.size) (fun _ i _ => P.length - (intOf i).toNat)
    case atStart => exact ⟨0, Nat.zero_le _, .inl rfl, rfl, Lib.hid (fun j hj => absurd hj (Nat.not_lt_zero _)), hown0, D1, Lib.hid (((Below.refl _ _).alloc (Nat.le_refl _) _).block b pl), by simp⟩
    case round =>
      clear hown0
      obtain ⟨k, hk, hk64, rfl, hall, hown, hW, hB, hZ⟩ := hrel
      have HOWN := Lib.hid hown
      clear hown
      by_cases hlt : k < P.length
      · have s1 : wr.cell? ⟨b, off + k, none⟩ = some (.string ⟨(pget P k).toArray⟩) := by
          rw [World.cell?_of_block (a := ⟨b, off + k, none⟩) hB.out]
          exact HPC.out k _ (pget_get hlt)
        have HV := Lib.hid (HP.out k hlt)
        cases hp : rhk (pget P k)
        · have HN := Lib.hid (fun w' hb => rg_no (cell := hcell) (w := w) (w' := w') (lokG_no (M := 256) hlt hp) hb)
          unfold RHex at HV
          rw [hp] at HV
          clear hp hk64
          generalize pget P k = x at s1 HV
          go_wp2_with fail
          refine (HV.out _ hW).mono ?_
          rintro e w2 ⟨x2, rfl, hx2, hb2⟩
          have D2 := B_trans hW hb2
          clear hb2
          go_wp2_with fail
          go_ret2
          exact HN.out _ D2
        · unfold RHex at HV
          rw [hp] at HV
          by_cases h64 : P.length ≤ 256
          · have hd : decide ((P.length : Int) > 256) = false := by simp; omega
            have HT := Lib.hid (ptake hlt)
            have hall2 : Hid (∀ j, j < k + 1 → rhk (pget P j) = true) := Lib.hid (fun j hj => by
              by_cases hjk : j = k
              · subst hjk; exact hp
              · exact hall.out j (by omega))
            clear hp hk64
            generalize pget P k = x at s1 HV HT
            have HNC := Lib.hid (show hcell x = .float .f32 (hval x) from rfl)
            generalize hval x = z at *
            go_wp2_with fail
            refine (HV.out _ hW).mono ?_
            rintro e w2 ⟨x2, rfl, hx2, hb2⟩
            obtain rfl : z = x2 := (hx2 (by first | rfl | trivial)).symm
            clear hx2
            have hown2 := Lib.hid (own_below HOWN.out hb2)
            have D2 := B_trans hW hb2
            have hs2 := D2.size
            have hZ2 := Nat.le_trans hZ hb2.size
            have hB2 : Hid (w2.heap[b]? = w1.heap[b]?) := Lib.hid ((hb2.block b (by omega)).trans hB.out)
            clear hb2 HOWN hB
            go_wp2_with (at_builtin; refine wpList_append_own _ rfl _ _ 52 rfl w.heap.size 28 i0 (.float .f32 0) 1 4 Tryz.underlying52 hi hz0 hz1 hz2 rfl (by decide) _ _ _ rfl (own_hp (hown2.out.alloc (.cells #[.float .f32 z] 28)) rfl) _ 1 _ [.float .f32 z] rfl rfl ?c1 ?c2 ?c3 ?c4 ?c5 ?_)
            case c1 =>
              intro j u hj
              match j, hj with
              | 0, hj => simp at hj; subst hj; exact cell_nw rfl
            case c2 => intro u hu; simp at hu; subst hu; rfl
            case c3 => unfold maxLen; omega
            case c4 => omega
            case c5 => simp; omega
            intro v' w3 hown' hgrow _
            have hown3 : w3.ownsRow w.heap.size 28 1 v' (k + 1) ((P.take (k + 1)).map hcell) := by rw [HT.out, List.map_append, List.map_singleton, HNC.out, List.map_take]; exact hown'
            have D3 : Below w.heap.size w w3 := Below.grown (D2.alloc hs2 _) hgrow (by simp; omega) (fun g hg => (hown2.out.lt g hg).1)
            have hB3 : Hid (w3.heap[b]? = w1.heap[b]?) := Lib.hid (by
              have h1 := hgrow.block b (by simp; omega) (fun e => own_ne hown2.out nef_str (b := b) (by rw [hB2.out]; exact HPT.out) e.symm)
              rw [h1, ← hB2.out]
              exact ((Below.refl _ _).alloc (Nat.le_refl _) _).block b (by omega))
            have hZ3 : w1.heap.size ≤ w3.heap.size := by have := hgrow.size; simp at this; omega
            clear hown' hgrow hown2 hB2
            go_wp2_with fail
            go_roundw
            case rel => exact ⟨k + 1, by omega, .inr h64, by go_num, hall2, own_hp hown3 rfl, D3, hB3, hZ3⟩
            case measure => simp [intOf]; omega
          · have hd : decide ((P.length : Int) > 256) = true := by simp; omega
            have HN := Lib.hid (fun w' hb => rg_no (rk := rhk) (cell := hcell) (w := w) (w' := w') (P := P) (lokG_big (M := 256) (by omega)) hb)
            clear hp hk64 h64
            generalize pget P k = x at s1 HV
            go_wp2_with fail
            refine (HV.out _ hW).mono ?_
            rintro e w2 ⟨x2, rfl, hx2, hb2⟩
            have D2 := B_trans hW hb2
            clear hb2
            go_wp2_with fail
            go_ret2
            exact HN.out _ D2
      · have h64 : P.length ≤ 256 := by
          rcases hk64 with e | e
          · subst e; omega
          · exact e
        have HY := Lib.hid (rg_yes (w := w) (P := P) (lokG_yes (M := 256) (fun j hj => hall.out j (by omega)) h64) (by omega) HOWN.out hW)
        clear HOWN hB hk64
        go_wp2_with fail
        go_ret2
        exact HY.out
end Go.Proofs.YtgaecoekhcdaeaaGreatDoor
