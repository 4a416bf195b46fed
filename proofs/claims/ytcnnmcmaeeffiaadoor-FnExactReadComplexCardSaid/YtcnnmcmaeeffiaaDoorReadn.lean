/-
  ReadNumbers at both sides.
-/
import Derived.Test.YtcnnmcmaeeffiaaDoorRg
import Derived.Test.YtcnnmcmaeeffiaaDoorRhex
import Derived.Test.YtcnnmcmaeeffiaaDoorSlc
namespace Go.Proofs.YtcnnmcmaeeffiaaDoor
set_option linter.unusedVariables false
set_option linter.unusedSimpArgs false
open Go.RowKit Fl

def hcell (x : List UInt8) : Value := .float .f32 (hval x)
theorem info_f32t : (Tryd.prog.info? 38).map (fun i => (i.zero, i.size, i.bytes)) = some (some (.float .f32 0), 1, 4) := by kernel_rfl
theorem nef_str : (38 : TypeId) ≠ 9 := by decide
/-- How far the reference's inner loop is. -/
def HxI (x : List UInt8) (j : Nat) (n : Nat) : Prop := (x.take j).all isH = true ∧ n = hval (x.take j)
theorem HxI.start (x : List UInt8) : HxI x 0 0 := ⟨rfl, rfl⟩
theorem HxI.next {x : List UInt8} {j n : Nat} (h : HxI x j n) {c : UInt8} (hc : x[j]? = some c) (hh : isH c = true) : HxI x (j + 1) (16 * n + hdv c) := by
  obtain ⟨h1, h2⟩ := h
  have hlt : j < x.length := by
    rcases Nat.lt_or_ge j x.length with h | h
    · exact h
    · rw [List.getElem?_eq_none h] at hc; cases hc
  have e : x.take (j + 1) = x.take j ++ [c] := by
    rw [List.take_succ_eq_append_getElem hlt]
    rw [List.getElem?_eq_getElem hlt] at hc
    rw [Option.some.inj hc]
  refine ⟨by rw [e, List.all_append, h1]; simp [hh], ?_⟩
  rw [e]
  show _ = hfold 0 _
  rw [hfold_snoc, h2]
  rfl
theorem HxI.lt {x : List UInt8} {j n : Nat} (h : HxI x j n) (hj : j ≤ 8) : n < 4294967296 := by
  rw [h.2]
  have h1 := hfold_lt _ h.1 0
  have h2 : 16 ^ (x.take j).length ≤ 16 ^ 8 := Nat.pow_le_pow_right (by decide) (by rw [List.length_take]; omega)
  have h3 : (16 : Nat) ^ 8 = 4294967296 := by decide
  show hfold 0 _ < _
  omega
theorem HxI.bad {x : List UInt8} {j : Nat} {c : UInt8} (hc : x[j]? = some c) (hh : isH c = false) : rhk x = false := by
  have : x.all isH = false := by
    rw [List.all_eq_false]
    exact ⟨c, List.mem_of_getElem? hc, by simp [hh]⟩
  unfold rhk
  rw [this, Bool.and_false, Bool.false_and]
theorem HxI.done {x : List UInt8} {n : Nat} (h8 : x.length = 8) (h : HxI x 8 n) : n = hval x ∧ rhk x = decide (bitsN (cl .f32 n) = n) := by
  obtain ⟨h1, h2⟩ := h
  rw [List.take_of_length_le (by omega)] at h1 h2
  refine ⟨h2, ?_⟩
  unfold rhk
  rw [decide_eq_true h8, h1, h2]
  simp
theorem rl01From_any (n : Nat) (hn : n < 4294967296) (w : World) : Calls Tryd.prog 35 #[.int .i64 (n : Int)] w fun e w' => e = .returned (.float .f32 n) ∧ w' = w := by
  have hx := fun (b : Nat) w => ext_f32from b w
  go_enter Tryd.func35, Tryd.ntmps35
  go_wp2_with fail
  go_ret
  exact ⟨rfl, rfl⟩
set_option maxRecDepth 100000 in
set_option maxHeartbeats 16000000 in
theorem l01NRead_any (s : ByteArray) (hs : s.size ≤ 1048576) (w : World) : Calls Tryd.prog 24 #[.string s] w (RG rhk 256 hcell w (partsL s.data.toList)) := by
  obtain ⟨i0, hi, hz0, hz1, hz2⟩ := info_parts info_f32t
  by_cases hn : s.data.toList = noneL
  · have HY := Lib.hid (fun (w' : World) (v : Value) (ho : w'.ownsRow w.heap.size 38 1 v 0 []) (hb : Below w.heap.size w w') => show RG rhk 256 hcell w (partsL s.data.toList) (.returned (.tuple #[v, .bool true])) w' from by
      have e : partsL s.data.toList = [] := by unfold partsL; rw [if_pos hn]
      rw [e]
      exact rg_yes (k := 0) rfl rfl ho hb)
    generalize partsL s.data.toList = P at *
    obtain rfl : s = ⟨#[110, 111, 110, 101]⟩ := bs_none hn
    clear hn hs
    have hown0 : (w.alloc (.cells #[] 38)).ownsRow w.heap.size 38 1 (.slice (some ⟨w.heap.size, 0, none⟩) 0 0) 0 [] :=
      World.ownsRow_made (base := w.heap.size) (e := 38) (size := 1) w #[] 0 (Nat.le_refl _) (Nat.zero_le _) rfl
    have hb0 : Below w.heap.size w (w.alloc (.cells #[] 38)) := by (repeat' first | assumption | exact Below.refl _ _ | refine B_drew ?_ _ | refine Below.drew ?_ | refine Below.alloc ?_ (by first | exact Nat.le_refl _ | (simp; done) | (simp; omega)) _)
    have HF := Lib.hid (HY.out _ _ hown0 hb0)
    clear hown0 hb0 HY
    go_enter Tryd.func24, Tryd.ntmps24
    go_wp2_with fail
    go_ret2
    exact HF.out
  · have hx := partsL_cut hn
    have hb : (s.toList == [110, 111, 110, 101]) = false := by
      rw [beq_eq_false_iff_ne]
      intro e
      exact hn (by rw [← Lib.toList_data, e]; rfl)
    have hlen := partsL_len s.data.toList
    have HC := Lib.hid (fun w' => l01Cut_any s hs w')
    rw [← hx] at HC
    have hl2 : (partsL s.data.toList).length ≤ 1048577 := by
      have h2 : s.data.toList.length = s.size := by simp
      omega
    clear hx hn hlen
    generalize partsL s.data.toList = P at *
    go_enter Tryd.func24, Tryd.ntmps24
    go_wp2_with fail
    refine (HC.out _).mono ?_
    rintro e w1 ⟨pv, rfl, hpv, hb1⟩
    have D1 : Below w.heap.size w w1 := B_trans (a := w.alloc (.cells #[] 38)) (by (repeat' first | assumption | exact Below.refl _ _ | refine B_drew ?_ _ | refine Below.drew ?_ | refine Below.alloc ?_ (by first | exact Nat.le_refl _ | (simp; done) | (simp; omega)) _)) hb1
    have hown0 : w1.ownsRow w.heap.size 38 1 (.slice (some ⟨w.heap.size, 0, none⟩) 0 0) 0 [] :=
      own_below (World.ownsRow_made (base := w.heap.size) (e := 38) (size := 1) w #[] 0 (Nat.le_refl _) (Nat.zero_le _) rfl) hb1
    clear hb1
    obtain ⟨pao, pcap, rfl, pc1, pc2⟩ := hpv
    by_cases h256 : P.length ≤ 256
    · have hd : decide ((P.length : Int) > 256) = false := by simp; omega
      rcases pc2 with pc2 | ⟨b, off, rfl, ⟨pl, pt⟩, pc⟩
      · subst pc2
        have HY := Lib.hid (rg_yes (rk := rhk) (M := 256) (cell := hcell) (w := w) (P := []) (k := 0) rfl rfl hown0 D1)
        clear hown0 HC
        simp only [List.length_nil] at *
        go_wp2_with fail
        refine wp_loop_rounds 1 ?_
        rw [rounds_succ]
        go_wp2_with fail
        go_ret2
        exact HY.out
      · have HPC := Lib.hid pc
        have HPT := Lib.hid pt
        clear pc pt HC
        go_wp2_with fail
        go_loopw [4, 6] (fun v i wr => ∃ k : Nat, k ≤ P.length ∧ i = .int .i64 (k : Int) ∧ Hid (∀ j, j < k → rhk (pget P j) = true) ∧ wr.ownsRow w.heap.size 38 1 v k ((P.take k).map hcell) ∧ Below w.heap.size w wr ∧ Hid (wr.heap[b]? = w1.heap[b]?) ∧ w1.heap.size ≤ wr.heap.size) (fun _ i _ => P.length - (intOf i).toNat)
        case atStart => exact ⟨0, Nat.zero_le _, rfl, Lib.hid (fun j hj => absurd hj (Nat.not_lt_zero _)), hown0, D1, Lib.hid rfl, Nat.le_refl _⟩
        case round =>
          clear hown0
          obtain ⟨k, hk, rfl, hall, hown, hW, hB, hZ⟩ := hrel
          have HOWN := Lib.hid hown
          clear hown
          by_cases hlt : k < P.length
          · have s1 : wr.cell? ⟨b, off + k, none⟩ = some (.string ⟨(pget P k).toArray⟩) := by
              rw [World.cell?_of_block (a := ⟨b, off + k, none⟩) hB.out]
              exact HPC.out k _ (pget_get hlt)
            obtain ⟨t, ht⟩ : ∃ t : ByteArray, t = ⟨(pget P k).toArray⟩ := ⟨_, rfl⟩
            have htx : pget P k = t.data.toList := by rw [ht]
            have hsz : t.size = (pget P k).length := by rw [ht]; show (pget P k).toArray.size = _; simp
            rw [← ht] at s1
            clear ht
            have HTX := Lib.hid htx
            by_cases h8 : (pget P k).length = 8
            · have hd8 : ((t.size : Int) != 8) = false := by rw [hsz, h8]; rfl
              have ht8 : t.size ≤ 8 ∧ 8 ≤ t.size := by omega
              obtain ⟨ht8a, ht8b⟩ := ht8
              have H8 := Lib.hid h8
              clear hsz h8 htx
              go_wp2_with fail
              go_loop [7, 8] (fun n i => ∃ (j m : Nat), j ≤ 8 ∧ i = .int .i64 (j : Int) ∧ n = .int .i64 (m : Int) ∧ Hid (HxI (pget P k) j m)) (fun _ i => 8 - (intOf i).toNat)
              case atStart => exact ⟨0, 0, Nat.zero_le _, rfl, rfl, Lib.hid (HxI.start _)⟩
              case round =>
                obtain ⟨j, m, hj, rfl, rfl, hI⟩ := hrel
                have hm := hI.out.lt hj
                by_cases hj8 : j < 8
                · have hlj : j < t.size := by omega
                  have hcx : (pget P k)[j]? = some t[j] := by
                    rw [HTX.out, List.getElem?_eq_getElem (by simpa using hlj)]; rfl
                  have hc256 : t[j].toNat < 256 := t[j].toNat_lt
                  by_cases hdig : 48 ≤ t[j].toNat ∧ t[j].toNat ≤ 57
                  · have hh : isH t[j] = true := by unfold isH; simp; omega
                    have hv : hdv t[j] = t[j].toNat - 48 := by unfold hdv; rw [if_pos hdig.2]
                    have HN := Lib.hid (hI.out.next hcx hh)
                    have HV := Lib.hid (show 16 * (m : Int) + ((t[j].toNat : Int) - 48) = ((16 * m + hdv t[j] : Nat) : Int) by rw [hv]; omega)
                    obtain ⟨hd1, hd2⟩ := hdig
                    have hdi1 : 48 ≤ (t[j].toNat : Int) := by omega
                    have hdi2 : (t[j].toNat : Int) ≤ 57 := by omega
                    clear hh hv hcx
                    go_wp2_with fail
                    go_round
                    case rel => exact ⟨j + 1, _, by omega, by go_num, by rw [← HV.out], HN⟩
                    case measure => simp [intOf]; omega
                  · by_cases hlet : 97 ≤ t[j].toNat ∧ t[j].toNat ≤ 102
                    · have hh : isH t[j] = true := by unfold isH; simp; omega
                      have hv : hdv t[j] = t[j].toNat - 87 := by unfold hdv; rw [if_neg (by omega)]
                      have HN := Lib.hid (hI.out.next hcx hh)
                      have HV := Lib.hid (show 16 * (m : Int) + ((t[j].toNat : Int) - 97 + 10) = ((16 * m + hdv t[j] : Nat) : Int) by rw [hv]; omega)
                      obtain ⟨hd1, hd2⟩ := hlet
                      have hdi1 : 97 ≤ (t[j].toNat : Int) := by omega
                      have hdi2 : (t[j].toNat : Int) ≤ 102 := by omega
                      clear hh hv hcx hdig
                      go_wp2_with fail
                      go_round
                      case rel => exact ⟨j + 1, _, by omega, by go_num, by rw [← HV.out], HN⟩
                      case measure => simp [intOf]; omega
                    · have hh : isH t[j] = false := by unfold isH; simp; omega
                      have HN := Lib.hid (fun w' hb => rg_no (cell := hcell) (w := w) (w' := w') (lokG_no (M := 256) hlt (HxI.bad hcx hh)) hb)
                      have hdi : (t[j].toNat : Int) < 48 ∨ (57 < (t[j].toNat : Int) ∧ (t[j].toNat : Int) < 97) ∨ 102 < (t[j].toNat : Int) := by omega
                      clear hh hcx hdig hlet
                      rcases hdi with hdi | ⟨hdi, hdi2⟩ | hdi
                      all_goals
                        go_wp2_with fail
                        go_ret2
                        exact HN.out _ hW
                · obtain rfl : j = 8 := by omega
                  obtain ⟨hmv, hrk⟩ := hI.out.done H8.out
                  have HF := Lib.hid (fun w' => rl01From_any m hm w')
                  have HBt := Lib.hid (fun w' => l01Bits_any m _ (isF_small (by omega)) w')
                  rw [bitsI_N] at HBt
                  by_cases hbm : bitsN (cl .f32 m) = m
                  · rw [decide_eq_true hbm] at hrk
                    rw [hbm] at HBt
                    have HT := Lib.hid (ptake hlt)
                    have hall2 : Hid (∀ j, j < k + 1 → rhk (pget P j) = true) := Lib.hid (fun j hj => by
                      by_cases hjk : j = k
                      · subst hjk; exact hrk
                      · exact hall.out j (by omega))
                    have HNC := Lib.hid (show hcell (pget P k) = .float .f32 m by unfold hcell; rw [hmv])
                    clear hrk hmv hbm
                    go_wp2_with fail
                    refine (HF.out _).mono ?_
                    rintro e w' ⟨rfl, hw'⟩
                    obtain rfl := hw'.symm
                    clear hw'
                    go_wp2_with fail
                    refine (HBt.out _).mono ?_
                    rintro e w' ⟨rfl, hw'⟩
                    obtain rfl := hw'.symm
                    clear hw'
                    have hs2 := hW.size
                    go_wp2_with (at_builtin; refine wpList_append_own _ rfl _ _ 22 rfl w.heap.size 38 i0 (.float .f32 0) 1 4 Tryd.underlying22 hi hz0 hz1 hz2 rfl (by decide) _ _ _ rfl (own_hp (HOWN.out.alloc (.cells #[.float .f32 m] 38)) rfl) _ 1 _ [.float .f32 m] rfl rfl ?c1 ?c2 ?c3 ?c4 ?c5 ?_)
                    case c1 =>
                      intro j u hj
                      match j, hj with
                      | 0, hj => simp at hj; subst hj; exact cell_nw rfl
                    case c2 => intro u hu; simp at hu; subst hu; rfl
                    case c3 => unfold maxLen; omega
                    case c4 => omega
                    case c5 => simp; omega
                    intro v' w3 hown' hgrow _
                    have hown3 : w3.ownsRow w.heap.size 38 1 v' (k + 1) ((P.take (k + 1)).map hcell) := by rw [HT.out, List.map_append, List.map_singleton, HNC.out, List.map_take]; first | exact hown' | (rw [← List.map_take]; exact hown')
                    have D3 : Below w.heap.size w w3 := Below.grown (hW.alloc hs2 _) hgrow (by simp; omega) (fun g hg => (HOWN.out.lt g hg).1)
                    have hB3 : Hid (w3.heap[b]? = w1.heap[b]?) := Lib.hid (by
                      have h1 := hgrow.block b (by simp; omega) (fun e => own_ne HOWN.out nef_str (b := b) (by rw [hB.out]; exact HPT.out) e.symm)
                      rw [h1, ← hB.out]
                      exact ((Below.refl _ _).alloc (Nat.le_refl _) _).block b (by omega))
                    have hZ3 : w1.heap.size ≤ w3.heap.size := by have := hgrow.size; simp at this; omega
                    clear hown' hgrow HOWN hB
                    go_wp2_with fail
                    go_roundw
                    case rel => exact ⟨k + 1, by omega, by go_num, hall2, own_hp hown3 rfl, D3, hB3, hZ3⟩
                    case measure => simp [intOf]; omega
                  · rw [decide_eq_false hbm] at hrk
                    have HN := Lib.hid (fun w' hb => rg_no (cell := hcell) (w := w) (w' := w') (lokG_no (M := 256) hlt hrk) hb)
                    have hne : (((bitsN (cl .f32 m) : Nat) : Int) != (m : Int)) = true := by rw [bne_iff_ne]; omega
                    clear hrk hmv hbm
                    generalize bitsN (cl .f32 m) = bm at *
                    go_wp2_with fail
                    refine (HF.out _).mono ?_
                    rintro e w' ⟨rfl, hw'⟩
                    obtain rfl := hw'.symm
                    clear hw'
                    go_wp2_with fail
                    refine (HBt.out _).mono ?_
                    rintro e w' ⟨rfl, hw'⟩
                    obtain rfl := hw'.symm
                    clear hw'
                    go_wp2_with fail
                    go_ret2
                    exact HN.out _ hW
            · have hd8 : ((t.size : Int) != 8) = true := by rw [bne_iff_ne]; omega
              have HN := Lib.hid (fun w' hb => rg_no (cell := hcell) (w := w) (w' := w') (lokG_no (M := 256) hlt (rhk_len h8)) hb)
              clear hsz h8 htx
              go_wp2_with fail
              go_ret2
              exact HN.out _ hW
          · have HY := Lib.hid (rg_yes (w := w) (P := P) (lokG_yes (M := 256) (fun j hj => hall.out j (by omega)) h256) (by omega) HOWN.out hW)
            clear HOWN hB
            go_wp2_with fail
            go_ret2
            exact HY.out
    · have hd : decide ((P.length : Int) > 256) = true := by simp; omega
      have HN := Lib.hid (fun w' hb => rg_no (rk := rhk) (cell := hcell) (w := w) (w' := w') (P := P) (lokG_big (M := 256) (by omega)) hb)
      clear hown0 HC pc2 h256
      go_wp2_with fail
      go_ret2
      exact HN.out _ D1
end Go.Proofs.YtcnnmcmaeeffiaaDoor
