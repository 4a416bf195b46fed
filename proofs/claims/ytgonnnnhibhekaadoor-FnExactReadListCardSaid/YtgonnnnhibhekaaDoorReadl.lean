/-
  ReadList at both sides.
-/
import Derived.Test.YtgonnnnhibhekaaDoorCut
import Derived.Test.YtgonnnnhibhekaaDoorOv
import Derived.Test.YtgonnnnhibhekaaDoorIsl
import Derived.Test.YtgonnnnhibhekaaDoorReadw
import Derived.Stop.LaidErr
namespace Go.Proofs.YtgonnnnhibhekaaDoor
set_option linter.unusedVariables false
set_option linter.unusedSimpArgs false
open Go.RowKit

def lokI (P : List (List UInt8)) : Bool := decide (P.length ≤ 64) && P.all rdk
def lvalI (P : List (List UInt8)) : List Int := if lokI P then P.map rdv else []
theorem lokI_no {P : List (List UInt8)} {j : Nat} (hj : j < P.length) (h : rdk (pget P j) = false) : lokI P = false := by unfold lokI; rw [pany hj h, Bool.and_false]
theorem lokI_big {P : List (List UInt8)} (h : 64 < P.length) : lokI P = false := by unfold lokI; rw [decide_eq_false (by omega)]; rfl
theorem lokI_yes {P : List (List UInt8)} (h : ∀ j, j < P.length → rdk (pget P j) = true) (h64 : P.length ≤ 64) : lokI P = true := by unfold lokI; rw [pall h, decide_eq_true h64]; rfl
theorem lvalI_no {P : List (List UInt8)} (h : lokI P = false) : lvalI P = [] := by unfold lvalI; rw [h]; rfl
theorem lvalI_yes {P : List (List UInt8)} (h : lokI P = true) : lvalI P = P.map rdv := by unfold lvalI; rw [h]; rfl
theorem rdk_small {x : List UInt8} (h : rdk x = true) : small (rdv x) = true := by
  unfold rdk at h
  simp only [Bool.and_eq_true] at h
  exact h.1
theorem lvalI_bd (P : List (List UInt8)) : ∀ n ∈ lvalI P, -9223372036854775808 ≤ n ∧ n ≤ 9223372036854775807 := by
  intro n hn
  cases h : lokI P
  · rw [lvalI_no h] at hn; cases hn
  · rw [lvalI_yes h] at hn
    obtain ⟨x, hx, rfl⟩ := List.mem_map.1 hn
    unfold lokI at h
    simp only [Bool.and_eq_true, List.all_eq_true] at h
    have := rdk_small (h.2 x hx)
    unfold small at this
    simp only [Bool.and_eq_true, decide_eq_true_eq] at this
    omega
theorem lvalI_len (P : List (List UInt8)) : (lvalI P).length ≤ 64 := by
  cases h : lokI P
  · rw [lvalI_no h]; simp
  · rw [lvalI_yes h]
    unfold lokI at h
    simp only [Bool.and_eq_true, decide_eq_true_eq] at h
    simpa using h.1
/-- The call returns a list of its own and a bool. -/
def RList (w : World) (P : List (List UInt8)) (e : Ending) (w' : World) : Prop :=
  ∃ v, e = .returned (.tuple #[v, .bool (lokI P)]) ∧ OV w' w.heap.size w'.heap.size v (lvalI P).length (icell (lvalI P)) ∧ Below w.heap.size w w'
def ncell (x : List UInt8) : Value := .int .i64 (rdv x)
theorem rlist_no {w w' : World} {P : List (List UInt8)} (h : lokI P = false) (hb : Below w.heap.size w w') : RList w P (.returned (.tuple #[.slice none 0 0, .bool false])) w' :=
  ⟨_, by rw [h], by rw [lvalI_no h]; exact OV.nil (Nat.le_refl _), hb⟩
theorem rlist_yes {w w' : World} {P : List (List UInt8)} {v : Value} {k : Nat} (h : lokI P = true) (hk : k = P.length) (ho : w'.ownsRow w.heap.size 2 1 v k ((P.take k).map ncell)) (hb : Below w.heap.size w w') : RList w P (.returned (.tuple #[v, .bool true])) w' := by
  subst hk
  refine ⟨v, by rw [h], ?_, hb⟩
  rw [lvalI_yes h, List.length_map]
  rw [List.take_length] at ho
  refine ov_own ho _ (fun i hi => ?_)
  unfold icell iget ncell
  simp [List.getD, hi]
theorem isl_of_ov {w : World} {B N : Nat} {v : Value} {P : List (List UInt8)} (h : OV w B N v (lvalI P).length (icell (lvalI P))) : ISl w v (lvalI P) := by
  obtain ⟨h2, ⟨rfl, h3⟩ | ⟨g, cap, rfl, h5, h6, h7, h8, h9, h10⟩⟩ := h
  · have : lvalI P = [] := List.length_eq_zero_iff.1 h3
    rw [this]
    exact ISl.nil
  · exact ⟨_, cap, rfl, h5, h6, lvalI_bd P, .inr ⟨g, 0, rfl, by omega, fun i hi => by rw [Nat.zero_add]; exact h10 i hi⟩⟩
/-- The marks k, k + 1, .. -/
def imark (k : Int) (i : Nat) : Value := .int .i64 (k + (i : Int))
set_option maxHeartbeats 2000000 in
theorem markI_any (B N : Nat) (v : Value) (n : Nat) (l : List Int) (k : Int) (hk0 : 0 ≤ k) (hk : k ≤ 100000000) (hn : n ≤ 1048576) (w : World) (h : OV w B N v n (icell l)) :
    Calls Tryd.prog 18 #[v, .int .i64 k] w fun e w' => e = .returned (.int .i64 (k + n)) ∧ OV w' B N v n (imark k) ∧ Fr B N w w' := by
  obtain ⟨h2, ⟨rfl, rfl⟩ | ⟨g, cap, rfl, h5, h6, h7, h8, h9, h10⟩⟩ := h
  · clear hn
    go_enter Tryd.func18, Tryd.ntmps18
    go_wp2
    refine wp_loop_rounds 1 ?_
    rw [rounds_succ]
    go_wp2
    go_ret
    exact ⟨by simp, OV.nil h2, Fr.refl _ _ _⟩
  · have H10 := Lib.hid h10
    have H9 := Lib.hid h9
    unfold maxLen at h6
    clear h10 h9
    go_enter Tryd.func18, Tryd.ntmps18
    go_wp2
    go_loopw [1, 5] (fun kv i wr => ∃ j : Nat, j ≤ n ∧ i = .int .i64 (j : Int) ∧ kv = .int .i64 (k + (j : Int)) ∧ Hid (∀ i, i < n → wr.cell? ⟨g, i, none⟩ = some (if i < j then imark k i else icell l i)) ∧ Hid (∀ o, wr.frozen? ⟨g, o, none⟩ = false) ∧ Fr B N w wr) (fun _ i _ => n - (intOf i).toNat)
    case atStart => exact ⟨0, Nat.zero_le _, rfl, by simp, Lib.hid (fun i hi => by simpa using H10.out i hi), H9, Fr.refl _ _ _⟩
    case round =>
      obtain ⟨j, hj, rfl, rfl, hc, hz, hF⟩ := hrel
      by_cases hlt : j < n
      · have c0 : wr.cell? ⟨g, j, none⟩ = some (icell l j) := by simpa using hc.out j hlt
        have z0 : wr.frozen? ⟨g, j, none⟩ = false := hz.out j
        unfold icell at c0
        go_wp2
        all_goals
          go_roundw
          case rel =>
            refine ⟨j + 1, by omega, by go_num, by go_num, Lib.hid (fun i hi => ?_), Lib.hid (fun o => by rw [World.frozen?_setCell]; exact hz.out o), hF.set h7 h8 _⟩
            by_cases hij : i = j
            · subst hij
              rw [if_pos (by omega)]
              exact World.cell?_setCell_same _ _ _ c0
            · rw [World.cell?_setCell_other _ _ _ _ (by intro e; cases e; exact hij rfl), hc.out i hi]
              by_cases h5 : i < j
              · rw [if_pos h5, if_pos (by omega)]
              · rw [if_neg h5, if_neg (by omega)]
          case measure => simp [intOf]; omega
      · obtain rfl : j = n := by omega
        go_wp2
        go_ret
        refine ⟨rfl, ⟨Nat.le_trans h2 hF.size, .inr ⟨g, cap, rfl, h5, by unfold maxLen; omega, h7, h8, hz.out, fun i hi => ?_⟩⟩, hF⟩
        have := hc.out i hi
        rw [if_pos hi] at this
        exact this
set_option maxHeartbeats 2000000 in
theorem heldI_any (B N : Nat) (v : Value) (n : Nat) (k : Int) (hk0 : 0 ≤ k) (hk : k ≤ 100000000) (hn : n ≤ 1048576) (w : World) (h : OV w B N v n (imark k)) :
    Calls Tryd.prog 19 #[v, .int .i64 k] w fun e w' => e = .returned (.int .i64 (k + n)) ∧ w' = w := by
  obtain ⟨h2, ⟨rfl, rfl⟩ | ⟨g, cap, rfl, h5, h6, h7, h8, h9, h10⟩⟩ := h
  · clear hn
    go_enter Tryd.func19, Tryd.ntmps19
    go_wp2
    refine wp_loop_rounds 1 ?_
    rw [rounds_succ]
    go_wp2
    go_ret
    exact ⟨by simp, rfl⟩
  · have H10 := Lib.hid h10
    unfold maxLen at h6
    clear h10 h9 h2 h7 h8
    go_enter Tryd.func19, Tryd.ntmps19
    go_wp2
    go_loop [1, 5] (fun kv i => ∃ j : Nat, j ≤ n ∧ i = .int .i64 (j : Int) ∧ kv = .int .i64 (k + (j : Int))) (fun _ i => n - (intOf i).toNat)
    case atStart => exact ⟨0, Nat.zero_le _, rfl, by simp⟩
    case round =>
      obtain ⟨j, hj, rfl, rfl⟩ := hrel
      by_cases hlt : j < n
      · have c0 := H10.out j hlt
        unfold imark at c0
        go_wp2
        all_goals
          go_round
          case rel => exact ⟨j + 1, by omega, by go_num, by go_num⟩
          case measure => simp [intOf]; omega
      · obtain rfl : j = n := by omega
        go_wp2
        go_ret
        exact ⟨rfl, rfl⟩
theorem info_i64t : (Tryd.prog.info? 2).map (fun i => (i.zero, i.size, i.bytes)) = some (some (.int .i64 0), 1, 8) := by kernel_rfl
theorem ne_str : (2 : TypeId) ≠ 9 := by decide
set_option maxHeartbeats 8000000 in
theorem l01Numbers_any (s : ByteArray) (hs : s.size ≤ 1048576) (w : World) : Calls Tryd.prog 30 #[.string s] w (RList w (partsL s.data.toList)) := by
  obtain ⟨i0, hi, hz0, hz1, hz2⟩ := info_parts info_i64t
  by_cases hn : s.data.toList = noneL
  · have HY := Lib.hid (fun (w' : World) (v : Value) (ho : w'.ownsRow w.heap.size 2 1 v 0 []) (hb : Below w.heap.size w w') => show RList w (partsL s.data.toList) (.returned (.tuple #[v, .bool true])) w' from by
      have e : partsL s.data.toList = [] := by unfold partsL; rw [if_pos hn]
      rw [e]
      exact rlist_yes (k := 0) rfl rfl ho hb)
    generalize partsL s.data.toList = P at *
    obtain rfl : s = ⟨#[110, 111, 110, 101]⟩ := bs_none hn
    clear hn hs
    have hown0 : (w.alloc (.cells #[] 2)).ownsRow w.heap.size 2 1 (.slice (some ⟨w.heap.size, 0, none⟩) 0 0) 0 [] :=
      World.ownsRow_made (base := w.heap.size) (e := 2) (size := 1) w #[] 0 (Nat.le_refl _) (Nat.zero_le _) rfl
    have hb0 : Below w.heap.size w (w.alloc (.cells #[] 2)) := by (repeat' first | assumption | exact Below.refl _ _ | refine B_drew ?_ _ | refine Below.drew ?_ | refine Below.alloc ?_ (by first | exact Nat.le_refl _ | (simp; done) | (simp; omega)) _)
    have HF := Lib.hid (HY.out _ _ hown0 hb0)
    clear hown0 hb0 HY
    go_enter Tryd.func30, Tryd.ntmps30
    go_wp2_with fail
    go_ret2
    exact HF.out
  · have hx := partsL_cut hn
    have hb : (s.toList == [110, 111, 110, 101]) = false := by
      rw [beq_eq_false_iff_ne]
      intro e
      exact hn (by rw [← Lib.toList_data, e]; rfl)
    have hlen := partsL_len s.data.toList
    have hpc : ∀ j, j < (partsL s.data.toList).length → (pget (partsL s.data.toList) j).length ≤ 281474976710656 := fun j hj => by
      have := parts_piece (pget_mem hj)
      have h2 : s.data.toList.length = s.size := by simp
      omega
    have HC := Lib.hid (fun w' => l01Cut_any s hs w')
    rw [← hx] at HC
    have hl2 : (partsL s.data.toList).length ≤ 1048577 := by
      have h2 : s.data.toList.length = s.size := by simp
      omega
    clear hx hn hlen
    generalize partsL s.data.toList = P at *
    have HP := Lib.hid (fun j hj w' => sValue_any ⟨(pget P j).toArray⟩ (by show (pget P j).toArray.size ≤ _; simpa using hpc j hj) w')
    clear hpc
    go_enter Tryd.func30, Tryd.ntmps30
    go_wp2_with fail
    refine (HC.out _).mono ?_
    rintro e w1 ⟨pv, rfl, hpv, hb1⟩
    have D1 : Below w.heap.size w w1 := B_trans (a := w.alloc (.cells #[] 2)) (by (repeat' first | assumption | exact Below.refl _ _ | refine B_drew ?_ _ | refine Below.drew ?_ | refine Below.alloc ?_ (by first | exact Nat.le_refl _ | (simp; done) | (simp; omega)) _)) hb1
    have hown0 : w1.ownsRow w.heap.size 2 1 (.slice (some ⟨w.heap.size, 0, none⟩) 0 0) 0 [] :=
      own_below (World.ownsRow_made (base := w.heap.size) (e := 2) (size := 1) w #[] 0 (Nat.le_refl _) (Nat.zero_le _) rfl) hb1
    clear hb1
    obtain ⟨pao, pcap, rfl, pc1, pc2⟩ := hpv
    by_cases h64 : P.length ≤ 64
    · have hd : decide ((P.length : Int) > 64) = false := by simp; omega
      rcases pc2 with pc2 | ⟨b, off, rfl, ⟨pl, pt⟩, pc⟩
      · subst pc2
        have HY := Lib.hid (rlist_yes (w := w) (P := []) (k := 0) rfl rfl hown0 D1)
        clear hown0 HC HP
        simp only [List.length_nil] at *
        go_wp2_with fail
        refine wp_loop_rounds 1 ?_
        rw [rounds_succ]
        go_wp2_with fail
        go_ret2
        exact HY.out
      · have HPC := Lib.hid pc
        have HPT := Lib.hid pt
        clear pc pt HC
        go_wp2_with fail
        go_loopw [4, 6] (fun v i wr => ∃ k : Nat, k ≤ P.length ∧ i = .int .i64 (k : Int) ∧ Hid (∀ j, j < k → rdk (pget P j) = true) ∧ wr.ownsRow w.heap.size 2 1 v k ((P.take k).map ncell) ∧ Below w.heap.size w wr ∧ Hid (wr.heap[b]? = w1.heap[b]?) ∧ w1.heap.size ≤ wr.heap.size) (fun _ i _ => P.length - (intOf i).toNat)
        case atStart => exact ⟨0, Nat.zero_le _, rfl, Lib.hid (fun j hj => absurd hj (Nat.not_lt_zero _)), hown0, D1, Lib.hid rfl, Nat.le_refl _⟩
        case round =>
          clear hown0
          obtain ⟨k, hk, rfl, hall, hown, hW, hB, hZ⟩ := hrel
          have HOWN := Lib.hid hown
          clear hown
          by_cases hlt : k < P.length
          · have s1 : wr.cell? ⟨b, off + k, none⟩ = some (.string ⟨(pget P k).toArray⟩) := by
              rw [World.cell?_of_block (a := ⟨b, off + k, none⟩) hB.out]
              exact HPC.out k _ (pget_get hlt)
            have HV := Lib.hid (HP.out k hlt)
            have hr : rdo (⟨(pget P k).toArray⟩ : ByteArray).data.toList = .tuple #[.int .i64 (if rdk (pget P k) then rdv (pget P k) else 0), .bool (rdk (pget P k))] := by simp [rdo]
            rw [hr] at HV
            clear hr
            cases hp : rdk (pget P k)
            · have HN := Lib.hid (fun w' hb => rlist_no (w := w) (w' := w') (lokI_no hlt hp) hb)
              rw [hp] at HV
              clear hp
              generalize pget P k = x at s1 HV
              go_wp2_with fail
              refine (HV.out _).mono ?_
              rintro e w2 ⟨rfl, hb2⟩
              have D2 := B_trans hW hb2
              clear hb2
              go_wp2_with fail
              go_ret2
              exact HN.out _ D2
            · rw [hp, if_pos rfl] at HV
              have HT := Lib.hid (ptake hlt)
              have hall2 : Hid (∀ j, j < k + 1 → rdk (pget P j) = true) := Lib.hid (fun j hj => by
                by_cases hjk : j = k
                · subst hjk; exact hp
                · exact hall.out j (by omega))
              clear hp
              generalize pget P k = x at s1 HV HT
              have hnc : ncell x = .int .i64 (rdv x) := rfl
              have HNC := Lib.hid hnc
              clear hnc
              generalize rdv x = z at *
              go_wp2_with fail
              refine (HV.out _).mono ?_
              rintro e w2 ⟨rfl, hb2⟩
              have hown2 := Lib.hid (own_below HOWN.out hb2)
              have D2 := B_trans hW hb2
              have hs2 := D2.size
              have hZ2 := Nat.le_trans hZ hb2.size
              have hB2 : Hid (w2.heap[b]? = w1.heap[b]?) := Lib.hid ((hb2.block b (by omega)).trans hB.out)
              clear hb2 HOWN hB
              go_wp2_with (at_builtin; refine wpList_append_own _ rfl _ _ 27 rfl w.heap.size 2 i0 (.int .i64 0) 1 8 Tryd.underlying27 hi hz0 hz1 hz2 rfl (by decide) _ _ _ rfl (own_hp (hown2.out.alloc (.cells #[.int .i64 z] 2)) rfl) _ 1 _ [.int .i64 z] rfl rfl ?c1 ?c2 ?c3 ?c4 ?c5 ?_)
              case c1 =>
                intro j u hj
                match j, hj with
                | 0, hj => simp at hj; subst hj; exact cell_nw rfl
              case c2 => intro u hu; simp at hu; subst hu; rfl
              case c3 => unfold maxLen; omega
              case c4 => omega
              case c5 => simp; omega
              intro v' w3 hown' hgrow _
              have hown3 : w3.ownsRow w.heap.size 2 1 v' (k + 1) ((P.take (k + 1)).map ncell) := by rw [HT.out, List.map_append, List.map_singleton, HNC.out, List.map_take]; exact hown'
              have D3 : Below w.heap.size w w3 := Below.grown (D2.alloc hs2 _) hgrow (by simp; omega) (fun g hg => (hown2.out.lt g hg).1)
              have hB3 : Hid (w3.heap[b]? = w1.heap[b]?) := Lib.hid (by
                have h1 := hgrow.block b (by simp; omega) (fun e => own_ne hown2.out ne_str (b := b) (by rw [hB2.out]; exact HPT.out) e.symm)
                rw [h1, ← hB2.out]
                exact ((Below.refl _ _).alloc (Nat.le_refl _) _).block b (by omega))
              have hZ3 : w1.heap.size ≤ w3.heap.size := by have := hgrow.size; simp at this; omega
              clear hown' hgrow hown2 hB2
              go_wp2_with fail
              go_roundw
              case rel => exact ⟨k + 1, by omega, by go_num, hall2, own_hp hown3 rfl, D3, hB3, hZ3⟩
              case measure => simp [intOf]; omega
          · have HY := Lib.hid (rlist_yes (w := w) (P := P) (lokI_yes (fun j hj => hall.out j (by omega)) h64) (by omega) HOWN.out hW)
            clear HOWN hB
            go_wp2_with fail
            go_ret2
            exact HY.out
    · have hd : decide ((P.length : Int) > 64) = true := by simp; omega
      have HN := Lib.hid (fun w' hb => rlist_no (w := w) (w' := w') (P := P) (lokI_big (by omega)) hb)
      clear hown0 HC HP pc2 h64
      go_wp2_with fail
      go_ret2
      exact HN.out _ D1
end Go.Proofs.YtgonnnnhibhekaaDoor
