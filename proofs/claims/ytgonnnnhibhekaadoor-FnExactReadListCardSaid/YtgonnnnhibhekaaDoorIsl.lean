/-
  Slices of int64: read, copied.
-/
import Derived.Test.YtgonnnnhibhekaaDoorPost
import Derived.Test.YtgonnnnhibhekaaDoorRows
import Derived.WalkKit
import Derived.ProofKit
import Derived.Deep.RegionWith
namespace Go.Proofs.YtgonnnnhibhekaaDoor
set_option linter.unusedVariables false
set_option linter.unusedSimpArgs false
open Go.RowKit

def iget (l : List Int) (i : Nat) : Int := l.getD i 0
/-- v is a slice of the numbers l. -/
def ISl (w : World) (v : Value) (l : List Int) : Prop :=
  ∃ ao cap, v = .slice ao l.length cap ∧ l.length ≤ cap ∧ cap ≤ maxLen ∧ (∀ n ∈ l, -9223372036854775808 ≤ n ∧ n ≤ 9223372036854775807) ∧
    (l = [] ∨ ∃ b off, ao = some ⟨b, off, none⟩ ∧ b < w.heap.size ∧ ∀ i, i < l.length → w.cell? ⟨b, off + i, none⟩ = some (.int .i64 (iget l i)))
theorem ISl.below {w w' : World} {v : Value} {l : List Int} (h : ISl w v l) (hb : Below w.heap.size w w') : ISl w' v l := by
  obtain ⟨ao, cap, hv, h1, h2, h3, h4⟩ := h
  refine ⟨ao, cap, hv, h1, h2, h3, ?_⟩
  rcases h4 with h4 | ⟨b, off, h4, hlt, hc⟩
  · exact .inl h4
  · exact .inr ⟨b, off, h4, Nat.lt_of_lt_of_le hlt hb.size, fun i hi => by rw [hb.cell (p := ⟨b, off + i, none⟩) hlt]; exact hc i hi⟩
theorem ISl.nil {w : World} : ISl w (.slice none 0 0) [] := ⟨none, 0, rfl, Nat.le_refl _, Nat.zero_le _, fun _ h => absurd h (List.not_mem_nil), .inl rfl⟩
theorem i64_wf {n : Int} (h : (Lit.int .i64 n).wf = true) : -9223372036854775808 ≤ n ∧ n ≤ 9223372036854775807 := by
  simp [Lit.wf, IntKind.min, IntKind.max, IntKind.signed, IntKind.bits] at h
  omega
/-- An argument that is a slice of integers, opened. -/
theorem open_ints {H : Type} {enc : TypeId × Value → H} {P : Program} {w : World} {held : Bool} {spare : Nat → Bool} {t e : TypeId} {fuel : Nat} {v : Value} {x : DataW H × List MemPlace}
    (ht : P.underlying t = some (.slice e)) (he : P.underlying e = some (.int .i64)) (hc : P.cellsOf e = 1) (h : DataW.trod enc P w 0 spare held fuel t [v] = some x) : ∃ l, ISl w v l := by
  rcases Go.Deep.open_slice1 ht hc h with ⟨h1, _⟩ | ⟨a, len, cap, m, n, V, D, Pl, h1, _, hl, hm, hmm, _, hx⟩
  · obtain rfl : v = .slice none 0 0 := by simpa using h1
    exact ⟨[], ISl.nil⟩
  · obtain rfl : v = .slice (some a) len cap := by simpa using h1
    have hlm : len ≤ m := by rw [hmm]; split <;> omega
    have hV : ∀ i, i < len → ∃ b : Int, V i = .int .i64 b ∧ (-9223372036854775808 ≤ b ∧ b ≤ 9223372036854775807) ∧ w.cell? (a.add i) = some (.int .i64 b) := by
      intro i hi
      obtain ⟨hcell, hd⟩ := hx i (by omega)
      obtain ⟨b, h2, _, hw⟩ := DataW.trod_int he hd
      have h3 : V i = .int .i64 b := by simpa using h2
      exact ⟨b, h3, i64_wf hw, by rw [hcell, h3]⟩
    obtain ⟨B, hB⟩ := Go.Deep.choose_lt hV
    refine ⟨(List.range len).map B, some a, cap, by simp, by simpa using hl, hm, ?_, ?_⟩
    · intro b hb
      obtain ⟨i, hi, rfl⟩ := List.mem_map.1 hb
      exact (hB i (by simpa using hi)).2.1
    · rcases Nat.eq_zero_or_pos len with h0 | h0
      · left; simp [h0]
      · right
        have hc0 := (hB 0 h0).2.2
        obtain ⟨ab, ao, asp⟩ := a
        have hsp : asp = none ∧ ab < w.heap.size := by
          have h5 : w.cell? ⟨ab, ao, asp⟩ = some (.int .i64 (B 0)) := by
            have e : (⟨ab, ao, asp⟩ : Addr).add 0 = ⟨ab, ao, asp⟩ := by simp [Addr.add]
            rw [e] at hc0; exact hc0
          unfold World.cell? at h5
          split at h5
          · rename_i c t' z hh
            refine ⟨?_, (Array.getElem?_eq_some_iff.1 hh).1⟩
            cases asp with
            | none => rfl
            | some s => simp at h5
          · cases h5
        obtain ⟨rfl, hlt⟩ := hsp
        refine ⟨ab, ao, rfl, hlt, fun i hi => ?_⟩
        have hi' : i < len := by simpa using hi
        have h6 := (hB i hi').2.2
        rw [Addr.add_lit] at h6
        rw [h6]
        simp [iget, List.getD, hi']
/-- The cell of a number. -/
def icell (l : List Int) (i : Nat) : Value := .int .i64 (iget l i)
theorem info_i64 : (Tryd.prog.info? 2).map (fun i => (i.zero, i.size, i.bytes)) = some (some (.int .i64 0), 1, 8) := by kernel_rfl

set_option maxHeartbeats 400000 in
theorem toInt64S_any (v : Value) (bs : List Int) (w : World) (h : ISl w v bs) (hl : bs.length ≤ 1048576) :
    Calls Tryd.prog 13 #[v] w fun e w' => e = .returned (.slice (some ⟨w.heap.size, 0, none⟩) bs.length bs.length) ∧ w'.rowIs w.heap.size 2 bs.length (icell bs) ∧ Below w.heap.size w w' ∧ w.heap.size < w'.heap.size := by
  obtain ⟨ao, cap, rfl, h1, h2, h3, h4⟩ := h
  have hmk := fun W => run_make_row' (P := Tryd.prog) 27 2 (.int .i64 0) 8 Tryd.underlying27 info_i64 rfl .i64 .i64 bs.length (by omega) (by omega) W
  rcases h4 with h4 | ⟨b, off, rfl, hb, hc⟩
  · subst h4
    have hmk0 : ∀ W : World, (Instr.makeSlice 27 (.int .i64 0) (.int .i64 0)).run Tryd.prog W = .ok (.slice (some ⟨W.heap.size, 0, none⟩) 0 0) (W.alloc (.cells (madeCells #[.int .i64 0] 0) 2)) := hmk
    clear hmk
    go_enter Tryd.func13, Tryd.ntmps13
    go_wp2
    refine wp_loop_rounds 1 ?_
    rw [rounds_succ]
    go_wp2
    go_ret
    exact ⟨rfl, (World.rowIs_made w (.int .i64 0) 0 2).congr (fun i hi => absurd hi (Nat.not_lt_zero _)), (Below.refl _ _).alloc (Nat.le_refl _) _, by simp⟩
  · have HC := Lib.hid hc
    clear hc h3
    go_enter Tryd.func13, Tryd.ntmps13
    go_wp2
    go_loopw [4] (fun i wr => ∃ k : Nat, k ≤ bs.length ∧ i = .int .i64 k ∧ wr.rowIs w.heap.size 2 bs.length (fun j => if j < k then icell bs j else .int .i64 0) ∧ Below w.heap.size w wr) (fun i _ => bs.length - (intOf i).toNat)
    case atStart => exact ⟨0, Nat.zero_le _, rfl, (World.rowIs_made _ _ _ _).congr (fun i _ => by simp), (Below.refl _ _).alloc (Nat.le_refl _) _⟩
    case round =>
      obtain ⟨k, hk, rfl, hrow, hbel⟩ := hrel
      by_cases hlt : k < bs.length
      · have hsrc : wr.cell? ⟨b, off + k, none⟩ = some (.int .i64 (iget bs k)) := by rw [hbel.cell (p := ⟨b, off + k, none⟩) hb]; exact HC.out k hlt
        have hown : wr.cell? ⟨w.heap.size, k, none⟩ = some (.int .i64 0) := by have := hrow.cell hlt; simpa using this
        have hfz : wr.frozen? ⟨w.heap.size, k, none⟩ = false := hrow.frozen k
        go_wp2
        all_goals
          go_roundw
          case rel =>
            refine ⟨k + 1, by omega, by go_num, ?_, hbel.setCell (Nat.le_refl _) _⟩
            refine (hrow.set k _).congr (fun j hj => ?_)
            by_cases hjk : j = k
            · subst hjk; simp [icell]
            · simp only [hjk, if_false]
              by_cases h5 : j < k
              · simp [h5, show j < k + 1 by omega]
              · simp [h5, show ¬ j < k + 1 by omega]
          case measure => simp [intOf]; omega
      · go_wp2
        go_ret
        have hkn : k = bs.length := by omega
        exact ⟨rfl, hrow.congr (fun j hj => by simp [show j < k by omega]), hbel, hrow.lt⟩
theorem ISl_of_row {w : World} {g : Nat} {t : TypeId} {l : List Int} (h : w.rowIs g t l.length (icell l)) (hl : l.length ≤ 1048576) (hb : ∀ n ∈ l, -9223372036854775808 ≤ n ∧ n ≤ 9223372036854775807) :
    ISl w (.slice (some ⟨g, 0, none⟩) l.length l.length) l :=
  ⟨_, _, rfl, Nat.le_refl _, by unfold maxLen; omega, hb, .inr ⟨g, 0, rfl, h.lt, fun i hi => by rw [Nat.zero_add]; exact h.cell hi⟩⟩
set_option maxHeartbeats 1000000 in
theorem eqInt64S_any (v1 v2 : Value) (l : List Int) (w : World) (h1 : ISl w v1 l) (h2 : ISl w v2 l) :
    Calls Tryd.prog 15 #[v1, v2] w fun e w' => e = .returned (.bool true) ∧ ∃ n, w' = w.drewN n := by
  obtain ⟨ao1, cap1, rfl, g1, g2, g3, g4⟩ := h1
  obtain ⟨ao2, cap2, rfl, k1, k2, k3, k4⟩ := h2
  unfold maxLen at g2
  clear g3 k3
  rcases Nat.eq_zero_or_pos l.length with h0 | h0
  · rw [h0]
    clear h0 g4 k4 g1 k1 g2 k2
    go_enter Tryd.func15, Tryd.ntmps15
    go_wp2
    refine wp_loop_rounds 1 ?_
    rw [rounds_succ]
    go_wp2
    go_ret
    exact ⟨rfl, 0, rfl⟩
  · rcases g4 with g4 | ⟨x1, o1, rfl, _, hc1⟩
    · subst g4; cases h0
    rcases k4 with k4 | ⟨x2, o2, rfl, _, hc2⟩
    · subst k4; cases h0
    have HC1 := Lib.hid hc1
    have HC2 := Lib.hid hc2
    clear hc1 hc2 k1 k2
    go_enter Tryd.func15, Tryd.ntmps15
    go_wp2
    go_loopw [5] (fun i wr => ∃ k : Nat, k ≤ l.length ∧ i = .int .i64 k ∧ ∃ m, wr = w.drewN m) (fun i _ => l.length - (intOf i).toNat)
    case atStart => exact ⟨0, Nat.zero_le _, rfl, 0, rfl⟩
    case round =>
      obtain ⟨k, hk, rfl, m, rfl⟩ := hrel
      by_cases hlt : k < l.length
      · have s1 := HC1.out k hlt
        have s2 := HC2.out k hlt
        go_wp2
        go_region_with fail
        all_goals go_wp2
        all_goals
          go_roundw
          case rel => exact ⟨k + 1, by omega, by go_num, _, rfl⟩
          case measure => simp [intOf]; omega
      · go_wp2
        go_ret
        exact ⟨rfl, _, rfl⟩
end Go.Proofs.YtgonnnnhibhekaaDoor
