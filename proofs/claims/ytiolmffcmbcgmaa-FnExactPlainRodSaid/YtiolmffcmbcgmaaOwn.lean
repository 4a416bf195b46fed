/-
  Lists of floats in rows of their own that may be written: marking them, and looking at the marks.
-/
import Derived.Test.YtiolmffcmbcgmaaMid
namespace Go.Proofs.Ytiolmffcmbcgmaa
set_option linter.unusedVariables false
set_option linter.unusedSimpArgs false
open Go.RowKit Fl
attribute [local go_sem] run_store_float

/-- v is a slice of the n floats f: nil, or a row in a block from B on and below N, that may be written. -/
def OSf (w : World) (B N : Nat) (v : Value) (n : Nat) (f : Nat → Nat) : Prop :=
  (∀ i, i < n → f i < 2 ^ FloatKind.f32.format.width) ∧ N ≤ w.heap.size ∧
  ((v = .slice none 0 0 ∧ n = 0) ∨ ∃ g cap, v = .slice (some ⟨g, 0, none⟩) n cap ∧ n ≤ cap ∧ cap ≤ maxLen ∧ B ≤ g ∧ g < N ∧ (∀ o, w.frozen? ⟨g, o, none⟩ = false) ∧ ∀ i, i < n → w.cell? ⟨g, i, none⟩ = some (.float .f32 (f i)))
def OSl (w : World) (B N : Nat) (v : Value) (bs : List Nat) : Prop := OSf w B N v bs.length (fget bs)
/-- w' is w with new blocks and writes to the blocks from B on and below N. -/
structure Frm (B N : Nat) (w w' : World) : Prop where
  os : w'.os = w.os
  tape : w'.tape = w.tape
  output : w'.output = w.output
  size : w.heap.size ≤ w'.heap.size
  block : ∀ b, b < w.heap.size → (b < B ∨ N ≤ b) → w'.heap[b]? = w.heap[b]?
theorem Frm.refl (B N : Nat) (w : World) : Frm B N w w := ⟨rfl, rfl, rfl, Nat.le_refl _, fun _ _ _ => rfl⟩
theorem Frm.trans {B N : Nat} {a b c : World} (h : Frm B N a b) (k : Frm B N b c) : Frm B N a c :=
  ⟨k.os.trans h.os, k.tape.trans h.tape, k.output.trans h.output, Nat.le_trans h.size k.size, fun i hi hs => (k.block i (Nat.lt_of_lt_of_le hi h.size) hs).trans (h.block i hi hs)⟩
theorem Frm.wide {B N B' N' : Nat} {a b : World} (h : Frm B N a b) (hB : B' ≤ B) (hN : N ≤ N') : Frm B' N' a b :=
  ⟨h.os, h.tape, h.output, h.size, fun i hi hs => h.block i hi (hs.imp (fun h => Nat.lt_of_lt_of_le h hB) (Nat.le_trans hN))⟩
theorem Frm.of {B N : Nat} {w w' : World} (h : Below w.heap.size w w') : Frm B N w w' := ⟨h.os, h.tape, h.output, h.size, fun b hb _ => h.block b hb⟩
theorem Frm.below {B N : Nat} {w w' : World} (h : Frm B N w w') (hB : B ≤ w.heap.size) : Below B w w' :=
  ⟨h.os, h.tape, h.output, h.size, fun k hk => h.block k (Nat.lt_of_lt_of_le hk hB) (.inl hk)⟩
theorem Frm.set {B N : Nat} {w w' : World} (h : Frm B N w w') {a : Addr} (hB : B ≤ a.block) (hN : a.block < N) (v : Value) : Frm B N w (w'.setCell a v) :=
  ⟨h.os, h.tape, h.output, by simpa [World.setCell] using h.size, fun b hb hs => (Below.heap_setCell w' a v b (by omega)).trans (h.block b hb hs)⟩
theorem OSf.frame {w w' : World} {B N C D : Nat} {v : Value} {n : Nat} {f : Nat → Nat} (h : OSf w C D v n f) (hf : Frm B N w w') (hs : D ≤ B ∨ N ≤ C) : OSf w' C D v n f := by
  obtain ⟨h1, h2, h3⟩ := h
  refine ⟨h1, Nat.le_trans h2 hf.size, ?_⟩
  rcases h3 with h3 | ⟨g, cap, h4, h5, h6, h7, h8, h9, h10⟩
  · exact .inl h3
  · have e : w'.heap[g]? = w.heap[g]? := hf.block g (by omega) (by omega)
    exact .inr ⟨g, cap, h4, h5, h6, h7, h8, fun o => by rw [World.frozen?_of_block (a := ⟨g, o, none⟩) e]; exact h9 o, fun i hi => by rw [World.cell?_of_block (a := ⟨g, i, none⟩) e]; exact h10 i hi⟩
theorem OSf.below {w w' : World} {C D : Nat} {v : Value} {n : Nat} {f : Nat → Nat} (h : OSf w C D v n f) (hb : Below w.heap.size w w') : OSf w' C D v n f := by
  have h2 := h.2.1
  exact h.frame (Frm.of (B := D) (N := D) hb) (.inl (Nat.le_refl _))
theorem OSf.len {w : World} {C D : Nat} {v : Value} {n : Nat} {f : Nat → Nat} (h : OSf w C D v n f) : ∃ ao cap, v = .slice ao n cap ∧ n ≤ 9223372036854775807 := by
  obtain ⟨h1, h2, ⟨rfl, rfl⟩ | ⟨g, cap, h4, h5, h6, _⟩⟩ := h
  · exact ⟨_, _, rfl, by omega⟩
  · unfold maxLen at h6
    exact ⟨_, _, h4, by omega⟩
theorem OSl.fsl {w : World} {C D : Nat} {v : Value} {bs : List Nat} (h : OSl w C D v bs) : FSl .f32 w v bs := by
  obtain ⟨h1, h2, h3⟩ := h
  have hb : ∀ b ∈ bs, b < 2 ^ FloatKind.f32.format.width := by
    intro b hb
    obtain ⟨i, hi, rfl⟩ := List.getElem_of_mem hb
    have := h1 i hi
    simpa [fget, List.getD, hi] using this
  rcases h3 with ⟨rfl, h3⟩ | ⟨g, cap, h4, h5, h6, h7, h8, h9, h10⟩
  · obtain rfl := List.length_eq_zero_iff.1 h3
    exact FSl.nil
  · exact ⟨_, cap, h4, h5, h6, hb, .inr ⟨g, 0, rfl, by omega, fun i hi => by rw [Nat.zero_add]; exact h10 i hi⟩⟩
theorem osl_own {w : World} {B : Nat} {e : TypeId} {v : Value} {n : Nat} {xs : List Nat} (h : w.ownsRow B e 1 v n (xs.map (Value.float .f32))) (hn : xs.length = n) (hb : ∀ b ∈ xs, b < 2 ^ FloatKind.f32.format.width) : OSl w B w.heap.size v xs := by
  subst hn
  have h0 := h
  refine ⟨fun i hi => hb _ (fget_mem hi), Nat.le_refl _, ?_⟩
  obtain ⟨h1, ⟨rfl, h2⟩ | ⟨g, cap, cur, rfl, h2, h3, h4, h5, h6, h7⟩⟩ := h
  · exact .inl ⟨rfl, h2⟩
  · refine .inr ⟨g, cap, rfl, h4, h5, h2, (Array.getElem?_eq_some_iff.1 h3).1, fun o => ?_, fun i hi => ?_⟩
    · unfold World.frozen?
      rw [h3]
      simp
    · have := h0.cells (g := g) rfl i (.float .f32 (fget xs i)) (by simp [fget, List.getD, hi])
      rw [Addr.add_lit] at this
      simpa using this
theorem OSl.up {w : World} {B N B' N' : Nat} {v : Value} {bs : List Nat} (h : OSl w B N v bs) (hB : B' ≤ B) (hN : N ≤ N') (hz : N' ≤ w.heap.size) : OSl w B' N' v bs := by
  obtain ⟨h1, h2, h3⟩ := h
  refine ⟨h1, hz, h3.imp id ?_⟩
  rintro ⟨g, cap, h4, h5, h6, h7, h8, h9⟩
  exact ⟨g, cap, h4, h5, h6, by omega, by omega, h9⟩
/-- The marks k, k + 1, .. -/
def marks (k : Int) (n : Nat) : List Nat := (List.range n).map fun i : Nat => floatOfInt .f32 (k + (i : Int))
theorem marks_len (k : Int) (n : Nat) : (marks k n).length = n := by simp [marks]
theorem marks_get {k : Int} {n i : Nat} (h : i < n) : fget (marks k n) i = floatOfInt .f32 (k + (i : Int)) := by simp [fget, marks, List.getD, h]
theorem OSf.congr {w : World} {B N : Nat} {v : Value} {n : Nat} {f f' : Nat → Nat} (h : OSf w B N v n f) (he : ∀ i, i < n → f' i = f i) : OSf w B N v n f' := by
  obtain ⟨h1, h2, h3⟩ := h
  refine ⟨fun i hi => by rw [he i hi]; exact h1 i hi, h2, h3.imp id ?_⟩
  rintro ⟨g, cap, h4, h5, h6, h7, h8, h9, h10⟩
  exact ⟨g, cap, h4, h5, h6, h7, h8, h9, fun i hi => by rw [he i hi]; exact h10 i hi⟩
theorem osl_marks {w : World} {B N : Nat} {v : Value} {n : Nat} {k : Int} (h : OSf w B N v n fun i : Nat => floatOfInt .f32 (k + (i : Int))) : OSl w B N v (marks k n) := by
  unfold OSl
  rw [marks_len]
  exact h.congr fun i hi => marks_get hi
theorem ofInt_lt (k : Int) : floatOfInt .f32 k < 2 ^ FloatKind.f32.format.width := (isF_ofInt .f32 k).2
theorem neq_self (k : Int) : cmpF .neq .f32 (ofInt .f32 k) (ofInt .f32 k) = false := by
  have := ord_refl (show IsF .f32 (floatOfInt .f32 k) (some (floatOfInt .f32 k)) from isF_ofInt .f32 k)
  simp [cmpF, ofInt, this]
set_option maxHeartbeats 2000000 in
theorem markF_any (B N : Nat) (v : Value) (n : Nat) (f : Nat → Nat) (k : Int) (hk0 : 0 ≤ k) (hk : k ≤ 100000000) (hn : n ≤ 1048576) (w : World) (h : OSf w B N v n f) :
    Calls Try.prog 19 #[v, .int .i64 k] w fun e w' => e = .returned (.int .i64 (k + n)) ∧ OSl w' B N v (marks k n) ∧ Frm B N w w' := by
  obtain ⟨h1, h2, ⟨rfl, rfl⟩ | ⟨g, cap, rfl, h5, h6, h7, h8, h9, h10⟩⟩ := h
  · clear h1 hn
    go_enter Try.func19, Try.ntmps19
    go_wp2
    refine wp_loop_rounds 1 ?_
    rw [rounds_succ]
    go_wp2
    go_ret
    exact ⟨by simp, ⟨fun i hi => absurd hi (by simp [marks]), h2, .inl ⟨rfl, by simp [marks]⟩⟩, Frm.refl _ _ _⟩
  · have H10 := Lib.hid h10
    have H9 := Lib.hid h9
    unfold maxLen at h6
    clear h10 h9 h1
    go_enter Try.func19, Try.ntmps19
    go_wp2
    go_loopw [1, 5] (fun kv i wr => ∃ j : Nat, j ≤ n ∧ i = .int .i64 (j : Int) ∧ kv = .int .i64 (k + (j : Int)) ∧ Hid (∀ i, i < n → wr.cell? ⟨g, i, none⟩ = some (.float .f32 (if i < j then floatOfInt .f32 (k + (i : Int)) else f i))) ∧ Hid (∀ o, wr.frozen? ⟨g, o, none⟩ = false) ∧ Frm B N w wr) (fun _ i _ => n - (intOf i).toNat)
    case atStart => exact ⟨0, Nat.zero_le _, rfl, by simp, Lib.hid (fun i hi => by simpa using H10.out i hi), H9, Frm.refl _ _ _⟩
    case round =>
      obtain ⟨j, hj, rfl, rfl, hc, hz, hF⟩ := hrel
      by_cases hlt : j < n
      · have c0 : wr.cell? ⟨g, j, none⟩ = some (.float .f32 (f j)) := by simpa using hc.out j hlt
        have z0 : wr.frozen? ⟨g, j, none⟩ = false := hz.out j
        go_wp2
        all_goals
          go_roundw
          case rel =>
            refine ⟨j + 1, by omega, by go_num, by go_num, Lib.hid (fun i hi => ?_), Lib.hid (fun o => by rw [World.frozen?_setCell]; exact hz.out o), hF.set h7 h8 _⟩
            by_cases hij : i = j
            · subst hij
              rw [if_pos (by omega)]
              exact World.cell?_setCell_same _ _ _ c0
            · rw [World.cell?_setCell_other _ _ _ _ (by intro e; cases e; exact hij rfl), hc.out i hi]
              by_cases h5 : i < j
              · rw [if_pos h5, if_pos (by omega)]
              · rw [if_neg h5, if_neg (by omega)]
          case measure => simp [intOf]; omega
      · obtain rfl : j = n := by omega
        go_wp2
        go_ret
        refine ⟨rfl, osl_marks ⟨fun i _ => ofInt_lt _, Nat.le_trans h2 hF.size, .inr ⟨g, cap, rfl, h5, by unfold maxLen; omega, h7, h8, hz.out, fun i hi => ?_⟩⟩, hF⟩
        have := hc.out i hi
        rw [if_pos hi] at this
        exact this
set_option maxHeartbeats 2000000 in
theorem heldF_any (B N : Nat) (v : Value) (n : Nat) (k : Int) (hk0 : 0 ≤ k) (hk : k ≤ 100000000) (hn : n ≤ 1048576) (w : World) (h : OSl w B N v (marks k n)) :
    Calls Try.prog 25 #[v, .int .i64 k] w fun e w' => e = .returned (.int .i64 (k + n)) ∧ w' = w := by
  unfold OSl at h
  rw [marks_len] at h
  obtain ⟨h1, h2, ⟨rfl, rfl⟩ | ⟨g, cap, rfl, h5, h6, h7, h8, h9, h10⟩⟩ := h
  · clear h1 hn
    go_enter Try.func25, Try.ntmps25
    go_wp2
    refine wp_loop_rounds 1 ?_
    rw [rounds_succ]
    go_wp2
    go_ret
    exact ⟨by simp, rfl⟩
  · have H10 := Lib.hid (fun i (hi : i < n) => show w.cell? ⟨g, i, none⟩ = some (.float .f32 (floatOfInt .f32 (k + (i : Int)))) by rw [← marks_get hi]; exact h10 i hi)
    unfold maxLen at h6
    clear h10 h9 h1 h2 h7 h8
    go_enter Try.func25, Try.ntmps25
    go_wp2
    go_loop [1, 5] (fun kv i => ∃ j : Nat, j ≤ n ∧ i = .int .i64 (j : Int) ∧ kv = .int .i64 (k + (j : Int))) (fun _ i => n - (intOf i).toNat)
    case atStart => exact ⟨0, Nat.zero_le _, rfl, by simp⟩
    case round =>
      obtain ⟨j, hj, rfl, rfl⟩ := hrel
      by_cases hlt : j < n
      · have c0 := H10.out j hlt
        have i0 := isF_ofInt .f32 (k + (j : Int))
        have q0 := neq_self (k + (j : Int))
        go_wp2_with (first | (refine wpList_fcmp rfl rfl (by first | exact .inl rfl | exact .inr (.inl rfl) | exact .inr (.inr (.inl rfl)) | exact .inr (.inr (.inr (.inl rfl))) | exact .inr (.inr (.inr (.inr (.inl rfl)))) | exact .inr (.inr (.inr (.inr (.inr rfl))))) rfl rfl (by first | assumption | exact isF_ofInt _ _ | exact IsF.lit (by decide +kernel)) (by first | assumption | exact isF_ofInt _ _ | exact IsF.lit (by decide +kernel)) (by first | assumption | exact rfl) ?_))
        all_goals
          go_round
          case rel => exact ⟨j + 1, by omega, by go_num, by go_num⟩
          case measure => simp [intOf]; omega
      · obtain rfl : j = n := by omega
        go_wp2
        go_ret
        exact ⟨rfl, rfl⟩
end Go.Proofs.Ytiolmffcmbcgmaa
