/-
  Lists in rows of their own that may be written, whatever their cells are. No program is in sight.
-/
import Derived.Test.YtgaecoekhcdaeaaGreatDoorPost
import Derived.Laws.AppendOwn
namespace Go.Proofs.YtgaecoekhcdaeaaGreatDoor
set_option linter.unusedVariables false
set_option linter.unusedSimpArgs false
set_option maxRecDepth 20000
open Go.RowKit

/-- v is a slice of the n cells f: nil, or a row in a block from B on and below N, that may be written. -/
def OV (w : World) (B N : Nat) (v : Value) (n : Nat) (f : Nat → Value) : Prop :=
  N ≤ w.heap.size ∧
  ((v = .slice none 0 0 ∧ n = 0) ∨ ∃ g cap, v = .slice (some ⟨g, 0, none⟩) n cap ∧ n ≤ cap ∧ cap ≤ maxLen ∧ B ≤ g ∧ g < N ∧ (∀ o, w.frozen? ⟨g, o, none⟩ = false) ∧ ∀ i, i < n → w.cell? ⟨g, i, none⟩ = some (f i))
/-- w' is w with new blocks and writes to the blocks from B on and below N. -/
structure Fr (B N : Nat) (w w' : World) : Prop where
  os : w'.os = w.os
  tape : w'.tape = w.tape
  output : w'.output = w.output
  size : w.heap.size ≤ w'.heap.size
  block : ∀ b, b < w.heap.size → (b < B ∨ N ≤ b) → w'.heap[b]? = w.heap[b]?
theorem Fr.refl (B N : Nat) (w : World) : Fr B N w w := ⟨rfl, rfl, rfl, Nat.le_refl _, fun _ _ _ => rfl⟩
theorem Fr.below {B N : Nat} {w w' : World} (h : Fr B N w w') (hB : B ≤ w.heap.size) : Below B w w' :=
  ⟨h.os, h.tape, h.output, h.size, fun k hk => h.block k (Nat.lt_of_lt_of_le hk hB) (.inl hk)⟩
theorem Fr.set {B N : Nat} {w w' : World} (h : Fr B N w w') {a : Addr} (hB : B ≤ a.block) (hN : a.block < N) (v : Value) : Fr B N w (w'.setCell a v) :=
  ⟨h.os, h.tape, h.output, by simpa [World.setCell] using h.size, fun b hb hs => (Below.heap_setCell w' a v b (by omega)).trans (h.block b hb hs)⟩
theorem OV.frame {w w' : World} {B N C D : Nat} {v : Value} {n : Nat} {f : Nat → Value} (h : OV w C D v n f) (hf : Fr B N w w') (hs : D ≤ B ∨ N ≤ C) : OV w' C D v n f := by
  obtain ⟨h2, h3⟩ := h
  refine ⟨Nat.le_trans h2 hf.size, ?_⟩
  rcases h3 with h3 | ⟨g, cap, h4, h5, h6, h7, h8, h9, h10⟩
  · exact .inl h3
  · have e : w'.heap[g]? = w.heap[g]? := hf.block g (by omega) (by omega)
    exact .inr ⟨g, cap, h4, h5, h6, h7, h8, fun o => by rw [World.frozen?_of_block (a := ⟨g, o, none⟩) e]; exact h9 o, fun i hi => by rw [World.cell?_of_block (a := ⟨g, i, none⟩) e]; exact h10 i hi⟩
theorem OV.below {w w' : World} {C D : Nat} {v : Value} {n : Nat} {f : Nat → Value} (h : OV w C D v n f) (hb : Below w.heap.size w w') : OV w' C D v n f := by
  have h2 := h.1
  exact h.frame (B := D) (N := D) ⟨hb.os, hb.tape, hb.output, hb.size, fun b hb' _ => hb.block b hb'⟩ (.inl (Nat.le_refl _))
theorem OV.len {w : World} {C D : Nat} {v : Value} {n : Nat} {f : Nat → Value} (h : OV w C D v n f) : ∃ ao cap, v = .slice ao n cap ∧ n ≤ 9223372036854775807 := by
  obtain ⟨h2, ⟨rfl, rfl⟩ | ⟨g, cap, h4, h5, h6, _⟩⟩ := h
  · exact ⟨_, _, rfl, by omega⟩
  · unfold maxLen at h6
    exact ⟨_, _, h4, by omega⟩
theorem OV.congr {w : World} {B N : Nat} {v : Value} {n : Nat} {f f' : Nat → Value} (h : OV w B N v n f) (he : ∀ i, i < n → f' i = f i) : OV w B N v n f' := by
  obtain ⟨h2, h3⟩ := h
  refine ⟨h2, h3.imp id ?_⟩
  rintro ⟨g, cap, h4, h5, h6, h7, h8, h9, h10⟩
  exact ⟨g, cap, h4, h5, h6, h7, h8, h9, fun i hi => by rw [he i hi]; exact h10 i hi⟩
theorem OV.nil {w : World} {B N : Nat} {f : Nat → Value} (h : N ≤ w.heap.size) : OV w B N (.slice none 0 0) 0 f := ⟨h, .inl ⟨rfl, rfl⟩⟩
theorem ov_own {w : World} {B : Nat} {e : TypeId} {v : Value} {n : Nat} {xs : List Value} (h : w.ownsRow B e 1 v n xs) (f : Nat → Value) (hf : ∀ i, i < n → xs[i]? = some (f i)) : OV w B w.heap.size v n f := by
  have h0 := h
  refine ⟨Nat.le_refl _, ?_⟩
  obtain ⟨h1, ⟨rfl, h2⟩ | ⟨g, cap, cur, rfl, h2, h3, h4, h5, h6, h7⟩⟩ := h
  · exact .inl ⟨rfl, h2⟩
  · refine .inr ⟨g, cap, rfl, h4, h5, h2, (Array.getElem?_eq_some_iff.1 h3).1, fun o => ?_, fun i hi => ?_⟩
    · unfold World.frozen?
      rw [h3]
      simp
    · have := h0.cells (g := g) rfl i (f i) (hf i hi)
      rw [Addr.add_lit] at this
      simpa using this
theorem OV.up {w : World} {B N B' N' : Nat} {v : Value} {n : Nat} {f : Nat → Value} (h : OV w B N v n f) (hB : B' ≤ B) (hN : N ≤ N') (hz : N' ≤ w.heap.size) : OV w B' N' v n f := by
  obtain ⟨h2, h3⟩ := h
  refine ⟨hz, h3.imp id ?_⟩
  rintro ⟨g, cap, h4, h5, h6, h7, h8, h9⟩
  exact ⟨g, cap, h4, h5, h6, by omega, by omega, h9⟩
end Go.Proofs.YtgaecoekhcdaeaaGreatDoor
