/-
  Slices of floats in memory: 'FSl k w v bs': the value v is a slice of the floats bs in the world w. Opened from an argument, kept behind new blocks and draws. No program is in sight.
-/
import Derived.Test.YtaannebjpmdhjaaPost
import Derived.Test.YtaannebjpmdhjaaBits
namespace Go.Proofs.Ytaannebjpmdhjaa
set_option linter.unusedVariables false
set_option linter.unusedSimpArgs false
set_option maxRecDepth 20000
open Go.RowKit Go.WideShapes Go.ChangeShapes Fl

/-- Element i of the list. -/
def fget (bs : List Nat) (i : Nat) : Nat := bs.getD i 0
theorem fget_mem {bs : List Nat} {i : Nat} (h : i < bs.length) : fget bs i ∈ bs := by
  unfold fget; simp [List.getD, h]
theorem take_fget {bs : List Nat} {k : Nat} (h : k < bs.length) : bs.take (k + 1) = bs.take k ++ [fget bs k] := by
  rw [List.take_succ_eq_append_getElem h]; unfold fget; simp [List.getD, h]
/-- v is a slice of the floats bs. -/
def FSl (k : FloatKind) (w : World) (v : Value) (bs : List Nat) : Prop :=
  ∃ ao cap, v = .slice ao bs.length cap ∧ bs.length ≤ cap ∧ cap ≤ maxLen ∧ (∀ b ∈ bs, b < 2 ^ k.format.width) ∧
    (bs = [] ∨ ∃ b off, ao = some ⟨b, off, none⟩ ∧ b < w.heap.size ∧ ∀ i, i < bs.length → w.cell? ⟨b, off + i, none⟩ = some (.float k (fget bs i)))

theorem FSl.nil {k : FloatKind} {w : World} : FSl k w (.slice none 0 0) [] := ⟨none, 0, rfl, Nat.le_refl _, Nat.zero_le _, fun _ h => absurd h (List.not_mem_nil), .inl rfl⟩
theorem FSl.below {k : FloatKind} {w w' : World} {v : Value} {bs : List Nat} (h : FSl k w v bs) (hb : Below w.heap.size w w') : FSl k w' v bs := by
  obtain ⟨ao, cap, hv, h1, h2, h3, h4⟩ := h
  refine ⟨ao, cap, hv, h1, h2, h3, ?_⟩
  rcases h4 with h4 | ⟨b, off, h4, hlt, hc⟩
  · exact .inl h4
  · exact .inr ⟨b, off, h4, Nat.lt_of_lt_of_le hlt hb.size, fun i hi => by rw [hb.cell (p := ⟨b, off + i, none⟩) hlt]; exact hc i hi⟩
theorem FSl.drewN {k : FloatKind} {w : World} {v : Value} {bs : List Nat} (h : FSl k w v bs) (n : Nat) : FSl k (w.drewN n) v bs := h.below (below_draws _ _)

theorem trod_float {H : Type} {enc : TypeId × Value → H} {P : Program} {w : World} {base : Nat} {spare : Nat → Bool} {held : Bool} {fuel : Nat} {t : TypeId} {k : FloatKind} {cs : List Value} {x : DataW H × List MemPlace}
    (ht : P.underlying t = some (.float k)) (h : DataW.trod enc P w base spare held fuel t cs = some x) : ∃ b, cs = [.float k b] ∧ x = (.lit (.float k b), []) ∧ (Lit.float k b).wf = true := by
  cases fuel with
  | zero => simp [DataW.trod] at h
  | succ n =>
    unfold DataW.trod at h
    rw [ht] at h
    split at h <;> simp_all

/-- An argument that is a slice of floats, opened. -/
theorem open_floats {H : Type} {enc : TypeId × Value → H} {P : Program} {w : World} {held : Bool} {spare : Nat → Bool} {t e : TypeId} {k : FloatKind} {fuel : Nat} {v : Value} {x : DataW H × List MemPlace}
    (ht : P.underlying t = some (.slice e)) (he : P.underlying e = some (.float k)) (hc : P.cellsOf e = 1) (h : DataW.trod enc P w 0 spare held fuel t [v] = some x) : ∃ bs, FSl k w v bs := by
  rcases Go.Deep.open_slice1 ht hc h with ⟨h1, _⟩ | ⟨a, len, cap, m, n, V, D, Pl, h1, _, hl, hm, hmm, _, hx⟩
  · obtain rfl : v = .slice none 0 0 := by simpa using h1
    exact ⟨[], FSl.nil⟩
  · obtain rfl : v = .slice (some a) len cap := by simpa using h1
    have hlm : len ≤ m := by rw [hmm]; split <;> omega
    have hV : ∀ i, i < len → ∃ b : Nat, V i = .float k b ∧ b < 2 ^ k.format.width ∧ w.cell? (a.add i) = some (.float k b) := by
      intro i hi
      obtain ⟨hcell, hd⟩ := hx i (by omega)
      obtain ⟨b, h2, _, hw⟩ := trod_float he hd
      have h3 : V i = .float k b := by simpa using h2
      exact ⟨b, h3, lt_of_wf hw, by rw [hcell, h3]⟩
    obtain ⟨B, hB⟩ := Go.Deep.choose_lt hV
    refine ⟨(List.range len).map B, some a, cap, by simp, by simpa using hl, hm, ?_, ?_⟩
    · intro b hb
      obtain ⟨i, hi, rfl⟩ := List.mem_map.1 hb
      exact (hB i (by simpa using hi)).2.1
    · rcases Nat.eq_zero_or_pos len with h0 | h0
      · left; simp [h0]
      · right
        have hc0 := (hB 0 h0).2.2
        obtain ⟨ab, ao, asp⟩ := a
        have hsp : asp = none ∧ ab < w.heap.size := by
          have h5 : w.cell? ⟨ab, ao, asp⟩ = some (.float k (B 0)) := by
            have e : (⟨ab, ao, asp⟩ : Addr).add 0 = ⟨ab, ao, asp⟩ := by simp [Addr.add]
            rw [e] at hc0; exact hc0
          unfold World.cell? at h5
          split at h5
          · rename_i c t' z hh
            refine ⟨?_, (Array.getElem?_eq_some_iff.1 hh).1⟩
            cases asp with
            | none => rfl
            | some s => simp at h5
          · cases h5
        obtain ⟨rfl, hlt⟩ := hsp
        refine ⟨ab, ao, rfl, hlt, fun i hi => ?_⟩
        have hi' : i < len := by simpa using hi
        have h6 := (hB i hi').2.2
        rw [Addr.add_lit] at h6
        rw [h6]
        simp [fget, List.getD, hi']
end Go.Proofs.Ytaannebjpmdhjaa
