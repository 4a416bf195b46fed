/-
  Slices of bytes among the arguments; the small functions of the laws that draw by them.
-/
import Derived.Test.YtaannebjpmdhjaaSl
import Derived.Test.YtaannebjpmdhjaaMore
namespace Go.Proofs.Ytaannebjpmdhjaa
set_option linter.unusedVariables false
set_option linter.unusedSimpArgs false
set_option maxRecDepth 20000
open Go.RowKit Go.WideShapes Go.ChangeShapes Fl

/-- v is a slice of n bytes. -/
def BySl (w : World) (v : Value) (n : Nat) : Prop :=
  ∃ ao cap, v = .slice ao n cap ∧ n ≤ cap ∧ cap ≤ maxLen ∧ (n = 0 ∨ ∃ b off, ao = some ⟨b, off, none⟩ ∧ b < w.heap.size ∧ ∀ i, i < n → ∃ x : Int, 0 ≤ x ∧ x ≤ 255 ∧ w.cell? ⟨b, off + i, none⟩ = some (.int .u8 x))
theorem BySl.below {w w' : World} {v : Value} {n : Nat} (h : BySl w v n) (hb : Below w.heap.size w w') : BySl w' v n := by
  obtain ⟨ao, cap, hv, h1, h2, h4⟩ := h
  refine ⟨ao, cap, hv, h1, h2, ?_⟩
  rcases h4 with h4 | ⟨b, off, h4, hlt, hc⟩
  · exact .inl h4
  · exact .inr ⟨b, off, h4, Nat.lt_of_lt_of_le hlt hb.size, fun i hi => by
      obtain ⟨x, h1, h2, h3⟩ := hc i hi
      exact ⟨x, h1, h2, by rw [hb.cell (p := ⟨b, off + i, none⟩) hlt]; exact h3⟩⟩
theorem open_bytes {H : Type} {enc : TypeId × Value → H} {P : Program} {w : World} {held : Bool} {spare : Nat → Bool} {t e : TypeId} {fuel : Nat} {v : Value} {x : DataW H × List MemPlace}
    (ht : P.underlying t = some (.slice e)) (he : P.underlying e = some (.int .u8)) (hc : P.cellsOf e = 1) (h : DataW.trod enc P w 0 spare held fuel t [v] = some x) : ∃ n, BySl w v n := by
  rcases Go.Deep.open_slice1 ht hc h with ⟨h1, _⟩ | ⟨a, len, cap, m, n, V, Dd, Pl, h1, _, hl, hm, hmm, _, hx⟩
  · obtain rfl : v = .slice none 0 0 := by simpa using h1
    exact ⟨0, none, 0, rfl, Nat.le_refl _, Nat.zero_le _, .inl rfl⟩
  · obtain rfl : v = .slice (some a) len cap := by simpa using h1
    have hlm : len ≤ m := by rw [hmm]; split <;> omega
    have hV : ∀ i, i < len → ∃ b : Int, 0 ≤ b ∧ b ≤ 255 ∧ w.cell? (a.add i) = some (.int .u8 b) := by
      intro i hi
      obtain ⟨hcell, hd⟩ := hx i (by omega)
      obtain ⟨b, h2, _, hw⟩ := DataW.trod_int he hd
      have h3 : V i = .int .u8 b := by simpa using h2
      have h4 : 0 ≤ b ∧ b ≤ 255 := by
        have := hw
        simp [Lit.wf, IntKind.min, IntKind.max, IntKind.signed, IntKind.bits] at this
        omega
      exact ⟨b, h4.1, h4.2, by rw [hcell, h3]⟩
    refine ⟨len, some a, cap, rfl, by simpa using hl, hm, ?_⟩
    rcases Nat.eq_zero_or_pos len with h0 | h0
    · exact .inl h0
    · right
      obtain ⟨b0, _, _, hc0⟩ := hV 0 h0
      obtain ⟨ab, ao, asp⟩ := a
      have hsp : asp = none ∧ ab < w.heap.size := by
        have h5 : w.cell? ⟨ab, ao, asp⟩ = some (.int .u8 b0) := by
          have e : (⟨ab, ao, asp⟩ : Addr).add 0 = ⟨ab, ao, asp⟩ := by simp [Addr.add]
          rw [e] at hc0; exact hc0
        unfold World.cell? at h5
        split at h5
        · rename_i c t' z hh
          refine ⟨?_, (Array.getElem?_eq_some_iff.1 hh).1⟩
          cases asp with
          | none => rfl
          | some s => simp at h5
        · cases h5
      obtain ⟨rfl, hlt⟩ := hsp
      refine ⟨ab, ao, rfl, hlt, fun i hi => ?_⟩
      obtain ⟨b, h1, h2, h3⟩ := hV i hi
      rw [Addr.add_lit] at h3
      exact ⟨b, h1, h2, h3⟩
theorem BySl.len {w : World} {v : Value} {n : Nat} (h : BySl w v n) : ∃ ao cap, v = .slice ao n cap ∧ n ≤ 9223372036854775807 := by
  obtain ⟨ao, cap, h1, h2, h3, _⟩ := h
  unfold maxLen at h3
  exact ⟨ao, cap, h1, by omega⟩
/-- The call returns a whole number from 0 to n - 1. -/
def RetI (n : Int) (w : World) (e : Ending) (w' : World) : Prop := ∃ r : Int, e = .returned (.int .i64 r) ∧ 0 ≤ r ∧ r < n ∧ w' = w
theorem b10At_any (v : Value) (len : Nat) (i : Nat) (hi : i ≤ 100) (n : Int) (h1 : 1 < n) (h2 : n ≤ 1000) (w : World) (h : BySl w v len) : Calls Try.prog 5 #[v, .int .i64 (i : Int), .int .i64 n] w (RetI n w) := by
  obtain ⟨ao, cap, rfl, g1, g2, g4⟩ := h
  unfold maxLen at g2
  by_cases hl : i < len
  · rcases g4 with g4 | ⟨b, off, rfl, _, hc⟩
    · omega
    obtain ⟨x, hx0, hx1, hx⟩ := hc i hl
    clear hc
    go_enter Try.func5, Try.ntmps5
    go_wp2
    go_ret
    exact ⟨_, rfl, Int.emod_nonneg _ (by omega), Int.emod_lt_of_pos _ (by omega), rfl⟩
  · go_enter Try.func5, Try.ntmps5
    go_wp2
    go_ret
    exact ⟨_, rfl, Int.emod_nonneg _ (by omega), Int.emod_lt_of_pos _ (by omega), rfl⟩
theorem b10Long_any (v1 v2 : Value) (n1 n2 : Nat) (w : World) (h1 : BySl w v1 n1) (h2 : BySl w v2 n2) (q : Bool) (hq : decide (1048576 < n1 ∨ 1048576 < n2) = q) : Calls Try.prog 4 #[v1, v2] w fun e w' => e = .returned (.bool q) ∧ w' = w := by
  obtain ⟨ao1, c1, rfl, m1⟩ := h1.len
  obtain ⟨ao2, c2, rfl, m2⟩ := h2.len
  by_cases k : 1048576 < n1
  · have : q = true := by rw [← hq]; simp [k]
    subst this
    clear hq
    go_enter Try.func4, Try.ntmps4
    go_wp2
    go_ret
    exact ⟨rfl, rfl⟩
  · have : q = decide (1048576 < n2) := by rw [← hq]; simp [k]
    subst this
    clear hq
    have hd : decide ((1048576 : Int) < (n1 : Int)) = false := decide_eq_false (by omega)
    go_enter Try.func4, Try.ntmps4
    go_wp2
    go_ret
    refine ⟨congrArg (fun b => Ending.returned (Value.bool b)) ?_, rfl⟩
    rw [Bool.eq_iff_iff]
    simp
    omega
end Go.Proofs.Ytaannebjpmdhjaa
