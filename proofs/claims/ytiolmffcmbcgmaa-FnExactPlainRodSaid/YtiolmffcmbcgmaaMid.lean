/-
  Contracts: the middles of a rod's cells, at both sides: lists that grow by append.
-/
import Derived.Test.YtiolmffcmbcgmaaPass
namespace Go.Proofs.Ytiolmffcmbcgmaa
set_option linter.unusedVariables false
set_option linter.unusedSimpArgs false
open Go.RowKit Fl
attribute [local go_sem] run_store_float

theorem cell_new0 {w : World} {x : Value} {t : TypeId} {g : Nat} (hg : g = w.heap.size) : (w.alloc (.cells #[x] t)).cell? ⟨g, 0, none⟩ = some x := by
  subst hg
  simp
theorem own_heap {w w' : World} {B : Nat} {e : TypeId} {s : Nat} {v : Value} {n : Nat} {xs : List Value} (h : w.ownsRow B e s v n xs) (he : w'.heap = w.heap) : w'.ownsRow B e s v n xs := by
  unfold World.ownsRow at h ⊢
  rw [he]
  exact h
theorem own_fsl {w : World} {B : Nat} {e : TypeId} {v : Value} {n : Nat} {xs : List Nat} (h : w.ownsRow B e 1 v n (xs.map (Value.float .f32))) (hn : xs.length = n) (hb : ∀ b ∈ xs, b < 2 ^ FloatKind.f32.format.width) : FSl .f32 w v xs := by
  have h0 := h
  obtain ⟨h1, ⟨rfl, h2⟩ | ⟨g, cap, cur, rfl, h2, h3, h4, h5, h6, h7⟩⟩ := h
  · have : xs = [] := by apply List.length_eq_zero_iff.1; omega
    subst this
    exact FSl.nil
  · subst hn
    refine ⟨_, cap, rfl, h4, h5, hb, ?_⟩
    rcases Nat.eq_zero_or_pos xs.length with hz | hz
    · exact .inl (List.length_eq_zero_iff.1 hz)
    · refine .inr ⟨g, 0, rfl, (Array.getElem?_eq_some_iff.1 h3).1, fun i hi => ?_⟩
      have := h0.cells (g := g) rfl i (.float .f32 (fget xs i)) (by simp [fget, List.getD, hi])
      rw [Addr.add_lit] at this
      exact this
/-- The place ahead of cell i, and the middle of cell i. -/
def plV (R : Rl) (i : Nat) : Option Nat := foldF (fun j => cl .f32 (fget R.a j)) i
def midV (R : Rl) (i : Nat) : Option Nat := ar .add .f32 (plV R i) (ar .quo .f32 (cl .f32 (fget R.a i)) (some 1073741824))
/-- The list of the first k middles. -/
def Mid (R : Rl) (k : Nat) (xs : List Nat) : Prop := xs.length = k ∧ ∀ i, i < k → IsF .f32 (fget xs i) (midV R i)
theorem Mid.nil (R : Rl) : Mid R 0 [] := ⟨rfl, fun i hi => absurd hi (Nat.not_lt_zero i)⟩
theorem Mid.snoc {R : Rl} {k : Nat} {xs : List Nat} {r : Nat} (h : Mid R k xs) (hr : IsF .f32 r (midV R k)) : Mid R (k + 1) (xs ++ [r]) := by
  refine ⟨by simp [h.1], fun i hi => ?_⟩
  unfold fget
  simp only [List.getD_eq_getElem?_getD]
  rcases Nat.lt_or_ge i k with h1 | h1
  · have := h.2 i h1
    unfold fget at this
    simp only [List.getD_eq_getElem?_getD] at this
    rw [List.getElem?_append_left (by rw [h.1]; exact h1)]
    exact this
  · have : i = k := by omega
    subst this
    rw [List.getElem?_append_right (by rw [h.1]; exact Nat.le_refl _), h.1, Nat.sub_self]
    exact hr
theorem Mid.bits {R : Rl} {k : Nat} {xs : List Nat} (h : Mid R k xs) : ∀ b ∈ xs, b < 2 ^ FloatKind.f32.format.width := by
  intro b hb
  obtain ⟨i, hi, rfl⟩ := List.getElem_of_mem hb
  have := (h.2 i (by rw [← h.1]; exact hi)).2
  simpa [fget, List.getD, hi] using this
theorem foldF_succ (g : Nat → Option Nat) (k : Nat) : foldF g (k + 1) = ar .add .f32 (foldF g k) (g k) := rfl
theorem infoF : (Try.prog.info? 33).map (fun i => (i.zero, i.size, i.bytes)) = some (some (.float .f32 0), 1, 4) := by kernel_rfl
end Go.Proofs.Ytiolmffcmbcgmaa
