/-
  Slices of texts; a list's text: its words with commas between them, or none.
-/
import Derived.Test.YtgaecoekhcdaeaaGreatDoorPost
import Derived.Test.YtgaecoekhcdaeaaGreatDoorSh4
import Derived.WalkKit
import Derived.Laws.OwnMore
import Derived.Lib.Join
namespace Go.Proofs.YtgaecoekhcdaeaaGreatDoor
set_option linter.unusedVariables false
set_option linter.unusedSimpArgs false
set_option maxRecDepth 20000
open Go.RowKit

/-- The cell of a text. -/
def scell (x : List UInt8) : Value := .string ⟨x.toArray⟩
def noneL : List UInt8 := [110, 111, 110, 101]
/-- The text of a list of words. -/
def txtOf (xs : List (List UInt8)) : List UInt8 := if xs = [] then noneL else Lib.join xs [44]
theorem txtOf_nil : txtOf [] = noneL := rfl
theorem txtOf_ne {xs : List (List UInt8)} (h : xs ≠ []) : txtOf xs = Lib.join xs [44] := by unfold txtOf; rw [if_neg h]
theorem join_snoc {xs : List (List UInt8)} (h : xs ≠ []) (y : List UInt8) : Lib.join (xs ++ [y]) [44] = Lib.join xs [44] ++ ([44] ++ y) := by
  cases xs with
  | nil => exact absurd rfl h
  | cons x r =>
    rw [List.cons_append, Lib.join_cons, Lib.join_cons]
    simp [Lib.joinTail, List.append_assoc]
/-- v is a slice of the texts xs. -/
def SSl (w : World) (v : Value) (xs : List (List UInt8)) : Prop :=
  ∃ ao cap, v = .slice ao xs.length cap ∧ xs.length ≤ cap ∧ (xs = [] ∨ ∃ b off, ao = some ⟨b, off, none⟩ ∧ (b < w.heap.size ∧ ∃ cs fz, w.heap[b]? = some (.cells cs 9 fz)) ∧ ∀ i x, xs[i]? = some x → w.cell? ⟨b, off + i, none⟩ = some (scell x))
theorem SSl.below {w w' : World} {v : Value} {xs : List (List UInt8)} (h : SSl w v xs) (hb : Below w.heap.size w w') : SSl w' v xs := by
  obtain ⟨ao, cap, hv, h1, h4⟩ := h
  refine ⟨ao, cap, hv, h1, ?_⟩
  rcases h4 with h4 | ⟨b, off, h4, hlt, hc⟩
  · exact .inl h4
  · exact .inr ⟨b, off, h4, ⟨Nat.lt_of_lt_of_le hlt.1 hb.size, by rw [hb.block b hlt.1]; exact hlt.2⟩, fun i x hi => by rw [hb.cell (p := ⟨b, off + i, none⟩) hlt.1]; exact hc i x hi⟩
theorem SSl.of_own {w : World} {B : Nat} {v : Value} {n : Nat} {xs : List (List UInt8)} (h : w.ownsRow B 9 1 v n (xs.map scell)) (hn : xs.length = n) : SSl w v xs := by
  have h0 := h
  obtain ⟨h1, ⟨rfl, h2⟩ | ⟨g, cap, cur, rfl, h2, h3, h4, h5, h6, h7⟩⟩ := h
  · have : xs = [] := by apply List.length_eq_zero_iff.1; omega
    subst this
    exact ⟨none, 0, rfl, Nat.le_refl _, .inl rfl⟩
  · subst hn
    refine ⟨_, cap, rfl, h4, ?_⟩
    rcases Nat.eq_zero_or_pos xs.length with hz | hz
    · exact .inl (List.length_eq_zero_iff.1 hz)
    · refine .inr ⟨g, 0, rfl, ⟨(Array.getElem?_eq_some_iff.1 h3).1, _, _, h3⟩, fun i x hi => ?_⟩
      have := h0.cells (g := g) rfl i (scell x) (by simp [hi])
      rw [Addr.add_lit] at this
      exact this
theorem cell_nw {w : World} {x : Value} {t : TypeId} {g : Nat} (hg : g = w.heap.size) : (w.alloc (.cells #[x] t)).cell? ⟨g, 0, none⟩ = some x := by
  subst hg
  simp
theorem own_hp {w w' : World} {B : Nat} {e : TypeId} {s : Nat} {v : Value} {n : Nat} {xs : List Value} (h : w.ownsRow B e s v n xs) (he : w'.heap = w.heap) : w'.ownsRow B e s v n xs := by
  unfold World.ownsRow at h ⊢
  rw [he]
  exact h
theorem own_below {w w' : World} {B : Nat} {e : TypeId} {s : Nat} {v : Value} {n : Nat} {xs : List Value} (h : w.ownsRow B e s v n xs) (hb : Below w.heap.size w w') : w'.ownsRow B e s v n xs :=
  h.kept (row := none) ⟨hb.os, hb.tape, hb.output, hb.size, fun k hk _ => hb.block k hk⟩ (by cases v.ownBlock <;> simp)
theorem info_str : (Tryz.prog.info? 9).map (fun i => (i.zero, i.size, i.bytes)) = some (some (.string ⟨#[]⟩), 1, 16) := by kernel_rfl
set_option maxHeartbeats 1000000 in
theorem listOrNone_any (v : Value) (xs : List (List UInt8)) (w : World) (h : SSl w v xs) (hn : xs.length ≤ 140737488355328) (hl : (Lib.join xs [44]).length ≤ 140737488355328) :
    Calls Tryz.prog 47 #[v] w fun e w' => e = .returned (.string ⟨(txtOf xs).toArray⟩) ∧ Below w.heap.size w w' := by
  obtain ⟨ao, cap, rfl, h1, h4⟩ := h
  rcases Nat.eq_zero_or_pos xs.length with h0 | h0
  · have hx : xs = [] := List.length_eq_zero_iff.1 h0
    have HT := Lib.hid (show txtOf xs = noneL by rw [hx]; rfl)
    rw [h0]
    clear h0 hx h4 h1 hn hl
    go_enter Tryz.func47, Tryz.ntmps47
    go_wp2_with fail
    go_ret
    exact ⟨by rw [HT.out]; rfl, Below.refl _ _⟩
  · rcases h4 with h4 | ⟨b, off, rfl, hlt, hc⟩
    · subst h4; exact absurd h0 (by simp)
    have HT := Lib.hid (txtOf_ne (xs := xs) (by intro e; subst e; simp at h0))
    have hm : (xs.map (fun x => (⟨x.toArray⟩ : ByteArray))).map (·.data.toList) = xs := by simp [List.map_map, Function.comp_def]
    have HJ := Tryz.strings_Join b off cap (xs.map (fun x => (⟨x.toArray⟩ : ByteArray))) ⟨#[44]⟩ w (fun j x hj => by
      rw [List.getElem?_map] at hj
      cases hx : xs[j]? with
      | none => rw [hx] at hj; cases hj
      | some y => rw [hx] at hj; obtain rfl := Option.some.inj hj; exact hc j y hx) hlt.1 (by simpa using hn) (by simpa using h1) (by rw [hm]; simpa using hl)
    rw [hm, List.length_map] at HJ
    have HS := Lib.hid HJ
    have hb0 : ((xs.length : Int) == 0) = false := beq_eq_false_iff_ne.2 (by omega)
    clear HJ hm hc hl h1 hn hlt
    go_enter Tryz.func47, Tryz.ntmps47
    go_wp2_with fail
    refine HS.out.mono ?_
    rintro e w1 ⟨rfl, hb1⟩
    go_wp2_with fail
    go_ret
    exact ⟨by rw [HT.out]; rfl, hb1⟩
end Go.Proofs.YtgaecoekhcdaeaaGreatDoor
