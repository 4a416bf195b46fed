/-
  The reference's plain rods: four lists that grow side by side.
-/
import Derived.Test.YtiolmffcmbcgmaaPlain
import Derived.Maps.AppendAt
namespace Go.Proofs.Ytiolmffcmbcgmaa
set_option linter.unusedVariables false
set_option linter.unusedSimpArgs false
open Go.RowKit Fl
attribute [local go_sem] run_store_float

/-- Four rows that grow, their slices in a box. -/
structure St (w : World) (B q : Nat) (s : Nat → Value) (n : Nat → Nat) (a : Nat → Nat) : Prop where
  cell : ∀ i, i < 4 → w.cell? ⟨q, i, none⟩ = some (s i)
  frozen : ∀ o, w.frozen? ⟨q, o, none⟩ = false
  lt : q < B
  le : B ≤ w.heap.size
  own : ∀ i, i < 4 → w.ownsRow B 33 1 (s i) (n i) (List.replicate (n i) (.float .f32 (a i)))
  apart : ∀ i j, i < 4 → j < 4 → i ≠ j → (s i).ownBlock = none ∨ (s i).ownBlock ≠ (s j).ownBlock
def upd {α : Type} (f : Nat → α) (i : Nat) (x : α) (j : Nat) : α := if j = i then x else f j
theorem upd_same {α : Type} (f : Nat → α) (i : Nat) (x : α) : upd f i x i = x := by simp [upd]
theorem upd_other {α : Type} (f : Nat → α) {i j : Nat} (x : α) (h : j ≠ i) : upd f i x j = f j := by simp [upd, h]
theorem grown_alloc {w w1 : World} {o : Obj} {row : Option Nat} (h : (w.alloc o).grownBy w1 row) : w.grownBy w1 row :=
  ⟨h.os, h.tape, h.output, Nat.le_trans (by simp) h.size, fun k hk hr => (h.block k (by simp; omega) hr).trans (Below.heap_alloc w o k hk)⟩
theorem St.step {w w1 : World} {B q : Nat} {s : Nat → Value} {n a : Nat → Nat} (h : St w B q s n a) {i : Nat} (hi : i < 4) {o : Obj} {v' : Value}
    (hown : w1.ownsRow B 33 1 v' (n i + 1) (List.replicate (n i) (.float .f32 (a i)) ++ [.float .f32 (a i)])) (hg : (w.alloc o).grownBy w1 (s i).ownBlock) (hb : v'.ownBlock = (s i).ownBlock ∨ v'.ownBlock = some (w.heap.size + 1)) :
    St (w1.setCell ⟨q, i, none⟩ v') B q (upd s i v') (upd n i (n i + 1)) a := by
  have hg2 := grown_alloc hg
  have hq : some q ≠ (s i).ownBlock := by
    intro e
    have := ((h.own i hi).lt q e.symm).1
    have := h.lt
    omega
  have hqs : q < w.heap.size := Nat.lt_of_lt_of_le h.lt h.le
  have eq1 : w1.heap[q]? = w.heap[q]? := hg2.block q hqs hq
  have ec : ∀ o, w1.cell? ⟨q, o, none⟩ = w.cell? ⟨q, o, none⟩ := fun o => World.cell?_of_block eq1
  have ef : ∀ o, w1.frozen? ⟨q, o, none⟩ = w.frozen? ⟨q, o, none⟩ := fun o => World.frozen?_of_block eq1
  have hz : (w1.setCell ⟨q, i, none⟩ v').heap.size = w1.heap.size := by simp [World.setCell]
  have hrow : ∀ {v : Value} {k : Nat} {xs : List Value}, w1.ownsRow B 33 1 v k xs → (w1.setCell ⟨q, i, none⟩ v').ownsRow B 33 1 v k xs := fun h' => ownsRow_setCell_below h' h.lt v'
  refine ⟨fun j hj => ?_, fun o => by rw [World.frozen?_setCell, ef]; exact h.frozen o, h.lt, by rw [hz]; exact Nat.le_trans h.le hg2.size, fun j hj => ?_, fun j k hj hk hne => ?_⟩
  · by_cases e : j = i
    · subst e
      rw [upd_same]
      exact World.cell?_setCell_same _ _ _ ((ec j).trans (h.cell j hj))
    · rw [upd_other _ _ e, World.cell?_setCell_other _ _ _ _ (by intro e2; cases e2; exact e rfl), ec]
      exact h.cell j hj
  · by_cases e : j = i
    · subst e
      rw [upd_same, upd_same, List.replicate_succ']
      exact hrow hown
    · rw [upd_other _ _ e, upd_other _ _ e]
      exact hrow ((h.own j hj).kept hg2 (h.apart j i hj hi e))
  · have hlt : ∀ m, m < 4 → (s m).ownBlock ≠ some (w.heap.size + 1) := by
      intro m hm e2
      have := ((h.own m hm).lt _ e2).2
      omega
    by_cases e1 : j = i
    · subst e1
      rw [upd_same, upd_other _ _ (Ne.symm hne)]
      rcases hb with hb | hb
      · rw [hb]; exact h.apart j k hj hk hne
      · rw [hb]; exact .inr (Ne.symm (hlt k hk))
    · rw [upd_other _ _ e1]
      by_cases e2 : k = i
      · subst e2
        rw [upd_same]
        rcases hb with hb | hb
        · rw [hb]; exact h.apart j k hj hk hne
        · rw [hb]; exact .inr (hlt j hj)
      · rw [upd_other _ _ e2]; exact h.apart j k hj hk hne
theorem own_slice {w : World} {B : Nat} {e : TypeId} {s : Nat} {v : Value} {n : Nat} {xs : List Value} (h : w.ownsRow B e s v (n + 1) xs) : ∃ g cap, v = .slice (some ⟨g, 0, none⟩) (n + 1) cap := by
  obtain ⟨_, ⟨_, h0⟩ | ⟨g, cap, _, h1, _⟩⟩ := h
  · cases h0
  · exact ⟨g, cap, h1⟩
theorem St.congr {w : World} {B q : Nat} {s : Nat → Value} {n n' a : Nat → Nat} (h : St w B q s n a) (he : ∀ i, i < 4 → n' i = n i) : St w B q s n' a :=
  ⟨h.cell, h.frozen, h.lt, h.le, fun i hi => by rw [he i hi]; exact h.own i hi, h.apart⟩
def fa (a1 a2 a3 a4 : Nat) (i : Nat) : Nat := if i = 0 then a1 else if i = 1 then a2 else if i = 2 then a3 else a4
/-- A rod whose lists lie in rows of their own, in whatever order. -/
def Lo4 (w : World) (B N : Nat) (v1 v2 v3 v4 : Value) (R : Rl) : Prop := (B ≤ N ∧ N ≤ w.heap.size) ∧ OSl w B N v1 R.a ∧ OSl w B N v2 R.b ∧ OSl w B N v3 R.c ∧ OSl w B N v4 R.d
theorem Lo4.rod {w : World} {B N : Nat} {v1 v2 v3 v4 : Value} {R : Rl} (h : Lo4 w B N v1 v2 v3 v4 R) : Rod4 w v1 v2 v3 v4 R := ⟨h.2.1.fsl, h.2.2.1.fsl, h.2.2.2.1.fsl, h.2.2.2.2.fsl⟩
theorem Lo4.frame {w w' : World} {B N C D : Nat} {v1 v2 v3 v4 : Value} {R : Rl} (h : Lo4 w C D v1 v2 v3 v4 R) (hf : Frm B N w w') (hs : D ≤ B ∨ N ≤ C) : Lo4 w' C D v1 v2 v3 v4 R := by
  obtain ⟨⟨h1, h2⟩, k1, k2, k3, k4⟩ := h
  exact ⟨⟨h1, Nat.le_trans h2 hf.size⟩, k1.frame hf hs, k2.frame hf hs, k3.frame hf hs, k4.frame hf hs⟩
theorem Lo4.below {w w' : World} {C D : Nat} {v1 v2 v3 v4 : Value} {R : Rl} (h : Lo4 w C D v1 v2 v3 v4 R) (hb : Below w.heap.size w w') : Lo4 w' C D v1 v2 v3 v4 R :=
  h.frame (Frm.of (B := D) (N := D) hb) (.inl (Nat.le_refl _))
theorem own4_lo {w : World} {B1 B2 B3 B4 B5 : Nat} {v1 v2 v3 v4 : Value} {R : Rl} (h : Own4 w B1 B2 B3 B4 B5 v1 v2 v3 v4 R) : Lo4 w B1 B5 v1 v2 v3 v4 R := by
  obtain ⟨⟨h1, h2, h3, h4, h5⟩, k1, k2, k3, k4⟩ := h
  exact ⟨⟨by omega, h5⟩, k1.up (Nat.le_refl _) (by omega) h5, k2.up h1 (by omega) h5, k3.up (by omega) (by omega) h5, k4.up (by omega) (Nat.le_refl _) h5⟩
/-- The call returns a rod of its own, its lists in whatever order. -/
def LBod (w : World) (ok : Bool) (R : Rl) (e : Ending) (w' : World) : Prop :=
  ∃ a0 c0 a1 c1 a2 c2 a3 c3 B N, e = .returned (.tuple #[.agg #[.slice a0 R.a.length c0, .slice a1 R.b.length c1, .slice a2 R.c.length c2, .slice a3 R.d.length c3], .bool ok]) ∧ Lo4 w' B N (.slice a0 R.a.length c0) (.slice a1 R.b.length c1) (.slice a2 R.c.length c2) (.slice a3 R.d.length c3) R ∧ w.heap.size ≤ B ∧ Below w.heap.size w w'
theorem osl_grown {w : World} {B n a : Nat} {v : Value} (ha : a < 2 ^ FloatKind.f32.format.width) (h : w.ownsRow B 33 1 v n (List.replicate n (.float .f32 a))) : OSl w B w.heap.size v (List.replicate n a) :=
  osl_own (n := n) (by simpa using h) (by simp) (fun b hb => by rw [List.eq_of_mem_replicate hb]; exact ha)
set_option maxHeartbeats 16000000 in
theorem l02Plain_any (n : Nat) (n1 : 1 ≤ n) (n2 : n ≤ 48) (a1 a2 a3 a4 : Nat) (h1 : a1 < 2 ^ FloatKind.f32.format.width) (h2 : a2 < 2 ^ FloatKind.f32.format.width) (h3 : a3 < 2 ^ FloatKind.f32.format.width) (h4 : a4 < 2 ^ FloatKind.f32.format.width) (w : World) :
    Calls Try.prog 28 #[.int .i64 (n : Int), .float .f32 a1, .float .f32 a2, .float .f32 a3, .float .f32 a4] w fun e w' => ∃ b1 c1 b2 c2 b3 c3 b4 c4 B N, e = .returned (.agg #[.slice b1 n c1, .slice b2 n c2, .slice b3 n c3, .slice b4 n c4]) ∧ Lo4 w' B N (.slice b1 n c1) (.slice b2 n c2) (.slice b3 n c3) (.slice b4 n c4) (plainR n a1 a2 a3 a4) ∧ w.heap.size ≤ B ∧ Below w.heap.size w w' := by
  obtain ⟨i0, hi, hz0, hz1, hz2⟩ := info_parts infoF
  have E0 : Below (w.heap.size + 1) (w.alloc (.cells #[.slice none 0 0, .slice none 0 0, .slice none 0 0, .slice none 0 0] 26)) ((w.alloc (.cells #[.slice none 0 0, .slice none 0 0, .slice none 0 0, .slice none 0 0] 26)).alloc (.cells #[.slice none 0 0, .slice none 0 0, .slice none 0 0, .slice none 0 0] 26)) := (Below.refl _ _).alloc (by simp) _
  have S0 : St ((w.alloc (.cells #[.slice none 0 0, .slice none 0 0, .slice none 0 0, .slice none 0 0] 26)).alloc (.cells #[.slice none 0 0, .slice none 0 0, .slice none 0 0, .slice none 0 0] 26)) (w.heap.size + 2) (w.heap.size + 1) (fun _ => .slice none 0 0) (fun _ => 0) (fa a1 a2 a3 a4) := by
    have hb := box4_alloc (w.alloc (.cells #[.slice none 0 0, .slice none 0 0, .slice none 0 0, .slice none 0 0] 26)) 26 (.slice none 0 0) (.slice none 0 0) (.slice none 0 0) (.slice none 0 0)
    rw [show (w.alloc (.cells #[.slice none 0 0, .slice none 0 0, .slice none 0 0, .slice none 0 0] 26)).heap.size = w.heap.size + 1 by simp] at hb
    refine ⟨fun i hi => ?_, hb.2.1, by omega, by simp, fun i _ => World.ownsRow_nil _ _ _ _, fun _ _ _ _ _ => .inl rfl⟩
    match i, hi with
    | 0, _ => exact hb.1.1
    | 1, _ => exact hb.1.2.1
    | 2, _ => exact hb.1.2.2.1
    | 3, _ => exact hb.1.2.2.2
  have hbZ := box4_alloc w 26 (.slice none 0 0) (.slice none 0 0) (.slice none 0 0) (.slice none 0 0)
  go_enter Try.func28, Try.ntmps28
  go_wp2_with fail
  go_simp
  go_loopw [12] (fun i wr => ∃ (k : Nat) (s : Nat → Value), k ≤ n ∧ i = .int .i64 (k : Int) ∧ Hid (St wr (w.heap.size + 2) (w.heap.size + 1) s (fun _ => k) (fa a1 a2 a3 a4)) ∧ Below (w.heap.size + 1) (w.alloc (.cells #[.slice none 0 0, .slice none 0 0, .slice none 0 0, .slice none 0 0] 26)) wr) (fun i _ => n - (intOf i).toNat)
  case atStart => exact ⟨0, _, Nat.zero_le _, rfl, Lib.hid S0, E0⟩
  case round =>
    clear S0 E0
    obtain ⟨k, s, hk, rfl, hS, hE⟩ := hrel
    have hle := hS.out.le
    by_cases hlt : k < n
    · have hi1 : (k : Int) < (n : Int) := by omega
      have c0 : wr.cell? ⟨w.heap.size + 1, 0, none⟩ = some (s 0) := hS.out.cell 0 (by omega)
      have f0 : wr.frozen? ⟨w.heap.size + 1, 0, none⟩ = false := hS.out.frozen 0
      have o0 : wr.ownsRow (w.heap.size + 2) 33 1 (s 0) k (List.replicate k (.float .f32 a1)) := hS.out.own 0 (by omega)
      go_wp2_with (first | (at_builtin; refine wpList_append_own_at _ rfl (.tmp 20) (.tmp 22) 22 rfl (w.heap.size + 2) 33 i0 (.float .f32 0) 1 4 Try.underlying22 hi hz0 hz1 hz2 rfl (by decide) _ _ _ rfl (own_heap (o0.alloc (.cells #[.float .f32 a1] 33)) rfl) _ 1 _ [.float .f32 a1] rfl rfl ?c1 ?c2 ?c3 ?c4 ?c5 ?_))
      case c1 =>
        intro j u hj
        match j, hj with
        | 0, hj => simp at hj; subst hj; exact cell_new0 rfl
      case c2 => intro u hu; simp at hu; subst hu; rfl
      case c3 => unfold maxLen; omega
      case c4 => omega
      case c5 => simp; omega
      intro v0 w0 hown hgrow _ hblk
      obtain ⟨g0, cap0, rfl⟩ := own_slice hown
      have hS0 := Lib.hid (hS.out.step (i := 0) (by omega) hown hgrow (by simpa using hblk : (Value.slice (some ⟨g0, 0, none⟩) (k + 1) cap0).ownBlock = (s 0).ownBlock ∨ (Value.slice (some ⟨g0, 0, none⟩) (k + 1) cap0).ownBlock = some (wr.heap.size + 1)))
      have hE0 : Below (w.heap.size + 1) _ w0 := Below.grown (hE.alloc (by omega) _) hgrow (by simp; omega) (fun g hg => by have := (o0.lt g hg).1; omega)
      have q0 : w0.heap[w.heap.size + 1]? = wr.heap[w.heap.size + 1]? := (grown_alloc hgrow).block _ (by omega) (fun e => by have := (o0.lt _ e.symm).1; omega)
      have cw0 : w0.cell? ⟨w.heap.size + 1, 0, none⟩ = some (s 0) := (World.cell?_of_block (a := ⟨w.heap.size + 1, 0, none⟩) q0).trans c0
      have fw0 : w0.frozen? ⟨w.heap.size + 1, 0, none⟩ = false := (World.frozen?_of_block (a := ⟨w.heap.size + 1, 0, none⟩) q0).trans f0
      replace hE := hE0.setCell (p := ⟨w.heap.size + 1, 0, none⟩) (Nat.le_refl _) (.slice (some ⟨g0, 0, none⟩) (k + 1) cap0)
      replace hle := hS0.out.le
      clear hown hgrow hblk hE0 q0 c0 f0 o0
      go_upto_region 6 with fail
      clear cw0 fw0
      generalize w0.setCell ⟨w.heap.size + 1, 0, none⟩ (.slice (some ⟨g0, 0, none⟩) (k + 1) cap0) = y1 at *
      have c1 : y1.cell? ⟨w.heap.size + 1, 1, none⟩ = some (s 1) := hS0.out.cell 1 (by omega)
      have f1 : y1.frozen? ⟨w.heap.size + 1, 1, none⟩ = false := hS0.out.frozen 1
      have o1 : y1.ownsRow (w.heap.size + 2) 33 1 (s 1) k (List.replicate k (.float .f32 a2)) := hS0.out.own 1 (by omega)
      go_wp2_with (first | (at_builtin; refine wpList_append_own_at _ rfl (.tmp 26) (.tmp 28) 22 rfl (w.heap.size + 2) 33 i0 (.float .f32 0) 1 4 Try.underlying22 hi hz0 hz1 hz2 rfl (by decide) _ _ _ rfl (own_heap (o1.alloc (.cells #[.float .f32 a2] 33)) rfl) _ 1 _ [.float .f32 a2] rfl rfl ?c1 ?c2 ?c3 ?c4 ?c5 ?_))
      case c1 =>
        intro j u hj
        match j, hj with
        | 0, hj => simp at hj; subst hj; exact cell_new0 rfl
      case c2 => intro u hu; simp at hu; subst hu; rfl
      case c3 => unfold maxLen; omega
      case c4 => omega
      case c5 => simp; omega
      intro v1 w1 hown hgrow _ hblk
      obtain ⟨g1, cap1, rfl⟩ := own_slice hown
      have hS1 := Lib.hid (hS0.out.step (i := 1) (by omega) hown hgrow (by simpa using hblk : (Value.slice (some ⟨g1, 0, none⟩) (k + 1) cap1).ownBlock = (s 1).ownBlock ∨ (Value.slice (some ⟨g1, 0, none⟩) (k + 1) cap1).ownBlock = some (y1.heap.size + 1)))
      have hE1 : Below (w.heap.size + 1) _ w1 := Below.grown (hE.alloc (by omega) _) hgrow (by simp; omega) (fun g hg => by have := (o1.lt g hg).1; omega)
      have q1 : w1.heap[w.heap.size + 1]? = y1.heap[w.heap.size + 1]? := (grown_alloc hgrow).block _ (by omega) (fun e => by have := (o1.lt _ e.symm).1; omega)
      have cw1 : w1.cell? ⟨w.heap.size + 1, 1, none⟩ = some (s 1) := (World.cell?_of_block (a := ⟨w.heap.size + 1, 1, none⟩) q1).trans c1
      have fw1 : w1.frozen? ⟨w.heap.size + 1, 1, none⟩ = false := (World.frozen?_of_block (a := ⟨w.heap.size + 1, 1, none⟩) q1).trans f1
      replace hE := hE1.setCell (p := ⟨w.heap.size + 1, 1, none⟩) (Nat.le_refl _) (.slice (some ⟨g1, 0, none⟩) (k + 1) cap1)
      replace hle := hS1.out.le
      clear hown hgrow hblk hE1 q1 c1 f1 o1
      go_upto_region 7 with fail
      clear cw1 fw1
      generalize w1.setCell ⟨w.heap.size + 1, 1, none⟩ (.slice (some ⟨g1, 0, none⟩) (k + 1) cap1) = y2 at *
      have c2 : y2.cell? ⟨w.heap.size + 1, 2, none⟩ = some (s 2) := hS1.out.cell 2 (by omega)
      have f2 : y2.frozen? ⟨w.heap.size + 1, 2, none⟩ = false := hS1.out.frozen 2
      have o2 : y2.ownsRow (w.heap.size + 2) 33 1 (s 2) k (List.replicate k (.float .f32 a3)) := hS1.out.own 2 (by omega)
      go_wp2_with (first | (at_builtin; refine wpList_append_own_at _ rfl (.tmp 32) (.tmp 34) 22 rfl (w.heap.size + 2) 33 i0 (.float .f32 0) 1 4 Try.underlying22 hi hz0 hz1 hz2 rfl (by decide) _ _ _ rfl (own_heap (o2.alloc (.cells #[.float .f32 a3] 33)) rfl) _ 1 _ [.float .f32 a3] rfl rfl ?c1 ?c2 ?c3 ?c4 ?c5 ?_))
      case c1 =>
        intro j u hj
        match j, hj with
        | 0, hj => simp at hj; subst hj; exact cell_new0 rfl
      case c2 => intro u hu; simp at hu; subst hu; rfl
      case c3 => unfold maxLen; omega
      case c4 => omega
      case c5 => simp; omega
      intro v2 w2 hown hgrow _ hblk
      obtain ⟨g2, cap2, rfl⟩ := own_slice hown
      have hS2 := Lib.hid (hS1.out.step (i := 2) (by omega) hown hgrow (by simpa using hblk : (Value.slice (some ⟨g2, 0, none⟩) (k + 1) cap2).ownBlock = (s 2).ownBlock ∨ (Value.slice (some ⟨g2, 0, none⟩) (k + 1) cap2).ownBlock = some (y2.heap.size + 1)))
      have hE2 : Below (w.heap.size + 1) _ w2 := Below.grown (hE.alloc (by omega) _) hgrow (by simp; omega) (fun g hg => by have := (o2.lt g hg).1; omega)
      have q2 : w2.heap[w.heap.size + 1]? = y2.heap[w.heap.size + 1]? := (grown_alloc hgrow).block _ (by omega) (fun e => by have := (o2.lt _ e.symm).1; omega)
      have cw2 : w2.cell? ⟨w.heap.size + 1, 2, none⟩ = some (s 2) := (World.cell?_of_block (a := ⟨w.heap.size + 1, 2, none⟩) q2).trans c2
      have fw2 : w2.frozen? ⟨w.heap.size + 1, 2, none⟩ = false := (World.frozen?_of_block (a := ⟨w.heap.size + 1, 2, none⟩) q2).trans f2
      replace hE := hE2.setCell (p := ⟨w.heap.size + 1, 2, none⟩) (Nat.le_refl _) (.slice (some ⟨g2, 0, none⟩) (k + 1) cap2)
      replace hle := hS2.out.le
      clear hown hgrow hblk hE2 q2 c2 f2 o2
      go_upto_region 8 with fail
      clear cw2 fw2
      generalize w2.setCell ⟨w.heap.size + 1, 2, none⟩ (.slice (some ⟨g2, 0, none⟩) (k + 1) cap2) = y3 at *
      have c3 : y3.cell? ⟨w.heap.size + 1, 3, none⟩ = some (s 3) := hS2.out.cell 3 (by omega)
      have f3 : y3.frozen? ⟨w.heap.size + 1, 3, none⟩ = false := hS2.out.frozen 3
      have o3 : y3.ownsRow (w.heap.size + 2) 33 1 (s 3) k (List.replicate k (.float .f32 a4)) := hS2.out.own 3 (by omega)
      go_wp2_with (first | (at_builtin; refine wpList_append_own_at _ rfl (.tmp 38) (.tmp 40) 22 rfl (w.heap.size + 2) 33 i0 (.float .f32 0) 1 4 Try.underlying22 hi hz0 hz1 hz2 rfl (by decide) _ _ _ rfl (own_heap (o3.alloc (.cells #[.float .f32 a4] 33)) rfl) _ 1 _ [.float .f32 a4] rfl rfl ?c1 ?c2 ?c3 ?c4 ?c5 ?_))
      case c1 =>
        intro j u hj
        match j, hj with
        | 0, hj => simp at hj; subst hj; exact cell_new0 rfl
      case c2 => intro u hu; simp at hu; subst hu; rfl
      case c3 => unfold maxLen; omega
      case c4 => omega
      case c5 => simp; omega
      intro v3 w3 hown hgrow _ hblk
      obtain ⟨g3, cap3, rfl⟩ := own_slice hown
      have hS3 := Lib.hid (hS2.out.step (i := 3) (by omega) hown hgrow (by simpa using hblk : (Value.slice (some ⟨g3, 0, none⟩) (k + 1) cap3).ownBlock = (s 3).ownBlock ∨ (Value.slice (some ⟨g3, 0, none⟩) (k + 1) cap3).ownBlock = some (y3.heap.size + 1)))
      have hE3 : Below (w.heap.size + 1) _ w3 := Below.grown (hE.alloc (by omega) _) hgrow (by simp; omega) (fun g hg => by have := (o3.lt g hg).1; omega)
      have q3 : w3.heap[w.heap.size + 1]? = y3.heap[w.heap.size + 1]? := (grown_alloc hgrow).block _ (by omega) (fun e => by have := (o3.lt _ e.symm).1; omega)
      have cw3 : w3.cell? ⟨w.heap.size + 1, 3, none⟩ = some (s 3) := (World.cell?_of_block (a := ⟨w.heap.size + 1, 3, none⟩) q3).trans c3
      have fw3 : w3.frozen? ⟨w.heap.size + 1, 3, none⟩ = false := (World.frozen?_of_block (a := ⟨w.heap.size + 1, 3, none⟩) q3).trans f3
      replace hE := hE3.setCell (p := ⟨w.heap.size + 1, 3, none⟩) (Nat.le_refl _) (.slice (some ⟨g3, 0, none⟩) (k + 1) cap3)
      replace hle := hS3.out.le
      clear hown hgrow hblk hE3 q3 c3 f3 o3
      go_wp2_with fail
      go_roundw
      case rel => exact ⟨k + 1, _, by omega, by go_num, Lib.hid (hS3.out.congr (fun i hi => by match i, hi with | 0, _ => rfl | 1, _ => rfl | 2, _ => rfl | 3, _ => rfl)), hE⟩
      case measure => simp [intOf]; omega
    · obtain rfl : k = n := by omega
      obtain ⟨m, rfl⟩ : ∃ m, k = m + 1 := ⟨k - 1, by omega⟩
      have o0 : wr.ownsRow (w.heap.size + 2) 33 1 (s 0) (m + 1) (List.replicate (m + 1) (.float .f32 a1)) := hS.out.own 0 (by omega)
      have o1 : wr.ownsRow (w.heap.size + 2) 33 1 (s 1) (m + 1) (List.replicate (m + 1) (.float .f32 a2)) := hS.out.own 1 (by omega)
      have o2 : wr.ownsRow (w.heap.size + 2) 33 1 (s 2) (m + 1) (List.replicate (m + 1) (.float .f32 a3)) := hS.out.own 2 (by omega)
      have o3 : wr.ownsRow (w.heap.size + 2) 33 1 (s 3) (m + 1) (List.replicate (m + 1) (.float .f32 a4)) := hS.out.own 3 (by omega)
      have c0 := hS.out.cell 0 (by omega)
      have c1 := hS.out.cell 1 (by omega)
      have c2 := hS.out.cell 2 (by omega)
      have c3 := hS.out.cell 3 (by omega)
      obtain ⟨g0, p0, e0⟩ := own_slice o0
      obtain ⟨g1, p1, e1⟩ := own_slice o1
      obtain ⟨g2, p2, e2⟩ := own_slice o2
      obtain ⟨g3, p3, e3⟩ := own_slice o3
      rw [e0] at c0 o0
      rw [e1] at c1 o1
      rw [e2] at c2 o2
      rw [e3] at c3 o3
      clear e0 e1 e2 e3
      have ed : ∀ o, wr.cell? ⟨w.heap.size, o, none⟩ = (w.alloc (.cells #[.slice none 0 0, .slice none 0 0, .slice none 0 0, .slice none 0 0] 26)).cell? ⟨w.heap.size, o, none⟩ := fun o => hE.cell (p := ⟨w.heap.size, o, none⟩) (Nat.lt_succ_self _)
      have ef : ∀ o, wr.frozen? ⟨w.heap.size, o, none⟩ = (w.alloc (.cells #[.slice none 0 0, .slice none 0 0, .slice none 0 0, .slice none 0 0] 26)).frozen? ⟨w.heap.size, o, none⟩ := fun o => hE.frozen (p := ⟨w.heap.size, o, none⟩) (Nat.lt_succ_self _)
      obtain ⟨⟨b0, b1, b2, b3⟩, bf, bl⟩ := hbZ
      have z0 := (ed 0).trans b0
      have z1 := (ed 1).trans b1
      have z2 := (ed 2).trans b2
      have z3 := (ed 3).trans b3
      have zf : ∀ o, wr.frozen? ⟨w.heap.size, o, none⟩ = false := fun o => (ef o).trans (bf o)
      have zl : w.heap.size < wr.heap.size := by omega
      have O0 := osl_grown h1 o0
      have O1 := osl_grown h2 o1
      have O2 := osl_grown h3 o2
      have O3 := osl_grown h4 o3
      have D : Below w.heap.size w wr := ((Below.refl w.heap.size w).alloc (Nat.le_refl _) _).trans (hE.mono (Nat.le_succ _))
      clear ed ef b0 b1 b2 b3 bf bl o0 o1 o2 o3 hE hS
      go_wp2_with fail
      refine bodyPost_ret (v := .agg #[.slice (some ⟨g0, 0, none⟩) (m + 1) p0, .slice (some ⟨g1, 0, none⟩) (m + 1) p1, .slice (some ⟨g2, 0, none⟩) (m + 1) p2, .slice (some ⟨g3, 0, none⟩) (m + 1) p3]) (by simp [results, Try.results28, go_sem, z0, z1, z2, z3, zf, zl]) rfl ?_
      have FF := ((((Frm.refl w.heap.size (w.heap.size + 1) wr).set (a := ⟨w.heap.size, 0, none⟩) (Nat.le_refl _) (Nat.lt_succ_self _) (.slice (some ⟨g0, 0, none⟩) (m + 1) p0)).set (a := ⟨w.heap.size, 1, none⟩) (Nat.le_refl _) (Nat.lt_succ_self _) (.slice (some ⟨g1, 0, none⟩) (m + 1) p1)).set (a := ⟨w.heap.size, 2, none⟩) (Nat.le_refl _) (Nat.lt_succ_self _) (.slice (some ⟨g2, 0, none⟩) (m + 1) p2)).set (a := ⟨w.heap.size, 3, none⟩) (Nat.le_refl _) (Nat.lt_succ_self _) (.slice (some ⟨g3, 0, none⟩) (m + 1) p3)
      refine ⟨_, _, _, _, _, _, _, _, w.heap.size + 2, wr.heap.size, rfl, ⟨⟨hle, FF.size⟩, ?_, ?_, ?_, ?_⟩, by omega, ?_⟩
      · exact OSf.frame O0 FF (by omega)
      · exact OSf.frame O1 FF (by omega)
      · exact OSf.frame O2 FF (by omega)
      · exact OSf.frame O3 FF (by omega)
      · exact D.trans ((FF.below (by omega)).mono (by omega))
theorem plain_rep {n a1 a2 a3 a4 : Nat} {w' : World} {B N : Nat} {b1 b2 b3 b4 : Option Addr} {c1 c2 c3 c4 : Nat} (h : Lo4 w' B N (.slice b1 n c1) (.slice b2 n c2) (.slice b3 n c3) (.slice b4 n c4) (plainR n a1 a2 a3 a4)) :
    Lo4 w' B N (.slice b1 (plainR n a1 a2 a3 a4).a.length c1) (.slice b2 (plainR n a1 a2 a3 a4).b.length c2) (.slice b3 (plainR n a1 a2 a3 a4).c.length c3) (.slice b4 (plainR n a1 a2 a3 a4).d.length c4) (plainR n a1 a2 a3 a4) := by
  have e1 : (plainR n a1 a2 a3 a4).a.length = n := List.length_replicate
  have e2 : (plainR n a1 a2 a3 a4).b.length = n := List.length_replicate
  have e3 : (plainR n a1 a2 a3 a4).c.length = n := List.length_replicate
  have e4 : (plainR n a1 a2 a3 a4).d.length = n := List.length_replicate
  rw [e1, e2, e3, e4]
  exact h
set_option maxHeartbeats 8000000 in
theorem sPlainRod_any (c : Int) (a1 a2 a3 a4 : Nat) (h1 : a1 < 2 ^ FloatKind.f32.format.width) (h2 : a2 < 2 ^ FloatKind.f32.format.width) (h3 : a3 < 2 ^ FloatKind.f32.format.width) (h4 : a4 < 2 ^ FloatKind.f32.format.width) (w : World) :
    Calls Try.prog 13 #[.int .i64 c, .float .f32 a1, .float .f32 a2, .float .f32 a3, .float .f32 a4] w (LBod w (inR c && okRod (plainR c.toNat a1 a2 a3 a4)) (if inR c && okRod (plainR c.toNat a1 a2 a3 a4) then plainR c.toNat a1 a2 a3 a4 else zeroR)) := by
  have D1 : Below w.heap.size w (w.alloc (.cells #[.slice none 0 0, .slice none 0 0, .slice none 0 0, .slice none 0 0] 26)) := by (repeat' first | assumption | exact Below.refl _ _ | refine B_drew ?_ _ | refine Below.drew ?_ | refine Below.alloc ?_ (by first | exact Nat.le_refl _ | (simp; done) | (simp; omega)) _)
  have zz : ∀ (w' : World), w.heap.size ≤ w'.heap.size → Below w.heap.size w w' → LBod w false zeroR (.returned (.tuple #[.agg #[.slice none 0 0, .slice none 0 0, .slice none 0 0, .slice none 0 0], .bool false])) w' := fun w' hz hb => ⟨none, 0, none, 0, none, 0, none, 0, w.heap.size, w.heap.size, rfl, own4_lo (own4_zero hz), Nat.le_refl _, hb⟩
  cases hin : inR c
  · have HW := Lib.hid (fun w' => show Calls Try.prog 26 #[.int .i64 c, .int .i64 1, .int .i64 48] w' fun e w'' => e = .returned (.bool false) ∧ w' = w'' from by have := l00In_pl c w'; rw [hin] at this; exact this)
    simp only [Bool.false_and, Bool.false_eq_true, if_false]
    have ZZ := Lib.hid zz
    clear hin zz
    go_enter Try.func13, Try.ntmps13
    go_wp2_with fail
    refine (HW.out _).mono ?_
    rintro e w1 ⟨rfl, rfl⟩
    go_wp2_with fail
    refine bodyPost_ret (v := .tuple #[.agg #[.slice none 0 0, .slice none 0 0, .slice none 0 0, .slice none 0 0], .bool false]) (by simp [results, Try.results13, go_sem, *]) rfl ?_
    refine ZZ.out _ ?_ ?_
    · simp [World.setCell]
    · repeat (refine Below.setCell ?_ (by first | (simp; done) | (simp; omega)) _)
      exact D1
  · have HW := Lib.hid (fun w' => show Calls Try.prog 26 #[.int .i64 c, .int .i64 1, .int .i64 48] w' fun e w'' => e = .returned (.bool true) ∧ w' = w'' from by have := l00In_pl c w'; rw [hin] at this; exact this)
    obtain ⟨n, rfl, n1, n2⟩ := inR_true hin
    simp only [Bool.true_and, Int.toNat_natCast]
    clear hin
    have ZZ := Lib.hid zz
    clear zz
    have bZ := box4_alloc w 26 (.slice none 0 0) (.slice none 0 0) (.slice none 0 0) (.slice none 0 0)
    have PL := Lib.hid (fun w' => l02Plain_any n n1 n2 a1 a2 a3 a4 h1 h2 h3 h4 w')
    have hg := fun v1 v2 v3 v4 w h => l02Give_any v1 v2 v3 v4 (plainR n a1 a2 a3 a4) w h
    unfold RGive giveV at hg
    have hn0 : (0 : Int) ≤ (n : Int) := by omega
    generalize okRod (plainR n a1 a2 a3 a4) = q at *
    cases q
    all_goals
      simp only [Bool.false_eq_true, if_false, if_true] at hg ⊢
      have HG := Lib.hid hg
      clear hg
      go_enter Try.func13, Try.ntmps13
      go_wp2_with fail
      refine (HW.out _).mono ?_
      rintro e w1 ⟨rfl, rfl⟩
      have hB0 : w.heap.size < (w.alloc (.cells #[.slice none 0 0, .slice none 0 0, .slice none 0 0, .slice none 0 0] 26)).heap.size := bZ.2.2
      go_wp2_with fail
      generalize w.alloc (.cells #[.slice none 0 0, .slice none 0 0, .slice none 0 0, .slice none 0 0] 26) = W at *
      refine (PL.out _).mono ?_
      rintro e x1 ⟨b1', c1', b2', c2', b3', c3', b4', c4', B, N, rfl, hlo, hBW, k1⟩
      replace bZ := bZ.below k1
      replace D1 := B_trans D1 k1
      have s1 := k1.size
      go_wp2_with fail
      refine (HG.out _ _ _ _ x1 hlo.rod).mono ?_
      rintro e x5 ⟨rfl, k5⟩
      replace bZ := bZ.below k5
      replace D1 := B_trans D1 k5
      replace hlo := hlo.below k5
      have s5 := k5.size
      clear k1 k5 PL HG
      obtain ⟨⟨z0, z1, z2, z3⟩, zf, zl⟩ := bZ
      go_wp2_with fail
    · refine bodyPost_ret (v := .tuple #[.agg #[.slice none 0 0, .slice none 0 0, .slice none 0 0, .slice none 0 0], .bool false]) (by simp [results, Try.results13, go_sem, z0, z1, z2, z3, zf, zl]) rfl ?_
      refine ZZ.out _ ?_ ?_
      · simp [World.setCell]; omega
      · repeat (refine Below.setCell ?_ (by first | (simp; done) | (simp; omega)) _)
        exact D1
    · refine bodyPost_ret (v := .tuple #[.agg #[.slice b1' n c1', .slice b2' n c2', .slice b3' n c3', .slice b4' n c4'], .bool true]) (by simp [results, Try.results13, go_sem, z0, z1, z2, z3, zf, zl]) rfl ?_
      have FF := ((((Frm.refl w.heap.size (w.heap.size + 1) x5).set (a := ⟨w.heap.size, 0, none⟩) (Nat.le_refl _) (Nat.lt_succ_self _) (.slice b1' n c1')).set (a := ⟨w.heap.size, 1, none⟩) (Nat.le_refl _) (Nat.lt_succ_self _) (.slice b2' n c2')).set (a := ⟨w.heap.size, 2, none⟩) (Nat.le_refl _) (Nat.lt_succ_self _) (.slice b3' n c3')).set (a := ⟨w.heap.size, 3, none⟩) (Nat.le_refl _) (Nat.lt_succ_self _) (.slice b4' n c4')
      exact ⟨_, _, _, _, _, _, _, _, B, N, by simp [plainR], plain_rep (hlo.frame FF (by omega)), by omega, D1.trans (FF.below (by omega))⟩
theorem small_plain {n a b c d : Nat} (h : n ≤ 48) : (plainR n a b c d).small := by
  refine ⟨?_, ?_, ?_, ?_⟩ <;> simp [plainR] <;> omega
end Go.Proofs.Ytiolmffcmbcgmaa
