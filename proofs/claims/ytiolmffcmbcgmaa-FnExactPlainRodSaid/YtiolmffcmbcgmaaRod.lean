/-
  Contracts on rods: their size, copies, comparison.
-/
import Derived.Test.YtiolmffcmbcgmaaEnd
import Derived.Test.YtiolmffcmbcgmaaVend
namespace Go.Proofs.Ytiolmffcmbcgmaa
set_option linter.unusedVariables false
set_option linter.unusedSimpArgs false
open Go.RowKit Fl
attribute [local go_sem] run_store_float

/-- A box of four values, that may be written. -/
def Box4 (w : World) (b : Nat) (x0 x1 x2 x3 : Value) : Prop :=
  (w.cell? ⟨b, 0, none⟩ = some x0 ∧ w.cell? ⟨b, 1, none⟩ = some x1 ∧ w.cell? ⟨b, 2, none⟩ = some x2 ∧ w.cell? ⟨b, 3, none⟩ = some x3) ∧ (∀ o, w.frozen? ⟨b, o, none⟩ = false) ∧ b < w.heap.size
theorem box4_row {w : World} {b : Nat} {t : TypeId} {f : Nat → Value} (h : w.rowIs b t 4 f) : Box4 w b (f 0) (f 1) (f 2) (f 3) :=
  ⟨⟨h.cell (by omega), h.cell (by omega), h.cell (by omega), h.cell (by omega)⟩, fun o => h.frozen o, h.lt⟩
theorem box4_alloc (w : World) (t : TypeId) (x0 x1 x2 x3 : Value) : Box4 (w.alloc (.cells #[x0, x1, x2, x3] t)) w.heap.size x0 x1 x2 x3 :=
  box4_row (World.rowIs_alloc w #[x0, x1, x2, x3] t (fun i => #[x0, x1, x2, x3].getD i x0) (fun i hi => by
    have : i < 4 := hi
    match i, this with
    | 0, _ => rfl
    | 1, _ => rfl
    | 2, _ => rfl
    | 3, _ => rfl))
theorem Box4.below {w w' : World} {b : Nat} {x0 x1 x2 x3 : Value} (h : Box4 w b x0 x1 x2 x3) (hb : Below w.heap.size w w') : Box4 w' b x0 x1 x2 x3 := by
  obtain ⟨⟨h0, h1, h2, h3⟩, hf, hl⟩ := h
  have e : ∀ o, w'.cell? ⟨b, o, none⟩ = w.cell? ⟨b, o, none⟩ := fun o => hb.cell (p := ⟨b, o, none⟩) hl
  exact ⟨⟨by rw [e]; exact h0, by rw [e]; exact h1, by rw [e]; exact h2, by rw [e]; exact h3⟩, fun o => by rw [hb.frozen (p := ⟨b, o, none⟩) hl]; exact hf o, Nat.lt_of_lt_of_le hl hb.size⟩
theorem Box4.alloc {w : World} {b : Nat} {x0 x1 x2 x3 : Value} (h : Box4 w b x0 x1 x2 x3) (o : Obj) : Box4 (w.alloc o) b x0 x1 x2 x3 := h.below ((Below.refl _ _).alloc (Nat.le_refl _) o)
theorem Box4.setOther {w : World} {b : Nat} {x0 x1 x2 x3 : Value} (h : Box4 w b x0 x1 x2 x3) {a : Addr} (ha : b ≠ a.block) (v : Value) : Box4 (w.setCell a v) b x0 x1 x2 x3 := by
  obtain ⟨⟨h0, h1, h2, h3⟩, hf, hl⟩ := h
  have eb : (w.setCell a v).heap[b]? = w.heap[b]? := Below.heap_setCell w a v b ha
  have e : ∀ o, (w.setCell a v).cell? ⟨b, o, none⟩ = w.cell? ⟨b, o, none⟩ := fun o => World.cell?_of_block eb
  have e2 : ∀ o, (w.setCell a v).frozen? ⟨b, o, none⟩ = w.frozen? ⟨b, o, none⟩ := fun o => World.frozen?_of_block eb
  exact ⟨⟨by rw [e]; exact h0, by rw [e]; exact h1, by rw [e]; exact h2, by rw [e]; exact h3⟩, fun o => by rw [e2]; exact hf o, by simpa [World.setCell] using hl⟩
theorem Box4.set0 {w : World} {b : Nat} {x0 x1 x2 x3 : Value} (h : Box4 w b x0 x1 x2 x3) (v : Value) : Box4 (w.setCell ⟨b, 0, none⟩ v) b v x1 x2 x3 := by
  obtain ⟨⟨h0, h1, h2, h3⟩, hf, hl⟩ := h
  exact ⟨⟨World.cell?_setCell_same _ _ _ h0, (World.cell?_setCell_other _ _ _ _ (by intro e; cases e)).trans h1, (World.cell?_setCell_other _ _ _ _ (by intro e; cases e)).trans h2, (World.cell?_setCell_other _ _ _ _ (by intro e; cases e)).trans h3⟩, fun o => by rw [World.frozen?_setCell]; exact hf o, by simpa [World.setCell] using hl⟩
theorem Box4.set1 {w : World} {b : Nat} {x0 x1 x2 x3 : Value} (h : Box4 w b x0 x1 x2 x3) (v : Value) : Box4 (w.setCell ⟨b, 1, none⟩ v) b x0 v x2 x3 := by
  obtain ⟨⟨h0, h1, h2, h3⟩, hf, hl⟩ := h
  exact ⟨⟨(World.cell?_setCell_other _ _ _ _ (by intro e; cases e)).trans h0, World.cell?_setCell_same _ _ _ h1, (World.cell?_setCell_other _ _ _ _ (by intro e; cases e)).trans h2, (World.cell?_setCell_other _ _ _ _ (by intro e; cases e)).trans h3⟩, fun o => by rw [World.frozen?_setCell]; exact hf o, by simpa [World.setCell] using hl⟩
theorem Box4.set2 {w : World} {b : Nat} {x0 x1 x2 x3 : Value} (h : Box4 w b x0 x1 x2 x3) (v : Value) : Box4 (w.setCell ⟨b, 2, none⟩ v) b x0 x1 v x3 := by
  obtain ⟨⟨h0, h1, h2, h3⟩, hf, hl⟩ := h
  exact ⟨⟨(World.cell?_setCell_other _ _ _ _ (by intro e; cases e)).trans h0, (World.cell?_setCell_other _ _ _ _ (by intro e; cases e)).trans h1, World.cell?_setCell_same _ _ _ h2, (World.cell?_setCell_other _ _ _ _ (by intro e; cases e)).trans h3⟩, fun o => by rw [World.frozen?_setCell]; exact hf o, by simpa [World.setCell] using hl⟩
theorem Box4.set3 {w : World} {b : Nat} {x0 x1 x2 x3 : Value} (h : Box4 w b x0 x1 x2 x3) (v : Value) : Box4 (w.setCell ⟨b, 3, none⟩ v) b x0 x1 x2 v := by
  obtain ⟨⟨h0, h1, h2, h3⟩, hf, hl⟩ := h
  exact ⟨⟨(World.cell?_setCell_other _ _ _ _ (by intro e; cases e)).trans h0, (World.cell?_setCell_other _ _ _ _ (by intro e; cases e)).trans h1, (World.cell?_setCell_other _ _ _ _ (by intro e; cases e)).trans h2, World.cell?_setCell_same _ _ _ h3⟩, fun o => by rw [World.frozen?_setCell]; exact hf o, by simpa [World.setCell] using hl⟩
/-- The four lists of a rod. -/
structure Rl where
  a : List Nat
  b : List Nat
  c : List Nat
  d : List Nat
/-- Four values are slices of the four lists. -/
def Rod4 (w : World) (v1 v2 v3 v4 : Value) (R : Rl) : Prop := FSl .f32 w v1 R.a ∧ FSl .f32 w v2 R.b ∧ FSl .f32 w v3 R.c ∧ FSl .f32 w v4 R.d
theorem Rod4.below {w w' : World} {v1 v2 v3 v4 : Value} {R : Rl} (h : Rod4 w v1 v2 v3 v4 R) (hb : Below w.heap.size w w') : Rod4 w' v1 v2 v3 v4 R :=
  ⟨h.1.below hb, h.2.1.below hb, h.2.2.1.below hb, h.2.2.2.below hb⟩
theorem Rod4.drewN {w : World} {v1 v2 v3 v4 : Value} {R : Rl} (h : Rod4 w v1 v2 v3 v4 R) (n : Nat) : Rod4 (w.drewN n) v1 v2 v3 v4 R := h.below (below_draws _ _)
def Rl.total (R : Rl) : Nat := R.a.length + R.b.length + R.c.length + R.d.length
def Rl.small (R : Rl) : Prop := R.a.length ≤ 1048576 ∧ R.b.length ≤ 1048576 ∧ R.c.length ≤ 1048576 ∧ R.d.length ≤ 1048576
theorem Rl.small_of {R : Rl} {n : Nat} (h : R.total ≤ n) (hn : n ≤ 1048576) : R.small := by unfold Rl.total at h; unfold Rl.small; omega
def Rl.bits (R : Rl) : Prop := (∀ b ∈ R.a, b < 2 ^ FloatKind.f32.format.width) ∧ (∀ b ∈ R.b, b < 2 ^ FloatKind.f32.format.width) ∧ (∀ b ∈ R.c, b < 2 ^ FloatKind.f32.format.width) ∧ (∀ b ∈ R.d, b < 2 ^ FloatKind.f32.format.width)
theorem Rod4.bits {w : World} {v1 v2 v3 v4 : Value} {R : Rl} (h : Rod4 w v1 v2 v3 v4 R) : R.bits := ⟨h.1.bits, h.2.1.bits, h.2.2.1.bits, h.2.2.2.bits⟩

theorem szF_yes (ao : Option Addr) (n cap : Nat) (left : Int) (hn : n ≤ 9223372036854775807) (h : (n : Int) ≤ left) (hl : left ≤ 1048576) (w : World) :
    Calls Try.prog 20 #[.slice ao n cap, .int .i64 left] w fun e w' => e = .returned (.int .i64 (left - n)) ∧ w' = w := by
  go_enter Try.func20, Try.ntmps20
  go_wp2_with fail
  go_ret
  exact ⟨rfl, rfl⟩
theorem szF_no (ao : Option Addr) (n cap : Nat) (left : Int) (hn : n ≤ 9223372036854775807) (h0 : 0 ≤ left) (h : left < (n : Int)) (hl : left ≤ 1048576) (w : World) :
    Calls Try.prog 20 #[.slice ao n cap, .int .i64 left] w fun e w' => e = .returned (.int .i64 (-1)) ∧ w' = w := by
  go_enter Try.func20, Try.ntmps20
  go_wp2_with fail
  go_ret
  exact ⟨rfl, rfl⟩
set_option maxHeartbeats 1000000 in
theorem szRod_any (v1 v2 v3 v4 : Value) (R : Rl) (left : Int) (h0 : 0 ≤ left) (hl : left ≤ 1048576) (w : World) (h : Rod4 w v1 v2 v3 v4 R) :
    Calls Try.prog 6 #[.agg #[v1, v2, v3, v4], .int .i64 left] w (RetB w (.int .i64 (if (R.total : Int) ≤ left then left - R.total else -1))) := by
  obtain ⟨a1, c1, rfl, m1⟩ := h.1.len
  obtain ⟨a2, c2, rfl, m2⟩ := h.2.1.len
  obtain ⟨a3, c3, rfl, m3⟩ := h.2.2.1.len
  obtain ⟨a4, c4, rfl, m4⟩ := h.2.2.2.len
  clear h
  have ht : (R.total : Int) = R.a.length + R.b.length + R.c.length + R.d.length := by unfold Rl.total; omega
  rw [ht]
  clear ht
  generalize R.a.length = n1 at *
  generalize R.b.length = n2 at *
  generalize R.c.length = n3 at *
  generalize R.d.length = n4 at *
  clear R
  by_cases k1 : (n1 : Int) ≤ left
  · by_cases k2 : (n2 : Int) ≤ left - n1
    · by_cases k3 : (n3 : Int) ≤ left - n1 - n2
      · by_cases k4 : (n4 : Int) ≤ left - n1 - n2 - n3
        · rw [if_pos (by omega)]
          go_enter Try.func6, Try.ntmps6
          go_wp2_with fail
          refine (szF_yes _ _ _ _ m1 k1 hl _).mono ?_
          rintro e w' ⟨rfl, rfl⟩
          go_wp2_with fail
          refine (szF_yes _ _ _ _ m2 k2 (by omega) _).mono ?_
          rintro e w' ⟨rfl, rfl⟩
          go_wp2_with fail
          refine (szF_yes _ _ _ _ m3 k3 (by omega) _).mono ?_
          rintro e w' ⟨rfl, rfl⟩
          go_wp2_with fail
          refine (szF_yes _ _ _ _ m4 k4 (by omega) _).mono ?_
          rintro e w' ⟨rfl, rfl⟩
          go_wp2_with fail
          go_ret
          exact ⟨congrArg (fun x => Ending.returned (Value.int .i64 x)) (by omega), (Below.refl _ _).alloc (Nat.le_refl _) _⟩
        · rw [if_neg (by omega)]
          go_enter Try.func6, Try.ntmps6
          go_wp2_with fail
          refine (szF_yes _ _ _ _ m1 k1 hl _).mono ?_
          rintro e w' ⟨rfl, rfl⟩
          go_wp2_with fail
          refine (szF_yes _ _ _ _ m2 k2 (by omega) _).mono ?_
          rintro e w' ⟨rfl, rfl⟩
          go_wp2_with fail
          refine (szF_yes _ _ _ _ m3 k3 (by omega) _).mono ?_
          rintro e w' ⟨rfl, rfl⟩
          go_wp2_with fail
          refine (szF_no _ _ _ _ m4 (by omega) (by omega) (by omega) _).mono ?_
          rintro e w' ⟨rfl, rfl⟩
          go_wp2_with fail
          go_ret
          exact ⟨rfl, (Below.refl _ _).alloc (Nat.le_refl _) _⟩
      · rw [if_neg (by omega)]
        go_enter Try.func6, Try.ntmps6
        go_wp2_with fail
        refine (szF_yes _ _ _ _ m1 k1 hl _).mono ?_
        rintro e w' ⟨rfl, rfl⟩
        go_wp2_with fail
        refine (szF_yes _ _ _ _ m2 k2 (by omega) _).mono ?_
        rintro e w' ⟨rfl, rfl⟩
        go_wp2_with fail
        refine (szF_no _ _ _ _ m3 (by omega) (by omega) (by omega) _).mono ?_
        rintro e w' ⟨rfl, rfl⟩
        go_wp2_with fail
        go_ret
        exact ⟨rfl, (Below.refl _ _).alloc (Nat.le_refl _) _⟩
    · rw [if_neg (by omega)]
      go_enter Try.func6, Try.ntmps6
      go_wp2_with fail
      refine (szF_yes _ _ _ _ m1 k1 hl _).mono ?_
      rintro e w' ⟨rfl, rfl⟩
      go_wp2_with fail
      refine (szF_no _ _ _ _ m2 (by omega) (by omega) (by omega) _).mono ?_
      rintro e w' ⟨rfl, rfl⟩
      go_wp2_with fail
      go_ret
      exact ⟨rfl, (Below.refl _ _).alloc (Nat.le_refl _) _⟩
  · rw [if_neg (by omega)]
    go_enter Try.func6, Try.ntmps6
    go_wp2_with fail
    refine (szF_no _ _ _ _ m1 (by omega) (by omega) (by omega) _).mono ?_
    rintro e w' ⟨rfl, rfl⟩
    go_wp2_with fail
    go_ret
    exact ⟨rfl, (Below.refl _ _).alloc (Nat.le_refl _) _⟩
/-- The rod whose lists lie in rows of their own. -/
def rodv (g1 g2 g3 g4 : Nat) (R : Rl) : Value := .agg #[.slice (some ⟨g1, 0, none⟩) R.a.length R.a.length, .slice (some ⟨g2, 0, none⟩) R.b.length R.b.length, .slice (some ⟨g3, 0, none⟩) R.c.length R.c.length, .slice (some ⟨g4, 0, none⟩) R.d.length R.d.length]
def Rrow (w : World) (g1 g2 g3 g4 : Nat) (R : Rl) : Prop := w.rowIs g1 33 R.a.length (fcell R.a) ∧ w.rowIs g2 33 R.b.length (fcell R.b) ∧ w.rowIs g3 33 R.c.length (fcell R.c) ∧ w.rowIs g4 33 R.d.length (fcell R.d)
theorem Rrow.rod {w : World} {g1 g2 g3 g4 : Nat} {R : Rl} (h : Rrow w g1 g2 g3 g4 R) (hs : R.small) (hb : R.bits) :
    Rod4 w (.slice (some ⟨g1, 0, none⟩) R.a.length R.a.length) (.slice (some ⟨g2, 0, none⟩) R.b.length R.b.length) (.slice (some ⟨g3, 0, none⟩) R.c.length R.c.length) (.slice (some ⟨g4, 0, none⟩) R.d.length R.d.length) R :=
  ⟨FSl_of_row h.1 hs.1 hb.1, FSl_of_row h.2.1 hs.2.1 hb.2.1, FSl_of_row h.2.2.1 hs.2.2.1 hb.2.2.1, FSl_of_row h.2.2.2 hs.2.2.2 hb.2.2.2⟩
theorem row_below {w w' : World} {g n : Nat} {t : TypeId} {f : Nat → Value} (h : w.rowIs g t n f) (hb : Below w.heap.size w w') : w'.rowIs g t n f := h.of_block (hb.block _ h.lt)
/-- A rod in rows of its own, that came to be behind w. -/
def RetRod (w : World) (R : Rl) (e : Ending) (w' : World) : Prop :=
  ∃ g1 g2 g3 g4, e = .returned (rodv g1 g2 g3 g4 R) ∧ Rrow w' g1 g2 g3 g4 R ∧ (w.heap.size ≤ g1 ∧ g1 < g2 ∧ g2 < g3 ∧ g3 < g4 ∧ g4 < w'.heap.size) ∧ Below w.heap.size w w'
/-- A list in a row of its own, that came to be behind w. -/
def RetRow (w : World) (bs : List Nat) (e : Ending) (w' : World) : Prop :=
  ∃ g, e = .returned (.slice (some ⟨g, 0, none⟩) bs.length bs.length) ∧ w'.rowIs g 33 bs.length (fcell bs) ∧ Below w.heap.size w w' ∧ w.heap.size ≤ g ∧ g < w'.heap.size
theorem toFloat32S_row (v : Value) (bs : List Nat) (w : World) (h : FSl .f32 w v bs) (hl : bs.length ≤ 1048576) : Calls Try.prog 16 #[v] w (RetRow w bs) :=
  (toFloat32S_any v bs w h hl).mono fun _ _ ⟨h1, h2, h3, h4⟩ => ⟨_, h1, h2, h3, Nat.le_refl _, h2.lt⟩
set_option maxHeartbeats 4000000 in
theorem toRod_any (v1 v2 v3 v4 : Value) (R : Rl) (hs : R.small) (w : World) (h : Rod4 w v1 v2 v3 v4 R) :
    Calls Try.prog 8 #[.agg #[v1, v2, v3, v4]] w (RetRod w R) := by
  obtain ⟨f1, f2, f3, f4⟩ := h
  have l1 := f1.len
  have l2 := f2.len
  have l3 := f3.len
  have l4 := f4.len
  obtain ⟨s1, s2, s3, s4⟩ := hs
  have B0 : ∀ o1 o2 o3, Below w.heap.size w (((w.alloc o1).alloc o2).alloc o3) := fun o1 o2 o3 => ((((Below.refl _ _).alloc (Nat.le_refl _) o1).alloc (by simp) o2).alloc (by simp; omega) o3)
  have HB0 := Lib.hid B0
  clear B0
  obtain ⟨a1, c1, rfl, m1⟩ := l1
  obtain ⟨a2, c2, rfl, m2⟩ := l2
  obtain ⟨a3, c3, rfl, m3⟩ := l3
  obtain ⟨a4, c4, rfl, m4⟩ := l4
  unfold RetRod rodv Rrow
  go_enter Try.func8, Try.ntmps8
  go_wp2_with fail
  have bA := ((box4_alloc w 24 (.slice a1 R.a.length c1) (.slice a2 R.b.length c2) (.slice a3 R.c.length c3) (.slice a4 R.d.length c4)).alloc (.cells #[.slice none 0 0, .slice none 0 0, .slice none 0 0, .slice none 0 0] 26)).alloc (.cells #[.slice none 0 0, .slice none 0 0, .slice none 0 0, .slice none 0 0] 26)
  have bO := box4_alloc ((w.alloc (.cells #[.slice a1 R.a.length c1, .slice a2 R.b.length c2, .slice a3 R.c.length c3, .slice a4 R.d.length c4] 24)).alloc (.cells #[.slice none 0 0, .slice none 0 0, .slice none 0 0, .slice none 0 0] 26)) 26 (.slice none 0 0) (.slice none 0 0) (.slice none 0 0) (.slice none 0 0)
  have bR := (box4_alloc (w.alloc (.cells #[.slice a1 R.a.length c1, .slice a2 R.b.length c2, .slice a3 R.c.length c3, .slice a4 R.d.length c4] 24)) 26 (.slice none 0 0) (.slice none 0 0) (.slice none 0 0) (.slice none 0 0)).alloc (.cells #[.slice none 0 0, .slice none 0 0, .slice none 0 0, .slice none 0 0] 26)
  have D0 := HB0.out (.cells #[.slice a1 R.a.length c1, .slice a2 R.b.length c2, .slice a3 R.c.length c3, .slice a4 R.d.length c4] 24) (.cells #[.slice none 0 0, .slice none 0 0, .slice none 0 0, .slice none 0 0] 26) (.cells #[.slice none 0 0, .slice none 0 0, .slice none 0 0, .slice none 0 0] 26)
  generalize hW0 : ((w.alloc (.cells #[.slice a1 R.a.length c1, .slice a2 R.b.length c2, .slice a3 R.c.length c3, .slice a4 R.d.length c4] 24)).alloc (.cells #[.slice none 0 0, .slice none 0 0, .slice none 0 0, .slice none 0 0] 26)).alloc (.cells #[.slice none 0 0, .slice none 0 0, .slice none 0 0, .slice none 0 0] 26) = W0 at *
  have z0 : W0.heap.size = w.heap.size + 1 + 1 + 1 := by subst hW0; simp
  clear hW0 HB0
  simp only [World.size_alloc] at bO bR
  refine (toFloat32S_row _ _ _ (f1.below D0) s1).mono ?_
  rintro e w1 ⟨g1, rfl, hr1, hb1, hg1, hz1⟩
  have D1a := B_trans D0 hb1
  have bA1 := bA.below hb1
  have bO1 := bO.below hb1
  have bR1 := bR.below hb1
  have z1a : w.heap.size + 1 + 1 < w1.heap.size := by have := hb1.size; omega
  have hg1' : w.heap.size + 1 + 1 < g1 := by omega
  clear hb1 D0 bA bO bR hg1
  have bA1c := bA1
  have bO1c := bO1
  have bR1c := bR1
  obtain ⟨⟨p0, p1, p2, p3⟩, pf, pl⟩ := bA1
  obtain ⟨⟨q0, q1, q2, q3⟩, qf, ql⟩ := bO1
  obtain ⟨⟨r0, r1, r2, r3⟩, rf, rl⟩ := bR1
  go_wp2_with fail
  clear p0 p1 p2 p3 pf pl q0 q1 q2 q3 qf ql r0 r1 r2 r3 rf rl
  have D1 := D1a.setCell (p := ⟨w.heap.size + 1 + 1, 0, none⟩) (show w.heap.size ≤ w.heap.size + 1 + 1 by omega) (.slice (some ⟨g1, 0, none⟩) R.a.length R.a.length)
  have bA1x := bA1c.setOther (a := ⟨w.heap.size + 1 + 1, 0, none⟩) (by simp; omega) (.slice (some ⟨g1, 0, none⟩) R.a.length R.a.length)
  have bO1x := bO1c.set0 (.slice (some ⟨g1, 0, none⟩) R.a.length R.a.length)
  have bR1x := bR1c.setOther (a := ⟨w.heap.size + 1 + 1, 0, none⟩) (by simp) (.slice (some ⟨g1, 0, none⟩) R.a.length R.a.length)
  have hr1_1 := hr1.setOther (a := ⟨w.heap.size + 1 + 1, 0, none⟩) (by simp; omega) (.slice (some ⟨g1, 0, none⟩) R.a.length R.a.length)
  have y1 : (w1.setCell ⟨w.heap.size + 1 + 1, 0, none⟩ (.slice (some ⟨g1, 0, none⟩) R.a.length R.a.length)).heap.size = w1.heap.size := by simp [World.setCell]
  generalize hX : w1.setCell ⟨w.heap.size + 1 + 1, 0, none⟩ (.slice (some ⟨g1, 0, none⟩) R.a.length R.a.length) = X1 at *
  clear hX D1a bA1c bO1c bR1c hr1
  refine (toFloat32S_row _ _ _ (f2.below D1) s2).mono ?_
  rintro e w2 ⟨g2, rfl, hr2, hb2, hg2, hz2⟩
  have D2a := B_trans D1 hb2
  have bA2 := bA1x.below hb2
  have bO2 := bO1x.below hb2
  have bR2 := bR1x.below hb2
  have z2a : w.heap.size + 1 + 1 < w2.heap.size := by have := hb2.size; omega
  have hr1_2a := row_below hr1_1 hb2
  have hg2' : g1 < g2 := by omega
  clear hb2 D1 bA1x bO1x bR1x hg2 hr1_1
  have bA2c := bA2
  have bO2c := bO2
  have bR2c := bR2
  obtain ⟨⟨p0, p1, p2, p3⟩, pf, pl⟩ := bA2
  obtain ⟨⟨q0, q1, q2, q3⟩, qf, ql⟩ := bO2
  obtain ⟨⟨r0, r1, r2, r3⟩, rf, rl⟩ := bR2
  go_wp2_with fail
  clear p0 p1 p2 p3 pf pl q0 q1 q2 q3 qf ql r0 r1 r2 r3 rf rl
  have D2 := D2a.setCell (p := ⟨w.heap.size + 1 + 1, 1, none⟩) (show w.heap.size ≤ w.heap.size + 1 + 1 by omega) (.slice (some ⟨g2, 0, none⟩) R.b.length R.b.length)
  have bA2x := bA2c.setOther (a := ⟨w.heap.size + 1 + 1, 1, none⟩) (by simp; omega) (.slice (some ⟨g2, 0, none⟩) R.b.length R.b.length)
  have bO2x := bO2c.set1 (.slice (some ⟨g2, 0, none⟩) R.b.length R.b.length)
  have bR2x := bR2c.setOther (a := ⟨w.heap.size + 1 + 1, 1, none⟩) (by simp) (.slice (some ⟨g2, 0, none⟩) R.b.length R.b.length)
  have hr2_2 := hr2.setOther (a := ⟨w.heap.size + 1 + 1, 1, none⟩) (by simp; omega) (.slice (some ⟨g2, 0, none⟩) R.b.length R.b.length)
  have hr1_2 := hr1_2a.setOther (a := ⟨w.heap.size + 1 + 1, 1, none⟩) (by simp; omega) (.slice (some ⟨g2, 0, none⟩) R.b.length R.b.length)
  have y2 : (w2.setCell ⟨w.heap.size + 1 + 1, 1, none⟩ (.slice (some ⟨g2, 0, none⟩) R.b.length R.b.length)).heap.size = w2.heap.size := by simp [World.setCell]
  generalize hX : w2.setCell ⟨w.heap.size + 1 + 1, 1, none⟩ (.slice (some ⟨g2, 0, none⟩) R.b.length R.b.length) = X2 at *
  clear hX D2a bA2c bO2c bR2c hr2 hr1_2a
  refine (toFloat32S_row _ _ _ (f3.below D2) s3).mono ?_
  rintro e w3 ⟨g3, rfl, hr3, hb3, hg3, hz3⟩
  have D3a := B_trans D2 hb3
  have bA3 := bA2x.below hb3
  have bO3 := bO2x.below hb3
  have bR3 := bR2x.below hb3
  have z3a : w.heap.size + 1 + 1 < w3.heap.size := by have := hb3.size; omega
  have hr1_3a := row_below hr1_2 hb3
  have hr2_3a := row_below hr2_2 hb3
  have hg3' : g2 < g3 := by omega
  clear hb3 D2 bA2x bO2x bR2x hg3 hr1_2 hr2_2
  have bA3c := bA3
  have bO3c := bO3
  have bR3c := bR3
  obtain ⟨⟨p0, p1, p2, p3⟩, pf, pl⟩ := bA3
  obtain ⟨⟨q0, q1, q2, q3⟩, qf, ql⟩ := bO3
  obtain ⟨⟨r0, r1, r2, r3⟩, rf, rl⟩ := bR3
  go_wp2_with fail
  clear p0 p1 p2 p3 pf pl q0 q1 q2 q3 qf ql r0 r1 r2 r3 rf rl
  have D3 := D3a.setCell (p := ⟨w.heap.size + 1 + 1, 2, none⟩) (show w.heap.size ≤ w.heap.size + 1 + 1 by omega) (.slice (some ⟨g3, 0, none⟩) R.c.length R.c.length)
  have bA3x := bA3c.setOther (a := ⟨w.heap.size + 1 + 1, 2, none⟩) (by simp; omega) (.slice (some ⟨g3, 0, none⟩) R.c.length R.c.length)
  have bO3x := bO3c.set2 (.slice (some ⟨g3, 0, none⟩) R.c.length R.c.length)
  have bR3x := bR3c.setOther (a := ⟨w.heap.size + 1 + 1, 2, none⟩) (by simp) (.slice (some ⟨g3, 0, none⟩) R.c.length R.c.length)
  have hr3_3 := hr3.setOther (a := ⟨w.heap.size + 1 + 1, 2, none⟩) (by simp; omega) (.slice (some ⟨g3, 0, none⟩) R.c.length R.c.length)
  have hr1_3 := hr1_3a.setOther (a := ⟨w.heap.size + 1 + 1, 2, none⟩) (by simp; omega) (.slice (some ⟨g3, 0, none⟩) R.c.length R.c.length)
  have hr2_3 := hr2_3a.setOther (a := ⟨w.heap.size + 1 + 1, 2, none⟩) (by simp; omega) (.slice (some ⟨g3, 0, none⟩) R.c.length R.c.length)
  have y3 : (w3.setCell ⟨w.heap.size + 1 + 1, 2, none⟩ (.slice (some ⟨g3, 0, none⟩) R.c.length R.c.length)).heap.size = w3.heap.size := by simp [World.setCell]
  generalize hX : w3.setCell ⟨w.heap.size + 1 + 1, 2, none⟩ (.slice (some ⟨g3, 0, none⟩) R.c.length R.c.length) = X3 at *
  clear hX D3a bA3c bO3c bR3c hr3 hr1_3a hr2_3a
  refine (toFloat32S_row _ _ _ (f4.below D3) s4).mono ?_
  rintro e w4 ⟨g4, rfl, hr4, hb4, hg4, hz4⟩
  have D4a := B_trans D3 hb4
  have bA4 := bA3x.below hb4
  have bO4 := bO3x.below hb4
  have bR4 := bR3x.below hb4
  have z4a : w.heap.size + 1 + 1 < w4.heap.size := by have := hb4.size; omega
  have hr1_4a := row_below hr1_3 hb4
  have hr2_4a := row_below hr2_3 hb4
  have hr3_4a := row_below hr3_3 hb4
  have hg4' : g3 < g4 := by omega
  clear hb4 D3 bA3x bO3x bR3x hg4 hr1_3 hr2_3 hr3_3
  have bA4c := bA4
  have bO4c := bO4
  have bR4c := bR4
  obtain ⟨⟨p0, p1, p2, p3⟩, pf, pl⟩ := bA4
  obtain ⟨⟨q0, q1, q2, q3⟩, qf, ql⟩ := bO4
  obtain ⟨⟨r0, r1, r2, r3⟩, rf, rl⟩ := bR4
  go_wp2_with fail
  refine bodyPost_ret (v := .agg #[(.slice (some ⟨g1, 0, none⟩) R.a.length R.a.length), (.slice (some ⟨g2, 0, none⟩) R.b.length R.b.length), (.slice (some ⟨g3, 0, none⟩) R.c.length R.c.length), (.slice (some ⟨g4, 0, none⟩) R.d.length R.d.length)]) (by simp [results, Try.results8, go_sem, *]) rfl ?_
  refine ⟨g1, g2, g3, g4, rfl, ⟨?_, ?_, ?_, ?_⟩, ⟨by omega, by omega, by omega, by omega, ?_⟩, ?_⟩
  · repeat (refine World.rowIs.setOther ?_ (by simp; omega) _)
    exact hr1_4a
  · repeat (refine World.rowIs.setOther ?_ (by simp; omega) _)
    exact hr2_4a
  · repeat (refine World.rowIs.setOther ?_ (by simp; omega) _)
    exact hr3_4a
  · repeat (refine World.rowIs.setOther ?_ (by simp; omega) _)
    exact hr4
  · simp [World.setCell]; exact hz4
  · repeat (refine Below.setCell ?_ (by first | (simp; done) | (simp; omega)) _)
    exact D4a
set_option maxHeartbeats 1000000 in
theorem eqRod_any (v1 v2 v3 v4 x1 x2 x3 x4 : Value) (R : Rl) (w : World) (h : Rod4 w v1 v2 v3 v4 R) (h' : Rod4 w x1 x2 x3 x4 R) :
    Calls Try.prog 10 #[.agg #[v1, v2, v3, v4], .agg #[x1, x2, x3, x4]] w (RetB w (.bool true)) := by
  obtain ⟨f1, f2, f3, f4⟩ := h
  obtain ⟨k1, k2, k3, k4⟩ := h'
  obtain ⟨a1, c1, rfl, m1⟩ := f1.len
  obtain ⟨a2, c2, rfl, m2⟩ := f2.len
  obtain ⟨a3, c3, rfl, m3⟩ := f3.len
  obtain ⟨a4, c4, rfl, m4⟩ := f4.len
  obtain ⟨b1, d1, rfl, _⟩ := k1.len
  obtain ⟨b2, d2, rfl, _⟩ := k2.len
  obtain ⟨b3, d3, rfl, _⟩ := k3.len
  obtain ⟨b4, d4, rfl, _⟩ := k4.len
  go_enter Try.func10, Try.ntmps10
  go_wp2_with fail
  refine (eqFloat32S_any _ _ _ _ _ (f1.below (by (repeat' first | assumption | exact Below.refl _ _ | refine B_drew ?_ _ | refine Below.drew ?_ | refine Below.alloc ?_ (by first | exact Nat.le_refl _ | (simp; done) | (simp; omega)) _))) (k1.below (by (repeat' first | assumption | exact Below.refl _ _ | refine B_drew ?_ _ | refine Below.drew ?_ | refine Below.alloc ?_ (by first | exact Nat.le_refl _ | (simp; done) | (simp; omega)) _))) rfl (fun _ _ => rfl)).mono ?_
  rintro e w1 ⟨n1, rfl, rfl⟩
  go_wp2_with fail
  refine (eqFloat32S_any _ _ _ _ _ (f2.below (by (repeat' first | assumption | exact Below.refl _ _ | refine B_drew ?_ _ | refine Below.drew ?_ | refine Below.alloc ?_ (by first | exact Nat.le_refl _ | (simp; done) | (simp; omega)) _))) (k2.below (by (repeat' first | assumption | exact Below.refl _ _ | refine B_drew ?_ _ | refine Below.drew ?_ | refine Below.alloc ?_ (by first | exact Nat.le_refl _ | (simp; done) | (simp; omega)) _))) rfl (fun _ _ => rfl)).mono ?_
  rintro e w2 ⟨n2, rfl, rfl⟩
  go_wp2_with fail
  refine (eqFloat32S_any _ _ _ _ _ (f3.below (by (repeat' first | assumption | exact Below.refl _ _ | refine B_drew ?_ _ | refine Below.drew ?_ | refine Below.alloc ?_ (by first | exact Nat.le_refl _ | (simp; done) | (simp; omega)) _))) (k3.below (by (repeat' first | assumption | exact Below.refl _ _ | refine B_drew ?_ _ | refine Below.drew ?_ | refine Below.alloc ?_ (by first | exact Nat.le_refl _ | (simp; done) | (simp; omega)) _))) rfl (fun _ _ => rfl)).mono ?_
  rintro e w3 ⟨n3, rfl, rfl⟩
  go_wp2_with fail
  refine (eqFloat32S_any _ _ _ _ _ (f4.below (by (repeat' first | assumption | exact Below.refl _ _ | refine B_drew ?_ _ | refine Below.drew ?_ | refine Below.alloc ?_ (by first | exact Nat.le_refl _ | (simp; done) | (simp; omega)) _))) (k4.below (by (repeat' first | assumption | exact Below.refl _ _ | refine B_drew ?_ _ | refine Below.drew ?_ | refine Below.alloc ?_ (by first | exact Nat.le_refl _ | (simp; done) | (simp; omega)) _))) rfl (fun _ _ => rfl)).mono ?_
  rintro e w4 ⟨n4, rfl, rfl⟩
  go_wp2_with fail
  go_ret
  exact ⟨rfl, by (repeat' first | assumption | exact Below.refl _ _ | refine B_drew ?_ _ | refine Below.drew ?_ | refine Below.alloc ?_ (by first | exact Nat.le_refl _ | (simp; done) | (simp; omega)) _)⟩
end Go.Proofs.Ytiolmffcmbcgmaa
