/-
  Rods of one's own: what the laws need of them.
-/
import Derived.Test.YtiolmffcmbcgmaaBackr
namespace Go.Proofs.Ytiolmffcmbcgmaa
set_option linter.unusedVariables false
set_option linter.unusedSimpArgs false
open Go.RowKit Fl
attribute [local go_sem] run_store_float

theorem Box4.frm {w w' : World} {B N p : Nat} {x0 x1 x2 x3 : Value} (h : Box4 w p x0 x1 x2 x3) (hf : Frm B N w w') (hs : p < B ∨ N ≤ p) : Box4 w' p x0 x1 x2 x3 := by
  obtain ⟨⟨h0, h1, h2, h3⟩, hz, hl⟩ := h
  have eb : w'.heap[p]? = w.heap[p]? := hf.block _ hl hs
  have e : ∀ o, w'.cell? ⟨p, o, none⟩ = w.cell? ⟨p, o, none⟩ := fun o => World.cell?_of_block eb
  have e2 : ∀ o, w'.frozen? ⟨p, o, none⟩ = w.frozen? ⟨p, o, none⟩ := fun o => World.frozen?_of_block eb
  exact ⟨⟨by rw [e]; exact h0, by rw [e]; exact h1, by rw [e]; exact h2, by rw [e]; exact h3⟩, fun o => by rw [e2]; exact hz o, Nat.lt_of_lt_of_le hl hf.size⟩
/-- The call returns a rod of its own. -/
def ORod (w : World) (R : Rl) (e : Ending) (w' : World) : Prop :=
  ∃ a0 c0 a1 c1 a2 c2 a3 c3 B1 B2 B3 B4 B5, e = .returned (.agg #[.slice a0 R.a.length c0, .slice a1 R.b.length c1, .slice a2 R.c.length c2, .slice a3 R.d.length c3]) ∧ Own4 w' B1 B2 B3 B4 B5 (.slice a0 R.a.length c0) (.slice a1 R.b.length c1) (.slice a2 R.c.length c2) (.slice a3 R.d.length c3) R ∧ w.heap.size ≤ B1 ∧ Below w.heap.size w w'
/-- The call returns a rod of its own and a bool. -/
def OBod (w : World) (ok : Bool) (R : Rl) (e : Ending) (w' : World) : Prop :=
  ∃ a0 c0 a1 c1 a2 c2 a3 c3 B1 B2 B3 B4 B5, e = .returned (.tuple #[.agg #[.slice a0 R.a.length c0, .slice a1 R.b.length c1, .slice a2 R.c.length c2, .slice a3 R.d.length c3], .bool ok]) ∧ Own4 w' B1 B2 B3 B4 B5 (.slice a0 R.a.length c0) (.slice a1 R.b.length c1) (.slice a2 R.c.length c2) (.slice a3 R.d.length c3) R ∧ w.heap.size ≤ B1 ∧ Below w.heap.size w w'
theorem RRod.o {w w' : World} {ok : Bool} {R : Rl} {e : Ending} (h : RRod w ok R e w') : OBod w ok R e w' := by
  obtain ⟨v1, v2, v3, v4, B1, B2, B3, B4, B5, rfl, hO, h1, h2⟩ := h
  obtain ⟨hs, o1, o2, o3, o4⟩ := hO
  obtain ⟨a0, c0, rfl, _⟩ := OSf.len o1
  obtain ⟨a1, c1, rfl, _⟩ := OSf.len o2
  obtain ⟨a2, c2, rfl, _⟩ := OSf.len o3
  obtain ⟨a3, c3, rfl, _⟩ := OSf.len o4
  exact ⟨a0, c0, a1, c1, a2, c2, a3, c3, B1, B2, B3, B4, B5, rfl, ⟨hs, o1, o2, o3, o4⟩, h1, h2⟩
theorem osl_row {w : World} {B N g : Nat} {t : TypeId} {bs : List Nat} (h : w.rowIs g t bs.length (fcell bs)) (hl : bs.length ≤ 1048576) (hb : ∀ b ∈ bs, b < 2 ^ FloatKind.f32.format.width) (hB : B ≤ g) (hN : g < N) (hz : N ≤ w.heap.size) :
    OSl w B N (.slice (some ⟨g, 0, none⟩) bs.length bs.length) bs :=
  ⟨fun i hi => hb _ (fget_mem hi), hz, .inr ⟨g, bs.length, rfl, Nat.le_refl _, by unfold maxLen; omega, hB, hN, fun o => h.frozen o, fun i hi => h.cell hi⟩⟩
theorem toRod_own (v1 v2 v3 v4 : Value) (R : Rl) (hs : R.small) (w : World) (h : Rod4 w v1 v2 v3 v4 R) : Calls Try.prog 8 #[.agg #[v1, v2, v3, v4]] w (ORod w R) := by
  refine (toRod_any v1 v2 v3 v4 R hs w h).mono ?_
  rintro e w' ⟨g1, g2, g3, g4, rfl, ⟨r1, r2, r3, r4⟩, ⟨h1, h2, h3, h4, h5⟩, hb⟩
  obtain ⟨b1, b2, b3, b4⟩ := h.bits
  obtain ⟨s1, s2, s3, s4⟩ := hs
  exact ⟨_, _, _, _, _, _, _, _, g1, g2, g3, g4, g4 + 1, rfl, ⟨⟨by omega, by omega, by omega, by omega, by omega⟩, osl_row r1 s1 b1 (Nat.le_refl _) h2 (by omega), osl_row r2 s2 b2 (Nat.le_refl _) h3 (by omega), osl_row r3 s3 b3 (Nat.le_refl _) h4 (by omega), osl_row r4 s4 b4 (Nat.le_refl _) (by omega) (by omega)⟩, h1, hb⟩
/-- A copy of a list. -/
def OList (w : World) (bs : List Nat) (e : Ending) (w' : World) : Prop := ∃ a c N M, e = .returned (.slice a bs.length c) ∧ OSl w' N M (.slice a bs.length c) bs ∧ w.heap.size ≤ N ∧ N ≤ M ∧ Below w.heap.size w w'
theorem OSf.top {w : World} {B N : Nat} {v : Value} {n : Nat} {f : Nat → Nat} (h : OSf w B N v n f) : N ≤ w.heap.size := h.2.1
theorem toF_own (v : Value) (bs : List Nat) (w : World) (h : FSl .f32 w v bs) (hl : bs.length ≤ 1048576) : Calls Try.prog 16 #[v] w (OList w bs) := by
  refine (toFloat32S_row v bs w h hl).mono ?_
  rintro e w' ⟨g, rfl, hr, hb, h1, h2⟩
  exact ⟨_, _, g, g + 1, rfl, osl_row hr hl h.bits (Nat.le_refl _) (Nat.lt_succ_self _) h2, h1, Nat.le_succ _, hb⟩
theorem markE_le {R : Rl} (h : R.small) : markE R 1 ≤ 4194305 := by
  obtain ⟨h1, h2, h3, h4⟩ := h
  unfold markE
  omega
theorem markE_pos (R : Rl) : 0 ≤ markE R 1 := by unfold markE; omega
theorem small_zero : zeroR.small := ⟨by simp [zeroR], by simp [zeroR], by simp [zeroR], by simp [zeroR]⟩
theorem small_back {R : Rl} (h : R.small) : (backR R).small := by
  obtain ⟨h1, h2, h3, h4⟩ := h
  exact ⟨by simpa [backR] using h1, by simpa [backR] using h2, by simpa [backR] using h3, by simpa [backR] using h4⟩
end Go.Proofs.Ytiolmffcmbcgmaa
