/-
  A source of choices: read, and changed in its own block alone.
-/
import Derived.Test.YtgaecoekhcdaeaaGreatDoorBy
import Derived.Test.YtgaecoekhcdaeaaGreatDoorOv
import Derived.WalkKit
import Derived.BigQuiet
import Derived.Deep.QuietTactic
namespace Go.Proofs.YtgaecoekhcdaeaaGreatDoor
set_option linter.unusedVariables false
set_option linter.unusedSimpArgs false
set_option maxRecDepth 20000
open Go.RowKit

/-- A source lies in block b; it has made at most A choices. -/
def Src (w : World) (b A : Nat) : Prop :=
  ∃ (ao : Option Addr) (n cap at_ : Nat) (seed : Int), n ≤ 1048576 ∧ n ≤ cap ∧ at_ ≤ A ∧ (0 ≤ seed ∧ seed < 18446744073709551616) ∧
    w.cell? ⟨b, 0, none⟩ = some (.slice ao n cap) ∧ w.cell? ⟨b, 1, none⟩ = some (.int .i64 at_) ∧ w.cell? ⟨b, 2, none⟩ = some (.int .u64 seed) ∧ (∀ o, w.frozen? ⟨b, o, none⟩ = false) ∧ b < w.heap.size ∧
    (n = 0 ∨ ∃ x off, ao = some ⟨x, off, none⟩ ∧ x < b ∧ ∀ i, i < n → ∃ c : Int, 0 ≤ c ∧ c < 256 ∧ w.cell? ⟨x, off + i, none⟩ = some (.int .u8 c))
theorem Fr.trans {B N : Nat} {a b c : World} (h : Fr B N a b) (k : Fr B N b c) : Fr B N a c :=
  ⟨k.os.trans h.os, k.tape.trans h.tape, k.output.trans h.output, Nat.le_trans h.size k.size, fun i hi hs => (k.block i (Nat.lt_of_lt_of_le hi h.size) hs).trans (h.block i hi hs)⟩
theorem Fr.of {B N : Nat} {w w' : World} (h : Below w.heap.size w w') : Fr B N w w' := ⟨h.os, h.tape, h.output, h.size, fun b hb _ => h.block b hb⟩
theorem Fr.drewN {B N : Nat} {w w' : World} (h : Fr B N w w') (n : Nat) : Fr B N w (w'.drewN n) := ⟨h.os, h.tape, h.output, h.size, h.block⟩
theorem Src.frame {w w' : World} {b A B N : Nat} (h : Src w b A) (hf : Fr B N w w') (hs : b < B) : Src w' b A := by
  obtain ⟨ao, n, cap, at_, seed, h1, h2, h3, h4, h5, h6, h7, h8, h9, h10⟩ := h
  have e : ∀ x, x ≤ b → w'.heap[x]? = w.heap[x]? := fun x hx => hf.block x (by omega) (.inl (by omega))
  refine ⟨ao, n, cap, at_, seed, h1, h2, h3, h4, ?_, ?_, ?_, fun o => ?_, Nat.lt_of_lt_of_le h9 hf.size, ?_⟩
  · rw [World.cell?_of_block (a := ⟨b, 0, none⟩) (e b (Nat.le_refl _))]; exact h5
  · rw [World.cell?_of_block (a := ⟨b, 1, none⟩) (e b (Nat.le_refl _))]; exact h6
  · rw [World.cell?_of_block (a := ⟨b, 2, none⟩) (e b (Nat.le_refl _))]; exact h7
  · rw [World.frozen?_of_block (a := ⟨b, o, none⟩) (e b (Nat.le_refl _))]; exact h8 o
  · rcases h10 with h10 | ⟨x, off, e1, e2, e3⟩
    · exact .inl h10
    · refine .inr ⟨x, off, e1, e2, fun i hi => ?_⟩
      obtain ⟨c, c1, c2, c3⟩ := e3 i hi
      exact ⟨c, c1, c2, by rw [World.cell?_of_block (a := ⟨x, off + i, none⟩) (e x (by omega))]; exact c3⟩
theorem Src.below {w w' : World} {b A : Nat} (h : Src w b A) (hb : Below w.heap.size w w') : Src w' b A :=
  h.frame (B := b + 1) (N := b + 1) (Fr.of hb) (Nat.lt_succ_self _)
theorem Src.up {w : World} {b A A' : Nat} (h : Src w b A) (hA : A ≤ A') : Src w b A' := by
  obtain ⟨ao, n, cap, at_, seed, h1, h2, h3, h4⟩ := h
  exact ⟨ao, n, cap, at_, seed, h1, h2, Nat.le_trans h3 hA, h4⟩
/-- What a choice returns. -/
def RNext (w : World) (b A : Nat) (n : Int) (e : Ending) (w' : World) : Prop := ∃ r : Int, e = .returned (.int .i64 r) ∧ 0 ≤ r ∧ r < n ∧ Src w' b A ∧ Fr b (b + 1) w w'
/-- A source that was changed in its second and third cells. -/
theorem Src.change {w : World} {b A : Nat} {ao : Option Addr} {n cap at_ : Nat} {seed : Int} (h1 : n ≤ 1048576) (h2 : n ≤ cap) (h3 : at_ ≤ A) (h4 : 0 ≤ seed ∧ seed < 18446744073709551616)
    (c0 : w.cell? ⟨b, 0, none⟩ = some (.slice ao n cap)) {u v : Value} (c1 : w.cell? ⟨b, 1, none⟩ = some u) (c2 : w.cell? ⟨b, 2, none⟩ = some v) (hz : ∀ o, w.frozen? ⟨b, o, none⟩ = false) (hl : b < w.heap.size)
    (hc : n = 0 ∨ ∃ x off, ao = some ⟨x, off, none⟩ ∧ x < b ∧ ∀ i, i < n → ∃ c : Int, 0 ≤ c ∧ c < 256 ∧ w.cell? ⟨x, off + i, none⟩ = some (.int .u8 c)) :
    Src ((w.setCell ⟨b, 1, none⟩ (.int .i64 at_)).setCell ⟨b, 2, none⟩ (.int .u64 seed)) b A := by
  refine ⟨ao, n, cap, at_, seed, h1, h2, h3, h4, ?_, ?_, ?_, fun o => ?_, ?_, ?_⟩
  · rw [World.cell?_setCell_other _ _ _ _ (by intro e; cases e), World.cell?_setCell_other _ _ _ _ (by intro e; cases e)]; exact c0
  · rw [World.cell?_setCell_other _ _ _ _ (by intro e; cases e)]; exact World.cell?_setCell_same _ _ _ c1
  · exact World.cell?_setCell_same _ _ _ (by rw [World.cell?_setCell_other _ _ _ _ (by intro e; cases e)]; exact c2)
  · rw [World.frozen?_setCell, World.frozen?_setCell]; exact hz o
  · simpa [World.setCell] using hl
  · rcases hc with hc | ⟨x, off, e1, e2, e3⟩
    · exact .inl hc
    · refine .inr ⟨x, off, e1, e2, fun i hi => ?_⟩
      obtain ⟨c, d1, d2, d3⟩ := e3 i hi
      exact ⟨c, d1, d2, by rw [World.cell?_setCell_other _ _ _ _ (by intro e; injection e with e; omega), World.cell?_setCell_other _ _ _ _ (by intro e; injection e with e; omega)]; exact d3⟩
theorem wrap_u64_rng (x : Int) : 0 ≤ IntKind.u64.wrap x ∧ IntKind.u64.wrap x < 18446744073709551616 := by
  rw [IntKind.wrap_u64]
  omega
theorem rng255 (s : Int) : 0 ≤ wrap64 (bits .and .u64 (IntKind.u64.wrap s / 1099511627776) 255) ∧ wrap64 (bits .and .u64 (IntKind.u64.wrap s / 1099511627776) 255) < 256 := by
  have h := wrap_u64_rng s
  generalize IntKind.u64.wrap s = x at *
  obtain ⟨y, hy⟩ : ∃ y : Nat, x / 1099511627776 = (y : Int) := ⟨(x / 1099511627776).toNat, by omega⟩
  have e := u64_and_nat y 255 (by omega) (by decide)
  have e2 : y &&& 255 = y % 256 := Nat.and_two_pow_sub_one_eq_mod y 8
  rw [hy]
  have e3 : bits .and .u64 (y : Int) 255 = ((y % 256 : Nat) : Int) := by rw [← e2]; exact e
  rw [e3]
  unfold wrap64
  omega
theorem fr_two {w : World} {b B N k q : Nat} {u v : Value} (hB : B ≤ b) (hN : b < N) : Fr B N w ((((w.drewN k).setCell ⟨b, 1, none⟩ u).setCell ⟨b, 2, none⟩ v).drewN q) :=
  ((((Fr.refl B N w).drewN k).set (a := ⟨b, 1, none⟩) hB hN u).set (a := ⟨b, 2, none⟩) hB hN v).drewN q
set_option maxRecDepth 100000 in
set_option maxHeartbeats 4000000 in
theorem next_any (b A : Nat) (hA : A ≤ 1000000) (w : World) (h : Src w b A) : Calls Tryz.prog 70 #[.pointer (some ⟨b, 0, none⟩)] w (RNext w b (A + 1) 256) := by
  obtain ⟨ao, n, cap, at_, seed, h1, h2, h3, h4, c0, c1, c2, hz, hl, hc⟩ := h
  have z1 := hz 1
  have z2 := hz 2
  obtain ⟨h4a, h4b⟩ := h4
  have HC := Lib.hid hc
  have HZ := Lib.hid hz
  clear hc hz
  by_cases hlt : at_ < n
  · obtain ⟨x, off, rfl, hx, he⟩ := HC.out.resolve_left (by omega)
    obtain ⟨c, hc0, hc1, hcc⟩ := he at_ hlt
    clear he
    go_enter Tryz.func70, Tryz.ntmps70
    go_wp2_with fail
    go_quiet (fail)
    go_wp2_with fail
    go_quiet (fail)
    go_wp2_with fail
    go_quiet (fail)
    go_wp2_with fail
    go_ret
    exact ⟨c, rfl, hc0, hc1, (Src.change (w := w.drewN _) (at_ := at_ + 1) h1 h2 (by omega) (wrap_u64_rng _) c0 c1 c2 HZ.out hl HC.out).below (below_draws _ _), fr_two (Nat.le_refl _) (Nat.lt_succ_self _)⟩
  · go_enter Tryz.func70, Tryz.ntmps70
    go_wp2_with fail
    go_quiet (fail)
    go_wp2_with fail
    go_quiet (fail)
    go_wp2_with fail
    go_ret
    exact ⟨_, rfl, (rng255 _).1, (rng255 _).2, (Src.change (w := w.drewN _) (at_ := at_ + 1) h1 h2 (by omega) (wrap_u64_rng _) c0 c1 c2 HZ.out hl HC.out).below (below_draws _ _), fr_two (Nat.le_refl _) (Nat.lt_succ_self _)⟩
set_option maxHeartbeats 1000000 in
theorem pick_any (b A : Nat) (hA : A ≤ 900000) (n : Int) (h1 : 1 < n) (h2 : n ≤ 65536) (w : World) (h : Src w b A) : Calls Tryz.prog 39 #[.pointer (some ⟨b, 0, none⟩), .int .i64 n] w (RNext w b (A + 2) n) := by
  have HN := Lib.hid (next_any b A (by omega) w h)
  have HN2 := Lib.hid (fun w' h' => next_any b (A + 1) (by omega) w' h')
  clear h
  by_cases hb : n ≤ 200
  · have HU := Lib.hid (fun w' (h : Src w' b (A + 1)) => h.up (A' := A + 2) (by omega))
    go_enter Tryz.func39, Tryz.ntmps39
    go_wp2_with fail
    refine HN.out.mono ?_
    rintro e w1 ⟨r, rfl, hr0, hr1, hs, hf⟩
    have H3 := HU.out w1 hs
    clear hs
    have hm0 : 0 ≤ r % n := Int.emod_nonneg _ (by omega)
    have hm1 : r % n < n := Int.emod_lt_of_pos _ (by omega)
    go_wp2_with fail
    go_ret
    exact ⟨_, rfl, hm0, hm1, H3, hf⟩
  · go_enter Tryz.func39, Tryz.ntmps39
    go_wp2_with fail
    refine HN.out.mono ?_
    rintro e w1 ⟨r, rfl, hr0, hr1, hs, hf⟩
    go_wp2_with fail
    refine (HN2.out _ hs).mono ?_
    rintro e w2 ⟨q, rfl, hq0, hq1, hs2, hf2⟩
    have hf3 := hf.trans hf2
    have hm0 : 0 ≤ (r * 256 + q) % n := Int.emod_nonneg _ (by omega)
    have hm1 : (r * 256 + q) % n < n := Int.emod_lt_of_pos _ (by omega)
    clear hs hf hf2
    go_wp2_with fail
    go_ret
    exact ⟨_, rfl, hm0, hm1, hs2, hf3⟩
/-- A yes or no. -/
def ROne (w : World) (b A : Nat) (e : Ending) (w' : World) : Prop := ∃ q : Bool, e = .returned (.bool q) ∧ Src w' b A ∧ Fr b (b + 1) w w'
theorem one_any (b A : Nat) (hA : A ≤ 900000) (n : Int) (h1 : 1 < n) (h2 : n ≤ 65536) (w : World) (h : Src w b A) : Calls Tryz.prog 50 #[.pointer (some ⟨b, 0, none⟩), .int .i64 n] w (ROne w b (A + 2)) := by
  have HN := Lib.hid (pick_any b A hA n h1 h2 w h)
  clear h
  go_enter Tryz.func50, Tryz.ntmps50
  go_wp2_with fail
  refine HN.out.mono ?_
  rintro e w1 ⟨r, rfl, hr0, hr1, hs, hf⟩
  go_wp2_with fail
  go_ret
  exact ⟨_, rfl, hs, hf⟩
end Go.Proofs.YtgaecoekhcdaeaaGreatDoor
