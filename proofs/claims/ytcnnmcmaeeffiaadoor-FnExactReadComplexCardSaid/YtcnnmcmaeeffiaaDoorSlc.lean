/-
  Contracts of the functions on slices of floats that the laws call.
-/
import Derived.Test.YtcnnmcmaeeffiaaDoorSl
import Derived.Test.YtcnnmcmaeeffiaaDoorMore
import Derived.Deep.RegionWith
import Derived.BigQuiet
namespace Go.Proofs.YtcnnmcmaeeffiaaDoor
set_option linter.unusedVariables false
set_option linter.unusedSimpArgs false
open Go.RowKit Fl
attribute [local go_sem] run_store_float

/-- The cell of a float. -/
def fcell (bs : List Nat) (i : Nat) : Value := .float .f32 (fget bs i)

theorem info_f32 : (Tryd.prog.info? 38).map (fun i => (i.zero, i.size, i.bytes)) = some (some (.float .f32 0), 1, 4) := by kernel_rfl

set_option maxHeartbeats 400000 in
theorem toFloat32S_any (v : Value) (bs : List Nat) (w : World) (h : FSl .f32 w v bs) (hl : bs.length ≤ 1048576) :
    Calls Tryd.prog 7 #[v] w fun e w' => e = .returned (.slice (some ⟨w.heap.size, 0, none⟩) bs.length bs.length) ∧ w'.rowIs w.heap.size 38 bs.length (fcell bs) ∧ Below w.heap.size w w' ∧ w.heap.size < w'.heap.size := by
  obtain ⟨ao, cap, rfl, h1, h2, h3, h4⟩ := h
  have hmk := fun W => run_make_row' (P := Tryd.prog) 22 38 (.float .f32 0) 4 Tryd.underlying22 info_f32 rfl .i64 .i64 bs.length (by omega) (by omega) W
  rcases h4 with h4 | ⟨b, off, rfl, hb, hc⟩
  · subst h4
    have hmk0 : ∀ W : World, (Instr.makeSlice 22 (.int .i64 0) (.int .i64 0)).run Tryd.prog W = .ok (.slice (some ⟨W.heap.size, 0, none⟩) 0 0) (W.alloc (.cells (madeCells #[.float .f32 0] 0) 38)) := hmk
    clear hmk
    go_enter Tryd.func7, Tryd.ntmps7
    go_wp2
    refine wp_loop_rounds 1 ?_
    rw [rounds_succ]
    go_wp2
    go_ret
    exact ⟨rfl, (World.rowIs_made w (.float .f32 0) 0 38).congr (fun i hi => absurd hi (Nat.not_lt_zero _)), (Below.refl _ _).alloc (Nat.le_refl _) _, by simp⟩
  · have HC := Lib.hid hc
    clear hc h3
    go_enter Tryd.func7, Tryd.ntmps7
    go_wp2
    go_loopw [4] (fun i wr => ∃ k : Nat, k ≤ bs.length ∧ i = .int .i64 k ∧ wr.rowIs w.heap.size 38 bs.length (fun j => if j < k then fcell bs j else .float .f32 0) ∧ Below w.heap.size w wr) (fun i _ => bs.length - (intOf i).toNat)
    case atStart => exact ⟨0, Nat.zero_le _, rfl, (World.rowIs_made _ _ _ _).congr (fun i _ => by simp), (Below.refl _ _).alloc (Nat.le_refl _) _⟩
    case round =>
      obtain ⟨k, hk, rfl, hrow, hbel⟩ := hrel
      by_cases hlt : k < bs.length
      · have hsrc : wr.cell? ⟨b, off + k, none⟩ = some (.float .f32 (fget bs k)) := by rw [hbel.cell (p := ⟨b, off + k, none⟩) hb]; exact HC.out k hlt
        have hown : wr.cell? ⟨w.heap.size, k, none⟩ = some (.float .f32 0) := by have := hrow.cell hlt; simpa using this
        have hfz : wr.frozen? ⟨w.heap.size, k, none⟩ = false := hrow.frozen k
        go_wp2
        all_goals
          go_roundw
          case rel =>
            refine ⟨k + 1, by omega, by go_num, ?_, hbel.setCell (Nat.le_refl _) _⟩
            refine (hrow.set k _).congr (fun j hj => ?_)
            by_cases hjk : j = k
            · subst hjk; simp [fcell]
            · simp only [hjk, if_false]
              by_cases h5 : j < k
              · simp [h5, show j < k + 1 by omega]
              · simp [h5, show ¬ j < k + 1 by omega]
          case measure => simp [intOf]; omega
      · go_wp2
        go_ret
        have hkn : k = bs.length := by omega
        exact ⟨rfl, hrow.congr (fun j hj => by simp [show j < k by omega]), hbel, hrow.lt⟩
theorem FSl_of_row {w : World} {g : Nat} {t : TypeId} {bs : List Nat} (h : w.rowIs g t bs.length (fcell bs)) (hl : bs.length ≤ 1048576) (hb : ∀ b ∈ bs, b < 2 ^ FloatKind.f32.format.width) :
    FSl .f32 w (.slice (some ⟨g, 0, none⟩) bs.length bs.length) bs :=
  ⟨_, _, rfl, Nat.le_refl _, by unfold maxLen; omega, hb, .inr ⟨g, 0, rfl, h.lt, fun i hi => by rw [Nat.zero_add]; exact h.cell hi⟩⟩

set_option maxHeartbeats 1000000 in
theorem eqFloat32S_any (v1 v2 : Value) (b1 b2 : List Nat) (w : World) (h1 : FSl .f32 w v1 b1) (h2 : FSl .f32 w v2 b2) (hn : b1.length = b2.length) (he : ∀ i, i < b1.length → cl .f32 (fget b1 i) = cl .f32 (fget b2 i)) :
    Calls Tryd.prog 9 #[v1, v2] w (Ret w (.bool true)) := by
  obtain ⟨ao1, cap1, rfl, g1, g2, g3, g4⟩ := h1
  obtain ⟨ao2, cap2, rfl, k1, k2, k3, k4⟩ := h2
  have G3 := Lib.hid g3
  have K3 := Lib.hid k3
  have HE := Lib.hid he
  unfold maxLen at g2
  clear g3 k3 he
  rw [← hn]
  rcases Nat.eq_zero_or_pos b1.length with h0 | h0
  · rw [h0]
    clear h0 hn g4 k4 g1 k1 g2 k2
    go_enter Tryd.func9, Tryd.ntmps9
    go_wp2
    refine wp_loop_rounds 1 ?_
    rw [rounds_succ]
    go_wp2
    go_ret
    exact ret_mk0 rfl
  · rcases g4 with g4 | ⟨x1, o1, rfl, _, hc1⟩
    · subst g4; cases h0
    rcases k4 with k4 | ⟨x2, o2, rfl, _, hc2⟩
    · subst k4; rw [hn] at h0; exact absurd h0 (Nat.lt_irrefl 0)
    have HC1 := Lib.hid hc1
    have HC2 := Lib.hid hc2
    have HN := Lib.hid hn
    clear hc1 hc2 hn k1 k2
    go_enter Tryd.func9, Tryd.ntmps9
    go_wp2
    go_loopw [5] (fun i wr => ∃ k : Nat, k ≤ b1.length ∧ i = .int .i64 k ∧ ∃ m, wr = w.drewN m) (fun i _ => b1.length - (intOf i).toNat)
    case atStart => exact ⟨0, Nat.zero_le _, rfl, 0, rfl⟩
    case round =>
      obtain ⟨k, hk, rfl, m, rfl⟩ := hrel
      by_cases hlt : k < b1.length
      · have s1 := HC1.out k hlt
        have s2 := HC2.out k (by rw [← HN.out]; exact hlt)
        have i1 : IsF .f32 (fget b1 k) (cl .f32 (fget b1 k)) := IsF.of (G3.out _ (fget_mem hlt))
        have i2 : IsF .f32 (fget b2 k) (cl .f32 (fget b1 k)) := by rw [HE.out k hlt]; exact IsF.of (K3.out _ (fget_mem (by rw [← HN.out]; exact hlt)))
        obtain ⟨ca, na, hca, hia⟩ := wid_fn (P := Tryd.prog) (src := 38) (dst := 43) (congrArg Option.isSome Tryd.underlying38) Tryd.underlying43 i1
        obtain ⟨cb, nb, hcb, hib⟩ := wid_fn (P := Tryd.prog) (src := 38) (dst := 43) (congrArg Option.isSome Tryd.underlying38) Tryd.underlying43 i2
        generalize cl .f32 (fget b1 k) = cv at *
        generalize fget b1 k = e1 at *
        generalize fget b2 k = e2 at *
        go_wp2
        go_region_with (go_at_call 23; refine (sameFloat_any _ _ _ (hia _) (hib _) _).mono ?_; rintro e w' ⟨q, rfl, rfl⟩)
        all_goals go_wp2
        all_goals
          go_roundw
          case rel => exact ⟨k + 1, by omega, by go_num, _, rfl⟩
          case measure => simp [intOf]; omega
      · go_wp2
        go_ret
        exact ret_mk rfl

/-- The sum from left to right, of the first k. -/
def sumF (bs : List Nat) (k : Nat) : Option Nat := ((bs.take k).map (cl .f32)).foldl (ar .add .f32) (some 0)
theorem sumF_zero (bs : List Nat) : sumF bs 0 = some 0 := by simp [sumF]
theorem sumF_succ {bs : List Nat} {k : Nat} (h : k < bs.length) : sumF bs (k + 1) = ar .add .f32 (sumF bs k) (cl .f32 (fget bs k)) := by
  unfold sumF; rw [take_fget h, List.map_append, List.foldl_append]; rfl
theorem isF_zero : IsF .f32 0 (some 0) := IsF.lit (by decide +kernel)


/-- The call returns a float and a bool. -/
def RetFB (w : World) (v : Option Nat) (b : Bool) (e : Ending) (w' : World) : Prop := ∃ r n, e = .returned (.tuple #[.float .f32 r, .bool b]) ∧ IsF .f32 r v ∧ w' = w.drewN n

theorem FSl.len {k : FloatKind} {w : World} {v : Value} {bs : List Nat} (h : FSl k w v bs) : ∃ ao cap, v = .slice ao bs.length cap ∧ bs.length ≤ 9223372036854775807 := by
  obtain ⟨ao, cap, h1, h2, h3, _⟩ := h
  unfold maxLen at h3
  exact ⟨ao, cap, h1, by omega⟩
theorem FSl.bits {k : FloatKind} {w : World} {v : Value} {bs : List Nat} (h : FSl k w v bs) : ∀ b ∈ bs, b < 2 ^ k.format.width := by
  obtain ⟨ao, cap, h1, h2, h3, h4, _⟩ := h
  exact h4

theorem l01Few_any (v : Value) (bs : List Nat) (w : World) (h : FSl .f32 w v bs) :
    Calls Tryd.prog 19 #[v] w fun e w' => e = .returned (.bool (decide ((bs.length : Int) ≤ 256))) ∧ w' = w := by
  obtain ⟨ao, cap, rfl, _⟩ := h.len
  go_enter Tryd.func19, Tryd.ntmps19
  go_wp2
  go_ret
  exact ⟨rfl, rfl⟩
end Go.Proofs.YtcnnmcmaeeffiaaDoor
