/-
  A source of choices: numbers that are drawn.
-/
import Derived.Test.YtgaecoekhcdaeaaGreatDoorSrc
import Derived.Test.YtgaecoekhcdaeaaGreatDoorStr
import Derived.Test.YtgaecoekhcdaeaaGreatDoorSlc
namespace Go.Proofs.YtgaecoekhcdaeaaGreatDoor
set_option linter.unusedVariables false
set_option linter.unusedSimpArgs false
set_option maxRecDepth 20000
open Go.RowKit Fl

theorem Fr.grown {B N : Nat} {w w1 w2 : World} {row : Option Nat} (h : Fr B N w w1) (hg : w1.grownBy w2 row) (hrow : ∀ g, row = some g → w.heap.size ≤ g) : Fr B N w w2 :=
  ⟨hg.os.trans h.os, hg.tape.trans h.tape, hg.output.trans h.output, Nat.le_trans h.size hg.size, fun k hk hs => (hg.block k (Nat.lt_of_lt_of_le hk h.size) (fun e => by have := hrow k e.symm; omega)).trans (h.block k hk hs)⟩
theorem Src.grown {w w' : World} {b A : Nat} {row : Option Nat} (h : Src w b A) (hg : w.grownBy w' row) (hrow : ∀ g, row = some g → b < g) : Src w' b A :=
  h.frame (B := b + 1) (N := w.heap.size) ⟨hg.os, hg.tape, hg.output, hg.size, fun k hk hs => hg.block k hk (fun e => by have := hrow k e.symm; omega)⟩ (Nat.lt_succ_self _)
theorem own_fr {w w' : World} {B b : Nat} {e : TypeId} {s : Nat} {v : Value} {n : Nat} {xs : List Value} (h : w.ownsRow B e s v n xs) (hf : Fr b (b + 1) w w') (hB : b < B) : w'.ownsRow B e s v n xs :=
  h.kept (row := some b) ⟨hf.os, hf.tape, hf.output, hf.size, fun k hk hs => hf.block k hk (by have : k ≠ b := fun e => hs (by rw [e]); omega)⟩ (by
    cases hv : v.ownBlock with
    | none => exact .inl rfl
    | some g => exact .inr (fun e => by have := (h.lt g hv).1; have := Option.some.inj e; omega))
/-- A number that is drawn. -/
def RFl (w : World) (b A : Nat) (e : Ending) (w' : World) : Prop := ∃ r : Nat, e = .returned (.float .f32 r) ∧ r < 4294967296 ∧ Src w' b A ∧ Fr b (b + 1) w w'
theorem isF_seven : IsF .f32 1088421888 (some 1088421888) := IsF.lit (by decide +kernel)
theorem isF_sixteen : IsF .f32 1098907648 (some 1098907648) := IsF.lit (by decide +kernel)
theorem among_any (b A : Nat) (hA : A ≤ 900000) (g m : Nat) (h1 : 1 < m) (h2 : m ≤ 65536) (w : World) (h : Src w b A) (hg : g < w.heap.size) (hgb : g ≠ b) (hc : ∀ i, i < m → ∃ z : Int, 0 ≤ z ∧ z < 4294967296 ∧ w.cell? ⟨g, i, none⟩ = some (.int .i64 z)) :
    Calls Tryz.prog 80 #[.pointer (some ⟨b, 0, none⟩), .slice (some ⟨g, 0, none⟩) m m] w (RNext w b (A + 2) 4294967296) := by
  have HN := Lib.hid (pick_any b A hA m (by omega) (by omega) w h)
  have HC := Lib.hid hc
  clear h hc
  go_enter Tryz.func80, Tryz.ntmps80
  go_wp2_with fail
  refine HN.out.mono ?_
  rintro e w1 ⟨r, rfl, hr0, hr1, hs, hf⟩
  obtain ⟨i, rfl⟩ : ∃ i : Nat, r = (i : Int) := ⟨r.toNat, by omega⟩
  have hi : i < m := by omega
  obtain ⟨z, hz0, hz1, hz2⟩ := HC.out i hi
  have hcz : w1.cell? ⟨g, i, none⟩ = some (.int .i64 z) := by rw [World.cell?_of_block (a := ⟨g, i, none⟩) (hf.block g hg (by omega))]; exact hz2
  clear hz2
  go_wp2_with fail
  go_ret
  exact ⟨z, rfl, hz0, hz1, hs, hf⟩
theorem drawPlain_any (b A : Nat) (hA : A ≤ 800000) (w : World) (h : Src w b A) : Calls Tryz.prog 79 #[.pointer (some ⟨b, 0, none⟩)] w (RFl w b (A + 4)) := by
  have HP := Lib.hid (pick_any b A (by omega) 129 (by decide) (by decide) w h)
  have HO := Lib.hid (fun w' h' => one_any b (A + 2) (by omega) 4 (by decide) (by decide) w' h')
  have h7 := isF_seven
  have h16 := isF_sixteen
  clear h
  go_enter Tryz.func79, Tryz.ntmps79
  go_wp2_with fail
  refine HP.out.mono ?_
  rintro e w1 ⟨r, rfl, hr0, hr1, hs, hf⟩
  go_wp2_with fail
  refine (HO.out _ hs).mono ?_
  rintro e w2 ⟨q, rfl, hs2, hf2⟩
  have hf3 := hf.trans hf2
  clear hs hf hf2
  cases q
  all_goals
    go_wp2_with (first | (refine wpList_far rfl rfl (by first | exact .inl rfl | exact .inr (.inl rfl) | exact .inr (.inr (.inl rfl)) | exact .inr (.inr (.inr rfl))) rfl rfl (by first | assumption | exact isF_ofInt _ _ | exact IsF.lit (by decide +kernel)) (by first | assumption | exact isF_ofInt _ _ | exact IsF.lit (by decide +kernel)) ?_; intro r n hr) | (refine wpList_fcmp rfl rfl (by first | exact .inl rfl | exact .inr (.inl rfl) | exact .inr (.inr (.inl rfl)) | exact .inr (.inr (.inr (.inl rfl))) | exact .inr (.inr (.inr (.inr (.inl rfl)))) | exact .inr (.inr (.inr (.inr (.inr rfl))))) rfl rfl (by first | assumption | exact isF_ofInt _ _ | exact IsF.lit (by decide +kernel)) (by first | assumption | exact isF_ofInt _ _ | exact IsF.lit (by decide +kernel)) (by first | assumption | exact rfl) ?_) | (first | (refine wpList_fsame rfl rfl rfl (congrArg Option.isSome Tryz.underlying28) Tryz.underlying28 ?_) | (refine wpList_fsame rfl rfl rfl (congrArg Option.isSome Tryz.underlying46) Tryz.underlying46 ?_)) | (refine wpList_fwid rfl rfl rfl (congrArg Option.isSome Tryz.underlying28) Tryz.underlying46 (by assumption) ?_; intro r n hr) | (refine wpList_fnar rfl rfl rfl (congrArg Option.isSome Tryz.underlying46) Tryz.underlying28 (by assumption) (by assumption) ?_; intro r n hr) | (refine wpList_fneg rfl rfl rfl (by assumption) ?_; intro r hr))
    go_ret
    exact ⟨_, rfl, (show IsF .f32 _ _ by assumption).lt, hs2.below (below_draws _ _), hf3.drewN _⟩
theorem lits_cells {w : World} {T : TypeId} (zs : List Int) (h : ∀ z ∈ zs, 0 ≤ z ∧ z < 4294967296) : ∀ i, i < zs.length → ∃ z : Int, 0 ≤ z ∧ z < 4294967296 ∧ (w.alloc (.cells (zs.map (Value.int .i64)).toArray T)).cell? ⟨w.heap.size, i, none⟩ = some (.int .i64 z) := by
  intro i hi
  refine ⟨zs[i], (h _ (List.getElem_mem hi)).1, (h _ (List.getElem_mem hi)).2, ?_⟩
  rw [World.cell?_alloc_new]
  simp [hi]
theorem Fr.alloc {B N : Nat} {w w1 : World} (h : Fr B N w w1) (o : Obj) : Fr B N w (w1.alloc o) := h.trans (Fr.of ((Below.refl _ _).alloc (Nat.le_refl _) o))
theorem Src.alloc {w : World} {b A : Nat} (h : Src w b A) (o : Obj) : Src (w.alloc o) b A := h.below ((Below.refl _ _).alloc (Nat.le_refl _) o)
theorem Src.lt {w : World} {b A : Nat} (h : Src w b A) : b < w.heap.size := by
  obtain ⟨_, _, _, _, _, _, _, _, _, _, _, _, _, h9, _⟩ := h
  exact h9
set_option maxHeartbeats 4000000 in
theorem drawFloat_any (b A : Nat) (hA : A ≤ 700000) (w : World) (h : Src w b A) : Calls Tryz.prog 52 #[.pointer (some ⟨b, 0, none⟩)] w (RFl w b (A + 12)) := by
  have HO := Lib.hid (one_any b A (by omega) 12 (by decide) (by decide) w h)
  have HP := Lib.hid (fun w' h' => drawPlain_any b (A + 2) (by omega) w' h')
  have HK := Lib.hid (fun w' h' => pick_any b (A + 2) (by omega) 4 (by decide) (by decide) w' h')
  have HA := Lib.hid (fun w' g m h1 h2 h' hg hgb hc => among_any b (A + 4) (by omega) g m h1 h2 w' h' hg hgb hc)
  have HB := Lib.hid (fun w' h' => pick_any b (A + 4) (by omega) 65536 (by decide) (by decide) w' h')
  have HC := Lib.hid (fun w' h' => pick_any b (A + 6) (by omega) 65536 (by decide) (by decide) w' h')
  have HD := Lib.hid (fun w' h' => drawPlain_any b (A + 4) (by omega) w' h')
  have HE := Lib.hid (fun w' g m h1 h2 h' hg hgb hc => among_any b (A + 8) (by omega) g m h1 h2 w' h' hg hgb hc)
  have HF := Lib.hid (fun n w' h0 h1 => l01From_any n w' h0 h1)
  have HU := Lib.hid (fun w' A' (h : Src w' b A') (hle : A' ≤ A + 12) => h.up hle)
  clear h
  go_enter Tryz.func52, Tryz.ntmps52
  go_wp2_with fail
  refine HO.out.mono ?_
  rintro e w1 ⟨q, rfl, hs, hf⟩
  cases q
  · go_wp2_with fail
    refine (HP.out _ hs).mono ?_
    rintro e w2 ⟨r, rfl, hr, hs2, hf2⟩
    have hf3 := hf.trans hf2
    have hs3 := HU.out _ _ hs2 (by omega)
    clear hs hf hf2 hs2
    go_wp2_with fail
    go_ret
    exact ⟨_, rfl, hr, hs3, hf3⟩
  · go_wp2_with fail
    refine (HK.out _ hs).mono ?_
    rintro e w2 ⟨r, rfl, hr0, hr1, hs2, hf2⟩
    have hf3 := hf.trans hf2
    have hb2 := hs2.lt
    clear hs hf hf2
    have h5 : r = 0 ∨ r = 1 ∨ r = 2 ∨ r = 3 := by omega
    clear hr0 hr1
    rcases h5 with rfl | rfl | rfl | rfl
    · have hs4 := hs2.alloc (.cells #[.int .i64 0, .int .i64 2147483648, .int .i64 2139095040, .int .i64 4286578688, .int .i64 2143289344, .int .i64 1, .int .i64 2139095039, .int .i64 8388608, .int .i64 8388607, .int .i64 2147483649] 2)
      have hf4 := hf3.alloc (.cells #[.int .i64 0, .int .i64 2147483648, .int .i64 2139095040, .int .i64 4286578688, .int .i64 2143289344, .int .i64 1, .int .i64 2139095039, .int .i64 8388608, .int .i64 8388607, .int .i64 2147483649] 2)
      have HL := Lib.hid (lits_cells (w := w2) (T := 2) [0, 2147483648, 2139095040, 4286578688, 2143289344, 1, 2139095039, 8388608, 8388607, 2147483649] (by decide))
      have HX := Lib.hid (HA.out _ w2.heap.size 10 (by decide) (by decide) hs4 (by simp) (by omega) HL.out)
      clear hs2 hf3 hs4
      go_wp2_with fail
      refine HX.out.mono ?_
      rintro e w3 ⟨z, rfl, hz0, hz1, hs5, hf5⟩
      have hf6 := hf4.trans hf5
      have hs6 := HU.out _ _ hs5 (by omega)
      clear hs5 hf5 hf4
      go_wp2_with fail
      refine (HF.out z _ hz0 (by omega)).mono ?_
      rintro e w4 ⟨rfl, hw4⟩
      obtain rfl := hw4.symm
      go_wp2_with fail
      go_ret
      exact ⟨_, rfl, by omega, hs6, hf6⟩
    · go_wp2_with fail
      refine (HB.out _ hs2).mono ?_
      rintro e w3 ⟨x, rfl, hx0, hx1, hs4, hf4⟩
      have hf5 := hf3.trans hf4
      clear hs2 hf3 hf4
      go_wp2_with fail
      refine (HC.out _ hs4).mono ?_
      rintro e w4 ⟨y, rfl, hy0, hy1, hs5, hf6⟩
      have hf7 := hf5.trans hf6
      have hs6 := HU.out _ _ hs5 (by omega)
      clear hs4 hs5 hf5 hf6
      go_wp2_with fail
      refine (HF.out _ _ (by omega) (by omega)).mono ?_
      rintro e w5 ⟨rfl, hw5⟩
      obtain rfl := hw5.symm
      go_wp2_with fail
      go_ret
      exact ⟨_, rfl, by omega, hs6, hf7⟩
    · go_wp2_with fail
      refine (HB.out _ hs2).mono ?_
      rintro e w3 ⟨x, rfl, hx0, hx1, hs4, hf4⟩
      have hf5 := hf3.trans hf4
      have hs6 := HU.out _ _ hs4 (by omega)
      clear hs2 hf3 hf4 hs4
      go_wp2_with fail
      refine (HF.out _ _ (by omega) (by omega)).mono ?_
      rintro e w5 ⟨rfl, hw5⟩
      obtain rfl := hw5.symm
      go_wp2_with fail
      go_ret
      exact ⟨_, rfl, by omega, hs6, hf5⟩
    · go_wp2_with fail
      refine (HD.out _ hs2).mono ?_
      rintro e w3 ⟨x, rfl, hx, hs4, hf4⟩
      have hf5 := hf3.trans hf4
      have hb4 := hs4.lt
      have hs5 := hs4.alloc (.cells #[.int .i64 8388608, .int .i64 2130706432, .int .i64 1610612736, .int .i64 536870912] 2)
      have hf6 := hf5.alloc (.cells #[.int .i64 8388608, .int .i64 2130706432, .int .i64 1610612736, .int .i64 536870912] 2)
      have HL := Lib.hid (lits_cells (w := w3) (T := 2) [8388608, 2130706432, 1610612736, 536870912] (by decide))
      have HX := Lib.hid (HE.out _ w3.heap.size 4 (by decide) (by decide) hs5 (by simp) (by omega) HL.out)
      clear hs2 hf3 hf4 hs4 hs5 hf5
      go_wp2_with fail
      refine HX.out.mono ?_
      rintro e w4 ⟨z, rfl, hz0, hz1, hs7, hf7⟩
      have hf8 := hf6.trans hf7
      have hs8 := HU.out _ _ hs7 (by omega)
      clear hs7 hf7 hf6
      go_wp2_with fail
      refine (HF.out z _ hz0 (by omega)).mono ?_
      rintro e w5 ⟨rfl, hw5⟩
      obtain rfl := hw5.symm
      have ix : IsF .f32 x (cl .f32 x) := IsF.of (show x < 4294967296 from hx)
      have iz : IsF .f32 z.toNat (cl .f32 z.toNat) := IsF.of (show z.toNat < 4294967296 by omega)
      go_wp2_with (first | (refine wpList_far rfl rfl (by first | exact .inl rfl | exact .inr (.inl rfl) | exact .inr (.inr (.inl rfl)) | exact .inr (.inr (.inr rfl))) rfl rfl (by first | assumption | exact isF_ofInt _ _ | exact IsF.lit (by decide +kernel)) (by first | assumption | exact isF_ofInt _ _ | exact IsF.lit (by decide +kernel)) ?_; intro r n hr) | (refine wpList_fcmp rfl rfl (by first | exact .inl rfl | exact .inr (.inl rfl) | exact .inr (.inr (.inl rfl)) | exact .inr (.inr (.inr (.inl rfl))) | exact .inr (.inr (.inr (.inr (.inl rfl)))) | exact .inr (.inr (.inr (.inr (.inr rfl))))) rfl rfl (by first | assumption | exact isF_ofInt _ _ | exact IsF.lit (by decide +kernel)) (by first | assumption | exact isF_ofInt _ _ | exact IsF.lit (by decide +kernel)) (by first | assumption | exact rfl) ?_) | (first | (refine wpList_fsame rfl rfl rfl (congrArg Option.isSome Tryz.underlying28) Tryz.underlying28 ?_) | (refine wpList_fsame rfl rfl rfl (congrArg Option.isSome Tryz.underlying46) Tryz.underlying46 ?_)) | (refine wpList_fwid rfl rfl rfl (congrArg Option.isSome Tryz.underlying28) Tryz.underlying46 (by assumption) ?_; intro r n hr) | (refine wpList_fnar rfl rfl rfl (congrArg Option.isSome Tryz.underlying46) Tryz.underlying28 (by assumption) (by assumption) ?_; intro r n hr) | (refine wpList_fneg rfl rfl rfl (by assumption) ?_; intro r hr))
      go_ret
      exact ⟨_, rfl, (show IsF .f32 _ (ar .mul .f32 _ _) by assumption).lt, hs8.below (below_draws _ _), hf8.drewN _⟩
end Go.Proofs.YtgaecoekhcdaeaaGreatDoor
