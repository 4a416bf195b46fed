/-
  What the law FnNumbers needs beside the contracts.
-/
import Derived.Test.YtgaecoekhcdaeaaGreatDoorSrcn
import Derived.Test.YtgaecoekhcdaeaaGreatDoorNrw
import Derived.Test.YtgaecoekhcdaeaaGreatDoorReadm
import Derived.Test.YtgaecoekhcdaeaaGreatDoorNtxt
import Derived.Test.YtgaecoekhcdaeaaGreatDoorFlush
import Derived.Test.YtgaecoekhcdaeaaGreatDoorSin
import Derived.Test.YtgaecoekhcdaeaaGreatDoorAngn
namespace Go.Proofs.YtgaecoekhcdaeaaGreatDoor
set_option linter.unusedVariables false
set_option linter.unusedSimpArgs false
set_option maxRecDepth 20000
open Go.RowKit Fl

theorem b10Numbers_any (v : Value) (m : Nat) (hm : m ≤ 1048576) (n : Nat) (hn : n ≤ 1000) (w : World) (h : BySl w v m) : Calls Tryz.prog 29 #[v, .int .i64 n] w (RNums w n) := by
  have hv : ∃ ao m cap, v = .slice ao m cap := by obtain ⟨ao, cap, hv, _⟩ := h; exact ⟨ao, m, cap, hv⟩
  have HM := Lib.hid (from_any v m hm w h)
  have HD := Lib.hid (fun w' (h' : Src w' w.heap.size 0) => drawFloats_any w.heap.size 0 n (by omega) hn w' h')
  have HW := Lib.hid (fun w1 w2 h1 h2 => fr_below (w := w) (w1 := w1) (w2 := w2) h1 h2)
  obtain ⟨ao, m, cap, rfl⟩ := hv
  clear h
  unfold RFrom at HM
  unfold RNums
  generalize hb : w.heap.size = b at *
  clear hb
  go_enter Tryz.func29, Tryz.ntmps29
  go_wp2_with fail
  refine HM.out.mono ?_
  rintro e w1 ⟨rfl, hs, hb1⟩
  go_wp2_with fail
  refine (HD.out _ hs).mono ?_
  rintro e w2 ⟨x, bs, rfl, hx, hl, hf⟩
  have D := HW.out _ _ hb1 hf
  have HL := Lib.hid hl
  clear hb1 hs hf hl
  go_wp2_with fail
  go_ret
  exact ⟨x, bs, rfl, hx, HL.out, D⟩
theorem isF_bitsN {b : Nat} {v : Option Nat} (h : IsF .f32 b v) : IsF .f32 (bitsN v) v := by
  cases v with
  | none => exact IsF.lit_nan (by decide +kernel)
  | some x => obtain ⟨rfl, _⟩ := h.num; exact h
theorem bits_same (v : Option Nat) : (bitsI v == bitsI v) = true := beq_self_eq_true _
theorem hi31_ne {b : Nat} (h0 : 0 < rg S b) : hi31 b ≠ b := by
  unfold hi31
  unfold rg at h0
  rw [S_sw] at h0
  omega
/-- Flushed numbers are not subnormal, and the same just where they were not. -/
theorem flush_facts {b : Nat} {v : Option Nat} (h : IsF .f32 b v) : subF (flushF v) = false ∧ (subF v == (bitsI v == bitsI (flushF v))) = false := by
  cases v with
  | none => exact ⟨rfl, rfl⟩
  | some x =>
    obtain ⟨rfl, _⟩ := h.num
    by_cases h1 : rg S b < S.binade
    · have e : flushF (some b) = some (hi31 b) := by unfold flushF; simp only; rw [if_pos h1]
      have hz : rg S (hi31 b) = 0 := by
        unfold rg hi31
        rw [S_sw]
        omega
      rw [e]
      refine ⟨by unfold subF; simp [hz], ?_⟩
      rcases Nat.eq_zero_or_pos (rg S b) with h0 | h0
      · have hb : b < 4294967296 := h.2
        have he : hi31 b = b := by
          unfold hi31
          unfold rg at h0
          rw [S_sw] at h0
          omega
        rw [he]
        unfold subF
        simp [h0]
      · have hne := hi31_ne h0
        have hs : subF (some b) = true := by unfold subF; simp [h0, h1]
        rw [hs]
        have : (bitsI (some b) == bitsI (some (hi31 b))) = false := by
          rw [beq_eq_false_iff_ne]
          intro e
          have e2 : (b : Int) = ((hi31 b : Nat) : Int) := e
          omega
        rw [this]
        rfl
    · have e : flushF (some b) = some b := by unfold flushF; simp only; rw [if_neg h1]
      rw [e, bits_same]
      have hs : subF (some b) = false := by unfold subF; simp; omega
      rw [hs]
      exact ⟨rfl, rfl⟩
/-- A text of hexadecimal words is cut back into them. -/
theorem cut_word {x : List UInt8} (h : x.all isH = true) : ∀ j, j < x.length → x[j]? ≠ some 44 := by
  intro j hj e
  rw [List.all_eq_true] at h
  have := h _ (List.mem_of_getElem? e)
  revert this
  decide
theorem cut_join : ∀ (x : List UInt8) (r : List (List UInt8)), x.all isH = true → (∀ y ∈ r, y.all isH = true) → cutL 44 (Lib.join (x :: r) [44]) = x :: r
  | x, [], hx, _ => by
    rw [Lib.join_one]
    exact cut_miss 44 x (cut_word hx)
  | x, y :: r, hx, hr => by
    have ih := cut_join y r (hr y (List.mem_cons_self ..)) (fun z hz => hr z (List.mem_cons_of_mem _ hz))
    have e : Lib.join (x :: y :: r) [44] = x ++ (44 :: Lib.join (y :: r) [44]) := by
      rw [Lib.join_cons, Lib.join_cons]
      simp [Lib.joinTail]
    rw [e]
    have hh := cut_hit 44 x.length (x ++ (44 :: Lib.join (y :: r) [44])) (fun j hj => by rw [List.getElem?_append_left hj]; exact cut_word hx j hj) (by rw [List.getElem?_append_right (Nat.le_refl _)]; simp)
    rw [hh, List.take_left' rfl]
    congr 1
    rw [show x ++ (44 :: Lib.join (y :: r) [44]) = (x ++ [44]) ++ Lib.join (y :: r) [44] by simp, List.drop_left' (by simp)]
    exact ih
theorem hexF_all (b : Nat) : (hexF b).all isH = true := hex8_all _
/-- The text of a list is cut into its words. -/
theorem parts_txt (l : List Nat) : partsL (txtOf (wordsF l)) = wordsF l := by
  cases l with
  | nil => rfl
  | cons b r =>
    have hne : wordsF (b :: r) ≠ [] := by simp [wordsF]
    rw [txtOf_ne hne]
    have hw : wordsF (b :: r) = hexF b :: wordsF r := rfl
    rw [hw]
    have hl : (Lib.join (hexF b :: wordsF r) [44]).length ≠ noneL.length := by
      rw [Lib.join_length]
      unfold Lib.lens
      simp only [List.map_cons, List.sum_cons, hexF_len]
      show _ ≠ 4
      omega
    have hn : Lib.join (hexF b :: wordsF r) [44] ≠ noneL := fun e => hl (by rw [e])
    rw [partsL_cut hn]
    exact cut_join _ _ (hexF_all b) (fun y hy => by
      obtain ⟨z, _, rfl⟩ := List.mem_map.1 hy
      exact hexF_all z)
theorem rhk_hexF {b : Nat} (hb : b < 4294967296) : rhk (hexF b) = true ∧ hval (hexF b) = bitsN (cl .f32 b) := by
  have hi : IsF .f32 b (cl .f32 b) := IsF.of (show b < 4294967296 from hb)
  have hn := bitsN_lt hi
  have hv : hval (hexF b) = bitsN (cl .f32 b) := hex8_val hn
  refine ⟨?_, hv⟩
  unfold rhk
  rw [decide_eq_true (hexF_len b), hexF_all, hv, (isF_bitsN hi).eq]
  simp
/-- A list's text is read back. -/
theorem read_back (l : List Nat) (hl : l.length ≤ 256) (hb : ∀ b ∈ l, b < 4294967296) : lokG rhk 256 (partsL (txtOf (wordsF l))) = true ∧ lvF (partsL (txtOf (wordsF l))) = l.map (fun b => bitsN (cl .f32 b)) := by
  rw [parts_txt]
  have hok : lokG rhk 256 (wordsF l) = true := by
    unfold lokG
    rw [wordsF_len, decide_eq_true hl, Bool.true_and, List.all_eq_true]
    intro x hx
    obtain ⟨z, hz, rfl⟩ := List.mem_map.1 hx
    exact (rhk_hexF (hb z hz)).1
  refine ⟨hok, ?_⟩
  unfold lvF
  rw [hok, if_pos rfl]
  unfold wordsF
  rw [List.map_map]
  exact List.map_congr_left (fun b h => (rhk_hexF (hb b h)).2)
theorem iAngleOf_any (a b : Nat) (u v : Option Nat) (ha : IsF .f32 a u) (hb : IsF .f32 b v) (w : World) : Calls Tryz.prog 35 #[.complex .f32 a b] w (RetFw w .f32 (angN v u)) := by
  have HA := Lib.hid (iAngleTurns_any b a v u hb ha w)
  clear ha hb
  go_enter Tryz.func35, Tryz.ntmps35
  go_wp2_with fail
  refine HA.out.mono ?_
  rintro e w1 ⟨r, rfl, hr, hb⟩
  go_wp2_with fail
  go_ret
  exact ⟨r, rfl, hr, hb⟩
theorem iNarrow_wid (b r : Nat) (v : Option Nat) (h : IsF .f32 b v) (hr : IsF .f64 r (wid v)) (w : World) : Calls Tryz.prog 36 #[.float .f64 r] w (RetF w .f32 v) := by
  have ho := narOk_wid h
  have HN := Lib.hid (nar_wid h)
  clear h
  go_enter Tryz.func36, Tryz.ntmps36
  go_wp2_with (first | (refine wpList_far rfl rfl (by first | exact .inl rfl | exact .inr (.inl rfl) | exact .inr (.inr (.inl rfl)) | exact .inr (.inr (.inr rfl))) rfl rfl (by first | assumption | exact isF_ofInt _ _ | exact IsF.lit (by decide +kernel)) (by first | assumption | exact isF_ofInt _ _ | exact IsF.lit (by decide +kernel)) ?_; intro r n hr) | (refine wpList_fcmp rfl rfl (by first | exact .inl rfl | exact .inr (.inl rfl) | exact .inr (.inr (.inl rfl)) | exact .inr (.inr (.inr (.inl rfl))) | exact .inr (.inr (.inr (.inr (.inl rfl)))) | exact .inr (.inr (.inr (.inr (.inr rfl))))) rfl rfl (by first | assumption | exact isF_ofInt _ _ | exact IsF.lit (by decide +kernel)) (by first | assumption | exact isF_ofInt _ _ | exact IsF.lit (by decide +kernel)) (by first | assumption | exact rfl) ?_) | (first | (refine wpList_fsame rfl rfl rfl (congrArg Option.isSome Tryz.underlying28) Tryz.underlying28 ?_) | (refine wpList_fsame rfl rfl rfl (congrArg Option.isSome Tryz.underlying46) Tryz.underlying46 ?_)) | (refine wpList_fwid rfl rfl rfl (congrArg Option.isSome Tryz.underlying28) Tryz.underlying46 (by assumption) ?_; intro r n hr) | (refine wpList_fnar rfl rfl rfl (congrArg Option.isSome Tryz.underlying46) Tryz.underlying28 (by assumption) (by assumption) ?_; intro r n hr) | (refine wpList_fneg rfl rfl rfl (by assumption) ?_; intro r hr))
  go_ret
  exact ⟨_, _, rfl, by rw [← HN.out]; assumption, rfl⟩
theorem txt_len (l : List Nat) (h : l.length ≤ 256) : (txtOf (wordsF l)).length ≤ 1048576 := by
  unfold txtOf
  split
  · decide
  · have h1 := lens_wordsF l
    have h3 := wordsF_len l
    cases hw : wordsF l with
    | nil => simp [Lib.join_nil]
    | cons x r =>
      rw [Lib.join_length]
      rw [hw] at h1 h3
      simp only [List.length_cons, List.length_nil] at h3 ⊢
      omega
theorem sin_quarter : sinN (some 1048576000) = some 1065353216 := by decide +kernel
end Go.Proofs.YtgaecoekhcdaeaaGreatDoor
