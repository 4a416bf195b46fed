/-
  Complex numbers, and lists of them, drawn by bytes.
-/
import Derived.Test.YtgaecoekhcdaeaaGreatDoorSrcn
import Derived.Test.YtgaecoekhcdaeaaGreatDoorReade
namespace Go.Proofs.YtgaecoekhcdaeaaGreatDoor
set_option linter.unusedVariables false
set_option linter.unusedSimpArgs false
set_option maxRecDepth 20000
open Go.RowKit Fl

/-- A slice of complex numbers. -/
def cg (l : List (Nat × Nat)) (i : Nat) : Nat × Nat := l.getD i (0, 0)
def ccv (p : Nat × Nat) : Value := .complex .f32 p.1 p.2
def CSl (w : World) (v : Value) (l : List (Nat × Nat)) : Prop :=
  ∃ ao cap, v = .slice ao l.length cap ∧ l.length ≤ cap ∧ cap ≤ maxLen ∧ (∀ b ∈ l, b.1 < 4294967296 ∧ b.2 < 4294967296) ∧
    (l = [] ∨ ∃ b off, ao = some ⟨b, off, none⟩ ∧ b < w.heap.size ∧ ∀ i, i < l.length → w.cell? ⟨b, off + i, none⟩ = some (.complex .f32 (cg l i).1 (cg l i).2))
theorem CSl.nil {w : World} : CSl w (.slice none 0 0) [] := ⟨none, 0, rfl, Nat.le_refl _, Nat.zero_le _, fun _ h => absurd h (List.not_mem_nil), .inl rfl⟩
theorem CSl.below {w w' : World} {v : Value} {l : List (Nat × Nat)} (h : CSl w v l) (hb : Below w.heap.size w w') : CSl w' v l := by
  obtain ⟨ao, cap, hv, h1, h2, h3, h4⟩ := h
  refine ⟨ao, cap, hv, h1, h2, h3, ?_⟩
  rcases h4 with h4 | ⟨b, off, h4, hlt, hc⟩
  · exact .inl h4
  · exact .inr ⟨b, off, h4, Nat.lt_of_lt_of_le hlt hb.size, fun i hi => by rw [hb.cell (p := ⟨b, off + i, none⟩) hlt]; exact hc i hi⟩
theorem cg_mem {l : List (Nat × Nat)} {i : Nat} (h : i < l.length) : cg l i ∈ l := by
  unfold cg
  simp [List.getD, h]
theorem own_csl {w : World} {B : Nat} {e : TypeId} {v : Value} {n : Nat} {xs : List (Nat × Nat)} (h : w.ownsRow B e 1 v n (xs.map ccv)) (hn : xs.length = n) (hb : ∀ b ∈ xs, b.1 < 4294967296 ∧ b.2 < 4294967296) : CSl w v xs := by
  have h0 := h
  obtain ⟨h1, ⟨rfl, h2⟩ | ⟨g, cap, cur, rfl, h2, h3, h4, h5, h6, h7⟩⟩ := h
  · have : xs = [] := by apply List.length_eq_zero_iff.1; omega
    subst this
    exact CSl.nil
  · subst hn
    refine ⟨_, cap, rfl, h4, h5, hb, ?_⟩
    rcases Nat.eq_zero_or_pos xs.length with hz | hz
    · exact .inl (List.length_eq_zero_iff.1 hz)
    · refine .inr ⟨g, 0, rfl, (Array.getElem?_eq_some_iff.1 h3).1, fun i hi => ?_⟩
      have := h0.cells (g := g) rfl i (ccv (cg xs i)) (by simp [cg, List.getD, hi])
      rw [Addr.add_lit] at this
      exact this
/-- A complex number that is drawn. -/
def RCd (w : World) (b A : Nat) (e : Ending) (w' : World) : Prop := ∃ r s : Nat, e = .returned (.complex .f32 r s) ∧ (r < 4294967296 ∧ s < 4294967296) ∧ Src w' b A ∧ Fr b (b + 1) w w'
theorem drawComplex_any (b A : Nat) (hA : A ≤ 600000) (w : World) (h : Src w b A) : Calls Tryz.prog 56 #[.pointer (some ⟨b, 0, none⟩)] w (RCd w b (A + 24)) := by
  have H1 := Lib.hid (drawFloat_any b A (by omega) w h)
  have H2 := Lib.hid (fun w' h' => drawFloat_any b (A + 12) (by omega) w' h')
  clear h
  go_enter Tryz.func56, Tryz.ntmps56
  go_wp2_with fail
  refine H1.out.mono ?_
  rintro e w1 ⟨r, rfl, hr, hs, hf⟩
  go_wp2_with fail
  refine (H2.out _ hs).mono ?_
  rintro e w2 ⟨q, rfl, hq, hs2, hf2⟩
  have D := hf.trans hf2
  clear hs hf hf2
  go_wp2_with fail
  go_ret
  exact ⟨r, q, rfl, ⟨hr, hq⟩, hs2, D⟩
set_option maxHeartbeats 1000000 in
theorem drawFine_any (b A : Nat) (hA : A ≤ 600000) (w : World) (h : Src w b A) : Calls Tryz.prog 57 #[.pointer (some ⟨b, 0, none⟩)] w (RCd w b (A + 24)) := by
  have H1 := Lib.hid (pick_any b A (by omega) 65 (by decide) (by decide) w h)
  have H2 := Lib.hid (fun w' h' => pick_any b (A + 2) (by omega) 65 (by decide) (by decide) w' h')
  have HU := Lib.hid (fun w' (h : Src w' b (A + 2 + 2)) => h.up (A' := A + 24) (by omega))
  have h16 := isF_sixteen
  clear h
  go_enter Tryz.func57, Tryz.ntmps57
  go_wp2_with fail
  refine H1.out.mono ?_
  rintro e w1 ⟨r, rfl, hr0, hr1, hs, hf⟩
  go_wp2_with (first | (refine wpList_far rfl rfl (by first | exact .inl rfl | exact .inr (.inl rfl) | exact .inr (.inr (.inl rfl)) | exact .inr (.inr (.inr rfl))) rfl rfl (by first | assumption | exact isF_ofInt _ _ | exact IsF.lit (by decide +kernel)) (by first | assumption | exact isF_ofInt _ _ | exact IsF.lit (by decide +kernel)) ?_; intro r n hr) | (refine wpList_fcmp rfl rfl (by first | exact .inl rfl | exact .inr (.inl rfl) | exact .inr (.inr (.inl rfl)) | exact .inr (.inr (.inr (.inl rfl))) | exact .inr (.inr (.inr (.inr (.inl rfl)))) | exact .inr (.inr (.inr (.inr (.inr rfl))))) rfl rfl (by first | assumption | exact isF_ofInt _ _ | exact IsF.lit (by decide +kernel)) (by first | assumption | exact isF_ofInt _ _ | exact IsF.lit (by decide +kernel)) (by first | assumption | exact rfl) ?_) | (first | (refine wpList_fsame rfl rfl rfl (congrArg Option.isSome Tryz.underlying28) Tryz.underlying28 ?_) | (refine wpList_fsame rfl rfl rfl (congrArg Option.isSome Tryz.underlying46) Tryz.underlying46 ?_)) | (refine wpList_fwid rfl rfl rfl (congrArg Option.isSome Tryz.underlying28) Tryz.underlying46 (by assumption) ?_; intro r n hr) | (refine wpList_fnar rfl rfl rfl (congrArg Option.isSome Tryz.underlying46) Tryz.underlying28 (by assumption) (by assumption) ?_; intro r n hr) | (refine wpList_fneg rfl rfl rfl (by assumption) ?_; intro r hr))
  refine (H2.out _ ?hsrc).mono ?_
  case hsrc => exact hs.below (below_draws _ _)
  have hr3 : r < 4294967296 := (show IsF .f32 _ _ from hr).lt
  rintro e w2 ⟨q, rfl, hq0, hq1, hs2, hf2⟩
  have D := (hf.drewN _).trans hf2
  have hs3 := HU.out _ hs2
  clear hs hf hf2 hs2
  generalize r = r3 at *
  clear hr
  go_wp2_with (first | (refine wpList_far rfl rfl (by first | exact .inl rfl | exact .inr (.inl rfl) | exact .inr (.inr (.inl rfl)) | exact .inr (.inr (.inr rfl))) rfl rfl (by first | assumption | exact isF_ofInt _ _ | exact IsF.lit (by decide +kernel)) (by first | assumption | exact isF_ofInt _ _ | exact IsF.lit (by decide +kernel)) ?_; intro r n hr) | (refine wpList_fcmp rfl rfl (by first | exact .inl rfl | exact .inr (.inl rfl) | exact .inr (.inr (.inl rfl)) | exact .inr (.inr (.inr (.inl rfl))) | exact .inr (.inr (.inr (.inr (.inl rfl)))) | exact .inr (.inr (.inr (.inr (.inr rfl))))) rfl rfl (by first | assumption | exact isF_ofInt _ _ | exact IsF.lit (by decide +kernel)) (by first | assumption | exact isF_ofInt _ _ | exact IsF.lit (by decide +kernel)) (by first | assumption | exact rfl) ?_) | (first | (refine wpList_fsame rfl rfl rfl (congrArg Option.isSome Tryz.underlying28) Tryz.underlying28 ?_) | (refine wpList_fsame rfl rfl rfl (congrArg Option.isSome Tryz.underlying46) Tryz.underlying46 ?_)) | (refine wpList_fwid rfl rfl rfl (congrArg Option.isSome Tryz.underlying28) Tryz.underlying46 (by assumption) ?_; intro r n hr) | (refine wpList_fnar rfl rfl rfl (congrArg Option.isSome Tryz.underlying46) Tryz.underlying28 (by assumption) (by assumption) ?_; intro r n hr) | (refine wpList_fneg rfl rfl rfl (by assumption) ?_; intro r hr))
  go_ret
  exact ⟨_, _, rfl, ⟨hr3, (show IsF .f32 _ _ from hr).lt⟩, hs3.below (below_draws _ _), D.drewN _⟩
set_option maxHeartbeats 8000000 in
theorem drawComplexes_any (b A n : Nat) (hA : A ≤ 1000) (hn : n ≤ 1000) (w : World) (h : Src w b A) : Calls Tryz.prog 45 #[.pointer (some ⟨b, 0, none⟩), .int .i64 n] w fun e w' => ∃ v l, e = .returned v ∧ CSl w' v l ∧ l.length = n ∧ Fr b (b + 1) w w' := by
  obtain ⟨i0, hi, hz0, hz1, hz2⟩ := info_parts info_c64t
  have hbw := h.lt
  have h0 := h.alloc (.cells #[] 24)
  have HO := Lib.hid (one_any b A (by omega) 5 (by decide) (by decide) _ h0)
  have HF := Lib.hid (fun k (hk : k ≤ 1000) w' (h' : Src w' b (A + 2 + 24 * k)) => drawComplex_any b (A + 2 + 24 * k) (by omega) w' h')
  have HP := Lib.hid (fun k (hk : k ≤ 1000) w' (h' : Src w' b (A + 2 + 24 * k)) => drawFine_any b (A + 2 + 24 * k) (by omega) w' h')
  have hown0 : (w.alloc (.cells #[] 24)).ownsRow w.heap.size 24 1 (.slice (some ⟨w.heap.size, 0, none⟩) 0 0) 0 [] :=
    World.ownsRow_made (base := w.heap.size) (e := 24) (size := 1) w #[] 0 (Nat.le_refl _) (Nat.zero_le _) rfl
  have hf0 : Fr b (b + 1) w (w.alloc (.cells #[] 24)) := (Fr.refl _ _ _).alloc _
  clear h h0
  go_enter Tryz.func45, Tryz.ntmps45
  go_wp2_with fail
  refine HO.out.mono ?_
  rintro e w1 ⟨q, rfl, hs, hf⟩
  have hown1 := own_fr hown0 hf hbw
  have hf1 := hf0.trans hf
  clear hown0 hf0 hf HO
  cases q
  case' false => have HG := HP
  case' true => have HG := HF
  all_goals
    clear HF HP
    go_wp2_with fail
    go_loopw [1, 5] (fun m v wr => ∃ (k : Nat) (xs : List (Nat × Nat)), k ≤ n ∧ m = .int .i64 ((n - k : Nat) : Int) ∧ Hid (xs.length = k ∧ ∀ x ∈ xs, x.1 < 4294967296 ∧ x.2 < 4294967296) ∧ wr.ownsRow w.heap.size 24 1 v k (xs.map ccv) ∧ Src wr b (A + 2 + 24 * k) ∧ Fr b (b + 1) w wr) (fun m _ _ => (intOf m).toNat)
    case atStart => exact ⟨0, [], Nat.zero_le _, rfl, Lib.hid ⟨rfl, fun x hx => absurd hx (List.not_mem_nil)⟩, hown1, hs, hf1⟩
    case round =>
      clear hown1 hs hf1
      obtain ⟨k, xs, hk, rfl, hxs, hown, hs, hF⟩ := hrel
      by_cases hlt : k < n
      · have hpos : 0 < n - k := by omega
        have HOWN := Lib.hid hown
        clear hown
        go_wp2_with fail
        refine (HG.out k (by omega) _ hs).mono ?_
        rintro e w2 ⟨r, r2, rfl, hr, hs2, hf2⟩
        have hown2 := Lib.hid (own_fr HOWN.out hf2 hbw)
        have hF2 := hF.trans hf2
        have hsz := hF2.size
        clear HOWN hs hF hf2
        go_wp2_with (at_builtin; refine wpList_append_own _ rfl _ _ 25 rfl w.heap.size 24 i0 (.complex .f32 0 0) 1 8 Tryz.underlying25 hi hz0 hz1 hz2 rfl (by decide) _ _ _ rfl (own_hp (hown2.out.alloc (.cells #[.complex .f32 r r2] 24)) rfl) _ 1 _ [.complex .f32 r r2] rfl rfl ?_ ?_ ?_ ?_ ?_ ?_)
        · intro j u hj
          match j, hj with
          | 0, hj => simp at hj; subst hj; exact cell_nw rfl
        · intro u hu; simp at hu; subst hu; rfl
        · unfold maxLen; omega
        · omega
        · simp; omega
        intro v' w3 hown' hgrow _
        have hown3 : w3.ownsRow w.heap.size 24 1 v' (k + 1) ((xs ++ [(r, r2)]).map ccv) := by rw [List.map_append]; exact hown'
        have hF3 : Fr b (b + 1) w w3 := (hF2.alloc _).grown hgrow (fun g hg => (hown2.out.lt g hg).1)
        have hs3 : Src w3 b (A + 2 + 24 * (k + 1)) := ((hs2.alloc _).grown hgrow (fun g hg => by have := (hown2.out.lt g hg).1; omega)).up (by omega)
        have hx3 : Hid ((xs ++ [(r, r2)]).length = k + 1 ∧ ∀ x ∈ xs ++ [(r, r2)], x.1 < 4294967296 ∧ x.2 < 4294967296) := Lib.hid ⟨by simp [hxs.out.1], fun x hx => by
          rcases List.mem_append.1 hx with hx | hx
          · exact hxs.out.2 x hx
          · simp at hx; subst hx; exact hr⟩
        have e1 : ((n - k : Nat) : Int) - 1 = ((n - (k + 1) : Nat) : Int) := by omega
        clear hown' hgrow hown2 hs2 hF2
        go_wp2_with fail
        go_roundw
        case rel => exact ⟨k + 1, xs ++ [(r, r2)], by omega, rfl, hx3, own_hp hown3 rfl, hs3, hF3⟩
        case measure => simp [intOf]; omega
      · obtain rfl : k = n := by omega
        have hv := own_csl hown hxs.out.1 hxs.out.2
        have HL := Lib.hid hxs.out.1
        have e0 : k - k = 0 := by omega
        clear hown hxs
        rw [e0]
        clear e0
        go_wp2_with fail
        go_ret
        exact ⟨_, xs, rfl, hv, HL.out, hF⟩
theorem b10Any_any (v : Value) (m : Nat) (hm : m ≤ 1048576) (n : Nat) (hn : n ≤ 1000) (w : World) (h : BySl w v m) : Calls Tryz.prog 15 #[v, .int .i64 n] w fun e w' => ∃ v l, e = .returned v ∧ CSl w' v l ∧ l.length = n ∧ Below w.heap.size w w' := by
  have hv : ∃ ao m cap, v = .slice ao m cap := by obtain ⟨ao, cap, hv, _⟩ := h; exact ⟨ao, m, cap, hv⟩
  have HM := Lib.hid (from_any v m hm w h)
  have HD := Lib.hid (fun w' (h' : Src w' w.heap.size 0) => drawComplexes_any w.heap.size 0 n (by omega) hn w' h')
  have HW := Lib.hid (fun w1 w2 h1 h2 => fr_below (w := w) (w1 := w1) (w2 := w2) h1 h2)
  obtain ⟨ao, m, cap, rfl⟩ := hv
  clear h
  unfold RFrom at HM
  generalize hb : w.heap.size = b at *
  clear hb
  go_enter Tryz.func15, Tryz.ntmps15
  go_wp2_with fail
  refine HM.out.mono ?_
  rintro e w1 ⟨rfl, hs, hb1⟩
  go_wp2_with fail
  refine (HD.out _ hs).mono ?_
  rintro e w2 ⟨x, l, rfl, hx, hl, hf⟩
  have D := HW.out _ _ hb1 hf
  have HL := Lib.hid hl
  clear hb1 hs hf hl
  go_wp2_with fail
  go_ret
  exact ⟨x, l, rfl, hx, HL.out, D⟩
theorem b10Complex_any (v : Value) (m : Nat) (hm : m ≤ 1048576) (w : World) (h : BySl w v m) : Calls Tryz.prog 22 #[v] w fun e w' => ∃ r s : Nat, e = .returned (.complex .f32 r s) ∧ (r < 4294967296 ∧ s < 4294967296) ∧ Below w.heap.size w w' := by
  have hv : ∃ ao m cap, v = .slice ao m cap := by obtain ⟨ao, cap, hv, _⟩ := h; exact ⟨ao, m, cap, hv⟩
  have HM := Lib.hid (from_any v m hm w h)
  have HO := Lib.hid (fun w' (h' : Src w' w.heap.size 0) => one_any w.heap.size 0 (by omega) 4 (by decide) (by decide) w' h')
  have HC := Lib.hid (fun w' (h' : Src w' w.heap.size 2) => drawComplex_any w.heap.size 2 (by omega) w' h')
  have HF := Lib.hid (fun w' (h' : Src w' w.heap.size 2) => drawFine_any w.heap.size 2 (by omega) w' h')
  have HW := Lib.hid (fun w1 w2 h1 h2 => fr_below (w := w) (w1 := w1) (w2 := w2) h1 h2)
  obtain ⟨ao, m, cap, rfl⟩ := hv
  clear h
  unfold RFrom at HM
  generalize hb : w.heap.size = b at *
  clear hb
  go_enter Tryz.func22, Tryz.ntmps22
  go_wp2_with fail
  refine HM.out.mono ?_
  rintro e w1 ⟨rfl, hs, hb1⟩
  go_wp2_with fail
  refine (HO.out _ hs).mono ?_
  rintro e w2 ⟨q, rfl, hs2, hf2⟩
  cases q
  case' false => have HG := HF
  case' true => have HG := HC
  all_goals
    clear HC HF
    go_wp2_with fail
    refine (HG.out _ hs2).mono ?_
    rintro e w3 ⟨r, s, rfl, hr, hs3, hf3⟩
    have D := HW.out _ _ hb1 (hf2.trans hf3)
    clear hb1 hs hs2 hf2 hs3 hf3
    go_wp2_with fail
    go_ret
    exact ⟨_, _, rfl, hr, D⟩
set_option maxHeartbeats 4000000 in
theorem b10Whole_any (v : Value) (m : Nat) (hm : m ≤ 1048576) (w : World) (h : BySl w v m) : Calls Tryz.prog 6 #[v, .int .i64 1, .int .i64 200] w fun e w' => ∃ (g cap : Nat) (i j : Int), e = .returned (.slice (some ⟨g, 0, none⟩) 1 cap) ∧ (-200 ≤ i ∧ i ≤ 200 ∧ -200 ≤ j ∧ j ≤ 200) ∧ w'.cell? ⟨g, 0, none⟩ = some (.complex .f32 (floatOfInt .f32 i) (floatOfInt .f32 j)) ∧ Below w.heap.size w w' := by
  obtain ⟨i0, hi, hz0, hz1, hz2⟩ := info_parts info_c64t
  have hv : ∃ ao m cap, v = .slice ao m cap := by obtain ⟨ao, cap, hv, _⟩ := h; exact ⟨ao, m, cap, hv⟩
  have HM := Lib.hid (from_any v m hm w h)
  have H1 := Lib.hid (fun w' (h' : Src w' w.heap.size 0) => pick_any w.heap.size 0 (by omega) 401 (by decide) (by decide) w' h')
  have H2 := Lib.hid (fun w' (h' : Src w' w.heap.size 2) => pick_any w.heap.size 2 (by omega) 401 (by decide) (by decide) w' h')
  have HW := Lib.hid (fun w1 w2 h1 h2 => fr_below (w := w) (w1 := w1) (w2 := w2) h1 h2)
  obtain ⟨ao, m, cap, rfl⟩ := hv
  clear h
  unfold RFrom at HM
  generalize hb : w.heap.size = b at *
  clear hb
  go_enter Tryz.func6, Tryz.ntmps6
  go_wp2_with fail
  refine HM.out.mono ?_
  rintro e w1 ⟨rfl, hs, hb1⟩
  have hown0 : (w1.alloc (.cells #[] 24)).ownsRow w1.heap.size 24 1 (.slice (some ⟨w1.heap.size, 0, none⟩) 0 0) 0 [] :=
    World.ownsRow_made (base := w1.heap.size) (e := 24) (size := 1) w1 #[] 0 (Nat.le_refl _) (Nat.zero_le _) rfl
  have hlt1 := hs.lt
  have hs' := hs.alloc (.cells #[] 24)
  have hf0 : Fr b (b + 1) w1 (w1.alloc (.cells #[] 24)) := (Fr.refl _ _ _).alloc _
  clear hs
  go_wp2_with fail
  refine wp_loop_rounds 2 ?_
  rw [rounds_succ]
  go_wp2_with fail
  refine (H1.out _ hs').mono ?_
  rintro e w2 ⟨r, rfl, hr0, hr1, hs2, hf2⟩
  have hown2 := own_fr hown0 hf2 hlt1
  have hF2 := hf0.trans hf2
  clear hown0 hf0 hf2 hs'
  go_wp2_with (first | (refine wpList_far rfl rfl (by first | exact .inl rfl | exact .inr (.inl rfl) | exact .inr (.inr (.inl rfl)) | exact .inr (.inr (.inr rfl))) rfl rfl (by first | assumption | exact isF_ofInt _ _ | exact IsF.lit (by decide +kernel)) (by first | assumption | exact isF_ofInt _ _ | exact IsF.lit (by decide +kernel)) ?_; intro r n hr) | (refine wpList_fcmp rfl rfl (by first | exact .inl rfl | exact .inr (.inl rfl) | exact .inr (.inr (.inl rfl)) | exact .inr (.inr (.inr (.inl rfl))) | exact .inr (.inr (.inr (.inr (.inl rfl)))) | exact .inr (.inr (.inr (.inr (.inr rfl))))) rfl rfl (by first | assumption | exact isF_ofInt _ _ | exact IsF.lit (by decide +kernel)) (by first | assumption | exact isF_ofInt _ _ | exact IsF.lit (by decide +kernel)) (by first | assumption | exact rfl) ?_) | (first | (refine wpList_fsame rfl rfl rfl (congrArg Option.isSome Tryz.underlying28) Tryz.underlying28 ?_) | (refine wpList_fsame rfl rfl rfl (congrArg Option.isSome Tryz.underlying46) Tryz.underlying46 ?_)) | (refine wpList_fwid rfl rfl rfl (congrArg Option.isSome Tryz.underlying28) Tryz.underlying46 (by assumption) ?_; intro r n hr) | (refine wpList_fnar rfl rfl rfl (congrArg Option.isSome Tryz.underlying46) Tryz.underlying28 (by assumption) (by assumption) ?_; intro r n hr) | (refine wpList_fneg rfl rfl rfl (by assumption) ?_; intro r hr))
  refine (H2.out _ hs2).mono ?_
  rintro e w3 ⟨q, rfl, hq0, hq1, hs3, hf3⟩
  have hown3 := Lib.hid (own_fr hown2 hf3 hlt1)
  have hF3 := hF2.trans hf3
  have hsz := hF3.size
  clear hown2 hF2 hf3 hs2 hs3
  go_wp2_with (first | (at_builtin; refine wpList_append_own _ rfl _ _ 25 rfl w1.heap.size 24 i0 (.complex .f32 0 0) 1 8 Tryz.underlying25 hi hz0 hz1 hz2 rfl (by decide) _ _ _ rfl (own_hp (hown3.out.alloc (.cells #[.complex .f32 _ _] 24)) rfl) _ 1 _ [.complex .f32 (floatOfInt .f32 (r - 200)) (floatOfInt .f32 (q - 200))] rfl rfl ?_ ?_ ?_ ?_ ?_ ?_) | (refine wpList_far rfl rfl (by first | exact .inl rfl | exact .inr (.inl rfl) | exact .inr (.inr (.inl rfl)) | exact .inr (.inr (.inr rfl))) rfl rfl (by first | assumption | exact isF_ofInt _ _ | exact IsF.lit (by decide +kernel)) (by first | assumption | exact isF_ofInt _ _ | exact IsF.lit (by decide +kernel)) ?_; intro r n hr) | (refine wpList_fcmp rfl rfl (by first | exact .inl rfl | exact .inr (.inl rfl) | exact .inr (.inr (.inl rfl)) | exact .inr (.inr (.inr (.inl rfl))) | exact .inr (.inr (.inr (.inr (.inl rfl)))) | exact .inr (.inr (.inr (.inr (.inr rfl))))) rfl rfl (by first | assumption | exact isF_ofInt _ _ | exact IsF.lit (by decide +kernel)) (by first | assumption | exact isF_ofInt _ _ | exact IsF.lit (by decide +kernel)) (by first | assumption | exact rfl) ?_) | (first | (refine wpList_fsame rfl rfl rfl (congrArg Option.isSome Tryz.underlying28) Tryz.underlying28 ?_) | (refine wpList_fsame rfl rfl rfl (congrArg Option.isSome Tryz.underlying46) Tryz.underlying46 ?_)) | (refine wpList_fwid rfl rfl rfl (congrArg Option.isSome Tryz.underlying28) Tryz.underlying46 (by assumption) ?_; intro r n hr) | (refine wpList_fnar rfl rfl rfl (congrArg Option.isSome Tryz.underlying46) Tryz.underlying28 (by assumption) (by assumption) ?_; intro r n hr) | (refine wpList_fneg rfl rfl rfl (by assumption) ?_; intro r hr))
  · intro j u hj
    match j, hj with
    | 0, hj => simp at hj; subst hj; exact cell_nw rfl
  · intro u hu; simp at hu; subst hu; rfl
  · unfold maxLen; omega
  · omega
  · simp; omega
  intro v' w4 hown' hgrow _
  have hF4 : Fr b (b + 1) w1 w4 := (hF3.alloc _).grown hgrow (fun g hg => (hown3.out.lt g hg).1)
  have D := HW.out _ _ hb1 hF4
  clear hb1 hF3 hF4 hgrow hown3
  go_wp2_with fail
  rw [rounds_succ]
  go_wp2_with fail
  go_ret
  obtain ⟨h1, ⟨_, h2⟩ | ⟨g, cap, cur, rfl, h2, h3, h4, h5, h6, h7⟩⟩ := id hown'
  · cases h2
  · refine ⟨g, cap, r - 200, q - 200, rfl, by omega, ?_, D⟩
    have := hown'.cells (g := g) rfl 0 _ rfl
    rw [Addr.add_lit] at this
    exact this
end Go.Proofs.YtgaecoekhcdaeaaGreatDoor
