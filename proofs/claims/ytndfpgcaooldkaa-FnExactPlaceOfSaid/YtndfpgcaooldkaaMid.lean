/-
  Contracts: the middles of a rod's cells, at both sides: lists that grow by append.
-/
import Derived.Test.YtndfpgcaooldkaaPass
namespace Go.Proofs.Ytndfpgcaooldkaa
set_option linter.unusedVariables false
set_option linter.unusedSimpArgs false
open Go.RowKit Fl
attribute [local go_sem] run_store_float

theorem cell_new0 {w : World} {x : Value} {t : TypeId} {g : Nat} (hg : g = w.heap.size) : (w.alloc (.cells #[x] t)).cell? ⟨g, 0, none⟩ = some x := by
  subst hg
  simp
theorem own_heap {w w' : World} {B : Nat} {e : TypeId} {s : Nat} {v : Value} {n : Nat} {xs : List Value} (h : w.ownsRow B e s v n xs) (he : w'.heap = w.heap) : w'.ownsRow B e s v n xs := by
  unfold World.ownsRow at h ⊢
  rw [he]
  exact h
theorem own_fsl {w : World} {B : Nat} {e : TypeId} {v : Value} {n : Nat} {xs : List Nat} (h : w.ownsRow B e 1 v n (xs.map (Value.float .f32))) (hn : xs.length = n) (hb : ∀ b ∈ xs, b < 2 ^ FloatKind.f32.format.width) : FSl .f32 w v xs := by
  have h0 := h
  obtain ⟨h1, ⟨rfl, h2⟩ | ⟨g, cap, cur, rfl, h2, h3, h4, h5, h6, h7⟩⟩ := h
  · have : xs = [] := by apply List.length_eq_zero_iff.1; omega
    subst this
    exact FSl.nil
  · subst hn
    refine ⟨_, cap, rfl, h4, h5, hb, ?_⟩
    rcases Nat.eq_zero_or_pos xs.length with hz | hz
    · exact .inl (List.length_eq_zero_iff.1 hz)
    · refine .inr ⟨g, 0, rfl, (Array.getElem?_eq_some_iff.1 h3).1, fun i hi => ?_⟩
      have := h0.cells (g := g) rfl i (.float .f32 (fget xs i)) (by simp [fget, List.getD, hi])
      rw [Addr.add_lit] at this
      exact this
/-- The place ahead of cell i, and the middle of cell i. -/
def plV (R : Rl) (i : Nat) : Option Nat := foldF (fun j => cl .f32 (fget R.a j)) i
def midV (R : Rl) (i : Nat) : Option Nat := ar .add .f32 (plV R i) (ar .quo .f32 (cl .f32 (fget R.a i)) (some 1073741824))
/-- The list of the first k middles. -/
def Mid (R : Rl) (k : Nat) (xs : List Nat) : Prop := xs.length = k ∧ ∀ i, i < k → IsF .f32 (fget xs i) (midV R i)
theorem Mid.nil (R : Rl) : Mid R 0 [] := ⟨rfl, fun i hi => absurd hi (Nat.not_lt_zero i)⟩
theorem Mid.snoc {R : Rl} {k : Nat} {xs : List Nat} {r : Nat} (h : Mid R k xs) (hr : IsF .f32 r (midV R k)) : Mid R (k + 1) (xs ++ [r]) := by
  refine ⟨by simp [h.1], fun i hi => ?_⟩
  unfold fget
  simp only [List.getD_eq_getElem?_getD]
  rcases Nat.lt_or_ge i k with h1 | h1
  · have := h.2 i h1
    unfold fget at this
    simp only [List.getD_eq_getElem?_getD] at this
    rw [List.getElem?_append_left (by rw [h.1]; exact h1)]
    exact this
  · have : i = k := by omega
    subst this
    rw [List.getElem?_append_right (by rw [h.1]; exact Nat.le_refl _), h.1, Nat.sub_self]
    exact hr
theorem Mid.bits {R : Rl} {k : Nat} {xs : List Nat} (h : Mid R k xs) : ∀ b ∈ xs, b < 2 ^ FloatKind.f32.format.width := by
  intro b hb
  obtain ⟨i, hi, rfl⟩ := List.getElem_of_mem hb
  have := (h.2 i (by rw [← h.1]; exact hi)).2
  simpa [fget, List.getD, hi] using this
theorem foldF_succ (g : Nat → Option Nat) (k : Nat) : foldF g (k + 1) = ar .add .f32 (foldF g k) (g k) := rfl
theorem infoF : (Try.prog.info? 26).map (fun i => (i.zero, i.size, i.bytes)) = some (some (.float .f32 0), 1, 4) := by kernel_rfl
set_option maxHeartbeats 8000000 in
theorem middles_any (v1 v2 v3 v4 : Value) (R : Rl) (hL : R.lens) (w : World) (h : Rod4 w v1 v2 v3 v4 R) :
    Calls Try.prog 52 #[.agg #[v1, v2, v3, v4]] w fun e w' => ∃ v q xs, e = .returned (.tuple #[v, .bool q]) ∧ Mid R R.a.length xs ∧ FSl .f32 w' v xs ∧ q = (!anyF (fun v => !finF v) xs) ∧ Below w.heap.size w w' := by
  have hbits := h.bits
  obtain ⟨f1, f2, f3, f4⟩ := h
  obtain ⟨ao1, cap1, rfl, m1, m1', g1, t1⟩ := f1
  obtain ⟨l1, l2, _, _, _⟩ := hL
  rcases t1 with t1 | ⟨q1, o1, rfl, hq1, hc1⟩
  · rw [t1] at l1; cases l1
  have HC := Lib.hid hc1
  have HB := Lib.hid hbits
  have hz := isF_zero
  have h2 := isF_two
  unfold maxLen at m1'
  clear hc1 g1 f2 f3 f4 hbits
  have bB := box4_alloc w 29 (.slice (some ⟨q1, o1, none⟩) R.a.length cap1) v2 v3 v4
  have D0 : Below w.heap.size w (w.alloc (.cells #[.slice (some ⟨q1, o1, none⟩) R.a.length cap1, v2, v3, v4] 29)) := by (repeat' first | assumption | exact Below.refl _ _ | refine B_drew ?_ _ | refine Below.drew ?_ | refine Below.alloc ?_ (by first | exact Nat.le_refl _ | (simp; done) | (simp; omega)) _)
  obtain ⟨⟨p0, p1, p2, p3⟩, pf, pl⟩ := bB
  obtain ⟨i0, hi, hz0, hz1, hz2⟩ := info_parts infoF
  go_enter Try.func52, Try.ntmps52
  go_wp2_with fail
  have hown0 : (((w.alloc (.cells #[.slice (some ⟨q1, o1, none⟩) R.a.length cap1, v2, v3, v4] 29)).alloc (.cells #[] 26))).ownsRow (w.heap.size + 1) 26 1 (.slice (some ⟨w.heap.size + 1, 0, none⟩) 0 0) 0 [] := by
    have := World.ownsRow_made (base := w.heap.size + 1) (e := 26) (size := 1) (w.alloc (.cells #[.slice (some ⟨q1, o1, none⟩) R.a.length cap1, v2, v3, v4] 29)) #[] 0 (by simp) (Nat.zero_le _) rfl
    simpa using this
  go_loopw [4, 5, 12] (fun v a i wr => ∃ (k r : Nat) (xs : List Nat), k ≤ R.a.length ∧ i = .int .i64 (k : Int) ∧ a = .float .f32 r ∧ IsF .f32 r (plV R k) ∧ Mid R k xs ∧ wr.ownsRow (w.heap.size + 1) 26 1 v k (xs.map (Value.float .f32)) ∧ Below w.heap.size w wr ∧ w.heap.size + 1 ≤ wr.heap.size) (fun _ _ i _ => R.a.length - (intOf i).toNat)
  case atStart => exact ⟨0, 0, [], Nat.zero_le _, rfl, rfl, hz, Mid.nil R, hown0, by (repeat' first | assumption | exact Below.refl _ _ | refine B_drew ?_ _ | refine Below.drew ?_ | refine Below.alloc ?_ (by first | exact Nat.le_refl _ | (simp; done) | (simp; omega)) _), by simp⟩
  case round =>
    clear hown0
    obtain ⟨k, r0, xs, hk, rfl, rfl, hr0, hm, hown, hW, hs⟩ := hrel
    by_cases hlt : k < R.a.length
    · have hcx : wr.cell? ⟨q1, o1 + k, none⟩ = some (.float .f32 (fget R.a k)) := (hW.cell (p := ⟨q1, o1 + k, none⟩) hq1).trans (HC.out k hlt)
      have ia : IsF .f32 (fget R.a k) (cl .f32 (fget R.a k)) := IsF.of (HB.out.1 _ (fget_mem hlt))
      have HM := Lib.hid hm
      clear hm
      go_wp2_with (first | (refine wpList_far rfl rfl (by first | exact .inl rfl | exact .inr (.inl rfl) | exact .inr (.inr (.inl rfl)) | exact .inr (.inr (.inr rfl))) rfl rfl (by first | assumption | exact isF_ofInt _ _ | exact IsF.lit (by decide +kernel)) (by first | assumption | exact isF_ofInt _ _ | exact IsF.lit (by decide +kernel)) ?_; intro r n hr) | (refine wpList_fcmp rfl rfl (by first | exact .inl rfl | exact .inr (.inl rfl) | exact .inr (.inr (.inl rfl)) | exact .inr (.inr (.inr (.inl rfl))) | exact .inr (.inr (.inr (.inr (.inl rfl)))) | exact .inr (.inr (.inr (.inr (.inr rfl))))) rfl rfl (by first | assumption | exact isF_ofInt _ _ | exact IsF.lit (by decide +kernel)) (by first | assumption | exact isF_ofInt _ _ | exact IsF.lit (by decide +kernel)) (by first | assumption | exact rfl) ?_) | (first | (refine wpList_fsame rfl rfl rfl (congrArg Option.isSome Try.underlying26) Try.underlying26 ?_) | (refine wpList_fsame rfl rfl rfl (congrArg Option.isSome Try.underlying32) Try.underlying32 ?_)) | (refine wpList_fwid rfl rfl rfl (congrArg Option.isSome Try.underlying26) Try.underlying32 (by assumption) ?_; intro r n hr) | (refine wpList_fnar rfl rfl rfl (congrArg Option.isSome Try.underlying32) Try.underlying26 (by assumption) (by assumption) ?_; intro r n hr) | (refine wpList_fneg rfl rfl rfl (by assumption) ?_; intro r hr) | (at_builtin; refine wpList_append_own _ rfl _ _ 22 rfl (w.heap.size + 1) 26 i0 (.float .f32 0) 1 4 Try.underlying22 hi hz0 hz1 hz2 rfl (by decide) _ _ _ rfl (own_heap (hown.alloc (.cells #[.float .f32 r] 26)) rfl) _ 1 _ [.float .f32 r] rfl rfl ?c1 ?c2 ?c3 ?c4 ?c5 ?_))
      case c1 =>
        intro j u hj
        match j, hj with
        | 0, hj => simp at hj; subst hj; exact cell_new0 rfl
      case c2 => intro u hu; simp at hu; subst hu; rfl
      case c3 => unfold maxLen; omega
      case c4 => omega
      case c5 => simp; omega
      · intro v' w1 hown' hgrow _
        have hown2 : w1.ownsRow (w.heap.size + 1) 26 1 v' (k + 1) ((xs ++ [r]).map (Value.float .f32)) := by rw [List.map_append]; exact hown'
        have hW2 : Below w.heap.size w w1 := Below.grown (by (repeat' first | assumption | exact Below.refl _ _ | refine B_drew ?_ _ | refine Below.drew ?_ | refine Below.alloc ?_ (by first | exact Nat.le_refl _ | (simp; done) | (simp; omega)) _)) hgrow (by simp; omega) (fun g hg => by have := (hown.lt g hg).1; omega)
        have hs2 : w.heap.size + 1 ≤ w1.heap.size := by have := hgrow.size; simp at this; omega
        have hmid : IsF .f32 r (midV R k) := by assumption
        have HM2 := Lib.hid (HM.out.snoc hmid)
        clear hown' hgrow hown hW hs hcx hmid
        go_wp2_with (first | (refine wpList_far rfl rfl (by first | exact .inl rfl | exact .inr (.inl rfl) | exact .inr (.inr (.inl rfl)) | exact .inr (.inr (.inr rfl))) rfl rfl (by first | assumption | exact isF_ofInt _ _ | exact IsF.lit (by decide +kernel)) (by first | assumption | exact isF_ofInt _ _ | exact IsF.lit (by decide +kernel)) ?_; intro r n hr) | (refine wpList_fcmp rfl rfl (by first | exact .inl rfl | exact .inr (.inl rfl) | exact .inr (.inr (.inl rfl)) | exact .inr (.inr (.inr (.inl rfl))) | exact .inr (.inr (.inr (.inr (.inl rfl)))) | exact .inr (.inr (.inr (.inr (.inr rfl))))) rfl rfl (by first | assumption | exact isF_ofInt _ _ | exact IsF.lit (by decide +kernel)) (by first | assumption | exact isF_ofInt _ _ | exact IsF.lit (by decide +kernel)) (by first | assumption | exact rfl) ?_) | (first | (refine wpList_fsame rfl rfl rfl (congrArg Option.isSome Try.underlying26) Try.underlying26 ?_) | (refine wpList_fsame rfl rfl rfl (congrArg Option.isSome Try.underlying32) Try.underlying32 ?_)) | (refine wpList_fwid rfl rfl rfl (congrArg Option.isSome Try.underlying26) Try.underlying32 (by assumption) ?_; intro r n hr) | (refine wpList_fnar rfl rfl rfl (congrArg Option.isSome Try.underlying32) Try.underlying26 (by assumption) (by assumption) ?_; intro r n hr) | (refine wpList_fneg rfl rfl rfl (by assumption) ?_; intro r hr))
        go_roundw
        case rel => exact ⟨k + 1, _, _, by omega, by go_num, rfl, by assumption, HM2.out, own_heap hown2 rfl, by (repeat' first | assumption | exact Below.refl _ _ | refine B_drew ?_ _ | refine Below.drew ?_ | refine Below.alloc ?_ (by first | exact Nat.le_refl _ | (simp; done) | (simp; omega)) _), by simp; omega⟩
        case measure => simp [intOf]; omega
    · obtain rfl : k = R.a.length := by omega
      have hf := own_fsl hown hm.1 hm.bits
      go_wp2_with (first | (go_at_call 55; refine (areFinite_any _ _ _ hf).mono ?_; rintro e w' ⟨n, rfl, rfl⟩))
      go_ret2
      exact ⟨_, _, xs, rfl, hm, hf.drewN _, rfl, by (repeat' first | assumption | exact Below.refl _ _ | refine B_drew ?_ _ | refine Below.drew ?_ | refine Below.alloc ?_ (by first | exact Nat.le_refl _ | (simp; done) | (simp; omega)) _)⟩
set_option maxHeartbeats 4000000 in
theorem l02Finite_any (v : Value) (bs : List Nat) (w : World) (h : FSl .f32 w v bs) : Calls Try.prog 62 #[v] w (Ret w (.bool (!anyF (fun v => !finF v) bs))) := by
  obtain ⟨ao1, cap1, rfl, g1, g2, g3, g4⟩ := h
  have G3 := Lib.hid g3
  unfold maxLen at g2
  clear g3
  rcases Nat.eq_zero_or_pos bs.length with h0 | h0
  · have HZ := Lib.hid (anyF_false (p := fun v => !finF v) (bs := bs) (fun j hj => by omega))
    rw [HZ.out, h0]
    clear h0 g4 g1 g2
    go_enter Try.func62, Try.ntmps62
    go_wp2
    refine wp_loop_rounds 1 ?_
    rw [rounds_succ]
    go_wp2
    go_ret
    exact ret_mk0 rfl
  · rcases g4 with g4 | ⟨x1, o1, rfl, _, hc1⟩
    · subst g4; exact absurd h0 (Nat.lt_irrefl 0)
    have HC1 := Lib.hid hc1
    clear hc1
    go_enter Try.func62, Try.ntmps62
    go_wp2
    go_loopw [3] (fun i wr => ∃ k : Nat, k ≤ bs.length ∧ i = .int .i64 k ∧ Hid (∀ j, j < k → (fun v => !finF v) (cl .f32 (fget bs j)) = false) ∧ ∃ m, wr = w.drewN m) (fun i _ => bs.length - (intOf i).toNat)
    case atStart => exact ⟨0, Nat.zero_le _, rfl, Lib.hid (fun j hj => absurd hj (Nat.not_lt_zero _)), 0, rfl⟩
    case round =>
      obtain ⟨k, hk, rfl, hall, m, rfl⟩ := hrel
      by_cases hlt : k < bs.length
      · have s1 := HC1.out k hlt
        have i1 : IsF .f32 (fget bs k) (cl .f32 (fget bs k)) := IsF.of (G3.out _ (fget_mem hlt))
        have hcall := fun w' => l01Finite_any _ _ i1 w'
        cases hp : finF (cl .f32 (fget bs k))
        · rw [hp] at hcall
          have HCALL := Lib.hid hcall
          have HZ := Lib.hid (anyF_true (p := fun v => !finF v) hlt (by simp [hp]))
          clear hp hcall i1
          generalize fget bs k = e1 at *
          go_wp2_with (go_at_call 49; refine (HCALL.out _).mono ?_; rintro e w' ⟨q, rfl, rfl⟩)
          go_ret
          exact ret_mk (by rw [HZ.out]; rfl)
        · rw [hp] at hcall
          have HCALL := Lib.hid hcall
          have hall2 : Hid (∀ j, j < k + 1 → (fun v => !finF v) (cl .f32 (fget bs j)) = false) := Lib.hid (fun j hj => by
            by_cases hjk : j = k
            · subst hjk; simp [hp]
            · exact hall.out j (by omega))
          clear hp hcall i1
          generalize fget bs k = e1 at s1 HCALL
          go_wp2_with (go_at_call 49; refine (HCALL.out _).mono ?_; rintro e w' ⟨q, rfl, rfl⟩)
          all_goals
            go_roundw
            case rel => exact ⟨k + 1, by omega, by go_num, hall2, _, rfl⟩
            case measure => simp [intOf]; omega
      · have hkn : k = bs.length := by omega
        have HZ := Lib.hid (anyF_false (p := fun v => !finF v) (bs := bs) (fun j hj => hall.out j (by omega)))
        have HK := Lib.hid hkn
        clear hkn
        go_wp2
        go_ret
        exact ret_mk (by rw [HZ.out]; rfl)
theorem l02List_any (v : Value) (bs : List Nat) (w : World) (h : FSl .f32 w v bs) : Calls Try.prog 58 #[v] w fun e w' => ∃ v' q, e = .returned (.tuple #[v', .bool q]) ∧ (q = true → FSl .f32 w' v' bs) ∧ q = (!anyF (fun v => !finF v) bs) ∧ Below w.heap.size w w' := by
  have hf := l02Finite_any v bs w h
  cases hq : (!anyF (fun v => !finF v) bs)
  all_goals
    rw [hq] at hf
    have HF := Lib.hid hf
    clear hf hq
    go_enter Try.func58, Try.ntmps58
    go_wp2_with (go_at_call 62; refine HF.out.mono ?_; rintro e w' ⟨q, rfl, rfl⟩)
    go_ret2
    first | exact ⟨_, _, rfl, fun _ => h.drewN _, rfl, by (repeat' first | assumption | exact Below.refl _ _ | refine B_drew ?_ _ | refine Below.drew ?_ | refine Below.alloc ?_ (by first | exact Nat.le_refl _ | (simp; done) | (simp; omega)) _)⟩ | exact ⟨_, _, rfl, (fun hh => absurd hh (by decide)), rfl, by (repeat' first | assumption | exact Below.refl _ _ | refine B_drew ?_ _ | refine Below.drew ?_ | refine Below.alloc ?_ (by first | exact Nat.le_refl _ | (simp; done) | (simp; omega)) _)⟩
set_option maxHeartbeats 8000000 in
theorem l02Middles_any (p : Nat) (v1 v2 v3 v4 : Value) (R : Rl) (hL : R.lens) (w : World) (hB : Box4 w p v1 v2 v3 v4) (h : Rod4 w v1 v2 v3 v4 R) :
    Calls Try.prog 50 #[.pointer (some ⟨p, 0, none⟩)] w fun e w' => ∃ v q xs, e = .returned (.tuple #[v, .bool q]) ∧ Mid R R.a.length xs ∧ (q = true → FSl .f32 w' v xs) ∧ q = (!anyF (fun v => !finF v) xs) ∧ Below w.heap.size w w' := by
  have hbits := h.bits
  obtain ⟨f1, f2, f3, f4⟩ := h
  obtain ⟨ao1, cap1, rfl, m1, m1', g1, t1⟩ := f1
  obtain ⟨l1, l2, _, _, _⟩ := hL
  rcases t1 with t1 | ⟨q1, o1, rfl, hq1, hc1⟩
  · rw [t1] at l1; cases l1
  have HC := Lib.hid hc1
  have HB := Lib.hid hbits
  have BX := Lib.hid hB
  have hz := isF_zero
  have h2 := isF_half
  unfold maxLen at m1'
  clear hc1 g1 f2 f3 f4 hbits
  have hp := hB.2.2
  clear hB
  obtain ⟨i0, hi, hz0, hz1, hz2⟩ := info_parts infoF
  go_enter Try.func50, Try.ntmps50
  go_wp2_with fail
  go_simp
  have hown0 : (w.alloc (.cells #[] 26)).ownsRow w.heap.size 26 1 (.slice (some ⟨w.heap.size, 0, none⟩) 0 0) 0 [] :=
    World.ownsRow_made (base := w.heap.size) (e := 26) (size := 1) w #[] 0 (Nat.le_refl _) (Nat.zero_le _) rfl
  go_loopw [4, 5, 6] (fun a v i wr => ∃ (k r : Nat) (xs : List Nat), k ≤ R.a.length ∧ i = .int .i64 (k : Int) ∧ a = .float .f32 r ∧ IsF .f32 r (plV R k) ∧ Mid R k xs ∧ wr.ownsRow w.heap.size 26 1 v k (xs.map (Value.float .f32)) ∧ Below w.heap.size w wr) (fun _ _ i _ => R.a.length - (intOf i).toNat)
  case atStart => exact ⟨0, 0, [], Nat.zero_le _, rfl, rfl, hz, Mid.nil R, hown0, by (repeat' first | assumption | exact Below.refl _ _ | refine B_drew ?_ _ | refine Below.drew ?_ | refine Below.alloc ?_ (by first | exact Nat.le_refl _ | (simp; done) | (simp; omega)) _)⟩
  case round =>
    clear hown0
    obtain ⟨k, r0, xs, hk, rfl, rfl, hr0, hm, hown, hW⟩ := hrel
    have hs := hW.size
    obtain ⟨⟨b0, b1, b2, b3⟩, bf, bl⟩ := BX.out.below hW
    by_cases hlt : k < R.a.length
    · have hcx : wr.cell? ⟨q1, o1 + k, none⟩ = some (.float .f32 (fget R.a k)) := (hW.cell (p := ⟨q1, o1 + k, none⟩) hq1).trans (HC.out k hlt)
      have ia : IsF .f32 (fget R.a k) (cl .f32 (fget R.a k)) := IsF.of (HB.out.1 _ (fget_mem hlt))
      have HM := Lib.hid hm
      clear hm bf
      go_wp2_with (first | (refine wpList_far rfl rfl (by first | exact .inl rfl | exact .inr (.inl rfl) | exact .inr (.inr (.inl rfl)) | exact .inr (.inr (.inr rfl))) rfl rfl (by first | assumption | exact isF_ofInt _ _ | exact IsF.lit (by decide +kernel)) (by first | assumption | exact isF_ofInt _ _ | exact IsF.lit (by decide +kernel)) ?_; intro r n hr) | (refine wpList_fcmp rfl rfl (by first | exact .inl rfl | exact .inr (.inl rfl) | exact .inr (.inr (.inl rfl)) | exact .inr (.inr (.inr (.inl rfl))) | exact .inr (.inr (.inr (.inr (.inl rfl)))) | exact .inr (.inr (.inr (.inr (.inr rfl))))) rfl rfl (by first | assumption | exact isF_ofInt _ _ | exact IsF.lit (by decide +kernel)) (by first | assumption | exact isF_ofInt _ _ | exact IsF.lit (by decide +kernel)) (by first | assumption | exact rfl) ?_) | (first | (refine wpList_fsame rfl rfl rfl (congrArg Option.isSome Try.underlying26) Try.underlying26 ?_) | (refine wpList_fsame rfl rfl rfl (congrArg Option.isSome Try.underlying32) Try.underlying32 ?_)) | (refine wpList_fwid rfl rfl rfl (congrArg Option.isSome Try.underlying26) Try.underlying32 (by assumption) ?_; intro r n hr) | (refine wpList_fnar rfl rfl rfl (congrArg Option.isSome Try.underlying32) Try.underlying26 (by assumption) (by assumption) ?_; intro r n hr) | (refine wpList_fneg rfl rfl rfl (by assumption) ?_; intro r hr) | (at_builtin; refine wpList_append_own _ rfl _ _ 22 rfl w.heap.size 26 i0 (.float .f32 0) 1 4 Try.underlying22 hi hz0 hz1 hz2 rfl (by decide) _ _ _ rfl (own_heap (hown.alloc (.cells #[.float .f32 r] 26)) rfl) _ 1 _ [.float .f32 r] rfl rfl ?c1 ?c2 ?c3 ?c4 ?c5 ?_))
      case c1 =>
        intro j u hj
        match j, hj with
        | 0, hj => simp at hj; subst hj; exact cell_new0 rfl
      case c2 => intro u hu; simp at hu; subst hu; rfl
      case c3 => unfold maxLen; omega
      case c4 => omega
      case c5 => simp; omega
      · intro v' w1 hown' hgrow _
        have hown2 : w1.ownsRow w.heap.size 26 1 v' (k + 1) ((xs ++ [r]).map (Value.float .f32)) := by rw [List.map_append]; exact hown'
        have hW2 : Below w.heap.size w w1 := Below.grown (by (repeat' first | assumption | exact Below.refl _ _ | refine B_drew ?_ _ | refine Below.drew ?_ | refine Below.alloc ?_ (by first | exact Nat.le_refl _ | (simp; done) | (simp; omega)) _)) hgrow (by simp; omega) (fun g hg => (hown.lt g hg).1)
        have hmid : IsF .f32 r (midV R k) := by unfold midV; rw [← half_eq]; assumption
        have HM2 := Lib.hid (HM.out.snoc hmid)
        have hcx2 : w1.cell? ⟨q1, o1 + k, none⟩ = some (.float .f32 (fget R.a k)) := (hW2.cell (p := ⟨q1, o1 + k, none⟩) hq1).trans (HC.out k hlt)
        obtain ⟨⟨d0, d1, d2, d3⟩, df, dl⟩ := BX.out.below hW2
        clear hown' hgrow hown hW hs hcx hmid b0 b1 b2 b3 bl df
        go_wp2_with (first | (refine wpList_far rfl rfl (by first | exact .inl rfl | exact .inr (.inl rfl) | exact .inr (.inr (.inl rfl)) | exact .inr (.inr (.inr rfl))) rfl rfl (by first | assumption | exact isF_ofInt _ _ | exact IsF.lit (by decide +kernel)) (by first | assumption | exact isF_ofInt _ _ | exact IsF.lit (by decide +kernel)) ?_; intro r n hr) | (refine wpList_fcmp rfl rfl (by first | exact .inl rfl | exact .inr (.inl rfl) | exact .inr (.inr (.inl rfl)) | exact .inr (.inr (.inr (.inl rfl))) | exact .inr (.inr (.inr (.inr (.inl rfl)))) | exact .inr (.inr (.inr (.inr (.inr rfl))))) rfl rfl (by first | assumption | exact isF_ofInt _ _ | exact IsF.lit (by decide +kernel)) (by first | assumption | exact isF_ofInt _ _ | exact IsF.lit (by decide +kernel)) (by first | assumption | exact rfl) ?_) | (first | (refine wpList_fsame rfl rfl rfl (congrArg Option.isSome Try.underlying26) Try.underlying26 ?_) | (refine wpList_fsame rfl rfl rfl (congrArg Option.isSome Try.underlying32) Try.underlying32 ?_)) | (refine wpList_fwid rfl rfl rfl (congrArg Option.isSome Try.underlying26) Try.underlying32 (by assumption) ?_; intro r n hr) | (refine wpList_fnar rfl rfl rfl (congrArg Option.isSome Try.underlying32) Try.underlying26 (by assumption) (by assumption) ?_; intro r n hr) | (refine wpList_fneg rfl rfl rfl (by assumption) ?_; intro r hr))
        go_roundw
        case rel => exact ⟨k + 1, _, _, by omega, by go_num, rfl, by assumption, HM2.out, own_heap hown2 rfl, by (repeat' first | assumption | exact Below.refl _ _ | refine B_drew ?_ _ | refine Below.drew ?_ | refine Below.alloc ?_ (by first | exact Nat.le_refl _ | (simp; done) | (simp; omega)) _)⟩
        case measure => simp [intOf]; omega
    · obtain rfl : k = R.a.length := by omega
      have hf := own_fsl hown hm.1 hm.bits
      clear bf
      go_wp2_with fail
      refine (l02List_any _ _ _ hf).mono ?_
      rintro e w' ⟨v', q, rfl, hv', rfl, hb'⟩
      have D2 := B_trans (w := w) (by (repeat' first | assumption | exact Below.refl _ _ | refine B_drew ?_ _ | refine Below.drew ?_ | refine Below.alloc ?_ (by first | exact Nat.le_refl _ | (simp; done) | (simp; omega)) _)) hb'
      go_wp2_with fail
      go_ret2
      exact ⟨_, _, xs, rfl, hm, hv', rfl, D2⟩
end Go.Proofs.Ytndfpgcaooldkaa
