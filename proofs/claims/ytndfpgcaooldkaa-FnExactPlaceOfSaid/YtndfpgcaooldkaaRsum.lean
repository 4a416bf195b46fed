/-
  Contracts: sums over rods. Written by wip/gen_rsum.py.
-/
import Derived.Test.YtndfpgcaooldkaaVrod
namespace Go.Proofs.Ytndfpgcaooldkaa
set_option linter.unusedVariables false
set_option linter.unusedSimpArgs false
open Go.RowKit Fl
attribute [local go_sem] run_store_float

/-- The sum from left to right of the first k. -/
def foldF (g : Nat → Option Nat) : Nat → Option Nat
  | 0 => some 0
  | k + 1 => ar .add .f32 (foldF g k) (g k)
def heatG (R : Rl) (i : Nat) : Option Nat := ar .mul .f32 (ar .mul .f32 (cl .f32 (fget R.a i)) (cl .f32 (fget R.c i))) (cl .f32 (fget R.d i))
def massG (R : Rl) (i : Nat) : Option Nat := ar .mul .f32 (cl .f32 (fget R.a i)) (cl .f32 (fget R.c i))
def hindG (R : Rl) (i : Nat) : Option Nat := ar .quo .f32 (cl .f32 (fget R.a i)) (cl .f32 (fget R.b i))
/-- A number of a valid rod, that is finite. -/
def rodF (R : Rl) (x : Option Nat) : Option Nat := if okRod R then chkF x else some 0
def longV (R : Rl) : Option Nat := sumF R.a R.a.length
def heatV (R : Rl) : Option Nat := foldF (heatG R) R.a.length
def hindV (R : Rl) : Option Nat := foldF (hindG R) R.a.length
def meanV (R : Rl) : Option Nat := ar .quo .f32 (heatV R) (foldF (massG R) R.a.length)
def heatOk (R : Rl) : Bool := okRod R && finF (heatV R)
/-- The call returns a float and leaves what was there. -/
def RetFb (w : World) (v : Option Nat) (e : Ending) (w' : World) : Prop := ∃ r, e = .returned (.float .f32 r) ∧ IsF .f32 r v ∧ Below w.heap.size w w'

set_option maxHeartbeats 4000000 in
theorem l02Heat_any (p : Nat) (v1 v2 v3 v4 : Value) (R : Rl) (hL : R.lens) (w : World) (hB : Box4 w p v1 v2 v3 v4) (h : Rod4 w v1 v2 v3 v4 R) :
    Calls Try.prog 38 #[.pointer (some ⟨p, 0, none⟩)] w (RetF w .f32 (heatV R)) := by
  have hbits := h.bits
  obtain ⟨f1, f2, f3, f4⟩ := h
  obtain ⟨ao1, cap1, rfl, m1, m1', g1, t1⟩ := f1
  obtain ⟨ao2, cap2, rfl, m2, m2', g2, t2⟩ := f2
  obtain ⟨ao3, cap3, rfl, m3, m3', g3, t3⟩ := f3
  obtain ⟨ao4, cap4, rfl, m4, m4', g4, t4⟩ := f4
  clear g1 g2 g3 g4
  have HBITS := Lib.hid hbits
  clear hbits
  unfold maxLen at m1' m2' m3' m4'
  obtain ⟨l1, l2, l3, l4, l5⟩ := hL
  rcases t1 with t1 | ⟨q1, o1, rfl, u1, hc1⟩
  · rw [t1] at l1; cases l1
  rcases t2 with t2 | ⟨q2, o2, rfl, u2, hc2⟩
  · rw [t2] at l3; rw [← l3] at l1; cases l1
  rcases t3 with t3 | ⟨q3, o3, rfl, u3, hc3⟩
  · rw [t3] at l4; rw [← l4] at l1; cases l1
  rcases t4 with t4 | ⟨q4, o4, rfl, u4, hc4⟩
  · rw [t4] at l5; rw [← l5] at l1; cases l1
  have HL := Lib.hid (And.intro l3 (And.intro l4 l5))
  have HC1 := Lib.hid hc1
  have HC2 := Lib.hid hc2
  have HC3 := Lib.hid hc3
  have HC4 := Lib.hid hc4
  clear hc1 hc2 hc3 hc4
  have hz := isF_zero
  have hadd := run_fop (P := Try.prog) a_add 26 .f32
  have hmul := run_fop (P := Try.prog) a_mul 26 .f32
  have hquo := run_fop (P := Try.prog) a_quo 26 .f32
  obtain ⟨⟨p0, p1, p2, p3⟩, pf, pl⟩ := hB
  rw [l3] at p1
  rw [l4] at p2
  rw [l5] at p3
  clear l3 l4 l5 pf m2 m2' m3 m3' m4 m4' u1 u2 u3 u4
  unfold heatV
  go_enter Try.func38, Try.ntmps38
  go_wp2_with fail
  go_loopw [3, 4] (fun s i wr => ∃ k : Nat, k ≤ R.a.length ∧ i = .int .i64 k ∧ ∃ r m, s = .float .f32 r ∧ IsF .f32 r (foldF (heatG R) k) ∧ wr = w.drewN m) (fun _ i _ => R.a.length - (intOf i).toNat)
  case atStart => exact ⟨0, Nat.zero_le _, rfl, 0, 0, rfl, hz, rfl⟩
  case round =>
    obtain ⟨k, hk, rfl, r, m, rfl, hr, rfl⟩ := hrel
    by_cases hlt : k < R.a.length
    · have HX : Hid True := Lib.hid trivial
      have sa := HC1.out k hlt
      have ia : IsF .f32 (fget R.a k) (cl .f32 (fget R.a k)) := IsF.of (HBITS.out.1 _ (fget_mem hlt))
      have sc := HC3.out k (show k < R.c.length by rw [HL.out.2.1]; exact hlt)
      have ic : IsF .f32 (fget R.c k) (cl .f32 (fget R.c k)) := IsF.of (HBITS.out.2.2.1 _ (fget_mem (show k < R.c.length by rw [HL.out.2.1]; exact hlt)))
      have sd := HC4.out k (show k < R.d.length by rw [HL.out.2.2]; exact hlt)
      have id : IsF .f32 (fget R.d k) (cl .f32 (fget R.d k)) := IsF.of (HBITS.out.2.2.2 _ (fget_mem (show k < R.d.length by rw [HL.out.2.2]; exact hlt)))
      go_wp2
      go_region
      all_goals go_wp2
      all_goals
        go_roundw
        case rel => exact ⟨k + 1, by omega, by go_num, _, _, rfl, (isF_fop a_add hr (isF_fop a_mul (isF_fop a_mul ia ic _) id _) _ : IsF .f32 _ (foldF (heatG R) (k + 1))), rfl⟩
        case measure => simp [intOf]; omega
    · have hkn : k = R.a.length := by omega
      have HK := Lib.hid hkn
      clear hkn
      go_wp2
      go_ret
      exact ⟨_, _, rfl, by rw [← HK.out]; exact hr, rfl⟩
set_option maxHeartbeats 4000000 in
theorem l02Hinder_any (p : Nat) (v1 v2 v3 v4 : Value) (R : Rl) (hL : R.lens) (w : World) (hB : Box4 w p v1 v2 v3 v4) (h : Rod4 w v1 v2 v3 v4 R) :
    Calls Try.prog 40 #[.pointer (some ⟨p, 0, none⟩)] w (RetF w .f32 (hindV R)) := by
  have hbits := h.bits
  obtain ⟨f1, f2, f3, f4⟩ := h
  obtain ⟨ao1, cap1, rfl, m1, m1', g1, t1⟩ := f1
  obtain ⟨ao2, cap2, rfl, m2, m2', g2, t2⟩ := f2
  obtain ⟨ao3, cap3, rfl, m3, m3', g3, t3⟩ := f3
  obtain ⟨ao4, cap4, rfl, m4, m4', g4, t4⟩ := f4
  clear g1 g2 g3 g4
  have HBITS := Lib.hid hbits
  clear hbits
  unfold maxLen at m1' m2' m3' m4'
  obtain ⟨l1, l2, l3, l4, l5⟩ := hL
  rcases t1 with t1 | ⟨q1, o1, rfl, u1, hc1⟩
  · rw [t1] at l1; cases l1
  rcases t2 with t2 | ⟨q2, o2, rfl, u2, hc2⟩
  · rw [t2] at l3; rw [← l3] at l1; cases l1
  rcases t3 with t3 | ⟨q3, o3, rfl, u3, hc3⟩
  · rw [t3] at l4; rw [← l4] at l1; cases l1
  rcases t4 with t4 | ⟨q4, o4, rfl, u4, hc4⟩
  · rw [t4] at l5; rw [← l5] at l1; cases l1
  have HL := Lib.hid (And.intro l3 (And.intro l4 l5))
  have HC1 := Lib.hid hc1
  have HC2 := Lib.hid hc2
  have HC3 := Lib.hid hc3
  have HC4 := Lib.hid hc4
  clear hc1 hc2 hc3 hc4
  have hz := isF_zero
  have hadd := run_fop (P := Try.prog) a_add 26 .f32
  have hmul := run_fop (P := Try.prog) a_mul 26 .f32
  have hquo := run_fop (P := Try.prog) a_quo 26 .f32
  obtain ⟨⟨p0, p1, p2, p3⟩, pf, pl⟩ := hB
  rw [l3] at p1
  rw [l4] at p2
  rw [l5] at p3
  clear l3 l4 l5 pf m2 m2' m3 m3' m4 m4' u1 u2 u3 u4
  unfold hindV
  go_enter Try.func40, Try.ntmps40
  go_wp2_with fail
  go_loopw [3, 4] (fun s i wr => ∃ k : Nat, k ≤ R.a.length ∧ i = .int .i64 k ∧ ∃ r m, s = .float .f32 r ∧ IsF .f32 r (foldF (hindG R) k) ∧ wr = w.drewN m) (fun _ i _ => R.a.length - (intOf i).toNat)
  case atStart => exact ⟨0, Nat.zero_le _, rfl, 0, 0, rfl, hz, rfl⟩
  case round =>
    obtain ⟨k, hk, rfl, r, m, rfl, hr, rfl⟩ := hrel
    by_cases hlt : k < R.a.length
    · have HX : Hid True := Lib.hid trivial
      have sa := HC1.out k hlt
      have ia : IsF .f32 (fget R.a k) (cl .f32 (fget R.a k)) := IsF.of (HBITS.out.1 _ (fget_mem hlt))
      have sb := HC2.out k (show k < R.b.length by rw [HL.out.1]; exact hlt)
      have ib : IsF .f32 (fget R.b k) (cl .f32 (fget R.b k)) := IsF.of (HBITS.out.2.1 _ (fget_mem (show k < R.b.length by rw [HL.out.1]; exact hlt)))
      go_wp2
      go_region
      all_goals go_wp2
      all_goals
        go_roundw
        case rel => exact ⟨k + 1, by omega, by go_num, _, _, rfl, (isF_fop a_add hr (isF_fop a_quo ia ib _) _ : IsF .f32 _ (foldF (hindG R) (k + 1))), rfl⟩
        case measure => simp [intOf]; omega
    · have hkn : k = R.a.length := by omega
      have HK := Lib.hid hkn
      clear hkn
      go_wp2
      go_ret
      exact ⟨_, _, rfl, by rw [← HK.out]; exact hr, rfl⟩
set_option maxHeartbeats 1000000 in
theorem l02Sum_any (v : Value) (bs : List Nat) (w : World) (h : FSl .f32 w v bs) :
    Calls Try.prog 32 #[v] w (RetF w .f32 (sumF bs bs.length)) := by
  obtain ⟨ao, cap, rfl, g1, g2, g3, g4⟩ := h
  have G3 := Lib.hid g3
  unfold maxLen at g2
  clear g3
  have hz := isF_zero
  rcases Nat.eq_zero_or_pos bs.length with h0 | h0
  · rw [h0]
    clear h0 g4 g1 g2
    go_enter Try.func32, Try.ntmps32
    go_wp2
    refine wp_loop_rounds 1 ?_
    rw [rounds_succ]
    go_wp2
    go_ret
    exact ⟨_, 0, rfl, by rw [sumF_zero]; exact hz, rfl⟩
  · rcases g4 with g4 | ⟨x1, o1, rfl, _, hc1⟩
    · subst g4; exact absurd h0 (Nat.lt_irrefl 0)
    have HC1 := Lib.hid hc1
    clear hc1
    go_enter Try.func32, Try.ntmps32
    go_wp2
    go_loopw [3, 4] (fun s i wr => ∃ k : Nat, k ≤ bs.length ∧ i = .int .i64 k ∧ ∃ r m, s = .float .f32 r ∧ IsF .f32 r (sumF bs k) ∧ wr = w.drewN m) (fun _ i _ => bs.length - (intOf i).toNat)
    case atStart => exact ⟨0, Nat.zero_le _, rfl, 0, 0, rfl, by rw [sumF_zero]; exact hz, rfl⟩
    case round =>
      obtain ⟨k, hk, rfl, r, m, rfl, hr, rfl⟩ := hrel
      by_cases hlt : k < bs.length
      · have s1 := HC1.out k hlt
        have i1 : IsF .f32 (fget bs k) (cl .f32 (fget bs k)) := IsF.of (G3.out _ (fget_mem hlt))
        have HS := Lib.hid (sumF_succ hlt)
        go_wp2_with (first | (refine wpList_far rfl rfl (by first | exact .inl rfl | exact .inr (.inl rfl) | exact .inr (.inr (.inl rfl)) | exact .inr (.inr (.inr rfl))) rfl rfl (by first | assumption | exact isF_ofInt _ _ | exact IsF.lit (by decide +kernel)) (by first | assumption | exact isF_ofInt _ _ | exact IsF.lit (by decide +kernel)) ?_; intro r n hr) | (refine wpList_fcmp rfl rfl (by first | exact .inl rfl | exact .inr (.inl rfl) | exact .inr (.inr (.inl rfl)) | exact .inr (.inr (.inr (.inl rfl))) | exact .inr (.inr (.inr (.inr (.inl rfl)))) | exact .inr (.inr (.inr (.inr (.inr rfl))))) rfl rfl (by first | assumption | exact isF_ofInt _ _ | exact IsF.lit (by decide +kernel)) (by first | assumption | exact isF_ofInt _ _ | exact IsF.lit (by decide +kernel)) (by first | assumption | exact rfl) ?_) | (first | (refine wpList_fsame rfl rfl rfl (congrArg Option.isSome Try.underlying26) Try.underlying26 ?_) | (refine wpList_fsame rfl rfl rfl (congrArg Option.isSome Try.underlying32) Try.underlying32 ?_)) | (refine wpList_fwid rfl rfl rfl (congrArg Option.isSome Try.underlying26) Try.underlying32 (by assumption) ?_; intro r n hr) | (refine wpList_fnar rfl rfl rfl (congrArg Option.isSome Try.underlying32) Try.underlying26 (by assumption) (by assumption) ?_; intro r n hr) | (refine wpList_fneg rfl rfl rfl (by assumption) ?_; intro r hr))
        all_goals
          go_roundw
          case rel => exact ⟨k + 1, by omega, by go_num, _, _, rfl, by rw [HS.out]; assumption, rfl⟩
          case measure => simp [intOf]; omega
      · have hkn : k = bs.length := by omega
        have HK := Lib.hid hkn
        clear hkn
        go_wp2
        go_ret
        exact ⟨_, _, rfl, by rw [← HK.out]; exact hr, rfl⟩
set_option maxHeartbeats 4000000 in
theorem sLongOfRod_any (v1 v2 v3 v4 : Value) (R : Rl) (w : World) (h : Rod4 w v1 v2 v3 v4 R) :
    Calls Try.prog 11 #[.agg #[v1, v2, v3, v4]] w (RetFBb w (rodF R (longV R)) (okRod R && finF (longV R))) := by
  have bB := box4_alloc w 29 v1 v2 v3 v4
  have D0 : Below w.heap.size w (w.alloc (.cells #[v1, v2, v3, v4] 29)) := by (repeat' first | assumption | exact Below.refl _ _ | refine B_drew ?_ _ | refine Below.drew ?_ | refine Below.alloc ?_ (by first | exact Nat.le_refl _ | (simp; done) | (simp; omega)) _)
  have h0 := h.below D0
  have hi := l02Is_any _ _ _ _ _ R _ bB h0
  have B0 := bB
  obtain ⟨⟨p0, p1, p2, p3⟩, pf, pl⟩ := bB
  unfold rodF
  cases hok : okRod R
  · rw [hok] at hi
    simp only [Bool.false_and, Bool.false_eq_true, if_false]
    go_enter Try.func11, Try.ntmps11
    go_wp2_with fail
    refine hi.mono ?_
    rintro e w1 ⟨n, rfl, rfl⟩
    go_wp2_with fail
    go_ret2
    exact ⟨_, rfl, isF_zero, by (repeat' first | assumption | exact Below.refl _ _ | refine B_drew ?_ _ | refine Below.drew ?_ | refine Below.alloc ?_ (by first | exact Nat.le_refl _ | (simp; done) | (simp; omega)) _)⟩
  · rw [hok] at hi
    have hL := (okRod_iff hok).1
    have HL := Lib.hid hL
    clear hL
    simp only [Bool.true_and, if_true]
    go_enter Try.func11, Try.ntmps11
    go_wp2_with fail
    refine hi.mono ?_
    rintro e w1 ⟨n, rfl, rfl⟩
    go_wp2_with fail
    refine (l02Sum_any _ _ _ (h0.1.drewN _)).mono ?_
    rintro e w2 ⟨r, n2, rfl, hr, rfl⟩
    go_wp2_with fail
    refine (l02Number_any _ _ hr _).mono ?_
    rintro e w3 ⟨r3, n3, rfl, hr3, rfl⟩
    go_wp2_with fail
    go_ret2
    exact ⟨_, rfl, hr3, by (repeat' first | assumption | exact Below.refl _ _ | refine B_drew ?_ _ | refine Below.drew ?_ | refine Below.alloc ?_ (by first | exact Nat.le_refl _ | (simp; done) | (simp; omega)) _)⟩
set_option maxHeartbeats 4000000 in
theorem sHeatOfRod_any (v1 v2 v3 v4 : Value) (R : Rl) (w : World) (h : Rod4 w v1 v2 v3 v4 R) :
    Calls Try.prog 16 #[.agg #[v1, v2, v3, v4]] w (RetFBb w (rodF R (heatV R)) (okRod R && finF (heatV R))) := by
  have bB := box4_alloc w 29 v1 v2 v3 v4
  have D0 : Below w.heap.size w (w.alloc (.cells #[v1, v2, v3, v4] 29)) := by (repeat' first | assumption | exact Below.refl _ _ | refine B_drew ?_ _ | refine Below.drew ?_ | refine Below.alloc ?_ (by first | exact Nat.le_refl _ | (simp; done) | (simp; omega)) _)
  have h0 := h.below D0
  have hi := l02Is_any _ _ _ _ _ R _ bB h0
  have B0 := bB
  obtain ⟨⟨p0, p1, p2, p3⟩, pf, pl⟩ := bB
  unfold rodF
  cases hok : okRod R
  · rw [hok] at hi
    simp only [Bool.false_and, Bool.false_eq_true, if_false]
    go_enter Try.func16, Try.ntmps16
    go_wp2_with fail
    refine hi.mono ?_
    rintro e w1 ⟨n, rfl, rfl⟩
    go_wp2_with fail
    go_ret2
    exact ⟨_, rfl, isF_zero, by (repeat' first | assumption | exact Below.refl _ _ | refine B_drew ?_ _ | refine Below.drew ?_ | refine Below.alloc ?_ (by first | exact Nat.le_refl _ | (simp; done) | (simp; omega)) _)⟩
  · rw [hok] at hi
    have hL := (okRod_iff hok).1
    have HL := Lib.hid hL
    clear hL
    simp only [Bool.true_and, if_true]
    go_enter Try.func16, Try.ntmps16
    go_wp2_with fail
    refine hi.mono ?_
    rintro e w1 ⟨n, rfl, rfl⟩
    go_wp2_with fail
    refine (l02Heat_any _ _ _ _ _ R HL.out _ (B0.below (below_draws _ _)) (h0.drewN _)).mono ?_
    rintro e w2 ⟨r, n2, rfl, hr, rfl⟩
    go_wp2_with fail
    refine (l02Number_any _ _ hr _).mono ?_
    rintro e w3 ⟨r3, n3, rfl, hr3, rfl⟩
    go_wp2_with fail
    go_ret2
    exact ⟨_, rfl, hr3, by (repeat' first | assumption | exact Below.refl _ _ | refine B_drew ?_ _ | refine Below.drew ?_ | refine Below.alloc ?_ (by first | exact Nat.le_refl _ | (simp; done) | (simp; omega)) _)⟩
set_option maxHeartbeats 4000000 in
theorem sHinderOf_any (v1 v2 v3 v4 : Value) (R : Rl) (w : World) (h : Rod4 w v1 v2 v3 v4 R) :
    Calls Try.prog 20 #[.agg #[v1, v2, v3, v4]] w (RetFBb w (rodF R (hindV R)) (okRod R && finF (hindV R))) := by
  have bB := box4_alloc w 29 v1 v2 v3 v4
  have D0 : Below w.heap.size w (w.alloc (.cells #[v1, v2, v3, v4] 29)) := by (repeat' first | assumption | exact Below.refl _ _ | refine B_drew ?_ _ | refine Below.drew ?_ | refine Below.alloc ?_ (by first | exact Nat.le_refl _ | (simp; done) | (simp; omega)) _)
  have h0 := h.below D0
  have hi := l02Is_any _ _ _ _ _ R _ bB h0
  have B0 := bB
  obtain ⟨⟨p0, p1, p2, p3⟩, pf, pl⟩ := bB
  unfold rodF
  cases hok : okRod R
  · rw [hok] at hi
    simp only [Bool.false_and, Bool.false_eq_true, if_false]
    go_enter Try.func20, Try.ntmps20
    go_wp2_with fail
    refine hi.mono ?_
    rintro e w1 ⟨n, rfl, rfl⟩
    go_wp2_with fail
    go_ret2
    exact ⟨_, rfl, isF_zero, by (repeat' first | assumption | exact Below.refl _ _ | refine B_drew ?_ _ | refine Below.drew ?_ | refine Below.alloc ?_ (by first | exact Nat.le_refl _ | (simp; done) | (simp; omega)) _)⟩
  · rw [hok] at hi
    have hL := (okRod_iff hok).1
    have HL := Lib.hid hL
    clear hL
    simp only [Bool.true_and, if_true]
    go_enter Try.func20, Try.ntmps20
    go_wp2_with fail
    refine hi.mono ?_
    rintro e w1 ⟨n, rfl, rfl⟩
    go_wp2_with fail
    refine (l02Hinder_any _ _ _ _ _ R HL.out _ (B0.below (below_draws _ _)) (h0.drewN _)).mono ?_
    rintro e w2 ⟨r, n2, rfl, hr, rfl⟩
    go_wp2_with fail
    refine (l02Number_any _ _ hr _).mono ?_
    rintro e w3 ⟨r3, n3, rfl, hr3, rfl⟩
    go_wp2_with fail
    go_ret2
    exact ⟨_, rfl, hr3, by (repeat' first | assumption | exact Below.refl _ _ | refine B_drew ?_ _ | refine Below.drew ?_ | refine Below.alloc ?_ (by first | exact Nat.le_refl _ | (simp; done) | (simp; omega)) _)⟩
set_option maxHeartbeats 4000000 in
theorem heatOfRod_any (v1 v2 v3 v4 : Value) (R : Rl) (hL : R.lens) (w : World) (h : Rod4 w v1 v2 v3 v4 R) :
    Calls Try.prog 39 #[.agg #[v1, v2, v3, v4]] w (RetFb w (heatV R)) := by
  have hbits := h.bits
  obtain ⟨f1, f2, f3, f4⟩ := h
  obtain ⟨ao1, cap1, rfl, m1, m1', g1, t1⟩ := f1
  obtain ⟨ao2, cap2, rfl, m2, m2', g2, t2⟩ := f2
  obtain ⟨ao3, cap3, rfl, m3, m3', g3, t3⟩ := f3
  obtain ⟨ao4, cap4, rfl, m4, m4', g4, t4⟩ := f4
  clear g1 g2 g3 g4
  have HBITS := Lib.hid hbits
  clear hbits
  unfold maxLen at m1' m2' m3' m4'
  obtain ⟨l1, l2, l3, l4, l5⟩ := hL
  rcases t1 with t1 | ⟨q1, o1, rfl, u1, hc1⟩
  · rw [t1] at l1; cases l1
  rcases t2 with t2 | ⟨q2, o2, rfl, u2, hc2⟩
  · rw [t2] at l3; rw [← l3] at l1; cases l1
  rcases t3 with t3 | ⟨q3, o3, rfl, u3, hc3⟩
  · rw [t3] at l4; rw [← l4] at l1; cases l1
  rcases t4 with t4 | ⟨q4, o4, rfl, u4, hc4⟩
  · rw [t4] at l5; rw [← l5] at l1; cases l1
  have HL := Lib.hid (And.intro l3 (And.intro l4 l5))
  have HC1 := Lib.hid hc1
  have HC2 := Lib.hid hc2
  have HC3 := Lib.hid hc3
  have HC4 := Lib.hid hc4
  clear hc1 hc2 hc3 hc4
  have hz := isF_zero
  have hadd := run_fop (P := Try.prog) a_add 26 .f32
  have hmul := run_fop (P := Try.prog) a_mul 26 .f32
  have hquo := run_fop (P := Try.prog) a_quo 26 .f32
  rw [l3, l4, l5]
  have bB := box4_alloc w 29 (.slice (some ⟨q1, o1, none⟩) R.a.length cap1) (.slice (some ⟨q2, o2, none⟩) R.a.length cap2) (.slice (some ⟨q3, o3, none⟩) R.a.length cap3) (.slice (some ⟨q4, o4, none⟩) R.a.length cap4)
  have D1 : Below w.heap.size w (w.alloc (.cells #[.slice (some ⟨q1, o1, none⟩) R.a.length cap1, .slice (some ⟨q2, o2, none⟩) R.a.length cap2, .slice (some ⟨q3, o3, none⟩) R.a.length cap3, .slice (some ⟨q4, o4, none⟩) R.a.length cap4] 29)) := by (repeat' first | assumption | exact Below.refl _ _ | refine B_drew ?_ _ | refine Below.drew ?_ | refine Below.alloc ?_ (by first | exact Nat.le_refl _ | (simp; done) | (simp; omega)) _)
  have HC1 := Lib.hid (fun i (hi : i < R.a.length) => (D1.cell (p := ⟨q1, o1 + i, none⟩) u1).trans (HC1.out i hi))
  have HC2 := Lib.hid (fun i (hi : i < R.b.length) => (D1.cell (p := ⟨q2, o2 + i, none⟩) u2).trans (HC2.out i hi))
  have HC3 := Lib.hid (fun i (hi : i < R.c.length) => (D1.cell (p := ⟨q3, o3 + i, none⟩) u3).trans (HC3.out i hi))
  have HC4 := Lib.hid (fun i (hi : i < R.d.length) => (D1.cell (p := ⟨q4, o4 + i, none⟩) u4).trans (HC4.out i hi))
  clear l3 l4 l5 m2 m2' m3 m3' m4 m4' u1 u2 u3 u4
  unfold heatV RetFb
  have HD := Lib.hid D1
  clear D1
  go_enter Try.func39, Try.ntmps39
  go_wp2_with fail
  generalize (w.alloc (.cells #[.slice (some ⟨q1, o1, none⟩) R.a.length cap1, .slice (some ⟨q2, o2, none⟩) R.a.length cap2, .slice (some ⟨q3, o3, none⟩) R.a.length cap3, .slice (some ⟨q4, o4, none⟩) R.a.length cap4] 29)) = w1 at *
  obtain ⟨⟨p0, p1, p2, p3⟩, pf, pl⟩ := bB
  generalize hwp : w.heap.size = p at *
  have HWP := Lib.hid hwp
  clear hwp pf
  go_loopw [3, 9] (fun s i wr => ∃ k : Nat, k ≤ R.a.length ∧ i = .int .i64 k ∧ ∃ r m, s = .float .f32 r ∧ IsF .f32 r (foldF (heatG R) k) ∧ wr = w1.drewN m) (fun _ i _ => R.a.length - (intOf i).toNat)
  case atStart => exact ⟨0, Nat.zero_le _, rfl, 0, 0, rfl, hz, rfl⟩
  case round =>
    obtain ⟨k, hk, rfl, r, m, rfl, hr, rfl⟩ := hrel
    by_cases hlt : k < R.a.length
    · have HX : Hid True := Lib.hid trivial
      have sa := HC1.out k hlt
      have ia : IsF .f32 (fget R.a k) (cl .f32 (fget R.a k)) := IsF.of (HBITS.out.1 _ (fget_mem hlt))
      have sc := HC3.out k (show k < R.c.length by rw [HL.out.2.1]; exact hlt)
      have ic : IsF .f32 (fget R.c k) (cl .f32 (fget R.c k)) := IsF.of (HBITS.out.2.2.1 _ (fget_mem (show k < R.c.length by rw [HL.out.2.1]; exact hlt)))
      have sd := HC4.out k (show k < R.d.length by rw [HL.out.2.2]; exact hlt)
      have id : IsF .f32 (fget R.d k) (cl .f32 (fget R.d k)) := IsF.of (HBITS.out.2.2.2 _ (fget_mem (show k < R.d.length by rw [HL.out.2.2]; exact hlt)))
      go_wp2
      go_region
      all_goals go_wp2
      all_goals
        go_roundw
        case rel => exact ⟨k + 1, by omega, by go_num, _, _, rfl, (isF_fop a_add hr (isF_fop a_mul (isF_fop a_mul ia ic _) id _) _ : IsF .f32 _ (foldF (heatG R) (k + 1))), rfl⟩
        case measure => simp [intOf]; omega
    · have hkn : k = R.a.length := by omega
      have HK := Lib.hid hkn
      clear hkn
      go_wp2
      go_ret
      exact ⟨_, rfl, by rw [← HK.out]; exact hr, by rw [HWP.out]; exact below_drewN HD.out _⟩
set_option maxHeartbeats 4000000 in
theorem iLongOfRod_any (v1 v2 v3 v4 : Value) (R : Rl) (w : World) (h : Rod4 w v1 v2 v3 v4 R) :
    Calls Try.prog 13 #[.agg #[v1, v2, v3, v4]] w (RetFBb w (rodF R (longV R)) (okRod R && finF (longV R))) := by
  have bB := box4_alloc w 29 v1 v2 v3 v4
  have D0 : Below w.heap.size w (w.alloc (.cells #[v1, v2, v3, v4] 29)) := by (repeat' first | assumption | exact Below.refl _ _ | refine B_drew ?_ _ | refine Below.drew ?_ | refine Below.alloc ?_ (by first | exact Nat.le_refl _ | (simp; done) | (simp; omega)) _)
  have h0 := h.below D0
  have hi := iValidRod_any _ _ _ _ R _ h0
  unfold rodF
  cases hok : okRod R
  · rw [hok] at hi
    simp only [Bool.false_and, Bool.false_eq_true, if_false]
    go_enter Try.func13, Try.ntmps13
    go_wp2_with fail
    refine hi.mono ?_
    rintro e w1 ⟨rfl, hb1⟩
    go_wp2_with fail
    go_ret2
    exact ⟨_, rfl, isF_zero, B_trans D0 hb1⟩
  · rw [hok] at hi
    have hL := (okRod_iff hok).1
    have HL := Lib.hid hL
    clear hL
    simp only [Bool.true_and, if_true]
    go_enter Try.func13, Try.ntmps13
    go_wp2_with fail
    refine hi.mono ?_
    rintro e w1 ⟨rfl, hb1⟩
    have D1 := B_trans D0 hb1
    have h1 := h.below D1
    obtain ⟨⟨p0, p1, p2, p3⟩, pf, pl⟩ := bB.below hb1
    go_wp2_with fail
    refine (isum_any _ _ _ h1.1).mono ?_
    rintro e w2 ⟨r, n2, rfl, hr, rfl⟩
    have D2 := B_drew D1 n2
    go_wp2_with fail
    refine (checked_any _ _ hr _).mono ?_
    rintro e w3 ⟨r3, n3, rfl, hr3, rfl⟩
    go_wp2_with fail
    go_ret2
    exact ⟨_, rfl, hr3, by first | exact B_drew D2 _ | exact B_drew D1 _⟩
set_option maxHeartbeats 4000000 in
theorem iHeatOfRod_any (v1 v2 v3 v4 : Value) (R : Rl) (w : World) (h : Rod4 w v1 v2 v3 v4 R) :
    Calls Try.prog 17 #[.agg #[v1, v2, v3, v4]] w (RetFBb w (rodF R (heatV R)) (okRod R && finF (heatV R))) := by
  have bB := box4_alloc w 29 v1 v2 v3 v4
  have D0 : Below w.heap.size w (w.alloc (.cells #[v1, v2, v3, v4] 29)) := by (repeat' first | assumption | exact Below.refl _ _ | refine B_drew ?_ _ | refine Below.drew ?_ | refine Below.alloc ?_ (by first | exact Nat.le_refl _ | (simp; done) | (simp; omega)) _)
  have h0 := h.below D0
  have hi := iValidRod_any _ _ _ _ R _ h0
  unfold rodF
  cases hok : okRod R
  · rw [hok] at hi
    simp only [Bool.false_and, Bool.false_eq_true, if_false]
    go_enter Try.func17, Try.ntmps17
    go_wp2_with fail
    refine hi.mono ?_
    rintro e w1 ⟨rfl, hb1⟩
    go_wp2_with fail
    go_ret2
    exact ⟨_, rfl, isF_zero, B_trans D0 hb1⟩
  · rw [hok] at hi
    have hL := (okRod_iff hok).1
    have HL := Lib.hid hL
    clear hL
    simp only [Bool.true_and, if_true]
    go_enter Try.func17, Try.ntmps17
    go_wp2_with fail
    refine hi.mono ?_
    rintro e w1 ⟨rfl, hb1⟩
    have D1 := B_trans D0 hb1
    have h1 := h.below D1
    obtain ⟨⟨p0, p1, p2, p3⟩, pf, pl⟩ := bB.below hb1
    go_wp2_with fail
    refine (heatOfRod_any _ _ _ _ R HL.out _ h1).mono ?_
    rintro e w2 ⟨r, rfl, hr, hb2⟩
    have D2 := B_trans D1 hb2
    go_wp2_with fail
    refine (checked_any _ _ hr _).mono ?_
    rintro e w3 ⟨r3, n3, rfl, hr3, rfl⟩
    go_wp2_with fail
    go_ret2
    exact ⟨_, rfl, hr3, by first | exact B_drew D2 _ | exact B_drew D1 _⟩
set_option maxHeartbeats 4000000 in
theorem iHinderOf_any (v1 v2 v3 v4 : Value) (R : Rl) (w : World) (h : Rod4 w v1 v2 v3 v4 R) :
    Calls Try.prog 21 #[.agg #[v1, v2, v3, v4]] w (RetFBb w (rodF R (hindV R)) (okRod R && finF (hindV R))) := by
  unfold rodF
  cases hok : okRod R
  · have D0 : Below w.heap.size w (w.alloc (.cells #[v1, v2, v3, v4] 29)) := by (repeat' first | assumption | exact Below.refl _ _ | refine B_drew ?_ _ | refine Below.drew ?_ | refine Below.alloc ?_ (by first | exact Nat.le_refl _ | (simp; done) | (simp; omega)) _)
    have hi := iValidRod_any _ _ _ _ R _ (h.below D0)
    rw [hok] at hi
    simp only [Bool.false_and, Bool.false_eq_true, if_false]
    go_enter Try.func21, Try.ntmps21
    go_wp2_with fail
    refine hi.mono ?_
    rintro e w1 ⟨rfl, hb1⟩
    go_wp2_with fail
    go_ret2
    exact ⟨_, rfl, isF_zero, B_trans D0 hb1⟩
  have hL := (okRod_iff hok).1
  simp only [Bool.true_and, if_true]
  have hh := h
  have hbits := h.bits
  obtain ⟨f1, f2, f3, f4⟩ := h
  obtain ⟨ao1, cap1, rfl, m1, m1', g1, t1⟩ := f1
  obtain ⟨ao2, cap2, rfl, m2, m2', g2, t2⟩ := f2
  obtain ⟨ao3, cap3, rfl, m3, m3', g3, t3⟩ := f3
  obtain ⟨ao4, cap4, rfl, m4, m4', g4, t4⟩ := f4
  clear g1 g2 g3 g4
  have HBITS := Lib.hid hbits
  clear hbits
  unfold maxLen at m1' m2' m3' m4'
  obtain ⟨l1, l2, l3, l4, l5⟩ := hL
  rcases t1 with t1 | ⟨q1, o1, rfl, u1, hc1⟩
  · rw [t1] at l1; cases l1
  rcases t2 with t2 | ⟨q2, o2, rfl, u2, hc2⟩
  · rw [t2] at l3; rw [← l3] at l1; cases l1
  rcases t3 with t3 | ⟨q3, o3, rfl, u3, hc3⟩
  · rw [t3] at l4; rw [← l4] at l1; cases l1
  rcases t4 with t4 | ⟨q4, o4, rfl, u4, hc4⟩
  · rw [t4] at l5; rw [← l5] at l1; cases l1
  have HL := Lib.hid (And.intro l3 (And.intro l4 l5))
  have HC1 := Lib.hid hc1
  have HC2 := Lib.hid hc2
  have HC3 := Lib.hid hc3
  have HC4 := Lib.hid hc4
  clear hc1 hc2 hc3 hc4
  have hz := isF_zero
  have hadd := run_fop (P := Try.prog) a_add 26 .f32
  have hmul := run_fop (P := Try.prog) a_mul 26 .f32
  have hquo := run_fop (P := Try.prog) a_quo 26 .f32
  rw [l3, l4, l5]
  rw [l3, l4, l5] at hh
  have bB := box4_alloc w 29 (.slice (some ⟨q1, o1, none⟩) R.a.length cap1) (.slice (some ⟨q2, o2, none⟩) R.a.length cap2) (.slice (some ⟨q3, o3, none⟩) R.a.length cap3) (.slice (some ⟨q4, o4, none⟩) R.a.length cap4)
  have D0 : Below w.heap.size w (w.alloc (.cells #[.slice (some ⟨q1, o1, none⟩) R.a.length cap1, .slice (some ⟨q2, o2, none⟩) R.a.length cap2, .slice (some ⟨q3, o3, none⟩) R.a.length cap3, .slice (some ⟨q4, o4, none⟩) R.a.length cap4] 29)) := by (repeat' first | assumption | exact Below.refl _ _ | refine B_drew ?_ _ | refine Below.drew ?_ | refine Below.alloc ?_ (by first | exact Nat.le_refl _ | (simp; done) | (simp; omega)) _)
  have hi := iValidRod_any _ _ _ _ R _ (hh.below D0)
  rw [hok] at hi
  unfold hindV
  clear hok hh
  go_enter Try.func21, Try.ntmps21
  go_wp2_with fail
  refine hi.mono ?_
  rintro e w1 ⟨rfl, hb1⟩
  have D1 := B_trans D0 hb1
  have bB1 := bB.below hb1
  clear D0 bB hb1 hi
  generalize hwp : w.heap.size = p at *
  have HWP := Lib.hid hwp
  clear hwp
  have HC1 := Lib.hid (fun i (hi : i < R.a.length) => (D1.cell (p := ⟨q1, o1 + i, none⟩) u1).trans (HC1.out i hi))
  have HC2 := Lib.hid (fun i (hi : i < R.b.length) => (D1.cell (p := ⟨q2, o2 + i, none⟩) u2).trans (HC2.out i hi))
  have HC3 := Lib.hid (fun i (hi : i < R.c.length) => (D1.cell (p := ⟨q3, o3 + i, none⟩) u3).trans (HC3.out i hi))
  have HC4 := Lib.hid (fun i (hi : i < R.d.length) => (D1.cell (p := ⟨q4, o4 + i, none⟩) u4).trans (HC4.out i hi))
  clear l3 l4 l5 m2 m2' m3 m3' m4 m4' u1 u2 u3 u4
  have HD := Lib.hid D1
  clear D1
  obtain ⟨⟨p0, p1, p2, p3⟩, pf, pl⟩ := bB1
  clear pf
  go_wp2_with fail
  go_loopw [4, 13] (fun s i wr => ∃ k : Nat, k ≤ R.a.length ∧ i = .int .i64 k ∧ ∃ r m, s = .float .f32 r ∧ IsF .f32 r (foldF (hindG R) k) ∧ wr = w1.drewN m) (fun _ i _ => R.a.length - (intOf i).toNat)
  case atStart => exact ⟨0, Nat.zero_le _, rfl, 0, 0, rfl, hz, rfl⟩
  case round =>
    obtain ⟨k, hk, rfl, r, m, rfl, hr, rfl⟩ := hrel
    by_cases hlt : k < R.a.length
    · have HX : Hid True := Lib.hid trivial
      have sa := HC1.out k hlt
      have ia : IsF .f32 (fget R.a k) (cl .f32 (fget R.a k)) := IsF.of (HBITS.out.1 _ (fget_mem hlt))
      have sb := HC2.out k (show k < R.b.length by rw [HL.out.1]; exact hlt)
      have ib : IsF .f32 (fget R.b k) (cl .f32 (fget R.b k)) := IsF.of (HBITS.out.2.1 _ (fget_mem (show k < R.b.length by rw [HL.out.1]; exact hlt)))
      go_wp2_with (first | (refine wpList_far rfl rfl (by first | exact .inl rfl | exact .inr (.inl rfl) | exact .inr (.inr (.inl rfl)) | exact .inr (.inr (.inr rfl))) rfl rfl (by first | assumption | exact isF_ofInt _ _ | exact IsF.lit (by decide +kernel)) (by first | assumption | exact isF_ofInt _ _ | exact IsF.lit (by decide +kernel)) ?_; intro r n hr) | (refine wpList_fcmp rfl rfl (by first | exact .inl rfl | exact .inr (.inl rfl) | exact .inr (.inr (.inl rfl)) | exact .inr (.inr (.inr (.inl rfl))) | exact .inr (.inr (.inr (.inr (.inl rfl)))) | exact .inr (.inr (.inr (.inr (.inr rfl))))) rfl rfl (by first | assumption | exact isF_ofInt _ _ | exact IsF.lit (by decide +kernel)) (by first | assumption | exact isF_ofInt _ _ | exact IsF.lit (by decide +kernel)) (by first | assumption | exact rfl) ?_) | (first | (refine wpList_fsame rfl rfl rfl (congrArg Option.isSome Try.underlying26) Try.underlying26 ?_) | (refine wpList_fsame rfl rfl rfl (congrArg Option.isSome Try.underlying32) Try.underlying32 ?_)) | (refine wpList_fwid rfl rfl rfl (congrArg Option.isSome Try.underlying26) Try.underlying32 (by assumption) ?_; intro r n hr) | (refine wpList_fnar rfl rfl rfl (congrArg Option.isSome Try.underlying32) Try.underlying26 (by assumption) (by assumption) ?_; intro r n hr) | (refine wpList_fneg rfl rfl rfl (by assumption) ?_; intro r hr))
      all_goals
        go_roundw
        case rel => exact ⟨k + 1, by omega, by go_num, _, _, rfl, (show IsF .f32 _ (ar .add .f32 (foldF (hindG R) k) (hindG R k)) by assumption), rfl⟩
        case measure => simp [intOf]; omega
    · have hkn : k = R.a.length := by omega
      have HK := Lib.hid hkn
      clear hkn
      have hr' : IsF .f32 r (foldF (hindG R) R.a.length) := by rw [← HK.out]; exact hr
      clear hadd hmul hquo
      go_wp2_with (first | (go_at_call 35; refine (checked_any _ _ hr' _).mono ?_; rintro e w3 ⟨r3, n3, rfl, hr3, rfl⟩))
      go_ret2
      exact ⟨_, rfl, hr3, by rw [HWP.out]; exact below_drewN HD.out _⟩
set_option maxHeartbeats 4000000 in
theorem sMeanOfRod_any (v1 v2 v3 v4 : Value) (R : Rl) (w : World) (h : Rod4 w v1 v2 v3 v4 R) :
    Calls Try.prog 18 #[.agg #[v1, v2, v3, v4]] w (RetFBb w (if heatOk R then chkF (meanV R) else some 0) (heatOk R && finF (meanV R))) := by
  have e0 : (okRod R && finF (heatV R)) = heatOk R := rfl
  cases hok : heatOk R
  · have D0 : Below w.heap.size w (w.alloc (.cells #[v1, v2, v3, v4] 29)) := by (repeat' first | assumption | exact Below.refl _ _ | refine B_drew ?_ _ | refine Below.drew ?_ | refine Below.alloc ?_ (by first | exact Nat.le_refl _ | (simp; done) | (simp; omega)) _)
    have hi := sHeatOfRod_any _ _ _ _ R _ (h.below D0)
    rw [e0, hok] at hi
    simp only [Bool.false_and, Bool.false_eq_true, if_false]
    go_enter Try.func18, Try.ntmps18
    go_wp2_with fail
    refine hi.mono ?_
    rintro e w1 ⟨r1, rfl, hr1, hb1⟩
    go_wp2_with fail
    go_ret2
    exact ⟨_, rfl, isF_zero, B_trans D0 hb1⟩
  have hk2 : okRod R = true ∧ finF (heatV R) = true := by
    unfold heatOk at hok
    rw [Bool.and_eq_true] at hok
    exact hok
  have hL := (okRod_iff hk2.1).1
  have ev : rodF R (heatV R) = heatV R := by unfold rodF chkF; rw [if_pos hk2.1, if_pos hk2.2]
  simp only [Bool.true_and, if_true]
  have hh := h
  have hbits := h.bits
  obtain ⟨f1, f2, f3, f4⟩ := h
  obtain ⟨ao1, cap1, rfl, m1, m1', g1, t1⟩ := f1
  obtain ⟨ao2, cap2, rfl, m2, m2', g2, t2⟩ := f2
  obtain ⟨ao3, cap3, rfl, m3, m3', g3, t3⟩ := f3
  obtain ⟨ao4, cap4, rfl, m4, m4', g4, t4⟩ := f4
  clear g1 g2 g3 g4
  have HBITS := Lib.hid hbits
  clear hbits
  unfold maxLen at m1' m2' m3' m4'
  obtain ⟨l1, l2, l3, l4, l5⟩ := hL
  rcases t1 with t1 | ⟨q1, o1, rfl, u1, hc1⟩
  · rw [t1] at l1; cases l1
  rcases t2 with t2 | ⟨q2, o2, rfl, u2, hc2⟩
  · rw [t2] at l3; rw [← l3] at l1; cases l1
  rcases t3 with t3 | ⟨q3, o3, rfl, u3, hc3⟩
  · rw [t3] at l4; rw [← l4] at l1; cases l1
  rcases t4 with t4 | ⟨q4, o4, rfl, u4, hc4⟩
  · rw [t4] at l5; rw [← l5] at l1; cases l1
  have HL := Lib.hid (And.intro l3 (And.intro l4 l5))
  have HC1 := Lib.hid hc1
  have HC2 := Lib.hid hc2
  have HC3 := Lib.hid hc3
  have HC4 := Lib.hid hc4
  clear hc1 hc2 hc3 hc4
  have hz := isF_zero
  have hadd := run_fop (P := Try.prog) a_add 26 .f32
  have hmul := run_fop (P := Try.prog) a_mul 26 .f32
  have hquo := run_fop (P := Try.prog) a_quo 26 .f32
  rw [l3, l4, l5]
  rw [l3, l4, l5] at hh
  have bB := box4_alloc w 29 (.slice (some ⟨q1, o1, none⟩) R.a.length cap1) (.slice (some ⟨q2, o2, none⟩) R.a.length cap2) (.slice (some ⟨q3, o3, none⟩) R.a.length cap3) (.slice (some ⟨q4, o4, none⟩) R.a.length cap4)
  have D0 : Below w.heap.size w (w.alloc (.cells #[.slice (some ⟨q1, o1, none⟩) R.a.length cap1, .slice (some ⟨q2, o2, none⟩) R.a.length cap2, .slice (some ⟨q3, o3, none⟩) R.a.length cap3, .slice (some ⟨q4, o4, none⟩) R.a.length cap4] 29)) := by (repeat' first | assumption | exact Below.refl _ _ | refine B_drew ?_ _ | refine Below.drew ?_ | refine Below.alloc ?_ (by first | exact Nat.le_refl _ | (simp; done) | (simp; omega)) _)
  have hi := sHeatOfRod_any _ _ _ _ R _ (hh.below D0)
  rw [e0, hok, ev] at hi
  unfold meanV
  clear hok hh hk2 ev e0
  generalize heatV R = hv at *
  go_enter Try.func18, Try.ntmps18
  go_wp2_with fail
  refine hi.mono ?_
  rintro e w1 ⟨rh, rfl, hrh, hb1⟩
  have D1 := B_trans D0 hb1
  have bB1 := bB.below hb1
  clear D0 bB hb1 hi
  generalize hwp : w.heap.size = p at *
  have HWP := Lib.hid hwp
  clear hwp
  have HC1 := Lib.hid (fun i (hi : i < R.a.length) => (D1.cell (p := ⟨q1, o1 + i, none⟩) u1).trans (HC1.out i hi))
  have HC2 := Lib.hid (fun i (hi : i < R.b.length) => (D1.cell (p := ⟨q2, o2 + i, none⟩) u2).trans (HC2.out i hi))
  have HC3 := Lib.hid (fun i (hi : i < R.c.length) => (D1.cell (p := ⟨q3, o3 + i, none⟩) u3).trans (HC3.out i hi))
  have HC4 := Lib.hid (fun i (hi : i < R.d.length) => (D1.cell (p := ⟨q4, o4 + i, none⟩) u4).trans (HC4.out i hi))
  clear l3 l4 l5 m2 m2' m3 m3' m4 m4' u1 u2 u3 u4
  have HD := Lib.hid D1
  clear D1
  obtain ⟨⟨p0, p1, p2, p3⟩, pf, pl⟩ := bB1
  clear pf
  go_wp2_with fail
  go_loopw [6, 7] (fun s i wr => ∃ k : Nat, k ≤ R.a.length ∧ i = .int .i64 k ∧ ∃ r m, s = .float .f32 r ∧ IsF .f32 r (foldF (massG R) k) ∧ wr = w1.drewN m) (fun _ i _ => R.a.length - (intOf i).toNat)
  case atStart => exact ⟨0, Nat.zero_le _, rfl, 0, 0, rfl, hz, rfl⟩
  case round =>
    obtain ⟨k, hk, rfl, r, m, rfl, hr, rfl⟩ := hrel
    by_cases hlt : k < R.a.length
    · have HX : Hid True := Lib.hid trivial
      have sa := HC1.out k hlt
      have ia : IsF .f32 (fget R.a k) (cl .f32 (fget R.a k)) := IsF.of (HBITS.out.1 _ (fget_mem hlt))
      have sc := HC3.out k (show k < R.c.length by rw [HL.out.2.1]; exact hlt)
      have ic : IsF .f32 (fget R.c k) (cl .f32 (fget R.c k)) := IsF.of (HBITS.out.2.2.1 _ (fget_mem (show k < R.c.length by rw [HL.out.2.1]; exact hlt)))
      go_wp2
      go_region
      all_goals go_wp2
      all_goals
        go_roundw
        case rel => exact ⟨k + 1, by omega, by go_num, _, _, rfl, (isF_fop a_add hr (isF_fop a_mul ia ic _) _ : IsF .f32 _ (foldF (massG R) (k + 1))), rfl⟩
        case measure => simp [intOf]; omega
    · have hkn : k = R.a.length := by omega
      have HK := Lib.hid hkn
      clear hkn
      have hr' : IsF .f32 r (foldF (massG R) R.a.length) := by rw [← HK.out]; exact hr
      clear hr
      generalize foldF (massG R) R.a.length = ms at *
      clear hadd hmul hquo
      go_wp2_with (first | (refine wpList_far rfl rfl (by first | exact .inl rfl | exact .inr (.inl rfl) | exact .inr (.inr (.inl rfl)) | exact .inr (.inr (.inr rfl))) rfl rfl (by first | assumption | exact isF_ofInt _ _ | exact IsF.lit (by decide +kernel)) (by first | assumption | exact isF_ofInt _ _ | exact IsF.lit (by decide +kernel)) ?_; intro r n hr) | (refine wpList_fcmp rfl rfl (by first | exact .inl rfl | exact .inr (.inl rfl) | exact .inr (.inr (.inl rfl)) | exact .inr (.inr (.inr (.inl rfl))) | exact .inr (.inr (.inr (.inr (.inl rfl)))) | exact .inr (.inr (.inr (.inr (.inr rfl))))) rfl rfl (by first | assumption | exact isF_ofInt _ _ | exact IsF.lit (by decide +kernel)) (by first | assumption | exact isF_ofInt _ _ | exact IsF.lit (by decide +kernel)) (by first | assumption | exact rfl) ?_) | (first | (refine wpList_fsame rfl rfl rfl (congrArg Option.isSome Try.underlying26) Try.underlying26 ?_) | (refine wpList_fsame rfl rfl rfl (congrArg Option.isSome Try.underlying32) Try.underlying32 ?_)) | (refine wpList_fwid rfl rfl rfl (congrArg Option.isSome Try.underlying26) Try.underlying32 (by assumption) ?_; intro r n hr) | (refine wpList_fnar rfl rfl rfl (congrArg Option.isSome Try.underlying32) Try.underlying26 (by assumption) (by assumption) ?_; intro r n hr) | (refine wpList_fneg rfl rfl rfl (by assumption) ?_; intro r hr))
      refine (l02Number_any _ _ (by assumption) _).mono ?_
      rintro e w3 ⟨r3, n3, rfl, hr3, rfl⟩
      go_wp2_with fail
      go_ret2
      exact ⟨_, rfl, hr3, by rw [HWP.out]; exact below_drewN HD.out _⟩
set_option maxHeartbeats 4000000 in
theorem iMeanOfRod_any (v1 v2 v3 v4 : Value) (R : Rl) (w : World) (h : Rod4 w v1 v2 v3 v4 R) :
    Calls Try.prog 19 #[.agg #[v1, v2, v3, v4]] w (RetFBb w (if heatOk R then chkF (meanV R) else some 0) (heatOk R && finF (meanV R))) := by
  have e0 : (okRod R && finF (heatV R)) = heatOk R := rfl
  cases hok : heatOk R
  · have D0 : Below w.heap.size w (w.alloc (.cells #[v1, v2, v3, v4] 29)) := by (repeat' first | assumption | exact Below.refl _ _ | refine B_drew ?_ _ | refine Below.drew ?_ | refine Below.alloc ?_ (by first | exact Nat.le_refl _ | (simp; done) | (simp; omega)) _)
    have hi := iHeatOfRod_any _ _ _ _ R _ (h.below D0)
    rw [e0, hok] at hi
    simp only [Bool.false_and, Bool.false_eq_true, if_false]
    go_enter Try.func19, Try.ntmps19
    go_wp2_with fail
    refine hi.mono ?_
    rintro e w1 ⟨r1, rfl, hr1, hb1⟩
    go_wp2_with fail
    go_ret2
    exact ⟨_, rfl, isF_zero, B_trans D0 hb1⟩
  have hk2 : okRod R = true ∧ finF (heatV R) = true := by
    unfold heatOk at hok
    rw [Bool.and_eq_true] at hok
    exact hok
  have hL := (okRod_iff hk2.1).1
  have ev : rodF R (heatV R) = heatV R := by unfold rodF chkF; rw [if_pos hk2.1, if_pos hk2.2]
  simp only [Bool.true_and, if_true]
  have hh := h
  have hbits := h.bits
  obtain ⟨f1, f2, f3, f4⟩ := h
  obtain ⟨ao1, cap1, rfl, m1, m1', g1, t1⟩ := f1
  obtain ⟨ao2, cap2, rfl, m2, m2', g2, t2⟩ := f2
  obtain ⟨ao3, cap3, rfl, m3, m3', g3, t3⟩ := f3
  obtain ⟨ao4, cap4, rfl, m4, m4', g4, t4⟩ := f4
  clear g1 g2 g3 g4
  have HBITS := Lib.hid hbits
  clear hbits
  unfold maxLen at m1' m2' m3' m4'
  obtain ⟨l1, l2, l3, l4, l5⟩ := hL
  rcases t1 with t1 | ⟨q1, o1, rfl, u1, hc1⟩
  · rw [t1] at l1; cases l1
  rcases t2 with t2 | ⟨q2, o2, rfl, u2, hc2⟩
  · rw [t2] at l3; rw [← l3] at l1; cases l1
  rcases t3 with t3 | ⟨q3, o3, rfl, u3, hc3⟩
  · rw [t3] at l4; rw [← l4] at l1; cases l1
  rcases t4 with t4 | ⟨q4, o4, rfl, u4, hc4⟩
  · rw [t4] at l5; rw [← l5] at l1; cases l1
  have HL := Lib.hid (And.intro l3 (And.intro l4 l5))
  have HC1 := Lib.hid hc1
  have HC2 := Lib.hid hc2
  have HC3 := Lib.hid hc3
  have HC4 := Lib.hid hc4
  clear hc1 hc2 hc3 hc4
  have hz := isF_zero
  have hadd := run_fop (P := Try.prog) a_add 26 .f32
  have hmul := run_fop (P := Try.prog) a_mul 26 .f32
  have hquo := run_fop (P := Try.prog) a_quo 26 .f32
  rw [l3, l4, l5]
  rw [l3, l4, l5] at hh
  have bB := box4_alloc w 29 (.slice (some ⟨q1, o1, none⟩) R.a.length cap1) (.slice (some ⟨q2, o2, none⟩) R.a.length cap2) (.slice (some ⟨q3, o3, none⟩) R.a.length cap3) (.slice (some ⟨q4, o4, none⟩) R.a.length cap4)
  have D0 : Below w.heap.size w (w.alloc (.cells #[.slice (some ⟨q1, o1, none⟩) R.a.length cap1, .slice (some ⟨q2, o2, none⟩) R.a.length cap2, .slice (some ⟨q3, o3, none⟩) R.a.length cap3, .slice (some ⟨q4, o4, none⟩) R.a.length cap4] 29)) := by (repeat' first | assumption | exact Below.refl _ _ | refine B_drew ?_ _ | refine Below.drew ?_ | refine Below.alloc ?_ (by first | exact Nat.le_refl _ | (simp; done) | (simp; omega)) _)
  have hi := iHeatOfRod_any _ _ _ _ R _ (hh.below D0)
  rw [e0, hok, ev] at hi
  unfold meanV
  clear hok hh hk2 ev e0
  generalize heatV R = hv at *
  go_enter Try.func19, Try.ntmps19
  go_wp2_with fail
  refine hi.mono ?_
  rintro e w1 ⟨rh, rfl, hrh, hb1⟩
  have D1 := B_trans D0 hb1
  have bB1 := bB.below hb1
  clear D0 bB hb1 hi
  generalize hwp : w.heap.size = p at *
  have HWP := Lib.hid hwp
  clear hwp
  have HC1 := Lib.hid (fun i (hi : i < R.a.length) => (D1.cell (p := ⟨q1, o1 + i, none⟩) u1).trans (HC1.out i hi))
  have HC2 := Lib.hid (fun i (hi : i < R.b.length) => (D1.cell (p := ⟨q2, o2 + i, none⟩) u2).trans (HC2.out i hi))
  have HC3 := Lib.hid (fun i (hi : i < R.c.length) => (D1.cell (p := ⟨q3, o3 + i, none⟩) u3).trans (HC3.out i hi))
  have HC4 := Lib.hid (fun i (hi : i < R.d.length) => (D1.cell (p := ⟨q4, o4 + i, none⟩) u4).trans (HC4.out i hi))
  clear l3 l4 l5 m2 m2' m3 m3' m4 m4' u1 u2 u3 u4
  have HD := Lib.hid D1
  clear D1
  obtain ⟨⟨p0, p1, p2, p3⟩, pf, pl⟩ := bB1
  clear pf
  go_wp2_with fail
  go_loopw [6, 19] (fun s i wr => ∃ k : Nat, k ≤ R.a.length ∧ i = .int .i64 k ∧ ∃ r m, s = .float .f32 r ∧ IsF .f32 r (foldF (massG R) k) ∧ wr = w1.drewN m) (fun _ i _ => R.a.length - (intOf i).toNat)
  case atStart => exact ⟨0, Nat.zero_le _, rfl, 0, 0, rfl, hz, rfl⟩
  case round =>
    obtain ⟨k, hk, rfl, r, m, rfl, hr, rfl⟩ := hrel
    by_cases hlt : k < R.a.length
    · have HX : Hid True := Lib.hid trivial
      have sa := HC1.out k hlt
      have ia : IsF .f32 (fget R.a k) (cl .f32 (fget R.a k)) := IsF.of (HBITS.out.1 _ (fget_mem hlt))
      have sc := HC3.out k (show k < R.c.length by rw [HL.out.2.1]; exact hlt)
      have ic : IsF .f32 (fget R.c k) (cl .f32 (fget R.c k)) := IsF.of (HBITS.out.2.2.1 _ (fget_mem (show k < R.c.length by rw [HL.out.2.1]; exact hlt)))
      go_wp2_with (first | (refine wpList_far rfl rfl (by first | exact .inl rfl | exact .inr (.inl rfl) | exact .inr (.inr (.inl rfl)) | exact .inr (.inr (.inr rfl))) rfl rfl (by first | assumption | exact isF_ofInt _ _ | exact IsF.lit (by decide +kernel)) (by first | assumption | exact isF_ofInt _ _ | exact IsF.lit (by decide +kernel)) ?_; intro r n hr) | (refine wpList_fcmp rfl rfl (by first | exact .inl rfl | exact .inr (.inl rfl) | exact .inr (.inr (.inl rfl)) | exact .inr (.inr (.inr (.inl rfl))) | exact .inr (.inr (.inr (.inr (.inl rfl)))) | exact .inr (.inr (.inr (.inr (.inr rfl))))) rfl rfl (by first | assumption | exact isF_ofInt _ _ | exact IsF.lit (by decide +kernel)) (by first | assumption | exact isF_ofInt _ _ | exact IsF.lit (by decide +kernel)) (by first | assumption | exact rfl) ?_) | (first | (refine wpList_fsame rfl rfl rfl (congrArg Option.isSome Try.underlying26) Try.underlying26 ?_) | (refine wpList_fsame rfl rfl rfl (congrArg Option.isSome Try.underlying32) Try.underlying32 ?_)) | (refine wpList_fwid rfl rfl rfl (congrArg Option.isSome Try.underlying26) Try.underlying32 (by assumption) ?_; intro r n hr) | (refine wpList_fnar rfl rfl rfl (congrArg Option.isSome Try.underlying32) Try.underlying26 (by assumption) (by assumption) ?_; intro r n hr) | (refine wpList_fneg rfl rfl rfl (by assumption) ?_; intro r hr))
      all_goals
        go_roundw
        case rel => exact ⟨k + 1, by omega, by go_num, _, _, rfl, (show IsF .f32 _ (ar .add .f32 (foldF (massG R) k) (massG R k)) by assumption), rfl⟩
        case measure => simp [intOf]; omega
    · have hkn : k = R.a.length := by omega
      have HK := Lib.hid hkn
      clear hkn
      have hr' : IsF .f32 r (foldF (massG R) R.a.length) := by rw [← HK.out]; exact hr
      clear hr
      generalize foldF (massG R) R.a.length = ms at *
      clear hadd hmul hquo
      go_wp2_with (first | (refine wpList_far rfl rfl (by first | exact .inl rfl | exact .inr (.inl rfl) | exact .inr (.inr (.inl rfl)) | exact .inr (.inr (.inr rfl))) rfl rfl (by first | assumption | exact isF_ofInt _ _ | exact IsF.lit (by decide +kernel)) (by first | assumption | exact isF_ofInt _ _ | exact IsF.lit (by decide +kernel)) ?_; intro r n hr) | (refine wpList_fcmp rfl rfl (by first | exact .inl rfl | exact .inr (.inl rfl) | exact .inr (.inr (.inl rfl)) | exact .inr (.inr (.inr (.inl rfl))) | exact .inr (.inr (.inr (.inr (.inl rfl)))) | exact .inr (.inr (.inr (.inr (.inr rfl))))) rfl rfl (by first | assumption | exact isF_ofInt _ _ | exact IsF.lit (by decide +kernel)) (by first | assumption | exact isF_ofInt _ _ | exact IsF.lit (by decide +kernel)) (by first | assumption | exact rfl) ?_) | (first | (refine wpList_fsame rfl rfl rfl (congrArg Option.isSome Try.underlying26) Try.underlying26 ?_) | (refine wpList_fsame rfl rfl rfl (congrArg Option.isSome Try.underlying32) Try.underlying32 ?_)) | (refine wpList_fwid rfl rfl rfl (congrArg Option.isSome Try.underlying26) Try.underlying32 (by assumption) ?_; intro r n hr) | (refine wpList_fnar rfl rfl rfl (congrArg Option.isSome Try.underlying32) Try.underlying26 (by assumption) (by assumption) ?_; intro r n hr) | (refine wpList_fneg rfl rfl rfl (by assumption) ?_; intro r hr))
      refine (checked_any _ _ (by assumption) _).mono ?_
      rintro e w3 ⟨r3, n3, rfl, hr3, rfl⟩
      go_wp2_with fail
      go_ret2
      exact ⟨_, rfl, hr3, by rw [HWP.out]; exact below_drewN HD.out _⟩
end Go.Proofs.Ytndfpgcaooldkaa
