/-
  Contracts: what passes between cells of a rod. Written by wip/gen_pass.py.
-/
import Derived.Test.YtndfpgcaooldkaaRsum
import Derived.Test.YtndfpgcaooldkaaHalf
namespace Go.Proofs.Ytndfpgcaooldkaa
set_option linter.unusedVariables false
set_option linter.unusedSimpArgs false
open Go.RowKit Fl
attribute [local go_sem] run_store_float

/-- Half of what a cell hinders. -/
def halfV (R : Rl) (i : Nat) : Option Nat := ar .quo .f32 (ar .quo .f32 (cl .f32 (fget R.a i)) (cl .f32 (fget R.b i))) (some 1073741824)
def betV (R : Rl) (i : Nat) : Option Nat := ar .quo .f32 (some 1065353216) (ar .add .f32 (halfV R i) (halfV R (i + 1)))
theorem isF_two : IsF .f32 1073741824 (some 1073741824) := IsF.lit (by decide +kernel)
theorem isF_half : IsF .f32 1056964608 (some 1056964608) := IsF.lit (by decide +kernel)
theorem isF_one : IsF .f32 1065353216 (some 1065353216) := IsF.lit (by decide +kernel)

set_option maxHeartbeats 4000000 in
theorem l02Half_any (p : Nat) (v1 v2 v3 v4 : Value) (R : Rl) (hL : R.lens) (i : Nat) (hi : i < R.a.length) (w : World) (hB : Box4 w p v1 v2 v3 v4) (h : Rod4 w v1 v2 v3 v4 R) :
    Calls Try.prog 56 #[.pointer (some ⟨p, 0, none⟩), .int .i64 i] w (RetF w .f32 (halfV R i)) := by
  have hbits := h.bits
  obtain ⟨f1, f2, f3, f4⟩ := h
  obtain ⟨ao1, cap1, rfl, m1, m1', g1, t1⟩ := f1
  obtain ⟨ao2, cap2, rfl, m2, m2', g2, t2⟩ := f2
  obtain ⟨ao3, cap3, rfl, m3, m3', g3, t3⟩ := f3
  obtain ⟨ao4, cap4, rfl, m4, m4', g4, t4⟩ := f4
  clear g1 g2 g3 g4
  have HBITS := Lib.hid hbits
  clear hbits
  unfold maxLen at m1' m2' m3' m4'
  obtain ⟨l1, l2, l3, l4, l5⟩ := hL
  rcases t1 with t1 | ⟨q1, o1, rfl, u1, hc1⟩
  · rw [t1] at l1; cases l1
  rcases t2 with t2 | ⟨q2, o2, rfl, u2, hc2⟩
  · rw [t2] at l3; rw [← l3] at l1; cases l1
  rcases t3 with t3 | ⟨q3, o3, rfl, u3, hc3⟩
  · rw [t3] at l4; rw [← l4] at l1; cases l1
  rcases t4 with t4 | ⟨q4, o4, rfl, u4, hc4⟩
  · rw [t4] at l5; rw [← l5] at l1; cases l1
  have HL := Lib.hid (And.intro l3 (And.intro l4 l5))
  have HC1 := Lib.hid hc1
  have HC2 := Lib.hid hc2
  have HC3 := Lib.hid hc3
  have HC4 := Lib.hid hc4
  clear hc1 hc2 hc3 hc4
  have hz := isF_zero
  have hadd := run_fop (P := Try.prog) a_add 26 .f32
  have hmul := run_fop (P := Try.prog) a_mul 26 .f32
  have hquo := run_fop (P := Try.prog) a_quo 26 .f32
  obtain ⟨⟨p0, p1, p2, p3⟩, pf, pl⟩ := hB
  rw [l3] at p1
  rw [l4] at p2
  rw [l5] at p3
  have sa := HC1.out i hi
  have sb := HC2.out i (show i < R.b.length by rw [HL.out.1]; exact hi)
  have ia : IsF .f32 (fget R.a i) (cl .f32 (fget R.a i)) := IsF.of (HBITS.out.1 _ (fget_mem hi))
  have ib : IsF .f32 (fget R.b i) (cl .f32 (fget R.b i)) := IsF.of (HBITS.out.2.1 _ (fget_mem (show i < R.b.length by rw [HL.out.1]; exact hi)))
  have HV : Hid (halfV R i = ar .mul .f32 (some 1056964608) (ar .quo .f32 (cl .f32 (fget R.a i)) (cl .f32 (fget R.b i)))) := Lib.hid (half_eq _).symm
  clear l3 l4 l5 pf m2 m2' m3 m3' m4 m4' u1 u2 u3 u4
  go_enter Try.func56, Try.ntmps56
  go_wp2_with fail
  go_region
  all_goals go_wp2
  all_goals
    go_ret
    exact ⟨_, _, rfl, by rw [HV.out]; exact isF_fop a_mul isF_half (isF_fop a_quo ia ib _) _, rfl⟩
set_option maxHeartbeats 4000000 in
theorem halfOf_any (v1 v2 v3 v4 : Value) (R : Rl) (hL : R.lens) (i : Nat) (hi : i < R.a.length) (w : World) (h : Rod4 w v1 v2 v3 v4 R) :
    Calls Try.prog 57 #[.agg #[v1, v2, v3, v4], .int .i64 i] w (RetFb w (halfV R i)) := by
  have hbits := h.bits
  obtain ⟨f1, f2, f3, f4⟩ := h
  obtain ⟨ao1, cap1, rfl, m1, m1', g1, t1⟩ := f1
  obtain ⟨ao2, cap2, rfl, m2, m2', g2, t2⟩ := f2
  obtain ⟨ao3, cap3, rfl, m3, m3', g3, t3⟩ := f3
  obtain ⟨ao4, cap4, rfl, m4, m4', g4, t4⟩ := f4
  clear g1 g2 g3 g4
  have HBITS := Lib.hid hbits
  clear hbits
  unfold maxLen at m1' m2' m3' m4'
  obtain ⟨l1, l2, l3, l4, l5⟩ := hL
  rcases t1 with t1 | ⟨q1, o1, rfl, u1, hc1⟩
  · rw [t1] at l1; cases l1
  rcases t2 with t2 | ⟨q2, o2, rfl, u2, hc2⟩
  · rw [t2] at l3; rw [← l3] at l1; cases l1
  rcases t3 with t3 | ⟨q3, o3, rfl, u3, hc3⟩
  · rw [t3] at l4; rw [← l4] at l1; cases l1
  rcases t4 with t4 | ⟨q4, o4, rfl, u4, hc4⟩
  · rw [t4] at l5; rw [← l5] at l1; cases l1
  have HL := Lib.hid (And.intro l3 (And.intro l4 l5))
  have HC1 := Lib.hid hc1
  have HC2 := Lib.hid hc2
  have HC3 := Lib.hid hc3
  have HC4 := Lib.hid hc4
  clear hc1 hc2 hc3 hc4
  have hz := isF_zero
  have hadd := run_fop (P := Try.prog) a_add 26 .f32
  have hmul := run_fop (P := Try.prog) a_mul 26 .f32
  have hquo := run_fop (P := Try.prog) a_quo 26 .f32
  rw [l3, l4, l5]
  have sa := HC1.out i hi
  have sb := HC2.out i (show i < R.b.length by rw [HL.out.1]; exact hi)
  have ia : IsF .f32 (fget R.a i) (cl .f32 (fget R.a i)) := IsF.of (HBITS.out.1 _ (fget_mem hi))
  have ib : IsF .f32 (fget R.b i) (cl .f32 (fget R.b i)) := IsF.of (HBITS.out.2.1 _ (fget_mem (show i < R.b.length by rw [HL.out.1]; exact hi)))
  clear l3 l4 l5 m2 m2' m3 m3' m4 m4'
  go_enter Try.func57, Try.ntmps57
  go_wp2_with fail
  go_region
  all_goals go_wp2
  all_goals
    go_ret
    exact ⟨_, rfl, isF_fop a_quo (isF_fop a_quo ia ib _) isF_two _, by (repeat' first | assumption | exact Below.refl _ _ | refine B_drew ?_ _ | refine Below.drew ?_ | refine Below.alloc ?_ (by first | exact Nat.le_refl _ | (simp; done) | (simp; omega)) _)⟩
set_option maxHeartbeats 4000000 in
theorem l02Between_any (p : Nat) (v1 v2 v3 v4 : Value) (R : Rl) (hL : R.lens) (i : Nat) (hi : i + 1 < R.a.length) (w : World) (hB : Box4 w p v1 v2 v3 v4) (h : Rod4 w v1 v2 v3 v4 R) :
    Calls Try.prog 42 #[.pointer (some ⟨p, 0, none⟩), .int .i64 i] w (RetF w .f32 (betV R i)) := by
  have c1 := fun w' (h' : Below w.heap.size w w') => l02Half_any p v1 v2 v3 v4 R hL i (by omega) w' (hB.below h') (h.below h')
  have c2 := fun w' (h' : Below w.heap.size w w') => l02Half_any p v1 v2 v3 v4 R hL (i + 1) hi w' (hB.below h') (h.below h')
  have C1 := Lib.hid c1
  have C2 := Lib.hid c2
  have hl := hL.2.1
  have hl2 : i < 48 := by omega
  clear c1 c2 hL hB h hi hl
  unfold betV
  generalize halfV R i = x at *
  generalize halfV R (i + 1) = y at *
  rw [show (((i + 1 : Nat)) : Int) = (i : Int) + 1 by omega] at C2
  have i1 := isF_one
  go_enter Try.func42, Try.ntmps42
  go_wp2_with fail
  refine (C1.out _ (by (repeat' first | assumption | exact Below.refl _ _ | refine B_drew ?_ _ | refine Below.drew ?_ | refine Below.alloc ?_ (by first | exact Nat.le_refl _ | (simp; done) | (simp; omega)) _))).mono ?_
  rintro e w1 ⟨r1, n1, rfl, q1, rfl⟩
  go_wp2_with fail
  refine (C2.out _ (by (repeat' first | assumption | exact Below.refl _ _ | refine B_drew ?_ _ | refine Below.drew ?_ | refine Below.alloc ?_ (by first | exact Nat.le_refl _ | (simp; done) | (simp; omega)) _))).mono ?_
  rintro e w2 ⟨r2, n2, rfl, q2, rfl⟩
  go_wp2_with (first | (refine wpList_far rfl rfl (by first | exact .inl rfl | exact .inr (.inl rfl) | exact .inr (.inr (.inl rfl)) | exact .inr (.inr (.inr rfl))) rfl rfl (by first | assumption | exact isF_ofInt _ _ | exact IsF.lit (by decide +kernel)) (by first | assumption | exact isF_ofInt _ _ | exact IsF.lit (by decide +kernel)) ?_; intro r n hr) | (refine wpList_fcmp rfl rfl (by first | exact .inl rfl | exact .inr (.inl rfl) | exact .inr (.inr (.inl rfl)) | exact .inr (.inr (.inr (.inl rfl))) | exact .inr (.inr (.inr (.inr (.inl rfl)))) | exact .inr (.inr (.inr (.inr (.inr rfl))))) rfl rfl (by first | assumption | exact isF_ofInt _ _ | exact IsF.lit (by decide +kernel)) (by first | assumption | exact isF_ofInt _ _ | exact IsF.lit (by decide +kernel)) (by first | assumption | exact rfl) ?_) | (first | (refine wpList_fsame rfl rfl rfl (congrArg Option.isSome Try.underlying26) Try.underlying26 ?_) | (refine wpList_fsame rfl rfl rfl (congrArg Option.isSome Try.underlying32) Try.underlying32 ?_)) | (refine wpList_fwid rfl rfl rfl (congrArg Option.isSome Try.underlying26) Try.underlying32 (by assumption) ?_; intro r n hr) | (refine wpList_fnar rfl rfl rfl (congrArg Option.isSome Try.underlying32) Try.underlying26 (by assumption) (by assumption) ?_; intro r n hr) | (refine wpList_fneg rfl rfl rfl (by assumption) ?_; intro r hr))
  go_ret
  exact ⟨_, _, rfl, by assumption, rfl⟩
set_option maxHeartbeats 8000000 in
theorem passBetween_any (v1 v2 v3 v4 : Value) (R : Rl) (hL : R.lens) (i : Nat) (hi : i + 1 < R.a.length) (w : World) (h : Rod4 w v1 v2 v3 v4 R) :
    Calls Try.prog 44 #[.agg #[v1, v2, v3, v4], .int .i64 i] w (RetFb w (betV R i)) := by
  have c1 := fun w' (h' : Below w.heap.size w w') => halfOf_any v1 v2 v3 v4 R hL i (by omega) w' (h.below h')
  have c2 := fun w' (h' : Below w.heap.size w w') => halfOf_any v1 v2 v3 v4 R hL (i + 1) hi w' (h.below h')
  have C1 := Lib.hid c1
  have C2 := Lib.hid c2
  have hl := hL.2.1
  have hl2 : i < 48 := by omega
  clear c1 c2 hL h hi hl
  unfold betV
  generalize halfV R i = x at *
  generalize halfV R (i + 1) = y at *
  rw [show (((i + 1 : Nat)) : Int) = (i : Int) + 1 by omega] at C2
  have i1 := isF_one
  have bB := box4_alloc w 29 v1 v2 v3 v4
  have D0 : Below w.heap.size w (w.alloc (.cells #[v1, v2, v3, v4] 29)) := by (repeat' first | assumption | exact Below.refl _ _ | refine B_drew ?_ _ | refine Below.drew ?_ | refine Below.alloc ?_ (by first | exact Nat.le_refl _ | (simp; done) | (simp; omega)) _)
  go_enter Try.func44, Try.ntmps44
  go_wp2_with fail
  generalize (w.alloc (.cells #[v1, v2, v3, v4] 29)) = W at *
  have hadd := run_fop (P := Try.prog) a_add 26 .f32
  have hquo := run_fop (P := Try.prog) a_quo 26 .f32
  have bBd : Box4 W.drew w.heap.size v1 v2 v3 v4 := bB
  obtain ⟨⟨p0, p1, p2, p3⟩, pf, pl⟩ := bB
  clear pf
  have hW1 : W.drew.cell? ⟨w.heap.size, 0, none⟩ = some v1 ∧ W.drew.cell? ⟨w.heap.size, 1, none⟩ = some v2 ∧ W.drew.cell? ⟨w.heap.size, 2, none⟩ = some v3 ∧ W.drew.cell? ⟨w.heap.size, 3, none⟩ = some v4 := ⟨p0, p1, p2, p3⟩
  have D0d : Below w.heap.size w W.drew := D0.drew
  have pld : w.heap.size < W.drew.heap.size := pl
  have hwr : IntKind.i64.wrap ((i : Int) + 1) = (i : Int) + 1 := by first | go_num | (rw [IntKind.wrap_of_range] <;> omega) | (unfold IntKind.wrap; simp [IntKind.bits, IntKind.signed]; omega) | (simp [IntKind.wrap]; omega)
  have cc : ∀ (j : Int) (v : Option Nat), ((j = IntKind.i64.wrap ((i : Int) + 1) ∧ v = y) ∨ (j = (i : Int) ∧ v = x)) → ∀ w' : World, Below w.heap.size w w' → Calls Try.prog 57 #[.agg #[v1, v2, v3, v4], .int .i64 j] w' (RetFb w' v) := by
    rintro j v (⟨rfl, rfl⟩ | ⟨rfl, rfl⟩) w' h'
    · rw [hwr]; exact C2.out w' h'
    · exact C1.out w' h'
  have CC := Lib.hid cc
  clear cc C1 C2 hwr
  go_region_with (go_at_call 57; refine (CC.out _ _ (by first | exact .inl ⟨rfl, rfl⟩ | exact .inr ⟨rfl, rfl⟩) _ (by assumption)).mono ?_; rintro e w1 ⟨r1, rfl, q1, hb1⟩; have DD := B_trans (w := w) (by assumption) hb1; have bN := Box4.below (b := w.heap.size) (x0 := v1) (x1 := v2) (x2 := v3) (x3 := v4) (by assumption) hb1; have bN' := bN; obtain ⟨⟨Q0, Q1, Q2, Q3⟩, Qf, Ql⟩ := bN'; clear Qf hb1)
  all_goals go_wp2
  all_goals
    go_ret
    exact ⟨_, rfl, isF_fop a_quo isF_one (isF_fop a_add (by assumption) (by assumption) _) _, by (repeat' first | assumption | exact Below.refl _ _ | refine B_drew ?_ _ | refine Below.drew ?_ | refine Below.alloc ?_ (by first | exact Nat.le_refl _ | (simp; done) | (simp; omega)) _)⟩
def inBet (R : Rl) (i : Int) : Bool := decide (0 ≤ i ∧ i ≤ (R.a.length : Int) - 2)
def betOk (R : Rl) (i : Int) : Bool := okRod R && inBet R i
set_option maxHeartbeats 4000000 in
theorem sPassBetween_any (v1 v2 v3 v4 : Value) (R : Rl) (i : Int) (w : World) (h : Rod4 w v1 v2 v3 v4 R) :
    Calls Try.prog 22 #[.agg #[v1, v2, v3, v4], .int .i64 i] w (RetFBb w (if betOk R i then chkF (betV R i.toNat) else some 0) (betOk R i && finF (betV R i.toNat))) := by
  obtain ⟨ao1, cap1, rfl, m1⟩ := h.1.len
  have bB := box4_alloc w 29 (.slice ao1 R.a.length cap1) v2 v3 v4
  have D0 : Below w.heap.size w (w.alloc (.cells #[.slice ao1 R.a.length cap1, v2, v3, v4] 29)) := by (repeat' first | assumption | exact Below.refl _ _ | refine B_drew ?_ _ | refine Below.drew ?_ | refine Below.alloc ?_ (by first | exact Nat.le_refl _ | (simp; done) | (simp; omega)) _)
  have h0 := h.below D0
  have hi := l02Is_any _ _ _ _ _ R _ bB h0
  have B0 := bB
  obtain ⟨⟨p0, p1, p2, p3⟩, pf, pl⟩ := bB
  unfold betOk
  cases hok : okRod R
  · rw [hok] at hi
    simp only [Bool.false_and, Bool.false_eq_true, if_false]
    go_enter Try.func22, Try.ntmps22
    go_wp2_with fail
    refine hi.mono ?_
    rintro e w1 ⟨n, rfl, rfl⟩
    go_wp2_with fail
    go_ret2
    exact ⟨_, rfl, isF_zero, by (repeat' first | assumption | exact Below.refl _ _ | refine B_drew ?_ _ | refine Below.drew ?_ | refine Below.alloc ?_ (by first | exact Nat.le_refl _ | (simp; done) | (simp; omega)) _)⟩
  · rw [hok] at hi
    have hL := (okRod_iff hok).1
    have HL := Lib.hid hL
    have hn := hL.2.1
    clear hL
    simp only [Bool.true_and]
    cases hin : inBet R i
    · have hd : decide (0 ≤ i ∧ i ≤ (R.a.length : Int) - 2) = false := hin
      simp only [Bool.false_and, Bool.false_eq_true, if_false]
      go_enter Try.func22, Try.ntmps22
      go_wp2_with fail
      refine hi.mono ?_
      rintro e w1 ⟨n, rfl, rfl⟩
      go_wp2_with (first | (go_at_call 41; refine (l00In_any _ _ _ _).mono ?_; rintro e w' ⟨rfl, rfl⟩; rw [hd]))
      go_ret2
      exact ⟨_, rfl, isF_zero, by (repeat' first | assumption | exact Below.refl _ _ | refine B_drew ?_ _ | refine Below.drew ?_ | refine Below.alloc ?_ (by first | exact Nat.le_refl _ | (simp; done) | (simp; omega)) _)⟩
    · have hd : decide (0 ≤ i ∧ i ≤ (R.a.length : Int) - 2) = true := hin
      have hr := of_decide_eq_true hd
      obtain ⟨j, rfl⟩ : ∃ j : Nat, i = (j : Int) := ⟨i.toNat, by omega⟩
      have hj : j + 1 < R.a.length := by omega
      have hb := fun w' (h' : Below _ _ w') => l02Between_any _ _ _ _ _ R HL.out j hj w' (B0.below h') (h0.below h')
      have HB := Lib.hid hb
      clear hb hr
      simp only [Bool.true_and, if_true, Int.toNat_natCast]
      go_enter Try.func22, Try.ntmps22
      go_wp2_with fail
      refine hi.mono ?_
      rintro e w1 ⟨n, rfl, rfl⟩
      go_wp2_with (first | (go_at_call 41; refine (l00In_any _ _ _ _).mono ?_; rintro e w' ⟨rfl, rfl⟩; rw [hd]))
      refine (HB.out _ (below_draws _ _)).mono ?_
      rintro e w2 ⟨r, n2, rfl, hr, rfl⟩
      go_wp2_with fail
      refine (l02Number_any _ _ hr _).mono ?_
      rintro e w3 ⟨r3, n3, rfl, hr3, rfl⟩
      go_wp2_with fail
      go_ret2
      exact ⟨_, rfl, hr3, by (repeat' first | assumption | exact Below.refl _ _ | refine B_drew ?_ _ | refine Below.drew ?_ | refine Below.alloc ?_ (by first | exact Nat.le_refl _ | (simp; done) | (simp; omega)) _)⟩
set_option maxHeartbeats 4000000 in
theorem iPassBetween_any (v1 v2 v3 v4 : Value) (R : Rl) (i : Int) (w : World) (h : Rod4 w v1 v2 v3 v4 R) :
    Calls Try.prog 23 #[.agg #[v1, v2, v3, v4], .int .i64 i] w (RetFBb w (if betOk R i then chkF (betV R i.toNat) else some 0) (betOk R i && finF (betV R i.toNat))) := by
  obtain ⟨ao1, cap1, rfl, m1⟩ := h.1.len
  have bB := box4_alloc w 29 (.slice ao1 R.a.length cap1) v2 v3 v4
  have D0 : Below w.heap.size w (w.alloc (.cells #[.slice ao1 R.a.length cap1, v2, v3, v4] 29)) := by (repeat' first | assumption | exact Below.refl _ _ | refine B_drew ?_ _ | refine Below.drew ?_ | refine Below.alloc ?_ (by first | exact Nat.le_refl _ | (simp; done) | (simp; omega)) _)
  have h0 := h.below D0
  have hi := iValidRod_any _ _ _ _ R _ h0
  unfold betOk
  cases hok : okRod R
  · rw [hok] at hi
    simp only [Bool.false_and, Bool.false_eq_true, if_false]
    go_enter Try.func23, Try.ntmps23
    go_wp2_with fail
    refine hi.mono ?_
    rintro e w1 ⟨rfl, hb1⟩
    obtain ⟨⟨p0, p1, p2, p3⟩, pf, pl⟩ := bB.below hb1
    go_wp2_with fail
    go_ret2
    exact ⟨_, rfl, isF_zero, B_trans D0 hb1⟩
  · rw [hok] at hi
    have hL := (okRod_iff hok).1
    have HL := Lib.hid hL
    have hn := hL.2.1
    clear hL
    simp only [Bool.true_and]
    cases hin : inBet R i
    · have hd : decide (0 ≤ i ∧ i ≤ (R.a.length : Int) - 2) = false := hin
      simp only [Bool.false_and, Bool.false_eq_true, if_false]
      go_enter Try.func23, Try.ntmps23
      go_wp2_with fail
      refine hi.mono ?_
      rintro e w1 ⟨rfl, hb1⟩
      obtain ⟨⟨p0, p1, p2, p3⟩, pf, pl⟩ := bB.below hb1
      go_wp2_with (first | (go_at_call 43; refine (within_any _ _ _ _).mono ?_; rintro e w' ⟨rfl, rfl⟩; rw [hd]))
      go_ret2
      exact ⟨_, rfl, isF_zero, B_trans D0 hb1⟩
    · have hd : decide (0 ≤ i ∧ i ≤ (R.a.length : Int) - 2) = true := hin
      have hr := of_decide_eq_true hd
      obtain ⟨j, rfl⟩ : ∃ j : Nat, i = (j : Int) := ⟨i.toNat, by omega⟩
      have hj : j + 1 < R.a.length := by omega
      have hb := fun w' (h' : Below w.heap.size w w') => passBetween_any _ _ _ _ R HL.out j hj w' (h.below h')
      have HB := Lib.hid hb
      clear hb hr
      simp only [Bool.true_and, if_true, Int.toNat_natCast]
      go_enter Try.func23, Try.ntmps23
      go_wp2_with fail
      refine hi.mono ?_
      rintro e w1 ⟨rfl, hb1⟩
      have D1 := B_trans D0 hb1
      obtain ⟨⟨p0, p1, p2, p3⟩, pf, pl⟩ := bB.below hb1
      go_wp2_with (first | (go_at_call 43; refine (within_any _ _ _ _).mono ?_; rintro e w' ⟨rfl, rfl⟩; rw [hd]))
      refine (HB.out _ D1).mono ?_
      rintro e w2 ⟨r, rfl, hr, hb2⟩
      go_wp2_with fail
      refine (checked_any _ _ hr _).mono ?_
      rintro e w3 ⟨r3, n3, rfl, hr3, rfl⟩
      go_wp2_with fail
      go_ret2
      exact ⟨_, rfl, hr3, B_drew (B_trans D1 hb2) _⟩
end Go.Proofs.Ytndfpgcaooldkaa
