/-
  Contracts: valid rods.
-/
import Derived.Test.YtiolmffcmbcgmaaRod
namespace Go.Proofs.Ytiolmffcmbcgmaa
set_option linter.unusedVariables false
set_option linter.unusedSimpArgs false
open Go.RowKit Fl
attribute [local go_sem] run_store_float

/-- A cell of a rod is valid. -/
def cellOk (R : Rl) (i : Nat) : Bool := posF (cl .f32 (fget R.a i)) && posF (cl .f32 (fget R.b i)) && posF (cl .f32 (fget R.c i)) && finF (cl .f32 (fget R.d i))
def Rl.lens (R : Rl) : Prop := 1 ≤ R.a.length ∧ R.a.length ≤ 48 ∧ R.b.length = R.a.length ∧ R.c.length = R.a.length ∧ R.d.length = R.a.length
instance (R : Rl) : Decidable R.lens := by unfold Rl.lens; exact inferInstance
/-- A rod is valid. -/
def okRod (R : Rl) : Bool := decide R.lens && (List.range R.a.length).all (cellOk R)
theorem okRod_len {R : Rl} (h : ¬ R.lens) : okRod R = false := by unfold okRod; rw [decide_eq_false h]; rfl
theorem okRod_no {R : Rl} {k : Nat} (hk : k < R.a.length) (h : cellOk R k = false) : okRod R = false := by
  unfold okRod
  rw [Bool.and_eq_false_iff]
  right
  rw [List.all_eq_false]
  exact ⟨k, List.mem_range.2 hk, by simp [h]⟩
theorem okRod_yes {R : Rl} (h : R.lens) (hc : ∀ j, j < R.a.length → cellOk R j = true) : okRod R = true := by
  unfold okRod
  rw [decide_eq_true h, Bool.true_and, List.all_eq_true]
  intro j hj
  exact hc j (List.mem_range.1 hj)
theorem okRod_iff {R : Rl} (h : okRod R = true) : R.lens ∧ ∀ j, j < R.a.length → cellOk R j = true := by
  unfold okRod at h
  rw [Bool.and_eq_true, List.all_eq_true] at h
  exact ⟨of_decide_eq_true h.1, fun j hj => h.2 j (List.mem_range.2 hj)⟩
theorem anyF_iff (p : Option Nat → Bool) (bs : List Nat) : anyF p bs = true ↔ ∃ j, j < bs.length ∧ p (cl .f32 (fget bs j)) = true := by
  constructor
  · intro h
    unfold anyF at h
    rw [List.any_eq_true] at h
    obtain ⟨x, hx, hp⟩ := h
    obtain ⟨j, hj, rfl⟩ := List.getElem_of_mem hx
    exact ⟨j, hj, by unfold fget; simpa [List.getD, hj] using hp⟩
  · rintro ⟨j, hj, hp⟩
    exact anyF_true hj hp
theorem okRod_any {R : Rl} (hb : R.bits) (h : R.lens) : okRod R = (!anyF nposF R.a && !anyF nposF R.b && !anyF nposF R.c && !anyF (fun v => !finF v) R.d) := by
  obtain ⟨l1, l2, l3, l4, l5⟩ := h
  have np : ∀ (bs : List Nat), (∀ b ∈ bs, b < 2 ^ FloatKind.f32.format.width) → ∀ j, j < bs.length → nposF (cl .f32 (fget bs j)) = !posF (cl .f32 (fget bs j)) := fun bs hbs j hj =>
    nposF_eq _ _ (IsF.of (hbs _ (fget_mem hj)))
  rw [Bool.eq_iff_iff]
  constructor
  · intro h
    obtain ⟨_, hc⟩ := okRod_iff h
    simp only [cellOk, Bool.and_eq_true] at hc
    simp only [Bool.and_eq_true, Bool.not_eq_true']
    refine ⟨⟨⟨?_, ?_⟩, ?_⟩, ?_⟩
    · exact anyF_false fun j hj => by rw [np _ hb.1 j hj, (hc j hj).1.1.1]; rfl
    · exact anyF_false fun j hj => by rw [np _ hb.2.1 j hj, (hc j (by omega)).1.1.2]; rfl
    · exact anyF_false fun j hj => by rw [np _ hb.2.2.1 j hj, (hc j (by omega)).1.2]; rfl
    · exact anyF_false fun j hj => by rw [(hc j (by omega)).2]; rfl
  · intro h
    simp only [Bool.and_eq_true, Bool.not_eq_true'] at h
    obtain ⟨⟨⟨h1, h2⟩, h3⟩, h4⟩ := h
    refine okRod_yes ⟨l1, l2, l3, l4, l5⟩ fun j hj => ?_
    have e1 : nposF (cl .f32 (fget R.a j)) = false := by
      cases h : nposF (cl .f32 (fget R.a j))
      · rfl
      · exact absurd (anyF_true hj h) (by rw [h1]; simp)
    have e2 : nposF (cl .f32 (fget R.b j)) = false := by
      cases h : nposF (cl .f32 (fget R.b j))
      · rfl
      · exact absurd (anyF_true (by omega) h) (by rw [h2]; simp)
    have e3 : nposF (cl .f32 (fget R.c j)) = false := by
      cases h : nposF (cl .f32 (fget R.c j))
      · rfl
      · exact absurd (anyF_true (by omega) h) (by rw [h3]; simp)
    have e4 : finF (cl .f32 (fget R.d j)) = true := by
      cases h : finF (cl .f32 (fget R.d j))
      · exact absurd (anyF_true (p := fun v => !finF v) (j := j) (bs := R.d) (by omega) (by simp [h])) (by rw [h4]; simp)
      · rfl
    rw [np _ hb.1 j hj] at e1
    rw [np _ hb.2.1 j (by omega)] at e2
    rw [np _ hb.2.2.1 j (by omega)] at e3
    unfold cellOk
    rw [e4]
    simp only [Bool.not_eq_false'] at e1 e2 e3
    rw [e1, e2, e3]
    rfl
set_option maxHeartbeats 8000000 in
theorem l02Is_any (p : Nat) (v1 v2 v3 v4 : Value) (R : Rl) (w : World) (hB : Box4 w p v1 v2 v3 v4) (h : Rod4 w v1 v2 v3 v4 R) :
    Calls Try.prog 21 #[.pointer (some ⟨p, 0, none⟩)] w (Ret w (.bool (okRod R))) := by
  have hbits := h.bits
  obtain ⟨f1, f2, f3, f4⟩ := h
  obtain ⟨ao1, cap1, rfl, m1, m1', g1, t1⟩ := f1
  obtain ⟨ao2, cap2, rfl, m2, m2', g2, t2⟩ := f2
  obtain ⟨ao3, cap3, rfl, m3, m3', g3, t3⟩ := f3
  obtain ⟨ao4, cap4, rfl, m4, m4', g4, t4⟩ := f4
  obtain ⟨⟨p0, p1, p2, p3⟩, pf, pl⟩ := hB
  clear g1 g2 g3 g4
  have HBITS := Lib.hid hbits
  clear hbits pf
  unfold maxLen at m1' m2' m3' m4'
  by_cases hL : R.lens
  · have hok := hL
    obtain ⟨l1, l2, l3, l4, l5⟩ := hL
    rcases t1 with t1 | ⟨q1, o1, rfl, _, hc1⟩
    · rw [t1] at l1; cases l1
    rcases t2 with t2 | ⟨q2, o2, rfl, _, hc2⟩
    · rw [t2] at l3; rw [← l3] at l1; cases l1
    rcases t3 with t3 | ⟨q3, o3, rfl, _, hc3⟩
    · rw [t3] at l4; rw [← l4] at l1; cases l1
    rcases t4 with t4 | ⟨q4, o4, rfl, _, hc4⟩
    · rw [t4] at l5; rw [← l5] at l1; cases l1
    have HOK := Lib.hid hok
    have HL := Lib.hid (And.intro l3 (And.intro l4 l5))
    have HC1 := Lib.hid hc1
    have HC2 := Lib.hid hc2
    have HC3 := Lib.hid hc3
    have HC4 := Lib.hid hc4
    rw [l3] at p1
    rw [l4] at p2
    rw [l5] at p3
    clear hc1 hc2 hc3 hc4 hok l3 l4 l5 m2 m2' m3 m3' m4 m4'
    go_enter Try.func21, Try.ntmps21
    go_wp2_with fail
    go_loopw [4] (fun i wr => ∃ k : Nat, k ≤ R.a.length ∧ i = .int .i64 k ∧ Hid (∀ j, j < k → cellOk R j = true) ∧ ∃ m, wr = w.drewN m) (fun i _ => R.a.length - (intOf i).toNat)
    case atStart => exact ⟨0, Nat.zero_le _, rfl, Lib.hid (fun j hj => absurd hj (Nat.not_lt_zero _)), 0, rfl⟩
    case round =>
      obtain ⟨k, hk, rfl, hall, m, rfl⟩ := hrel
      by_cases hlt : k < R.a.length
      · have s1 := HC1.out k hlt
        have s2 := HC2.out k (by rw [HL.out.1]; exact hlt)
        have s3 := HC3.out k (by rw [HL.out.2.1]; exact hlt)
        have s4 := HC4.out k (by rw [HL.out.2.2]; exact hlt)
        have a1 := fun w' => l02Above_any _ _ (IsF.of (HBITS.out.1 _ (fget_mem hlt))) w'
        have a2 := fun w' => l02Above_any _ _ (IsF.of (HBITS.out.2.1 _ (fget_mem (show k < R.b.length by rw [HL.out.1]; exact hlt)))) w'
        have a3 := fun w' => l02Above_any _ _ (IsF.of (HBITS.out.2.2.1 _ (fget_mem (show k < R.c.length by rw [HL.out.2.1]; exact hlt)))) w'
        have a4 := fun w' => l01Finite_any _ _ (IsF.of (HBITS.out.2.2.2 _ (fget_mem (show k < R.d.length by rw [HL.out.2.2]; exact hlt)))) w'
        have hcell : cellOk R k = (posF (cl .f32 (fget R.a k)) && posF (cl .f32 (fget R.b k)) && posF (cl .f32 (fget R.c k)) && finF (cl .f32 (fget R.d k))) := rfl
        generalize posF (cl .f32 (fget R.a k)) = y1 at *
        generalize posF (cl .f32 (fget R.b k)) = y2 at *
        generalize posF (cl .f32 (fget R.c k)) = y3 at *
        generalize finF (cl .f32 (fget R.d k)) = y4 at *
        generalize fget R.a k = e1 at *
        generalize fget R.b k = e2 at *
        generalize fget R.c k = e3 at *
        generalize fget R.d k = e4 at *
        have A1 := Lib.hid a1
        have A2 := Lib.hid a2
        have A3 := Lib.hid a3
        have A4 := Lib.hid a4
        have HCELL := Lib.hid hcell
        clear a1 a2 a3 a4 hcell
        have stop : cellOk R k = false → ∀ n, Ret w (.bool (okRod R)) (.returned (.bool false)) (w.drewN n) := fun hx n => by rw [okRod_no hlt hx]; exact ret_mk rfl
        have STOP := Lib.hid stop
        clear stop
        cases y1
        · have HN : Hid (cellOk R k = false) := Lib.hid (by rw [HCELL.out]; rfl)
          clear HCELL
          go_wp2_with (first | (go_at_call 37; refine (A1.out _).mono ?_; rintro e w' ⟨n, rfl, rfl⟩))
          go_ret
          exact STOP.out HN.out _
        · cases y2
          · have HN : Hid (cellOk R k = false) := Lib.hid (by rw [HCELL.out]; rfl)
            clear HCELL
            go_wp2_with fail
            refine (A1.out _).mono ?_
            rintro e w' ⟨n, rfl, rfl⟩
            go_wp2_with fail
            refine (A2.out _).mono ?_
            rintro e w' ⟨n2, rfl, rfl⟩
            go_wp2_with fail
            go_ret
            exact STOP.out HN.out _
          · cases y3
            · have HN : Hid (cellOk R k = false) := Lib.hid (by rw [HCELL.out]; rfl)
              clear HCELL
              go_wp2_with fail
              refine (A1.out _).mono ?_
              rintro e w' ⟨n, rfl, rfl⟩
              go_wp2_with fail
              refine (A2.out _).mono ?_
              rintro e w' ⟨n2, rfl, rfl⟩
              go_wp2_with fail
              refine (A3.out _).mono ?_
              rintro e w' ⟨n3, rfl, rfl⟩
              go_wp2_with fail
              go_ret
              exact STOP.out HN.out _
            · cases y4
              · have HN : Hid (cellOk R k = false) := Lib.hid (by rw [HCELL.out]; rfl)
                clear HCELL
                go_wp2_with fail
                refine (A1.out _).mono ?_
                rintro e w' ⟨n, rfl, rfl⟩
                go_wp2_with fail
                refine (A2.out _).mono ?_
                rintro e w' ⟨n2, rfl, rfl⟩
                go_wp2_with fail
                refine (A3.out _).mono ?_
                rintro e w' ⟨n3, rfl, rfl⟩
                go_wp2_with fail
                refine (A4.out _).mono ?_
                rintro e w' ⟨n4, rfl, rfl⟩
                go_wp2_with fail
                go_ret
                exact STOP.out HN.out _
              · have HN : Hid (cellOk R k = true) := Lib.hid (by rw [HCELL.out]; rfl)
                clear HCELL
                go_wp2_with fail
                refine (A1.out _).mono ?_
                rintro e w' ⟨n, rfl, rfl⟩
                go_wp2_with fail
                refine (A2.out _).mono ?_
                rintro e w' ⟨n2, rfl, rfl⟩
                go_wp2_with fail
                refine (A3.out _).mono ?_
                rintro e w' ⟨n3, rfl, rfl⟩
                go_wp2_with fail
                refine (A4.out _).mono ?_
                rintro e w' ⟨n4, rfl, rfl⟩
                go_wp2_with fail
                all_goals
                  go_roundw
                  case rel =>
                    refine ⟨k + 1, by omega, by go_num, Lib.hid (fun j hj => ?_), _, rfl⟩
                    by_cases hjk : j = k
                    · subst hjk; exact HN.out
                    · exact hall.out j (by omega)
                  case measure => simp [intOf]; omega
      · have hn : k = R.a.length := by omega
        have HN := Lib.hid hn
        clear hn
        go_wp2_with fail
        go_ret
        exact ret_mk (congrArg Value.bool (okRod_yes HOK.out (fun j hj => hall.out j (by rw [HN.out]; exact hj))).symm)
  · rw [okRod_len hL]
    have hL' := hL
    unfold Rl.lens at hL'
    clear hL t1 t2 t3 t4 HBITS
    generalize R.a.length = n1 at *
    generalize R.b.length = n2 at *
    generalize R.c.length = n3 at *
    generalize R.d.length = n4 at *
    by_cases k1 : 1 ≤ n1
    · by_cases k2 : n1 ≤ 48
      · by_cases k3 : n2 = n1
        · by_cases k4 : n3 = n1
          · have k5 : ¬ n4 = n1 := fun e => hL' ⟨k1, k2, k3, k4, e⟩
            clear hL'
            subst k3 k4
            have k6 : ((n4 : Int) != (n3 : Int)) = true := by simp; omega
            go_enter Try.func21, Try.ntmps21
            go_wp2_with fail
            go_ret
            exact ret_mk0 rfl
          · clear hL'
            subst k3
            go_enter Try.func21, Try.ntmps21
            go_wp2_with fail
            go_ret
            exact ret_mk0 rfl
        · clear hL'
          go_enter Try.func21, Try.ntmps21
          go_wp2_with fail
          go_ret
          exact ret_mk0 rfl
      · clear hL'
        go_enter Try.func21, Try.ntmps21
        go_wp2_with fail
        go_ret
        exact ret_mk0 rfl
    · clear hL'
      go_enter Try.func21, Try.ntmps21
      go_wp2_with fail
      go_ret
      exact ret_mk0 rfl
set_option maxHeartbeats 4000000 in
theorem iValidRod_any (v1 v2 v3 v4 : Value) (R : Rl) (w : World) (h : Rod4 w v1 v2 v3 v4 R) :
    Calls Try.prog 23 #[.agg #[v1, v2, v3, v4]] w (RetB w (.bool (okRod R))) := by
  have hbits := h.bits
  obtain ⟨f1, f2, f3, f4⟩ := h
  obtain ⟨ao1, cap1, rfl, m1⟩ := f1.len
  obtain ⟨ao2, cap2, rfl, m2⟩ := f2.len
  obtain ⟨ao3, cap3, rfl, m3⟩ := f3.len
  obtain ⟨ao4, cap4, rfl, m4⟩ := f4.len
  by_cases hL : R.lens
  · rw [okRod_any hbits hL]
    obtain ⟨l1, l2, l3, l4, l5⟩ := hL
    have a1 := fun w' (h : Below w.heap.size w w') => arePositive_any _ _ w' (f1.below h)
    have a2 := fun w' (h : Below w.heap.size w w') => arePositive_any _ _ w' (f2.below h)
    have a3 := fun w' (h : Below w.heap.size w w') => arePositive_any _ _ w' (f3.below h)
    have a4 := fun w' (h : Below w.heap.size w w') => areFinite_any _ _ w' (f4.below h)
    generalize anyF nposF R.a = y1 at *
    generalize anyF nposF R.b = y2 at *
    generalize anyF nposF R.c = y3 at *
    generalize anyF (fun v => !finF v) R.d = y4 at *
    rw [l3] at a2
    rw [l4] at a3
    rw [l5] at a4
    rw [l3, l4, l5]
    have A1 := Lib.hid a1
    have A2 := Lib.hid a2
    have A3 := Lib.hid a3
    have A4 := Lib.hid a4
    clear a1 a2 a3 a4 l3 l4 l5 hbits f1 f2 f3 f4 m2 m3 m4
    generalize R.a.length = n1 at *
    cases y1
    · cases y2
      · cases y3
        · go_enter Try.func23, Try.ntmps23
          go_wp2_with fail
          refine (A1.out _ (by (repeat' first | assumption | exact Below.refl _ _ | refine B_drew ?_ _ | refine Below.drew ?_ | refine Below.alloc ?_ (by first | exact Nat.le_refl _ | (simp; done) | (simp; omega)) _))).mono ?_
          rintro e w1 ⟨n, rfl, rfl⟩
          go_wp2_with fail
          refine (A2.out _ (by (repeat' first | assumption | exact Below.refl _ _ | refine B_drew ?_ _ | refine Below.drew ?_ | refine Below.alloc ?_ (by first | exact Nat.le_refl _ | (simp; done) | (simp; omega)) _))).mono ?_
          rintro e w1 ⟨n, rfl, rfl⟩
          go_wp2_with fail
          refine (A3.out _ (by (repeat' first | assumption | exact Below.refl _ _ | refine B_drew ?_ _ | refine Below.drew ?_ | refine Below.alloc ?_ (by first | exact Nat.le_refl _ | (simp; done) | (simp; omega)) _))).mono ?_
          rintro e w1 ⟨n, rfl, rfl⟩
          go_wp2_with fail
          refine (A4.out _ (by (repeat' first | assumption | exact Below.refl _ _ | refine B_drew ?_ _ | refine Below.drew ?_ | refine Below.alloc ?_ (by first | exact Nat.le_refl _ | (simp; done) | (simp; omega)) _))).mono ?_
          rintro e w1 ⟨n, rfl, rfl⟩
          go_wp2_with fail
          go_ret
          exact ⟨by simp, by (repeat' first | assumption | exact Below.refl _ _ | refine B_drew ?_ _ | refine Below.drew ?_ | refine Below.alloc ?_ (by first | exact Nat.le_refl _ | (simp; done) | (simp; omega)) _)⟩
        · go_enter Try.func23, Try.ntmps23
          go_wp2_with fail
          refine (A1.out _ (by (repeat' first | assumption | exact Below.refl _ _ | refine B_drew ?_ _ | refine Below.drew ?_ | refine Below.alloc ?_ (by first | exact Nat.le_refl _ | (simp; done) | (simp; omega)) _))).mono ?_
          rintro e w1 ⟨n, rfl, rfl⟩
          go_wp2_with fail
          refine (A2.out _ (by (repeat' first | assumption | exact Below.refl _ _ | refine B_drew ?_ _ | refine Below.drew ?_ | refine Below.alloc ?_ (by first | exact Nat.le_refl _ | (simp; done) | (simp; omega)) _))).mono ?_
          rintro e w1 ⟨n, rfl, rfl⟩
          go_wp2_with fail
          refine (A3.out _ (by (repeat' first | assumption | exact Below.refl _ _ | refine B_drew ?_ _ | refine Below.drew ?_ | refine Below.alloc ?_ (by first | exact Nat.le_refl _ | (simp; done) | (simp; omega)) _))).mono ?_
          rintro e w1 ⟨n, rfl, rfl⟩
          go_wp2_with fail
          go_ret
          exact ⟨by simp, by (repeat' first | assumption | exact Below.refl _ _ | refine B_drew ?_ _ | refine Below.drew ?_ | refine Below.alloc ?_ (by first | exact Nat.le_refl _ | (simp; done) | (simp; omega)) _)⟩
      · go_enter Try.func23, Try.ntmps23
        go_wp2_with fail
        refine (A1.out _ (by (repeat' first | assumption | exact Below.refl _ _ | refine B_drew ?_ _ | refine Below.drew ?_ | refine Below.alloc ?_ (by first | exact Nat.le_refl _ | (simp; done) | (simp; omega)) _))).mono ?_
        rintro e w1 ⟨n, rfl, rfl⟩
        go_wp2_with fail
        refine (A2.out _ (by (repeat' first | assumption | exact Below.refl _ _ | refine B_drew ?_ _ | refine Below.drew ?_ | refine Below.alloc ?_ (by first | exact Nat.le_refl _ | (simp; done) | (simp; omega)) _))).mono ?_
        rintro e w1 ⟨n, rfl, rfl⟩
        go_wp2_with fail
        go_ret
        exact ⟨by simp, by (repeat' first | assumption | exact Below.refl _ _ | refine B_drew ?_ _ | refine Below.drew ?_ | refine Below.alloc ?_ (by first | exact Nat.le_refl _ | (simp; done) | (simp; omega)) _)⟩
    · go_enter Try.func23, Try.ntmps23
      go_wp2_with fail
      refine (A1.out _ (by (repeat' first | assumption | exact Below.refl _ _ | refine B_drew ?_ _ | refine Below.drew ?_ | refine Below.alloc ?_ (by first | exact Nat.le_refl _ | (simp; done) | (simp; omega)) _))).mono ?_
      rintro e w1 ⟨n, rfl, rfl⟩
      go_wp2_with fail
      go_ret
      exact ⟨by simp, by (repeat' first | assumption | exact Below.refl _ _ | refine B_drew ?_ _ | refine Below.drew ?_ | refine Below.alloc ?_ (by first | exact Nat.le_refl _ | (simp; done) | (simp; omega)) _)⟩
  · rw [okRod_len hL]
    unfold Rl.lens at hL
    clear hbits f1 f2 f3 f4
    generalize R.a.length = n1 at *
    generalize R.b.length = n2 at *
    generalize R.c.length = n3 at *
    generalize R.d.length = n4 at *
    by_cases k1 : 1 ≤ n1
    · by_cases k2 : n1 ≤ 48
      · by_cases k3 : n2 = n1
        · by_cases k4 : n3 = n1
          · have k5 : ¬ n4 = n1 := fun e => hL ⟨k1, k2, k3, k4, e⟩
            clear hL
            subst k3 k4
            have k6 : ((n4 : Int) != (n3 : Int)) = true := by simp; omega
            go_enter Try.func23, Try.ntmps23
            go_wp2_with fail
            go_ret
            exact ⟨rfl, by (repeat' first | assumption | exact Below.refl _ _ | refine B_drew ?_ _ | refine Below.drew ?_ | refine Below.alloc ?_ (by first | exact Nat.le_refl _ | (simp; done) | (simp; omega)) _)⟩
          · clear hL
            subst k3
            go_enter Try.func23, Try.ntmps23
            go_wp2_with fail
            go_ret
            exact ⟨rfl, by (repeat' first | assumption | exact Below.refl _ _ | refine B_drew ?_ _ | refine Below.drew ?_ | refine Below.alloc ?_ (by first | exact Nat.le_refl _ | (simp; done) | (simp; omega)) _)⟩
        · clear hL
          go_enter Try.func23, Try.ntmps23
          go_wp2_with fail
          go_ret
          exact ⟨rfl, by (repeat' first | assumption | exact Below.refl _ _ | refine B_drew ?_ _ | refine Below.drew ?_ | refine Below.alloc ?_ (by first | exact Nat.le_refl _ | (simp; done) | (simp; omega)) _)⟩
      · clear hL
        go_enter Try.func23, Try.ntmps23
        go_wp2_with fail
        go_ret
        exact ⟨rfl, by (repeat' first | assumption | exact Below.refl _ _ | refine B_drew ?_ _ | refine Below.drew ?_ | refine Below.alloc ?_ (by first | exact Nat.le_refl _ | (simp; done) | (simp; omega)) _)⟩
    · clear hL
      go_enter Try.func23, Try.ntmps23
      go_wp2_with fail
      go_ret
      exact ⟨rfl, by (repeat' first | assumption | exact Below.refl _ _ | refine B_drew ?_ _ | refine Below.drew ?_ | refine Below.alloc ?_ (by first | exact Nat.le_refl _ | (simp; done) | (simp; omega)) _)⟩
end Go.Proofs.Ytiolmffcmbcgmaa
