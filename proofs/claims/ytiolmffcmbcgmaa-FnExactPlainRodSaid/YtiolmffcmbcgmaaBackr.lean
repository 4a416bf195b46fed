/-
  The rod backwards, at both sides; marking rods.
-/
import Derived.Test.YtiolmffcmbcgmaaBack
import Derived.Deep.RegionHeld3
import Derived.Deep.DrawnRows
namespace Go.Proofs.Ytiolmffcmbcgmaa
set_option linter.unusedVariables false
set_option linter.unusedSimpArgs false
open Go.RowKit Fl
attribute [local go_sem] run_store_float
attribute [local go_sem ↓] Go.wp_at_zero Go.wp_at_succ

/-- A rod whose lists lie in rows of their own, one behind the other. -/
def Own4 (w : World) (B1 B2 B3 B4 B5 : Nat) (v1 v2 v3 v4 : Value) (R : Rl) : Prop := (B1 ≤ B2 ∧ B2 ≤ B3 ∧ B3 ≤ B4 ∧ B4 ≤ B5 ∧ B5 ≤ w.heap.size) ∧ OSl w B1 B2 v1 R.a ∧ OSl w B2 B3 v2 R.b ∧ OSl w B3 B4 v3 R.c ∧ OSl w B4 B5 v4 R.d
/-- The call returns a rod of its own and a bool. -/
def RRod (w : World) (ok : Bool) (R : Rl) (e : Ending) (w' : World) : Prop :=
  ∃ v1 v2 v3 v4 B1 B2 B3 B4 B5, e = .returned (.tuple #[.agg #[v1, v2, v3, v4], .bool ok]) ∧ Own4 w' B1 B2 B3 B4 B5 v1 v2 v3 v4 R ∧ w.heap.size ≤ B1 ∧ Below w.heap.size w w'
theorem osl_of {w : World} {B N n : Nat} {v : Value} {bs : List Nat} (h : OSf w B N v n (fget bs)) (e : bs.length = n) : OSl w B N v bs := by subst e; exact h
theorem undrew {W x : World} (h : Below W.drew.heap.size W.drew x) : Below W.heap.size W x := ⟨h.os, h.tape, h.output, h.size, h.block⟩
def zeroR : Rl := ⟨[], [], [], []⟩
def backR (R : Rl) : Rl := ⟨R.a.reverse, R.b.reverse, R.c.reverse, R.d.reverse⟩
theorem osl_zero {w : World} {B : Nat} (h : B ≤ w.heap.size) : OSl w B B (.slice none 0 0) [] := ⟨fun i hi => absurd hi (Nat.not_lt_zero i), h, .inl ⟨rfl, rfl⟩⟩
theorem own4_zero {w : World} {B : Nat} (h : B ≤ w.heap.size) : Own4 w B B B B B (.slice none 0 0) (.slice none 0 0) (.slice none 0 0) (.slice none 0 0) zeroR :=
  ⟨⟨Nat.le_refl _, Nat.le_refl _, Nat.le_refl _, Nat.le_refl _, h⟩, osl_zero h, osl_zero h, osl_zero h, osl_zero h⟩
theorem Own4.rod {w : World} {B1 B2 B3 B4 B5 : Nat} {v1 v2 v3 v4 : Value} {R : Rl} (h : Own4 w B1 B2 B3 B4 B5 v1 v2 v3 v4 R) : Rod4 w v1 v2 v3 v4 R := ⟨h.2.1.fsl, h.2.2.1.fsl, h.2.2.2.1.fsl, h.2.2.2.2.fsl⟩
theorem Own4.frame {w w' : World} {B N B1 B2 B3 B4 B5 : Nat} {v1 v2 v3 v4 : Value} {R : Rl} (h : Own4 w B1 B2 B3 B4 B5 v1 v2 v3 v4 R) (hf : Frm B N w w') (hs : B5 ≤ B ∨ N ≤ B1) : Own4 w' B1 B2 B3 B4 B5 v1 v2 v3 v4 R := by
  obtain ⟨⟨h1, h2, h3, h4, h5⟩, k1, k2, k3, k4⟩ := h
  exact ⟨⟨h1, h2, h3, h4, Nat.le_trans h5 hf.size⟩, k1.frame hf (by omega), k2.frame hf (by omega), k3.frame hf (by omega), k4.frame hf (by omega)⟩
theorem Own4.below {w w' : World} {B1 B2 B3 B4 B5 : Nat} {v1 v2 v3 v4 : Value} {R : Rl} (h : Own4 w B1 B2 B3 B4 B5 v1 v2 v3 v4 R) (hb : Below w.heap.size w w') : Own4 w' B1 B2 B3 B4 B5 v1 v2 v3 v4 R :=
  h.frame (Frm.of (B := B5) (N := B5) hb) (.inl (Nat.le_refl _))
/-- A rod of marks. -/
def markR (R : Rl) (k : Int) : Rl := ⟨marks k R.a.length, marks (k + R.a.length) R.b.length, marks (k + R.a.length + R.b.length) R.c.length, marks (k + R.a.length + R.b.length + R.c.length) R.d.length⟩
def markE (R : Rl) (k : Int) : Int := k + R.a.length + R.b.length + R.c.length + R.d.length
set_option maxHeartbeats 2000000 in
theorem markRod_any (B1 B2 B3 B4 B5 : Nat) (v1 v2 v3 v4 : Value) (R : Rl) (hs : R.small) (w : World) (h : Own4 w B1 B2 B3 B4 B5 v1 v2 v3 v4 R) :
    Calls Try.prog 11 #[.agg #[v1, v2, v3, v4], .int .i64 1] w fun e w' => e = .returned (.int .i64 (markE R 1)) ∧ Own4 w' B1 B2 B3 B4 B5 v1 v2 v3 v4 (markR R 1) ∧ Frm B1 B5 w w' := by
  obtain ⟨⟨l1, l2, l3, l4, l5⟩, k1, k2, k3, k4⟩ := h
  obtain ⟨s1, s2, s3, s4⟩ := hs
  have bB := box4_alloc w 26 v1 v2 v3 v4
  have D0 : Below w.heap.size w (w.alloc (.cells #[v1, v2, v3, v4] 26)) := by (repeat' first | assumption | exact Below.refl _ _ | refine B_drew ?_ _ | refine Below.drew ?_ | refine Below.alloc ?_ (by first | exact Nat.le_refl _ | (simp; done) | (simp; omega)) _)
  have F0 : Frm B1 B5 w (w.alloc (.cells #[v1, v2, v3, v4] 26)) := Frm.of D0
  have q1 := k1.below D0
  have q2 := k2.below D0
  have q3 := k3.below D0
  have q4 := k4.below D0
  have e1 : markE R 1 = 1 + (R.a.length : Int) + R.b.length + R.c.length + R.d.length := rfl
  rw [e1]
  unfold OSl at k1 k2 k3 k4
  have HB := Lib.hid bB
  have HF := fun (w' : World) (hf : Frm B1 B5 (w.alloc (.cells #[v1, v2, v3, v4] 26)) w') => show Box4 w' w.heap.size v1 v2 v3 v4 from by
    have hz : (w.alloc (.cells #[v1, v2, v3, v4] 26)).heap.size = w.heap.size + 1 := by simp
    have eb : w'.heap[w.heap.size]? = (w.alloc (.cells #[v1, v2, v3, v4] 26)).heap[w.heap.size]? := hf.block _ (by omega) (.inr l5)
    obtain ⟨⟨h0, h1, h2, h3⟩, hf', hl⟩ := bB
    have e : ∀ o, w'.cell? ⟨w.heap.size, o, none⟩ = _ := fun o => World.cell?_of_block eb
    have e2 : ∀ o, w'.frozen? ⟨w.heap.size, o, none⟩ = _ := fun o => World.frozen?_of_block eb
    exact ⟨⟨by rw [e]; exact h0, by rw [e]; exact h1, by rw [e]; exact h2, by rw [e]; exact h3⟩, fun o => by rw [e2]; exact hf' o, Nat.lt_of_lt_of_le hl hf.size⟩
  have HX := Lib.hid HF
  clear HF bB k1 k2 k3 k4 e1
  go_enter Try.func11, Try.ntmps11
  go_wp2_with fail
  refine (markF_any B1 B2 _ _ _ 1 (by omega) (by omega) s1 _ q1).mono ?_
  rintro e w1 ⟨rfl, r1, f1⟩
  have g1 : Frm B1 B5 (w.alloc (.cells #[v1, v2, v3, v4] 26)) w1 := f1.wide (Nat.le_refl _) (by omega)
  have p2 := q2.frame f1 (by omega)
  have p3 := q3.frame f1 (by omega)
  have p4 := q4.frame f1 (by omega)
  clear q1 q2 q3 q4 f1 D0
  obtain ⟨⟨b0, b1, b2, b3⟩, bf, bl⟩ := HX.out _ g1
  clear bf
  go_wp2_with fail
  refine (markF_any B2 B3 _ _ _ _ (by omega) (by omega) s2 _ p2).mono ?_
  rintro e w2 ⟨rfl, r2, f2⟩
  have g2 := g1.trans (f2.wide (B' := B1) (N' := B5) (by omega) (by omega))
  have r1' := r1.frame f2 (by omega)
  have p3' := p3.frame f2 (by omega)
  have p4' := p4.frame f2 (by omega)
  clear b0 b1 b2 b3 bl r1 p2 p3 p4 f2 g1
  obtain ⟨⟨b0, b1, b2, b3⟩, bf, bl⟩ := HX.out _ g2
  clear bf
  go_wp2_with fail
  refine (markF_any B3 B4 _ _ _ _ (by omega) (by omega) s3 _ p3').mono ?_
  rintro e w3 ⟨rfl, r3, f3⟩
  have g3 := g2.trans (f3.wide (B' := B1) (N' := B5) (by omega) (by omega))
  have r1 := r1'.frame f3 (by omega)
  have r2' := r2.frame f3 (by omega)
  have p4 := p4'.frame f3 (by omega)
  clear b0 b1 b2 b3 bl r1' r2 p3' p4' f3 g2
  obtain ⟨⟨b0, b1, b2, b3⟩, bf, bl⟩ := HX.out _ g3
  clear bf
  go_wp2_with fail
  refine (markF_any B4 B5 _ _ _ _ (by omega) (by omega) s4 _ p4).mono ?_
  rintro e w4 ⟨rfl, r4, f4⟩
  have g4 := g3.trans (f4.wide (B' := B1) (N' := B5) (by omega) (by omega))
  have r1' := r1.frame f4 (by omega)
  have r2 := r2'.frame f4 (by omega)
  have r3' := r3.frame f4 (by omega)
  clear b0 b1 b2 b3 bl
  go_wp2_with fail
  go_ret
  have F5 := F0.trans g4
  exact ⟨rfl, ⟨⟨l1, l2, l3, l4, Nat.le_trans l5 F5.size⟩, r1', r2, r3', r4⟩, F5⟩
set_option maxHeartbeats 2000000 in
theorem heldRod_any (B1 B2 B3 B4 B5 : Nat) (v1 v2 v3 v4 : Value) (R : Rl) (hs : R.small) (w : World) (h : Own4 w B1 B2 B3 B4 B5 v1 v2 v3 v4 (markR R 1)) :
    Calls Try.prog 12 #[.agg #[v1, v2, v3, v4], .int .i64 1] w fun e w' => e = .returned (.int .i64 (markE R 1)) ∧ Below w.heap.size w w' := by
  obtain ⟨_, k1, k2, k3, k4⟩ := h
  obtain ⟨s1, s2, s3, s4⟩ := hs
  have D0 : Below w.heap.size w (w.alloc (.cells #[v1, v2, v3, v4] 26)) := by (repeat' first | assumption | exact Below.refl _ _ | refine B_drew ?_ _ | refine Below.drew ?_ | refine Below.alloc ?_ (by first | exact Nat.le_refl _ | (simp; done) | (simp; omega)) _)
  have q1 := k1.below D0
  have q2 := k2.below D0
  have q3 := k3.below D0
  have q4 := k4.below D0
  have e1 : markE R 1 = 1 + (R.a.length : Int) + R.b.length + R.c.length + R.d.length := rfl
  rw [e1]
  clear k1 k2 k3 k4 e1
  go_enter Try.func12, Try.ntmps12
  go_wp2_with fail
  refine (heldF_any B1 B2 _ _ 1 (by omega) (by omega) s1 _ q1).mono ?_
  rintro e w1 ⟨rfl, rfl⟩
  go_wp2_with fail
  refine (heldF_any B2 B3 _ _ _ (by omega) (by omega) s2 _ q2).mono ?_
  rintro e w1 ⟨rfl, rfl⟩
  go_wp2_with fail
  refine (heldF_any B3 B4 _ _ _ (by omega) (by omega) s3 _ q3).mono ?_
  rintro e w1 ⟨rfl, rfl⟩
  go_wp2_with fail
  refine (heldF_any B4 B5 _ _ _ (by omega) (by omega) s4 _ q4).mono ?_
  rintro e w1 ⟨rfl, rfl⟩
  go_wp2_with fail
  go_ret
  exact ⟨rfl, D0⟩
theorem backwards_any (v : Value) (bs : List Nat) (h1 : 1 ≤ bs.length) (h2 : bs.length ≤ 1048576) (w : World) (h : FSl .f32 w v bs) : Calls Try.prog 24 #[v] w (ROwn w bs.reverse) := by
  have hc := clone_any v bs h1 h2 w h
  obtain ⟨ao, cap, rfl, m1⟩ := h.len
  clear h m1
  go_enter Try.func24, Try.ntmps24
  go_wp2_with fail
  refine hc.mono ?_
  rintro e w1 ⟨v', rfl, ho, hb⟩
  obtain ⟨ao', cap', rfl, m1'⟩ := OSf.len ho
  go_wp2_with fail
  refine (reverse_any _ _ _ bs h1 _ ho).mono ?_
  rintro e w2 ⟨rfl, ho2, hf⟩
  have hb2 := hb.trans (hf.below hb.size)
  have ho3 := ho2.up (Nat.le_refl _) hf.size (Nat.le_refl _)
  clear ho ho2 hf hb hc
  go_wp2_with fail
  go_ret
  exact ⟨_, rfl, ho3, hb2⟩
set_option maxHeartbeats 16000000 in
theorem sBackRod_any (v1 v2 v3 v4 : Value) (R : Rl) (w : World) (h : Rod4 w v1 v2 v3 v4 R) :
    Calls Try.prog 7 #[.agg #[v1, v2, v3, v4]] w (RRod w (okRod R) (if okRod R then backR R else zeroR)) := by
  have bB := (box4_alloc w 26 v1 v2 v3 v4).alloc (.cells #[.slice none 0 0, .slice none 0 0, .slice none 0 0, .slice none 0 0] 26)
  have bZ := box4_alloc (w.alloc (.cells #[v1, v2, v3, v4] 26)) 26 (.slice none 0 0) (.slice none 0 0) (.slice none 0 0) (.slice none 0 0)
  have D0 : Below w.heap.size w ((w.alloc (.cells #[v1, v2, v3, v4] 26)).alloc (.cells #[.slice none 0 0, .slice none 0 0, .slice none 0 0, .slice none 0 0] 26)) := by (repeat' first | assumption | exact Below.refl _ _ | refine B_drew ?_ _ | refine Below.drew ?_ | refine Below.alloc ?_ (by first | exact Nat.le_refl _ | (simp; done) | (simp; omega)) _)
  rw [show (w.alloc (.cells #[v1, v2, v3, v4] 26)).heap.size = w.heap.size + 1 by simp] at bZ
  have hi := l02Is_any _ _ _ _ _ R _ bB (h.below D0)
  cases hok : okRod R
  · rw [hok] at hi
    have HI := Lib.hid hi
    simp only [Bool.false_eq_true, if_false]
    go_enter Try.func7, Try.ntmps7
    go_wp2_with fail
    refine HI.out.mono ?_
    rintro e w1 ⟨n, rfl, rfl⟩
    have bZ1 := bZ.below (below_draws _ n)
    have D1 := B_trans D0 (below_draws _ n)
    clear bZ bB D0 hi
    have z1 := D1.size
    have hlt : w.heap.size + 1 < (((w.alloc (.cells #[v1, v2, v3, v4] 26)).alloc (.cells #[.slice none 0 0, .slice none 0 0, .slice none 0 0, .slice none 0 0] 26)).drewN n).heap.size := bZ1.2.2
    obtain ⟨⟨z0, z1, z2, z3⟩, zf, zl⟩ := bZ1
    go_wp2_with fail
    refine bodyPost_ret (v := .tuple #[.agg #[.slice none 0 0, .slice none 0 0, .slice none 0 0, .slice none 0 0], .bool false]) (by simp [results, Try.results7, go_sem, *]) rfl ?_
    refine ⟨_, _, _, _, _, _, _, _, _, rfl, own4_zero (B := w.heap.size) ?_, Nat.le_refl _, ?_⟩
    · simp [World.setCell]; omega
    · repeat (refine Below.setCell ?_ (by first | (simp; done) | (simp; omega)) _)
      exact D1
  · rw [hok] at hi
    have HI := Lib.hid hi
    simp only [if_true]
    have hL := (okRod_iff hok).1
    have BK1 := Lib.hid (fun w' (h' : Below w.heap.size w w') => l02Back_any v1 R.a hL.1 (by have := hL.2.1; omega) w' (h.1.below h'))
    have BK2 := Lib.hid (fun w' (h' : Below w.heap.size w w') => l02Back_any v2 R.b (by have := hL.2.2.1; have := hL.1; omega) (by have := hL.2.2.1; have := hL.2.1; omega) w' (h.2.1.below h'))
    have BK3 := Lib.hid (fun w' (h' : Below w.heap.size w w') => l02Back_any v3 R.c (by have := hL.2.2.2.1; have := hL.1; omega) (by have := hL.2.2.2.1; have := hL.2.1; omega) w' (h.2.2.1.below h'))
    have BK4 := Lib.hid (fun w' (h' : Below w.heap.size w w') => l02Back_any v4 R.d (by have := hL.2.2.2.2; have := hL.1; omega) (by have := hL.2.2.2.2; have := hL.2.1; omega) w' (h.2.2.2.below h'))
    clear hL h
    go_enter Try.func7, Try.ntmps7
    go_wp2_with fail
    refine HI.out.mono ?_
    rintro e w1 ⟨n, rfl, rfl⟩
    have bZ1 := bZ.below (below_draws _ n)
    have bB1 := bB.below (below_draws _ n)
    have D1 := B_trans D0 (below_draws _ n)
    clear bZ bB D0 hi HI
    go_upto_region 3 with fail
    obtain ⟨W, hW⟩ : ∃ W : World, W = (((w.alloc (.cells #[v1, v2, v3, v4] 26)).alloc (.cells #[.slice none 0 0, .slice none 0 0, .slice none 0 0, .slice none 0 0] 26)).drewN n) := ⟨_, rfl⟩
    rw [← hW] at bZ1 bB1 D1 ⊢
    clear hW
    have cB := bB1.1
    obtain ⟨p0, p1, p2, p3⟩ := cB
    go_region_held3 (fun w' => w'.cell? ⟨w.heap.size, 0, none⟩ = some v1 ∧ w'.cell? ⟨w.heap.size, 1, none⟩ = some v2 ∧ w'.cell? ⟨w.heap.size, 2, none⟩ = some v3 ∧ w'.cell? ⟨w.heap.size, 3, none⟩ = some v4)
      (first | (refine ⟨?_, ?_, ?_, ?_⟩ <;> with_reducible assumption) | go_keep)
      (first
        | (go_at_call 22; (with_reducible refine (BK1.out W.drew D1.drew).mono ?_); rintro e x1 ⟨u1, rfl, o1, k1⟩; obtain ⟨a1', c1', rfl, _⟩ := OSf.len o1; have E1 := B_trans (w := w) D1.drew k1; have y1 := bB1.below (w' := x1) (undrew k1); have zz1 := bZ1.below (undrew k1); obtain ⟨y10, y11, y12, y13⟩ := y1.1)
        | (go_at_call 22; (with_reducible refine (BK2.out _ E1).mono ?_); rintro e x2 ⟨u2, rfl, o2, k2⟩; obtain ⟨a2', c2', rfl, _⟩ := OSf.len o2; have E2 := B_trans (w := w) E1 k2; have y2 := y1.below k2; have zz2 := zz1.below k2; obtain ⟨y20, y21, y22, y23⟩ := y2.1)
        | (go_at_call 22; (with_reducible refine (BK3.out _ E2).mono ?_); rintro e x3 ⟨u3, rfl, o3, k3⟩; obtain ⟨a3', c3', rfl, _⟩ := OSf.len o3; have E3 := B_trans (w := w) E2 k3; have y3 := y2.below k3; have zz3 := zz2.below k3; obtain ⟨y30, y31, y32, y33⟩ := y3.1)
        | (go_at_call 22; (with_reducible refine (BK4.out _ E3).mono ?_); rintro e x4 ⟨u4, rfl, o4, k4⟩; obtain ⟨a4', c4', rfl, _⟩ := OSf.len o4; have E4 := B_trans (w := w) E3 k4; have y4 := y3.below k4; have zz4 := zz3.below k4; obtain ⟨y40, y41, y42, y43⟩ := y4.1; obtain ⟨⟨z0, z1, z2, z3⟩, zf, zl⟩ := zz4))
    rename_i hHeld
    clear hHeld
    clear y1 y2 y3 y4 zz1 zz2 zz3 y10 y11 y12 y13 y20 y21 y22 y23 y30 y31 y32 y33 y40 y41 y42 y43 p0 p1 p2 p3
    have O1 := ((o1.below k2).below k3).below k4
    have O2 := (o2.below k3).below k4
    have O3 := o3.below k4
    have s1 := k1.size
    have s2 := k2.size
    have s3 := k3.size
    have s4 := k4.size
    have sW := bZ1.2.2
    have sD : W.drew.heap.size = W.heap.size := rfl
    have sw := D1.size
    clear o1 o2 o3 k2 k3 k4 E1 E2 E3 BK1 BK2 BK3 BK4 bB1 bZ1
    go_wp2_with fail
    refine bodyPost_ret (v := .tuple #[.agg #[.slice a1' R.a.length c1', .slice a2' R.b.length c2', .slice a3' R.c.length c3', .slice a4' R.d.length c4'], .bool true]) (by simp [results, Try.results7, go_sem, z0, z1, z2, z3, zf, zl]) rfl ?_
    have FF := ((((Frm.refl (w.heap.size + 1) (w.heap.size + 2) x4).set (a := ⟨w.heap.size + 1, 0, none⟩) (Nat.le_refl _) (Nat.lt_succ_self _) (.slice a1' R.a.length c1')).set (a := ⟨w.heap.size + 1, 1, none⟩) (Nat.le_refl _) (Nat.lt_succ_self _) (.slice a2' R.b.length c2')).set (a := ⟨w.heap.size + 1, 2, none⟩) (Nat.le_refl _) (Nat.lt_succ_self _) (.slice a3' R.c.length c3')).set (a := ⟨w.heap.size + 1, 3, none⟩) (Nat.le_refl _) (Nat.lt_succ_self _) (.slice a4' R.d.length c4')
    simp only [List.length_reverse] at O1 O2 O3 o4
    refine ⟨_, _, _, _, W.drew.heap.size, x1.heap.size, x2.heap.size, x3.heap.size, x4.heap.size, rfl, ⟨⟨s1, s2, s3, s4, FF.size⟩, ?_, ?_, ?_, ?_⟩, by omega, ?_⟩
    · exact osl_of (O1.frame FF (by omega)) (by simp [backR])
    · exact osl_of (O2.frame FF (by omega)) (by simp [backR])
    · exact osl_of (O3.frame FF (by omega)) (by simp [backR])
    · exact o4.frame FF (by omega)
    · exact E4.trans (FF.below (by omega) |>.mono (by omega))
set_option maxHeartbeats 16000000 in
theorem iBackRod_any (v1 v2 v3 v4 : Value) (R : Rl) (w : World) (h : Rod4 w v1 v2 v3 v4 R) :
    Calls Try.prog 9 #[.agg #[v1, v2, v3, v4]] w (RRod w (okRod R) (if okRod R then backR R else zeroR)) := by
  have bB := (box4_alloc w 26 v1 v2 v3 v4).alloc (.cells #[.slice none 0 0, .slice none 0 0, .slice none 0 0, .slice none 0 0] 26)
  have bZ := box4_alloc (w.alloc (.cells #[v1, v2, v3, v4] 26)) 26 (.slice none 0 0) (.slice none 0 0) (.slice none 0 0) (.slice none 0 0)
  have D0 : Below w.heap.size w ((w.alloc (.cells #[v1, v2, v3, v4] 26)).alloc (.cells #[.slice none 0 0, .slice none 0 0, .slice none 0 0, .slice none 0 0] 26)) := by (repeat' first | assumption | exact Below.refl _ _ | refine B_drew ?_ _ | refine Below.drew ?_ | refine Below.alloc ?_ (by first | exact Nat.le_refl _ | (simp; done) | (simp; omega)) _)
  rw [show (w.alloc (.cells #[v1, v2, v3, v4] 26)).heap.size = w.heap.size + 1 by simp] at bZ
  have hi := iValidRod_any _ _ _ _ R _ (h.below D0)
  cases hok : okRod R
  · rw [hok] at hi
    have HI := Lib.hid hi
    simp only [Bool.false_eq_true, if_false]
    go_enter Try.func9, Try.ntmps9
    go_wp2_with fail
    refine HI.out.mono ?_
    rintro e w1 ⟨rfl, hb1⟩
    have bZ1 := bZ.below hb1
    have D1 := B_trans D0 hb1
    clear bZ bB D0 hi
    have z1 := D1.size
    have hlt : w.heap.size + 1 < w1.heap.size := bZ1.2.2
    obtain ⟨⟨z0, z1, z2, z3⟩, zf, zl⟩ := bZ1
    go_wp2_with fail
    refine bodyPost_ret (v := .tuple #[.agg #[.slice none 0 0, .slice none 0 0, .slice none 0 0, .slice none 0 0], .bool false]) (by simp [results, Try.results9, go_sem, *]) rfl ?_
    refine ⟨_, _, _, _, _, _, _, _, _, rfl, own4_zero (B := w.heap.size) ?_, Nat.le_refl _, ?_⟩
    · simp [World.setCell]; omega
    · repeat (refine Below.setCell ?_ (by first | (simp; done) | (simp; omega)) _)
      exact D1
  · rw [hok] at hi
    have HI := Lib.hid hi
    simp only [if_true]
    have hL := (okRod_iff hok).1
    have BK1 := Lib.hid (fun w' (h' : Below w.heap.size w w') => backwards_any v1 R.a hL.1 (by have := hL.2.1; omega) w' (h.1.below h'))
    have BK2 := Lib.hid (fun w' (h' : Below w.heap.size w w') => backwards_any v2 R.b (by have := hL.2.2.1; have := hL.1; omega) (by have := hL.2.2.1; have := hL.2.1; omega) w' (h.2.1.below h'))
    have BK3 := Lib.hid (fun w' (h' : Below w.heap.size w w') => backwards_any v3 R.c (by have := hL.2.2.2.1; have := hL.1; omega) (by have := hL.2.2.2.1; have := hL.2.1; omega) w' (h.2.2.1.below h'))
    have BK4 := Lib.hid (fun w' (h' : Below w.heap.size w w') => backwards_any v4 R.d (by have := hL.2.2.2.2; have := hL.1; omega) (by have := hL.2.2.2.2; have := hL.2.1; omega) w' (h.2.2.2.below h'))
    clear hL h
    go_enter Try.func9, Try.ntmps9
    go_wp2_with fail
    refine HI.out.mono ?_
    rintro e w1 ⟨rfl, hb1⟩
    have bZ1 := bZ.below hb1
    have bB1 := bB.below hb1
    have D1 := B_trans D0 hb1
    clear bZ bB D0 hi HI
    go_upto_region 3 with fail
    obtain ⟨W, hW⟩ : ∃ W : World, W = w1 := ⟨_, rfl⟩
    rw [← hW] at bZ1 bB1 D1 ⊢
    clear hW
    have cB := bB1.1
    obtain ⟨p0, p1, p2, p3⟩ := cB
    go_region_held3 (fun w' => w'.cell? ⟨w.heap.size, 0, none⟩ = some v1 ∧ w'.cell? ⟨w.heap.size, 1, none⟩ = some v2 ∧ w'.cell? ⟨w.heap.size, 2, none⟩ = some v3 ∧ w'.cell? ⟨w.heap.size, 3, none⟩ = some v4)
      (first | (refine ⟨?_, ?_, ?_, ?_⟩ <;> with_reducible assumption) | go_keep)
      (first
        | (go_at_call 24; (with_reducible refine (BK1.out W.drew D1.drew).mono ?_); rintro e x1 ⟨u1, rfl, o1, k1⟩; obtain ⟨a1', c1', rfl, _⟩ := OSf.len o1; have E1 := B_trans (w := w) D1.drew k1; have y1 := bB1.below (w' := x1) (undrew k1); have zz1 := bZ1.below (undrew k1); obtain ⟨y10, y11, y12, y13⟩ := y1.1)
        | (go_at_call 24; (with_reducible refine (BK2.out _ E1).mono ?_); rintro e x2 ⟨u2, rfl, o2, k2⟩; obtain ⟨a2', c2', rfl, _⟩ := OSf.len o2; have E2 := B_trans (w := w) E1 k2; have y2 := y1.below k2; have zz2 := zz1.below k2; obtain ⟨y20, y21, y22, y23⟩ := y2.1)
        | (go_at_call 24; (with_reducible refine (BK3.out _ E2).mono ?_); rintro e x3 ⟨u3, rfl, o3, k3⟩; obtain ⟨a3', c3', rfl, _⟩ := OSf.len o3; have E3 := B_trans (w := w) E2 k3; have y3 := y2.below k3; have zz3 := zz2.below k3; obtain ⟨y30, y31, y32, y33⟩ := y3.1)
        | (go_at_call 24; (with_reducible refine (BK4.out _ E3).mono ?_); rintro e x4 ⟨u4, rfl, o4, k4⟩; obtain ⟨a4', c4', rfl, _⟩ := OSf.len o4; have E4 := B_trans (w := w) E3 k4; have y4 := y3.below k4; have zz4 := zz3.below k4; obtain ⟨y40, y41, y42, y43⟩ := y4.1; obtain ⟨⟨z0, z1, z2, z3⟩, zf, zl⟩ := zz4))
    rename_i hHeld
    clear hHeld
    clear y1 y2 y3 y4 zz1 zz2 zz3 y10 y11 y12 y13 y20 y21 y22 y23 y30 y31 y32 y33 y40 y41 y42 y43 p0 p1 p2 p3
    have O1 := ((o1.below k2).below k3).below k4
    have O2 := (o2.below k3).below k4
    have O3 := o3.below k4
    have s1 := k1.size
    have s2 := k2.size
    have s3 := k3.size
    have s4 := k4.size
    have sW := bZ1.2.2
    have sD : W.drew.heap.size = W.heap.size := rfl
    have sw := D1.size
    clear o1 o2 o3 k2 k3 k4 E1 E2 E3 BK1 BK2 BK3 BK4 bB1 bZ1
    go_wp2_with fail
    refine bodyPost_ret (v := .tuple #[.agg #[.slice a1' R.a.length c1', .slice a2' R.b.length c2', .slice a3' R.c.length c3', .slice a4' R.d.length c4'], .bool true]) (by simp [results, Try.results9, go_sem, z0, z1, z2, z3, zf, zl]) rfl ?_
    have FF := ((((Frm.refl (w.heap.size + 1) (w.heap.size + 2) x4).set (a := ⟨w.heap.size + 1, 0, none⟩) (Nat.le_refl _) (Nat.lt_succ_self _) (.slice a1' R.a.length c1')).set (a := ⟨w.heap.size + 1, 1, none⟩) (Nat.le_refl _) (Nat.lt_succ_self _) (.slice a2' R.b.length c2')).set (a := ⟨w.heap.size + 1, 2, none⟩) (Nat.le_refl _) (Nat.lt_succ_self _) (.slice a3' R.c.length c3')).set (a := ⟨w.heap.size + 1, 3, none⟩) (Nat.le_refl _) (Nat.lt_succ_self _) (.slice a4' R.d.length c4')
    simp only [List.length_reverse] at O1 O2 O3 o4
    refine ⟨_, _, _, _, W.drew.heap.size, x1.heap.size, x2.heap.size, x3.heap.size, x4.heap.size, rfl, ⟨⟨s1, s2, s3, s4, FF.size⟩, ?_, ?_, ?_, ?_⟩, by omega, ?_⟩
    · exact osl_of (O1.frame FF (by omega)) (by simp [backR])
    · exact osl_of (O2.frame FF (by omega)) (by simp [backR])
    · exact osl_of (O3.frame FF (by omega)) (by simp [backR])
    · exact o4.frame FF (by omega)
    · exact E4.trans (FF.below (by omega) |>.mono (by omega))
end Go.Proofs.Ytiolmffcmbcgmaa
