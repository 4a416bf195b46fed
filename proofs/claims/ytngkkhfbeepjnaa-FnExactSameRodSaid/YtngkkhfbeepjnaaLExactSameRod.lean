/-
  The program's SameRod returns what the reference's returns, for every argument. No condition.
-/
import Derived.Test.YtngkkhfbeepjnaaRows
import Derived.Test.YtngkkhfbeepjnaaPost
import Derived.Test.YtngkkhfbeepjnaaSame
namespace Go.Proofs.Ytngkkhfbeepjnaa
set_option linter.unusedVariables false
set_option linter.unusedSimpArgs false
open Go.ChangeShapes Go.WideShapes Go.ChangeAt Go.RowKit Go.Joins Go.ChangeMaps Fl

set_option maxHeartbeats 16000000 in
theorem walk_FnExactSameRod (v1 v2 v3 v4 : Value) (R : Rl) (w : World) (h : Rod4 w v1 v2 v3 v4 R) (x1 x2 x3 x4 : Value) (R' : Rl) (h' : Rod4 w x1 x2 x3 x4 R') :
    Calls Try.prog 6 #[.agg #[v1, v2, v3, v4], .agg #[x1, x2, x3, x4]] w fun e w' => e = .returned (.bool true) ∧ Below w.heap.size w w' := by
  have HBITS := Lib.hid h.bits
  have HBITS' := Lib.hid h'.bits
  have bA := (box4_alloc w 36 v1 v2 v3 v4).alloc (.cells #[x1, x2, x3, x4] 36)
  have bB := box4_alloc (w.alloc (.cells #[v1, v2, v3, v4] 36)) 36 x1 x2 x3 x4
  have D0 : Below w.heap.size w ((w.alloc (.cells #[v1, v2, v3, v4] 36)).alloc (.cells #[x1, x2, x3, x4] 36)) := by (repeat' first | assumption | exact Below.refl _ _ | refine B_drew ?_ _ | refine Below.drew ?_ | refine Below.alloc ?_ (by first | exact Nat.le_refl _ | (simp; done) | (simp; omega)) _)
  have eB : (w.alloc (.cells #[v1, v2, v3, v4] 36)).heap.size = w.heap.size + 1 := by simp
  rw [eB] at bB
  clear eB
  have hsz := fun w' (h9 : Below w.heap.size w w') => szRod_any v1 v2 v3 v4 R 1048576 (by omega) (by omega) w' (h.below h9)
  have HSZ := Lib.hid hsz
  clear hsz
  by_cases hl : (R.total : Int) ≤ 1048576
  · simp only [if_pos hl] at HSZ
    have HS := Lib.hid (show R.small from Rl.small_of (n := 1048576) (by omega) (Nat.le_refl _))
    have h0 : 0 ≤ 1048576 - (R.total : Int) := by omega
    have h00 : 1048576 - (R.total : Int) ≤ 1048576 := by omega
    have hsz' := fun w' (h9 : Below w.heap.size w w') => szRod_any x1 x2 x3 x4 R' (1048576 - (R.total : Int)) h0 h00 w' (h'.below h9)
    have HSZ' := Lib.hid hsz'
    clear hsz'
    by_cases hl' : (R'.total : Int) ≤ 1048576 - (R.total : Int)
    · simp only [if_pos hl'] at HSZ'
      have HS' := Lib.hid (show R'.small from Rl.small_of (n := 1048576) (by omega) (Nat.le_refl _))
      have h1 : 0 ≤ 1048576 - (R.total : Int) - (R'.total : Int) := by omega
      generalize 1048576 - (R.total : Int) - (R'.total : Int) = left' at *
      generalize 1048576 - (R.total : Int) = left at *
      clear hl hl'
      have SPC := Lib.hid (fun a1 a2 a3 a4 c1 c2 c3 c4 w k k' => sSameRod_any a1 a2 a3 a4 c1 c2 c3 c4 R R' w k k')
      have IMP := Lib.hid (fun a1 a2 a3 a4 c1 c2 c3 c4 w k k' => iSameRod_any a1 a2 a3 a4 c1 c2 c3 c4 R R' w k k')
      generalize sameR R R' = sb at *
      go_enter Try.func6, Try.ntmps6
      go_wp2_with fail
      refine (HSZ.out _ D0).mono ?_
      rintro e w1 ⟨rfl, hb1⟩
      have D1 := B_trans D0 hb1
      have bA1 := bA.below hb1
      have bB1 := bB.below hb1
      clear hb1 D0 bA bB HSZ
      have A1 := bA1
      have B1 := bB1
      obtain ⟨⟨p0, p1, p2, p3⟩, pf, pl⟩ := A1
      obtain ⟨⟨q0, q1, q2, q3⟩, qf, ql⟩ := B1
      go_wp2_with fail
      refine (HSZ'.out _ D1).mono ?_
      rintro e w2 ⟨rfl, hb2⟩
      have D2 := B_trans D1 hb2
      have bA2 := bA1.below hb2
      have bB2 := bB1.below hb2
      clear hb2 D1 bA1 bB1 HSZ' p0 p1 p2 p3 pf pl q0 q1 q2 q3 qf ql
      go_upto_region 8 with fail
      go_cut [6] (fun s6 wx => s6 = .bool sb ∧ Below w.heap.size w wx ∧ Box4 wx w.heap.size v1 v2 v3 v4 ∧ Box4 wx (w.heap.size + 1) x1 x2 x3 x4)
      case first =>
        have A1 := bA2
        have B1 := bB2
        obtain ⟨⟨p0, p1, p2, p3⟩, pf, pl⟩ := A1
        obtain ⟨⟨q0, q1, q2, q3⟩, qf, ql⟩ := B1
        go_region_with (first
          | (go_at_call 16; (with_reducible refine (toRod_any v1 v2 v3 v4 R HS.out _ (h.below (by (repeat' first | assumption | exact Below.refl _ _ | refine B_drew ?_ _ | refine Below.drew ?_ | refine Below.alloc ?_ (by first | exact Nat.le_refl _ | (simp; done) | (simp; omega)) _)))).mono ?_); rintro e w8 ⟨m1, m2, m3, m4, rfl, hr8, hg8, hb8⟩; have D8 := B_trans (w := w) (by (repeat' first | assumption | exact Below.refl _ _ | refine B_drew ?_ _ | refine Below.drew ?_ | refine Below.alloc ?_ (by first | exact Nat.le_refl _ | (simp; done) | (simp; omega)) _)) hb8; have bA8 := Box4.below (b := w.heap.size) (x0 := v1) (x1 := v2) (x2 := v3) (x3 := v4) (by assumption) hb8; have bB8 := Box4.below (b := w.heap.size + 1) (x0 := x1) (x1 := x2) (x2 := x3) (x3 := x4) (by assumption) hb8; (try have z8 := Rod4.below (by assumption) hb8); have y8 := hr8.rod HS.out HBITS.out; have cA := bA8.1; have cB := bB8.1; obtain ⟨P0, P1, P2, P3⟩ := cA; obtain ⟨Q0, Q1, Q2, Q3⟩ := cB; clear hb8 hr8 hg8; simp only [rodv])
          | (go_at_call 16; (with_reducible refine (toRod_any x1 x2 x3 x4 R' HS'.out _ (h'.below (by (repeat' first | assumption | exact Below.refl _ _ | refine B_drew ?_ _ | refine Below.drew ?_ | refine Below.alloc ?_ (by first | exact Nat.le_refl _ | (simp; done) | (simp; omega)) _)))).mono ?_); rintro e w8 ⟨m1, m2, m3, m4, rfl, hr8, hg8, hb8⟩; have D8 := B_trans (w := w) (by (repeat' first | assumption | exact Below.refl _ _ | refine B_drew ?_ _ | refine Below.drew ?_ | refine Below.alloc ?_ (by first | exact Nat.le_refl _ | (simp; done) | (simp; omega)) _)) hb8; have bA8 := Box4.below (b := w.heap.size) (x0 := v1) (x1 := v2) (x2 := v3) (x3 := v4) (by assumption) hb8; have bB8 := Box4.below (b := w.heap.size + 1) (x0 := x1) (x1 := x2) (x2 := x3) (x3 := x4) (by assumption) hb8; (try have z8 := Rod4.below (by assumption) hb8); have y8 := hr8.rod HS'.out HBITS'.out; have cA := bA8.1; have cB := bB8.1; obtain ⟨P0, P1, P2, P3⟩ := cA; obtain ⟨Q0, Q1, Q2, Q3⟩ := cB; clear hb8 hr8 hg8; simp only [rodv])
          | (go_at_call 19; refine (SPC.out _ _ _ _ _ _ _ _ _ (by assumption) (by assumption)).mono ?_; rintro e w9 ⟨rfl, hb9⟩; have D9 := B_trans (w := w) (by (repeat' first | assumption | exact Below.refl _ _ | refine B_drew ?_ _ | refine Below.drew ?_ | refine Below.alloc ?_ (by first | exact Nat.le_refl _ | (simp; done) | (simp; omega)) _)) hb9; have bA9 := Box4.below (b := w.heap.size) (x0 := v1) (x1 := v2) (x2 := v3) (x3 := v4) (by assumption) hb9; have bB9 := Box4.below (b := w.heap.size + 1) (x0 := x1) (x1 := x2) (x2 := x3) (x3 := x4) (by assumption) hb9; clear hb9))
        all_goals
          go_wp2_with fail
          go_meet
          exact ⟨rfl, D9, bA9, bB9⟩
      case rest =>
        obtain ⟨rfl, D3, bA3, bB3⟩ := hcut
        clear D2 bA2 bB2
        have A1 := bA3
        have B1 := bB3
        obtain ⟨⟨p0, p1, p2, p3⟩, pf, pl⟩ := A1
        obtain ⟨⟨q0, q1, q2, q3⟩, qf, ql⟩ := B1
        go_wp2_with fail
        refine (toRod_any v1 v2 v3 v4 R HS.out _ (h.below D3)).mono ?_
        rintro e w4 ⟨k1, k2, k3, k4, rfl, hr4, hg4, hb4⟩
        have D4 := B_trans D3 hb4
        have bA4 := bA3.below hb4
        have bB4 := bB3.below hb4
        have xr := hr4.rod HS.out HBITS.out
        clear hb4 D3 bA3 bB3 hr4 hg4
        clear p0 p1 p2 p3 pf pl q0 q1 q2 q3 qf ql
        simp only [rodv]
        go_upto_region 10 with fail
        generalize (Value.slice (some ⟨k1, 0, none⟩) R.a.length R.a.length) = u1 at *
        generalize (Value.slice (some ⟨k2, 0, none⟩) R.b.length R.b.length) = u2 at *
        generalize (Value.slice (some ⟨k3, 0, none⟩) R.c.length R.c.length) = u3 at *
        generalize (Value.slice (some ⟨k4, 0, none⟩) R.d.length R.d.length) = u4 at *
        have A1 := bA4
        have B1 := bB4
        obtain ⟨⟨p0, p1, p2, p3⟩, pf, pl⟩ := A1
        obtain ⟨⟨q0, q1, q2, q3⟩, qf, ql⟩ := B1
        have bX := box4_alloc w4 39 u1 u2 u3 u4
        have W5 : Below w4.heap.size w4 (w4.alloc (.cells #[u1, u2, u3, u4] 39)) := by (repeat' first | assumption | exact Below.refl _ _ | refine B_drew ?_ _ | refine Below.drew ?_ | refine Below.alloc ?_ (by first | exact Nat.le_refl _ | (simp; done) | (simp; omega)) _)
        have D5 := B_trans D4 W5
        have bA5 := bA4.below W5
        have bB5 := bB4.below W5
        have xr5 := xr.below W5
        clear W5 D4 bA4 bB4 xr
        clear p0 p1 p2 p3 pf pl q0 q1 q2 q3 qf ql
        generalize hx' : w4.heap.size = hx at *
        clear hx'
        generalize w4.alloc (.cells #[u1, u2, u3, u4] 39) = w5 at *
        have A1 := bA5
        have B1 := bB5
        obtain ⟨⟨p0, p1, p2, p3⟩, pf, pl⟩ := A1
        obtain ⟨⟨q0, q1, q2, q3⟩, qf, ql⟩ := B1
        go_wp2_with fail
        refine (toRod_any x1 x2 x3 x4 R' HS'.out _ (h'.below D5)).mono ?_
        rintro e w6 ⟨j1, j2, j3, j4, rfl, hr6, hg6, hb6⟩
        have D6 := B_trans D5 hb6
        have bA6 := bA5.below hb6
        have bB6 := bB5.below hb6
        have bX6 := bX.below hb6
        have xr6 := xr5.below hb6
        have yr := hr6.rod HS'.out HBITS'.out
        clear hb6 D5 bA5 bB5 bX xr5 hr6 hg6
        clear p0 p1 p2 p3 pf pl q0 q1 q2 q3 qf ql
        simp only [rodv]
        go_upto_region 11 with fail
        generalize (Value.slice (some ⟨j1, 0, none⟩) R'.a.length R'.a.length) = t1 at *
        generalize (Value.slice (some ⟨j2, 0, none⟩) R'.b.length R'.b.length) = t2 at *
        generalize (Value.slice (some ⟨j3, 0, none⟩) R'.c.length R'.c.length) = t3 at *
        generalize (Value.slice (some ⟨j4, 0, none⟩) R'.d.length R'.d.length) = t4 at *
        have bY := box4_alloc w6 39 t1 t2 t3 t4
        have W7 : Below w6.heap.size w6 (w6.alloc (.cells #[t1, t2, t3, t4] 39)) := by (repeat' first | assumption | exact Below.refl _ _ | refine B_drew ?_ _ | refine Below.drew ?_ | refine Below.alloc ?_ (by first | exact Nat.le_refl _ | (simp; done) | (simp; omega)) _)
        have D7 := B_trans D6 W7
        have bA7 := bA6.below W7
        have bB7 := bB6.below W7
        have bX7 := bX6.below W7
        have xr7 := xr6.below W7
        have yr7 := yr.below W7
        clear W7 D6 bA6 bB6 bX6 xr6 yr
        generalize hy' : w6.heap.size = hy at *
        clear hy'
        generalize w6.alloc (.cells #[t1, t2, t3, t4] 39) = w7 at *
        have A1 := bX7
        have B1 := bY
        obtain ⟨⟨p0, p1, p2, p3⟩, pf, pl⟩ := A1
        obtain ⟨⟨q0, q1, q2, q3⟩, qf, ql⟩ := B1
        go_wp2_with fail
        refine (IMP.out _ _ _ _ _ _ _ _ _ xr7 yr7).mono ?_
        rintro e w8 ⟨rfl, hb8⟩
        have D8 := B_trans D7 hb8
        have bA8 := bA7.below hb8
        have bB8 := bB7.below hb8
        have bX8 := bX7.below hb8
        have bY8 := bY.below hb8
        have xr8 := xr7.below hb8
        have yr8 := yr7.below hb8
        clear hb8 D7 bA7 bB7 bX7 bY xr7 yr7
        clear p0 p1 p2 p3 pf pl q0 q1 q2 q3 qf ql
        go_upto_region 14 with fail
        go_cut [39] (fun s39 wx => s39 = .bool false ∧ Below w.heap.size w wx ∧ Box4 wx w.heap.size v1 v2 v3 v4 ∧ Box4 wx (w.heap.size + 1) x1 x2 x3 x4 ∧ Box4 wx hx u1 u2 u3 u4 ∧ Box4 wx hy t1 t2 t3 t4 ∧ Rod4 wx u1 u2 u3 u4 R ∧ Rod4 wx t1 t2 t3 t4 R')
        case first =>
          have A1 := bA8
          have B1 := bX8
          obtain ⟨⟨p0, p1, p2, p3⟩, pf, pl⟩ := A1
          obtain ⟨⟨q0, q1, q2, q3⟩, qf, ql⟩ := B1
          go_region_with (first
            | (go_at_call 16; (with_reducible refine (toRod_any v1 v2 v3 v4 R HS.out _ (h.below (by (repeat' first | assumption | exact Below.refl _ _ | refine B_drew ?_ _ | refine Below.drew ?_ | refine Below.alloc ?_ (by first | exact Nat.le_refl _ | (simp; done) | (simp; omega)) _)))).mono ?_); rintro e w8 ⟨m1, m2, m3, m4, rfl, hr8, hg8, hb8⟩; have D8 := B_trans (w := w) (by (repeat' first | assumption | exact Below.refl _ _ | refine B_drew ?_ _ | refine Below.drew ?_ | refine Below.alloc ?_ (by first | exact Nat.le_refl _ | (simp; done) | (simp; omega)) _)) hb8; have bA8 := Box4.below (b := w.heap.size) (x0 := v1) (x1 := v2) (x2 := v3) (x3 := v4) (by assumption) hb8; have bB8 := Box4.below (b := w.heap.size + 1) (x0 := x1) (x1 := x2) (x2 := x3) (x3 := x4) (by assumption) hb8; have X8 := Box4.below (b := hx) (x0 := u1) (x1 := u2) (x2 := u3) (x3 := u4) (by assumption) hb8; have Y8 := Box4.below (b := hy) (x0 := t1) (x1 := t2) (x2 := t3) (x3 := t4) (by assumption) hb8; have k8 := Rod4.below (v1 := u1) (v2 := u2) (v3 := u3) (v4 := u4) (R := R) (by assumption) hb8; have l8 := Rod4.below (v1 := t1) (v2 := t2) (v3 := t3) (v4 := t4) (R := R') (by assumption) hb8; have y8 := hr8.rod HS.out HBITS.out; have cA := bA8.1; have cB := bB8.1; obtain ⟨P0, P1, P2, P3⟩ := cA; obtain ⟨Q0, Q1, Q2, Q3⟩ := cB; have cX := X8.1; have cY := Y8.1; obtain ⟨S0, S1, S2, S3⟩ := cX; obtain ⟨T0, T1, T2, T3⟩ := cY; clear hb8 hr8 hg8; simp only [rodv])
            | (go_at_call 18; refine (eqRod_any _ _ _ _ _ _ _ _ R _ (by assumption) (by assumption)).mono ?_; rintro e w9 ⟨rfl, hb9⟩; have D9 := B_trans (w := w) (by (repeat' first | assumption | exact Below.refl _ _ | refine B_drew ?_ _ | refine Below.drew ?_ | refine Below.alloc ?_ (by first | exact Nat.le_refl _ | (simp; done) | (simp; omega)) _)) hb9; have bA9 := Box4.below (b := w.heap.size) (x0 := v1) (x1 := v2) (x2 := v3) (x3 := v4) (by assumption) hb9; have bB9 := Box4.below (b := w.heap.size + 1) (x0 := x1) (x1 := x2) (x2 := x3) (x3 := x4) (by assumption) hb9; have X9 := Box4.below (b := hx) (x0 := u1) (x1 := u2) (x2 := u3) (x3 := u4) (by assumption) hb9; have Y9 := Box4.below (b := hy) (x0 := t1) (x1 := t2) (x2 := t3) (x3 := t4) (by assumption) hb9; have k9 := Rod4.below (v1 := u1) (v2 := u2) (v3 := u3) (v4 := u4) (R := R) (by assumption) hb9; have l9 := Rod4.below (v1 := t1) (v2 := t2) (v3 := t3) (v4 := t4) (R := R') (by assumption) hb9; clear hb9))
          all_goals
            go_wp2_with fail
            go_meet
            exact ⟨rfl, D9, bA9, bB9, X9, Y9, k9, l9⟩
        case rest =>
          obtain ⟨rfl, D10, bA10, bB10, bX10, bY10, xr10, yr10⟩ := hcut
          clear D8 bA8 bB8 bX8 bY8 xr8 yr8
          go_upto_region 16 with fail
          have A1 := bB10
          have B1 := bY10
          obtain ⟨⟨p0, p1, p2, p3⟩, pf, pl⟩ := A1
          obtain ⟨⟨q0, q1, q2, q3⟩, qf, ql⟩ := B1
          go_region_with (first
            | (go_at_call 16; (with_reducible refine (toRod_any x1 x2 x3 x4 R' HS'.out _ (h'.below (by (repeat' first | assumption | exact Below.refl _ _ | refine B_drew ?_ _ | refine Below.drew ?_ | refine Below.alloc ?_ (by first | exact Nat.le_refl _ | (simp; done) | (simp; omega)) _)))).mono ?_); rintro e w8 ⟨m1, m2, m3, m4, rfl, hr8, hg8, hb8⟩; have D8 := B_trans (w := w) (by (repeat' first | assumption | exact Below.refl _ _ | refine B_drew ?_ _ | refine Below.drew ?_ | refine Below.alloc ?_ (by first | exact Nat.le_refl _ | (simp; done) | (simp; omega)) _)) hb8; have bA8 := Box4.below (b := w.heap.size) (x0 := v1) (x1 := v2) (x2 := v3) (x3 := v4) (by assumption) hb8; have bB8 := Box4.below (b := w.heap.size + 1) (x0 := x1) (x1 := x2) (x2 := x3) (x3 := x4) (by assumption) hb8; have X8 := Box4.below (b := hx) (x0 := u1) (x1 := u2) (x2 := u3) (x3 := u4) (by assumption) hb8; have Y8 := Box4.below (b := hy) (x0 := t1) (x1 := t2) (x2 := t3) (x3 := t4) (by assumption) hb8; have k8 := Rod4.below (v1 := u1) (v2 := u2) (v3 := u3) (v4 := u4) (R := R) (by assumption) hb8; have l8 := Rod4.below (v1 := t1) (v2 := t2) (v3 := t3) (v4 := t4) (R := R') (by assumption) hb8; have y8 := hr8.rod HS'.out HBITS'.out; have cA := bA8.1; have cB := bB8.1; obtain ⟨P0, P1, P2, P3⟩ := cA; obtain ⟨Q0, Q1, Q2, Q3⟩ := cB; have cX := X8.1; have cY := Y8.1; obtain ⟨S0, S1, S2, S3⟩ := cX; obtain ⟨T0, T1, T2, T3⟩ := cY; clear hb8 hr8 hg8; simp only [rodv])
            | (go_at_call 18; refine (eqRod_any _ _ _ _ _ _ _ _ R' _ (by assumption) (by assumption)).mono ?_; rintro e w9 ⟨rfl, hb9⟩; have D9 := B_trans (w := w) (by (repeat' first | assumption | exact Below.refl _ _ | refine B_drew ?_ _ | refine Below.drew ?_ | refine Below.alloc ?_ (by first | exact Nat.le_refl _ | (simp; done) | (simp; omega)) _)) hb9; have bA9 := Box4.below (b := w.heap.size) (x0 := v1) (x1 := v2) (x2 := v3) (x3 := v4) (by assumption) hb9; have bB9 := Box4.below (b := w.heap.size + 1) (x0 := x1) (x1 := x2) (x2 := x3) (x3 := x4) (by assumption) hb9; have X9 := Box4.below (b := hx) (x0 := u1) (x1 := u2) (x2 := u3) (x3 := u4) (by assumption) hb9; have Y9 := Box4.below (b := hy) (x0 := t1) (x1 := t2) (x2 := t3) (x3 := t4) (by assumption) hb9; have k9 := Rod4.below (v1 := u1) (v2 := u2) (v3 := u3) (v4 := u4) (R := R) (by assumption) hb9; have l9 := Rod4.below (v1 := t1) (v2 := t2) (v3 := t3) (v4 := t4) (R := R') (by assumption) hb9; clear hb9))
          all_goals
            go_wp2_with fail
            go_ret
            exact ⟨rfl, D9⟩
    · simp only [if_neg hl'] at HSZ'
      clear hl hl'
      generalize 1048576 - (R.total : Int) = left at *
      go_enter Try.func6, Try.ntmps6
      go_wp2_with fail
      refine (HSZ.out _ D0).mono ?_
      rintro e w1 ⟨rfl, hb1⟩
      have D1 := B_trans D0 hb1
      have bB1 := bB.below hb1
      clear hb1 D0 bA bB HSZ
      obtain ⟨⟨q0, q1, q2, q3⟩, qf, ql⟩ := bB1
      go_wp2_with fail
      refine (HSZ'.out _ D1).mono ?_
      rintro e w2 ⟨rfl, hb2⟩
      have D2 := B_trans D1 hb2
      go_wp2_with fail
      go_ret
      exact ⟨rfl, D2⟩
  · simp only [if_neg hl] at HSZ
    clear hl
    go_enter Try.func6, Try.ntmps6
    go_wp2_with fail
    refine (HSZ.out _ D0).mono ?_
    rintro e w1 ⟨rfl, hb1⟩
    go_wp2_with fail
    go_ret
    exact ⟨rfl, B_trans D0 hb1⟩
theorem laidOut_FnExactSameRod : laidOutB Try.prog = true := by kernel_rfl
theorem contract_FnExactSameRod (H : Type) (enc : TypeId × Value → H) (W : World) (base : Nat) (args : Array Value) (ds gs : List (DataW H)) (before : List MemPlace)
    (hval : ∀ (j : Nat) t v, Try.f6.params[j]? = some t → args[j]? = some v → Value.okWide Try.prog W .any base t v)
    (hW : DataW.Whole enc Try.prog Try.f6.params.toList Rows.fnExactSameRodSpec.vars false W args.toList ds gs before) :
    Calls Try.prog 6 args W fun e W' => ∃ v, e = .returned v ∧ Rows.fnExactSameRodSpec.post enc Try.prog Try.f6 false true false false W args v W' := by
  have hW' := hW
  obtain ⟨p, q, hA0, hV, rfl, hfz, hnd⟩ := hW
  have hA : DataW.TrodAll enc Try.prog W 0 (fun _ => true) true Try.f6.params.toList args.toList ds p := hA0
  rw [Try.params6] at hA hval
  obtain ⟨v0, vs0, d0, ds0, p0, q0, hargs, rfl, rfl, h0, r0⟩ := trodAll_cons hA
  obtain ⟨v1, vs1, d1, ds1, p1, q1, rfl, rfl, rfl, h1, r1⟩ := trodAll_cons r0
  obtain ⟨rfl, rfl, rfl⟩ := trodAll_nil r1
  obtain rfl : args = #[v0, v1] := by cases args; simp_all
  obtain ⟨rfl, rfl⟩ := trodVars_none hV
  have hlt0 : ∀ x ∈ p0, x.block < W.heap.size := fun x hx => hW'.lt x (by simp [hx])
  have hk0 := h0
  obtain ⟨x0a, x0b, x0c, x0d, y0a, y0b, y0c, y0d, n0, rfl, rfl, rfl, t0a, t0b, t0c, t0d⟩ := open_agg4 Try.underlying36 (by kernel_rfl) (by kernel_rfl) (hval 0 36 v0 rfl rfl) h0
  obtain ⟨bs0a, hs0a⟩ := open_floats Try.underlying34 Try.underlying22 (by kernel_rfl) t0a
  obtain ⟨bs0b, hs0b⟩ := open_floats Try.underlying34 Try.underlying22 (by kernel_rfl) t0b
  obtain ⟨bs0c, hs0c⟩ := open_floats Try.underlying34 Try.underlying22 (by kernel_rfl) t0c
  obtain ⟨bs0d, hs0d⟩ := open_floats Try.underlying34 Try.underlying22 (by kernel_rfl) t0d
  have hlt1 : ∀ x ∈ p1, x.block < W.heap.size := fun x hx => hW'.lt x (by simp [hx])
  have hk1 := h1
  obtain ⟨x1a, x1b, x1c, x1d, y1a, y1b, y1c, y1d, n1, rfl, rfl, rfl, t1a, t1b, t1c, t1d⟩ := open_agg4 Try.underlying36 (by kernel_rfl) (by kernel_rfl) (hval 1 36 v1 rfl rfl) h1
  obtain ⟨bs1a, hs1a⟩ := open_floats Try.underlying34 Try.underlying22 (by kernel_rfl) t1a
  obtain ⟨bs1b, hs1b⟩ := open_floats Try.underlying34 Try.underlying22 (by kernel_rfl) t1b
  obtain ⟨bs1c, hs1c⟩ := open_floats Try.underlying34 Try.underlying22 (by kernel_rfl) t1c
  obtain ⟨bs1d, hs1d⟩ := open_floats Try.underlying34 Try.underlying22 (by kernel_rfl) t1d
  clear hA0
  simp only [List.append_nil] at hW'
  refine (walk_FnExactSameRod (w := W) _ _ _ _ ⟨bs0a, bs0b, bs0c, bs0d⟩ ⟨hs0a, hs0b, hs0c, hs0d⟩ _ _ _ _ ⟨bs1a, bs1b, bs1c, bs1d⟩ ⟨hs1a, hs1b, hs1c, hs1d⟩).mono fun e W' ⟨he, hb⟩ => ?_
  subst he
  exact ⟨_, rfl, post_of_below (pa := (_ ++ (_ ++ []))) (pv := []) hW' (fun _ _ _ => (trodAll_cons_mk (shut_bool Try.underlying4 _) trodAll_mk0)) (fun sp hsp => (trodAll_cons_mk (trod_keep laidOut_FnExactSameRod (by kernel_rfl) (of_decide_eq_true (by kernel_rfl)) hk0 hb hlt0 (fun x hx => hsp x (by simp only [List.mem_append] at hx ⊢; rcases hx with hx | hx | hx | hx <;> simp [hx]))) (trodAll_cons_mk (trod_keep laidOut_FnExactSameRod (by kernel_rfl) (of_decide_eq_true (by kernel_rfl)) hk1 hb hlt1 (fun x hx => hsp x (by simp only [List.mem_append] at hx ⊢; rcases hx with hx | hx | hx | hx <;> simp [hx]))) trodAll_mk0))) (fun _ _ => rfl) (by simp) hb (ok_one (by kernel_rfl) rfl (okWide_bool_mk Try.underlying4 _))⟩

theorem own_FnExactSameRod : ownKnob Try.prog.godebug = none := by kernel_rfl
set_option maxRecDepth 100000 in
theorem lifted_FnExactSameRod (os : Os) (started : os.Started) (H : Type) (enc : TypeId × Value → H) :
    ReturnsInHanded {} Try.checked os 6 .any (Rows.fnExactSameRodSpec.pre6 enc Try.prog Try.f6 Rows.fnExactSameRodRow.domain false) (Rows.fnExactSameRodSpec.post enc Try.prog Try.f6 false true false false) := by
  refine returnsInHanded_of_change (C := Try.checked) own_FnExactSameRod started (by kernel_rfl) Try.func6
    (ChangeSpec.witness6 (enc := enc) (C := Try.checked) false ⟨#[], #[.agg #[.slice none 0 0, .slice none 0 0, .slice none 0 0, .slice none 0 0], .agg #[.slice none 0 0, .slice none 0 0, .slice none 0 0, .slice none 0 0]], []⟩ 8 (by kernel_rfl) (by kernel_rfl) (by kernel_rfl) (by kernel_rfl)) ?_
  intro W base args ds gs before hval hW _ _
  exact contract_FnExactSameRod H enc W base args ds gs before hval hW
theorem over_FnExactSameRod : Rows.fnExactSameRodRow.holds Try.pinned (OpenSpec.ofChange Rows.fnExactSameRodSpec) :=
  OpenClaim.holds_of_wide 6 Try.f6 rfl rfl rfl rfl rfl rfl rfl ⟨rfl, rfl, rfl, rfl, rfl⟩ rfl rfl rfl rfl rfl (by kernel_rfl) Try.func6 (by kernel_rfl)
    (of_decide_eq_true (by kernel_rfl)) (by unfold Func.isWrapper; first | (rw [if_pos (by decide +kernel)]; kernel_rfl) | (rw [if_neg (by decide +kernel)]; exact ⟨rfl, rfl⟩))
    (fun os started H enc _ => lifted_FnExactSameRod os started H enc)
theorem proved_FnExactSameRod : Rows.FnExactSameRodSaid := over_FnExactSameRod
#print axioms proved_FnExactSameRod
end Go.Proofs.Ytngkkhfbeepjnaa
