/-
  Rods with other warmths, at both sides.
-/
import Derived.Test.YtiolmffcmbcgmaaRods
namespace Go.Proofs.Ytiolmffcmbcgmaa
set_option linter.unusedVariables false
set_option linter.unusedSimpArgs false
open Go.RowKit Fl
attribute [local go_sem] run_store_float
attribute [local go_sem ↓] Go.wp_at_zero Go.wp_at_succ

set_option maxHeartbeats 1000000 in
theorem clone2_any (v : Value) (bs : List Nat) (h2 : bs.length ≤ 1048576) (w : World) (h : FSl .f32 w v bs) : Calls Try.prog 41 #[v] w (ROwn w bs) := by
  by_cases h1 : 1 ≤ bs.length
  · exact clone_any v bs h1 h2 w h
  obtain rfl : bs = [] := List.length_eq_zero_iff.1 (by omega)
  obtain ⟨ao, cap, rfl, m1, m2, m3, m4⟩ := h
  clear m4 m3 h1 h2
  cases ao with
  | none =>
    have heq := fun w' => Lib.run_eql_slice_nil (P := Try.prog) w' 22 33 none 0 cap 0 0 Try.underlying22
    have e0 : ([] : List Nat).length = 0 := rfl
    rw [e0]
    clear e0
    go_enter Try.func41, Try.ntmps41
    go_wp2_with fail
    go_ret
    exact ⟨_, rfl, osl_zero (Nat.le_refl _), Below.refl _ _⟩
  | some q =>
    obtain ⟨i0, hi, hz0, hz1, hz2⟩ := info_parts infoF
    have hown0 : (w.alloc (.cells #[] 33)).ownsRow w.heap.size 33 1 (.slice (some ⟨w.heap.size, 0, none⟩) 0 0) 0 [] :=
      World.ownsRow_made (base := w.heap.size) (e := 33) (size := 1) w #[] 0 (Nat.le_refl _) (Nat.zero_le _) rfl
    have heq := fun w' => Lib.run_eql_slice_nil (P := Try.prog) w' 22 33 (some q) 0 cap 0 0 Try.underlying22
    have e0 : ([] : List Nat).length = 0 := rfl
    rw [e0]
    clear e0
    unfold maxLen at m2
    go_enter Try.func41, Try.ntmps41
    go_wp2_with (at_builtin; refine wpList_append_own _ rfl _ _ 22 rfl w.heap.size 33 i0 (.float .f32 0) 1 4 Try.underlying22 hi hz0 hz1 hz2 rfl (by decide) _ _ _ rfl hown0 q 0 _ [] rfl ?c1 ?c2 ?c3 ?c4 ?c5 ?c6 ?_)
    case c1 => rfl
    case c2 => intro j u hj; simp at hj
    case c3 => intro u hu; cases hu
    case c4 => unfold maxLen; omega
    case c5 => omega
    case c6 => simp
    · intro v' w1 hown' hgrow _
      have hB : Below w.heap.size w w1 := Below.grown (by (repeat' first | assumption | exact Below.refl _ _ | refine B_drew ?_ _ | refine Below.drew ?_ | refine Below.alloc ?_ (by first | exact Nat.le_refl _ | (simp; done) | (simp; omega)) _)) hgrow (by simp) (fun g hg => by first | exact (hown0.lt g hg).1 | (simp [Value.ownBlock] at hg; omega))
      have hO := osl_own (xs := []) (n := 0) (by simpa using hown') rfl (fun b hb => by cases hb)
      clear hown' hgrow hown0 heq
      go_wp2_with fail
      go_ret
      exact ⟨_, rfl, hO, hB⟩
/-- The rod, or none. -/
def giveV (b : Bool) (v1 v2 v3 v4 : Value) : Value := if b then .agg #[v1, v2, v3, v4] else .agg #[.slice none 0 0, .slice none 0 0, .slice none 0 0, .slice none 0 0]
def RGive (w : World) (b : Bool) (v1 v2 v3 v4 : Value) (e : Ending) (w' : World) : Prop := e = .returned (.tuple #[giveV b v1 v2 v3 v4, .bool b]) ∧ Below w.heap.size w w'
set_option maxHeartbeats 4000000 in
theorem l02Give_any (v1 v2 v3 v4 : Value) (R : Rl) (w : World) (h : Rod4 w v1 v2 v3 v4 R) :
    Calls Try.prog 27 #[.agg #[v1, v2, v3, v4]] w (RGive w (okRod R) v1 v2 v3 v4) := by
  obtain ⟨a1, c1, rfl, q1⟩ := h.1.len
  obtain ⟨a2, c2, rfl, q2⟩ := h.2.1.len
  obtain ⟨a3, c3, rfl, q3⟩ := h.2.2.1.len
  obtain ⟨a4, c4, rfl, q4⟩ := h.2.2.2.len
  clear q1 q2 q3 q4
  have bB := (box4_alloc w 26 (.slice a1 R.a.length c1) (.slice a2 R.b.length c2) (.slice a3 R.c.length c3) (.slice a4 R.d.length c4)).alloc (.cells #[.slice none 0 0, .slice none 0 0, .slice none 0 0, .slice none 0 0] 26)
  have bZ := box4_alloc (w.alloc (.cells #[.slice a1 R.a.length c1, .slice a2 R.b.length c2, .slice a3 R.c.length c3, .slice a4 R.d.length c4] 26)) 26 (.slice none 0 0) (.slice none 0 0) (.slice none 0 0) (.slice none 0 0)
  have D0 : Below w.heap.size w ((w.alloc (.cells #[.slice a1 R.a.length c1, .slice a2 R.b.length c2, .slice a3 R.c.length c3, .slice a4 R.d.length c4] 26)).alloc (.cells #[.slice none 0 0, .slice none 0 0, .slice none 0 0, .slice none 0 0] 26)) := by (repeat' first | assumption | exact Below.refl _ _ | refine B_drew ?_ _ | refine Below.drew ?_ | refine Below.alloc ?_ (by first | exact Nat.le_refl _ | (simp; done) | (simp; omega)) _)
  rw [show (w.alloc (.cells #[.slice a1 R.a.length c1, .slice a2 R.b.length c2, .slice a3 R.c.length c3, .slice a4 R.d.length c4] 26)).heap.size = w.heap.size + 1 by simp] at bZ
  have hi := l02Is_any _ _ _ _ _ R _ bB (h.below D0)
  clear h
  generalize R.a.length = n1 at *
  generalize R.b.length = n2 at *
  generalize R.c.length = n3 at *
  generalize R.d.length = n4 at *
  cases hok : okRod R
  all_goals
    rw [hok] at hi
    have HI := Lib.hid hi
    clear hi hok
    go_enter Try.func27, Try.ntmps27
    go_wp2_with fail
    refine HI.out.mono ?_
    rintro e w1 ⟨n, rfl, rfl⟩
    have bZ1 := bZ.below (below_draws _ n)
    have bB1 := bB.below (below_draws _ n)
    have D1 := B_trans D0 (below_draws _ n)
    clear bZ bB D0 HI
    have hz1 := bZ1.2.2
    obtain ⟨⟨z0, z1, z2, z3⟩, zf, zl⟩ := bZ1
    obtain ⟨⟨p0, p1, p2, p3⟩, pf, pl⟩ := bB1
    go_wp2_with fail
  · refine bodyPost_ret (v := .tuple #[.agg #[.slice none 0 0, .slice none 0 0, .slice none 0 0, .slice none 0 0], .bool false]) (by simp [results, Try.results27, go_sem, z0, z1, z2, z3, zf, zl]) rfl ?_
    refine ⟨rfl, ?_⟩
    repeat (refine Below.setCell ?_ (by first | (simp; done) | (simp; omega)) _)
    exact D1
  · refine bodyPost_ret (v := .tuple #[.agg #[.slice a1 n1 c1, .slice a2 n2 c2, .slice a3 n3 c3, .slice a4 n4 c4], .bool true]) (by simp [results, Try.results27, go_sem, z0, z1, z2, z3, zf, zl]) rfl ?_
    refine ⟨rfl, ?_⟩
    repeat (refine Below.setCell ?_ (by first | (simp; done) | (simp; omega)) _)
    exact D1
set_option maxHeartbeats 4000000 in
theorem checkedRod_any (v1 v2 v3 v4 : Value) (R : Rl) (w : World) (h : Rod4 w v1 v2 v3 v4 R) :
    Calls Try.prog 32 #[.agg #[v1, v2, v3, v4]] w (RGive w (okRod R) v1 v2 v3 v4) := by
  obtain ⟨a1, c1, rfl, q1⟩ := h.1.len
  obtain ⟨a2, c2, rfl, q2⟩ := h.2.1.len
  obtain ⟨a3, c3, rfl, q3⟩ := h.2.2.1.len
  obtain ⟨a4, c4, rfl, q4⟩ := h.2.2.2.len
  clear q1 q2 q3 q4
  have bB := (box4_alloc w 26 (.slice a1 R.a.length c1) (.slice a2 R.b.length c2) (.slice a3 R.c.length c3) (.slice a4 R.d.length c4)).alloc (.cells #[.slice none 0 0, .slice none 0 0, .slice none 0 0, .slice none 0 0] 26)
  have bZ := box4_alloc (w.alloc (.cells #[.slice a1 R.a.length c1, .slice a2 R.b.length c2, .slice a3 R.c.length c3, .slice a4 R.d.length c4] 26)) 26 (.slice none 0 0) (.slice none 0 0) (.slice none 0 0) (.slice none 0 0)
  have D0 : Below w.heap.size w ((w.alloc (.cells #[.slice a1 R.a.length c1, .slice a2 R.b.length c2, .slice a3 R.c.length c3, .slice a4 R.d.length c4] 26)).alloc (.cells #[.slice none 0 0, .slice none 0 0, .slice none 0 0, .slice none 0 0] 26)) := by (repeat' first | assumption | exact Below.refl _ _ | refine B_drew ?_ _ | refine Below.drew ?_ | refine Below.alloc ?_ (by first | exact Nat.le_refl _ | (simp; done) | (simp; omega)) _)
  rw [show (w.alloc (.cells #[.slice a1 R.a.length c1, .slice a2 R.b.length c2, .slice a3 R.c.length c3, .slice a4 R.d.length c4] 26)).heap.size = w.heap.size + 1 by simp] at bZ
  have hi := iValidRod_any _ _ _ _ R _ (h.below D0)
  clear h
  generalize R.a.length = n1 at *
  generalize R.b.length = n2 at *
  generalize R.c.length = n3 at *
  generalize R.d.length = n4 at *
  cases hok : okRod R
  all_goals
    rw [hok] at hi
    have HI := Lib.hid hi
    clear hi hok
    go_enter Try.func32, Try.ntmps32
    go_wp2_with fail
    refine HI.out.mono ?_
    rintro e w1 ⟨rfl, hb1⟩
    have bZ1 := bZ.below hb1
    have bB1 := bB.below hb1
    have D1 := B_trans D0 hb1
    clear bZ bB D0 HI
    have hz1 := bZ1.2.2
    obtain ⟨⟨z0, z1, z2, z3⟩, zf, zl⟩ := bZ1
    obtain ⟨⟨p0, p1, p2, p3⟩, pf, pl⟩ := bB1
    go_wp2_with fail
  · refine bodyPost_ret (v := .tuple #[.agg #[.slice none 0 0, .slice none 0 0, .slice none 0 0, .slice none 0 0], .bool false]) (by simp [results, Try.results32, go_sem, z0, z1, z2, z3, zf, zl]) rfl ?_
    refine ⟨rfl, ?_⟩
    repeat (refine Below.setCell ?_ (by first | (simp; done) | (simp; omega)) _)
    exact D1
  · refine bodyPost_ret (v := .tuple #[.agg #[.slice a1 n1 c1, .slice a2 n2 c2, .slice a3 n3 c3, .slice a4 n4 c4], .bool true]) (by simp [results, Try.results32, go_sem, z0, z1, z2, z3, zf, zl]) rfl ?_
    refine ⟨rfl, ?_⟩
    repeat (refine Below.setCell ?_ (by first | (simp; done) | (simp; omega)) _)
    exact D1
set_option maxHeartbeats 16000000 in
theorem l02Own_any (p : Nat) (v1 v2 v3 v4 : Value) (R : Rl) (hL : R.lens) (w : World) (hB : Box4 w p v1 v2 v3 v4) (h : Rod4 w v1 v2 v3 v4 R) :
    Calls Try.prog 33 #[.pointer (some ⟨p, 0, none⟩)] w (ORod w R) := by
  have bB1 := hB.alloc (.cells #[.slice none 0 0, .slice none 0 0, .slice none 0 0, .slice none 0 0] 26)
  have bZ1 := box4_alloc w 26 (.slice none 0 0) (.slice none 0 0) (.slice none 0 0) (.slice none 0 0)
  have D1 : Below w.heap.size w (w.alloc (.cells #[.slice none 0 0, .slice none 0 0, .slice none 0 0, .slice none 0 0] 26)) := by (repeat' first | assumption | exact Below.refl _ _ | refine B_drew ?_ _ | refine Below.drew ?_ | refine Below.alloc ?_ (by first | exact Nat.le_refl _ | (simp; done) | (simp; omega)) _)
  have hp := hB.2.2
  have BK1 := Lib.hid (fun w' (h' : Below w.heap.size w w') => l02Copy_any v1 R.a hL.1 (by have := hL.2.1; omega) w' (h.1.below h'))
  have BK2 := Lib.hid (fun w' (h' : Below w.heap.size w w') => l02Copy_any v2 R.b (by have := hL.2.2.1; have := hL.1; omega) (by have := hL.2.2.1; have := hL.2.1; omega) w' (h.2.1.below h'))
  have BK3 := Lib.hid (fun w' (h' : Below w.heap.size w w') => l02Copy_any v3 R.c (by have := hL.2.2.2.1; have := hL.1; omega) (by have := hL.2.2.2.1; have := hL.2.1; omega) w' (h.2.2.1.below h'))
  have BK4 := Lib.hid (fun w' (h' : Below w.heap.size w w') => l02Copy_any v4 R.d (by have := hL.2.2.2.2; have := hL.1; omega) (by have := hL.2.2.2.2; have := hL.2.1; omega) w' (h.2.2.2.below h'))
  clear hL h hB
  go_enter Try.func33, Try.ntmps33
  go_upto_region 1 with fail
  generalize w.alloc (.cells #[.slice none 0 0, .slice none 0 0, .slice none 0 0, .slice none 0 0] 26) = W at *
  have cB := bB1.1
  obtain ⟨p0, p1, p2, p3⟩ := cB
  have hpne : p ≠ w.heap.size := by omega
  have hpne2 : w.heap.size ≠ p := by omega
  go_region_held3 (fun w' => w'.cell? ⟨p, 0, none⟩ = some v1 ∧ w'.cell? ⟨p, 1, none⟩ = some v2 ∧ w'.cell? ⟨p, 2, none⟩ = some v3 ∧ w'.cell? ⟨p, 3, none⟩ = some v4)
      (first | (refine ⟨?_, ?_, ?_, ?_⟩ <;> with_reducible assumption) | go_keep)
      (first
        | (go_at_call 34; (with_reducible refine (BK1.out W.drew D1.drew).mono ?_); rintro e x1 ⟨u1, rfl, o1, k1⟩; obtain ⟨a1', c1', rfl, _⟩ := OSf.len o1; have E1 := B_trans (w := w) D1.drew k1; have y1 := bB1.below (undrew k1); have zz1 := bZ1.below (undrew k1); have cy1 := y1.1; obtain ⟨y10, y11, y12, y13⟩ := cy1)
        | (go_at_call 34; (with_reducible refine (BK2.out _ E1).mono ?_); rintro e x2 ⟨u2, rfl, o2, k2⟩; obtain ⟨a2', c2', rfl, _⟩ := OSf.len o2; have E2 := B_trans (w := w) E1 k2; have y2 := y1.below k2; have zz2 := zz1.below k2; have cy2 := y2.1; obtain ⟨y20, y21, y22, y23⟩ := cy2)
        | (go_at_call 34; (with_reducible refine (BK3.out _ E2).mono ?_); rintro e x3 ⟨u3, rfl, o3, k3⟩; obtain ⟨a3', c3', rfl, _⟩ := OSf.len o3; have E3 := B_trans (w := w) E2 k3; have y3 := y2.below k3; have zz3 := zz2.below k3; have cy3 := y3.1; obtain ⟨y30, y31, y32, y33⟩ := cy3)
        | (go_at_call 34; (with_reducible refine (BK4.out _ E3).mono ?_); rintro e x4 ⟨u4, rfl, o4, k4⟩; obtain ⟨a4', c4', rfl, _⟩ := OSf.len o4; have E4 := B_trans (w := w) E3 k4; have y4 := y3.below k4; have zz4 := zz3.below k4; have cy4 := y4.1; obtain ⟨y40, y41, y42, y43⟩ := cy4; obtain ⟨⟨z0, z1, z2, z3⟩, zf, zl⟩ := zz4))
  rename_i hHeld
  clear hHeld
  clear y1 y2 y3 y4 zz1 zz2 zz3 y10 y11 y12 y13 y20 y21 y22 y23 y30 y31 y32 y33 y40 y41 y42 y43 p0 p1 p2 p3
  have O1 := ((o1.below k2).below k3).below k4
  have O2 := (o2.below k3).below k4
  have O3 := o3.below k4
  have s1 := k1.size
  have s2 := k2.size
  have s3 := k3.size
  have s4 := k4.size
  have sW := bZ1.2.2
  have sD : W.drew.heap.size = W.heap.size := rfl
  have sw := D1.size
  clear o1 o2 o3 k2 k3 k4 E1 E2 E3 BK1 BK2 BK3 BK4 bB1 bZ1
  go_wp2_with fail
  refine bodyPost_ret (v := .agg #[.slice a1' R.a.length c1', .slice a2' R.b.length c2', .slice a3' R.c.length c3', .slice a4' R.d.length c4']) (by simp [results, Try.results33, go_sem, z0, z1, z2, z3, zf, zl]) rfl ?_
  have FF := ((((Frm.refl (w.heap.size) (w.heap.size + 1) x4).set (a := ⟨w.heap.size, 0, none⟩) (Nat.le_refl _) (Nat.lt_succ_self _) (.slice a1' R.a.length c1')).set (a := ⟨w.heap.size, 1, none⟩) (Nat.le_refl _) (Nat.lt_succ_self _) (.slice a2' R.b.length c2')).set (a := ⟨w.heap.size, 2, none⟩) (Nat.le_refl _) (Nat.lt_succ_self _) (.slice a3' R.c.length c3')).set (a := ⟨w.heap.size, 3, none⟩) (Nat.le_refl _) (Nat.lt_succ_self _) (.slice a4' R.d.length c4')
  refine ⟨_, _, _, _, _, _, _, _, W.drew.heap.size, x1.heap.size, x2.heap.size, x3.heap.size, x4.heap.size, rfl, ⟨⟨s1, s2, s3, s4, FF.size⟩, ?_, ?_, ?_, ?_⟩, by omega, ?_⟩
  · exact O1.frame FF (by omega)
  · exact O2.frame FF (by omega)
  · exact O3.frame FF (by omega)
  · exact o4.frame FF (by omega)
  · exact E4.trans (FF.below (by omega) |>.mono (by omega))
def warmR (R : Rl) (bs : List Nat) : Rl := ⟨R.a, R.b, R.c, bs⟩
theorem warm_len {R : Rl} {bs : List Nat} (h : okRod R = true) (h' : okRod (warmR R bs) = true) : bs.length = R.d.length := by
  have h1 := (okRod_iff h).1.2.2.2.2
  have h2 := (okRod_iff h').1.2.2.2.2
  exact h2.trans h1.symm
set_option maxHeartbeats 16000000 in
theorem sSetWarms_any (v1 v2 v3 v4 v5 : Value) (R : Rl) (bs : List Nat) (hbs : bs.length ≤ 1048576) (w : World) (h : Rod4 w v1 v2 v3 v4 R) (h5 : FSl .f32 w v5 bs) :
    Calls Try.prog 15 #[.agg #[v1, v2, v3, v4], v5] w (RRod w (okRod R && okRod (warmR R bs)) (if okRod R && okRod (warmR R bs) then warmR R bs else zeroR)) := by
  have bB := (box4_alloc w 26 v1 v2 v3 v4).alloc (.cells #[.slice none 0 0, .slice none 0 0, .slice none 0 0, .slice none 0 0] 26)
  have bZ := box4_alloc (w.alloc (.cells #[v1, v2, v3, v4] 26)) 26 (.slice none 0 0) (.slice none 0 0) (.slice none 0 0) (.slice none 0 0)
  have D0 : Below w.heap.size w ((w.alloc (.cells #[v1, v2, v3, v4] 26)).alloc (.cells #[.slice none 0 0, .slice none 0 0, .slice none 0 0, .slice none 0 0] 26)) := by (repeat' first | assumption | exact Below.refl _ _ | refine B_drew ?_ _ | refine Below.drew ?_ | refine Below.alloc ?_ (by first | exact Nat.le_refl _ | (simp; done) | (simp; omega)) _)
  rw [show (w.alloc (.cells #[v1, v2, v3, v4] 26)).heap.size = w.heap.size + 1 by simp] at bZ
  have hi := l02Is_any _ _ _ _ _ R _ bB (h.below D0)
  obtain ⟨a5, c5, rfl, m5⟩ := h5.len
  obtain ⟨a4, c4, rfl, m4⟩ := h.2.2.2.len
  cases hok : okRod R
  · rw [hok] at hi
    have HI := Lib.hid hi
    simp only [Bool.false_and, Bool.false_eq_true, if_false]
    clear h5
    go_enter Try.func15, Try.ntmps15
    go_wp2_with fail
    refine HI.out.mono ?_
    rintro e w1 ⟨n, rfl, rfl⟩
    have bZ1 := bZ.below (below_draws _ n)
    have D1 := B_trans D0 (below_draws _ n)
    clear bZ bB D0 hi HI
    obtain ⟨⟨z0, z1, z2, z3⟩, zf, zl⟩ := bZ1
    go_wp2_with fail
    refine bodyPost_ret (v := .tuple #[.agg #[.slice none 0 0, .slice none 0 0, .slice none 0 0, .slice none 0 0], .bool false]) (by simp [results, Try.results15, go_sem, *]) rfl ?_
    refine ⟨_, _, _, _, _, _, _, _, _, rfl, own4_zero (B := w.heap.size) ?_, Nat.le_refl _, ?_⟩
    · simp [World.setCell]; omega
    · repeat (refine Below.setCell ?_ (by first | (simp; done) | (simp; omega)) _)
      exact D1
  by_cases hlen : ¬ bs.length = R.d.length
  · have hok2 : okRod (warmR R bs) = false := by
      cases hk : okRod (warmR R bs)
      · rfl
      · exact absurd (warm_len hok hk) hlen
    rw [hok] at hi
    have HI := Lib.hid hi
    rw [hok2]
    simp only [Bool.and_false, Bool.false_eq_true, if_false]
    have hne : ((bs.length : Int) == (R.d.length : Int)) = false := by simp; omega
    have hne2 : ((bs.length : Int) != (R.d.length : Int)) = true := by simp; omega
    clear h5 hlen hok2 hok h
    generalize R.d.length = rd at *
    generalize bs.length = nb at *
    go_enter Try.func15, Try.ntmps15
    go_wp2_with fail
    refine HI.out.mono ?_
    rintro e w1 ⟨n, rfl, rfl⟩
    have bZ1 := bZ.below (below_draws _ n)
    have bB1 := bB.below (below_draws _ n)
    have D1 := B_trans D0 (below_draws _ n)
    clear bZ bB D0 hi HI
    obtain ⟨⟨z0, z1, z2, z3⟩, zf, zl⟩ := bZ1
    obtain ⟨⟨p0, p1, p2, p3⟩, pf, pl⟩ := bB1
    go_wp2_with fail
    refine bodyPost_ret (v := .tuple #[.agg #[.slice none 0 0, .slice none 0 0, .slice none 0 0, .slice none 0 0], .bool false]) (by simp [results, Try.results15, go_sem, *]) rfl ?_
    refine ⟨_, _, _, _, _, _, _, _, _, rfl, own4_zero (B := w.heap.size) ?_, Nat.le_refl _, ?_⟩
    · simp [World.setCell]; omega
    · repeat (refine Below.setCell ?_ (by first | (simp; done) | (simp; omega)) _)
      exact D1
  · rw [hok] at hi
    have HI := Lib.hid hi
    have hL := (okRod_iff hok).1
    have hb1 : 1 ≤ bs.length := by have := hL.2.2.2.2; have := hL.1; omega
    have OWN := Lib.hid (fun w' hB' h' => l02Own_any w.heap.size v1 v2 v3 (.slice a4 R.d.length c4) R hL w' hB' h')
    have CPY := Lib.hid (fun w' (h' : Below w.heap.size w w') => l02Copy_any (.slice a5 bs.length c5) bs hb1 hbs w' (h5.below h'))
    have HR := Lib.hid (fun w' (h' : Below w.heap.size w w') => h.below h')
    simp only [Bool.true_and]
    clear hL hok h h5
    have HG := Lib.hid (fun a1 a2 a3 a4 w h => l02Give_any a1 a2 a3 a4 (warmR R bs) w h)
    have hne : ((bs.length : Int) == (R.d.length : Int)) = true := by simp; omega
    have hne2 : ((bs.length : Int) != (R.d.length : Int)) = false := by simp; omega
    clear hlen
    generalize okRod (warmR R bs) = q at *
    cases q
    all_goals
      simp only [Bool.false_eq_true, if_false, if_true]
      go_enter Try.func15, Try.ntmps15
      go_wp2_with fail
      refine HI.out.mono ?_
      rintro e w1 ⟨n, rfl, rfl⟩
      have bZ1 := bZ.below (below_draws _ n)
      have bB1 := bB.below (below_draws _ n)
      have D1 := B_trans D0 (below_draws _ n)
      clear bZ bB D0 hi HI
      have B1 := bB1
      obtain ⟨⟨p0, p1, p2, p3⟩, pf, pl⟩ := B1
      go_wp2_with fail
      clear p0 p1 p2 p3 pf pl
      refine (OWN.out _ bB1 (HR.out _ D1)).mono ?_
      rintro e x1 ⟨a0', c0', a1', c1', a2', c2', a3', c3', B1, B2, B3, B4, B5, rfl, ⟨hs, o1, o2, o3, o4⟩, hB, k1⟩
      have hz : w.heap.size + 1 < B1 := by have := bZ1.2.2; omega
      replace bZ1 := bZ1.below k1
      replace D1 := B_trans D1 k1
      clear k1 bB1 hB OWN HR o4
      go_wp2_with fail
      have bq := box4_alloc x1 26 (.slice a0' R.a.length c0') (.slice a1' R.b.length c1') (.slice a2' R.c.length c2') (.slice a3' R.d.length c3')
      have hA : Below x1.heap.size x1 (x1.alloc (.cells #[.slice a0' R.a.length c0', .slice a1' R.b.length c1', .slice a2' R.c.length c2', .slice a3' R.d.length c3'] 26)) := (Below.refl _ _).alloc (Nat.le_refl _) _
      replace o1 := o1.below hA
      replace o2 := o2.below hA
      replace o3 := o3.below hA
      replace bZ1 := bZ1.below hA
      replace D1 := B_trans D1 hA
      clear hA
      generalize x1.heap.size = pq at *
      have hq5 := hs.2.2.2.2
      generalize x1.alloc (.cells #[.slice a0' R.a.length c0', .slice a1' R.b.length c1', .slice a2' R.c.length c2', .slice a3' R.d.length c3'] 26) = y1 at *
      refine (CPY.out _ D1).mono ?_
      rintro e x2 ⟨u5, rfl, o5, k2⟩
      have hq6 := bq.2.2
      have hq7 := k2.size
      replace o1 := o1.below k2
      replace o2 := o2.below k2
      replace o3 := o3.below k2
      replace bZ1 := bZ1.below k2
      replace bq := bq.below k2
      replace D1 := B_trans D1 k2
      clear k2 CPY
      obtain ⟨a5', c5', rfl, m6⟩ := OSf.len o5
      clear m6
      have B1' := bq
      obtain ⟨⟨p0, p1, p2, p3⟩, pf, pl⟩ := B1'
      go_wp2_with fail
      have FF := (Frm.refl pq (pq + 1) x2).set (a := ⟨pq, 3, none⟩) (Nat.le_refl _) (Nat.lt_succ_self _) (.slice a5' bs.length c5')
      have hX := FF.size
      replace o1 := o1.frame FF (by omega)
      replace o2 := o2.frame FF (by omega)
      replace o3 := o3.frame FF (by omega)
      replace o5 := o5.frame FF (by omega)
      replace bZ1 := bZ1.frm FF (by omega)
      replace D1 := D1.trans ((FF.below (by omega)).mono (by have := D1.size; omega))
      clear FF p0 p1 p2 p3 pf pl bq
      generalize x2.setCell ⟨pq, 3, none⟩ (.slice a5' bs.length c5') = y2 at *
      refine (HG.out _ _ _ _ _ ⟨OSl.fsl o1, OSl.fsl o2, OSl.fsl o3, OSl.fsl o5⟩).mono ?_
      rintro e x3 ⟨rfl, k3⟩
      simp only [giveV, Bool.false_eq_true, if_false, if_true]
      replace o1 := OSf.below o1 k3
      replace o2 := OSf.below o2 k3
      replace o3 := OSf.below o3 k3
      replace o5 := OSf.below o5 k3
      replace bZ1 := bZ1.below k3
      replace D1 := B_trans D1 k3
      have hk3 := k3.size
      clear k3 HG hne hne2
      obtain ⟨⟨z0, z1, z2, z3⟩, zf, zl⟩ := bZ1
      go_wp2_with fail
    · have z1 := D1.size
      refine bodyPost_ret (v := .tuple #[.agg #[.slice none 0 0, .slice none 0 0, .slice none 0 0, .slice none 0 0], .bool false]) (by simp [results, Try.results15, go_sem, *]) rfl ?_
      refine ⟨_, _, _, _, _, _, _, _, _, rfl, own4_zero (B := w.heap.size) ?_, Nat.le_refl _, ?_⟩
      · simp [World.setCell]; omega
      · repeat (refine Below.setCell ?_ (by first | (simp; done) | (simp; omega)) _)
        exact D1
    · refine bodyPost_ret (v := .tuple #[.agg #[.slice a0' R.a.length c0', .slice a1' R.b.length c1', .slice a2' R.c.length c2', .slice a5' bs.length c5'], .bool true]) (by simp [results, Try.results15, go_sem, z0, z1, z2, z3, zf, zl]) rfl ?_
      have FF := ((((Frm.refl (w.heap.size + 1) (w.heap.size + 2) x3).set (a := ⟨w.heap.size + 1, 0, none⟩) (Nat.le_refl _) (Nat.lt_succ_self _) (.slice a0' R.a.length c0')).set (a := ⟨w.heap.size + 1, 1, none⟩) (Nat.le_refl _) (Nat.lt_succ_self _) (.slice a1' R.b.length c1')).set (a := ⟨w.heap.size + 1, 2, none⟩) (Nat.le_refl _) (Nat.lt_succ_self _) (.slice a2' R.c.length c2')).set (a := ⟨w.heap.size + 1, 3, none⟩) (Nat.le_refl _) (Nat.lt_succ_self _) (.slice a5' bs.length c5')
      have hfs := FF.size
      replace o1 := OSf.frame o1 FF (by omega)
      replace o2 := OSf.frame o2 FF (by omega)
      replace o3 := OSf.frame o3 FF (by omega)
      replace o5 := OSf.frame o5 FF (by omega)
      refine ⟨_, _, _, _, B1, B2, B3, B4, x2.heap.size, rfl, ⟨⟨hs.1, hs.2.1, hs.2.2.1, by omega, by omega⟩, o1, o2, o3, OSl.up o5 (by omega) (Nat.le_refl _) (by omega)⟩, by omega, ?_⟩
      exact D1.trans ((FF.below (by omega)).mono (by omega))
theorem rod4_mk {w : World} {v1 v2 v3 v4 : Value} {R : Rl} {bs : List Nat} (h1 : FSl .f32 w v1 R.a) (h2 : FSl .f32 w v2 R.b) (h3 : FSl .f32 w v3 R.c) (h4 : FSl .f32 w v4 bs) : Rod4 w v1 v2 v3 v4 (warmR R bs) := ⟨h1, h2, h3, h4⟩
set_option maxHeartbeats 32000000 in
theorem withWarms_any (v1 v2 v3 v4 v5 : Value) (R : Rl) (hL : R.lens) (bs : List Nat) (hbs : bs.length ≤ 1048576) (w : World) (h : Rod4 w v1 v2 v3 v4 R) (h5 : FSl .f32 w v5 bs) :
    Calls Try.prog 35 #[.agg #[v1, v2, v3, v4], v5] w (RRod w (okRod (warmR R bs)) (if okRod (warmR R bs) then warmR R bs else zeroR)) := by
  have bB1 := (box4_alloc w 26 v1 v2 v3 v4).alloc (.cells #[.slice none 0 0, .slice none 0 0, .slice none 0 0, .slice none 0 0] 26)
  have bZ1 := box4_alloc (w.alloc (.cells #[v1, v2, v3, v4] 26)) 26 (.slice none 0 0) (.slice none 0 0) (.slice none 0 0) (.slice none 0 0)
  have D1 : Below w.heap.size w ((w.alloc (.cells #[v1, v2, v3, v4] 26)).alloc (.cells #[.slice none 0 0, .slice none 0 0, .slice none 0 0, .slice none 0 0] 26)) := by (repeat' first | assumption | exact Below.refl _ _ | refine B_drew ?_ _ | refine Below.drew ?_ | refine Below.alloc ?_ (by first | exact Nat.le_refl _ | (simp; done) | (simp; omega)) _)
  rw [show (w.alloc (.cells #[v1, v2, v3, v4] 26)).heap.size = w.heap.size + 1 by simp] at bZ1
  have BK1 := Lib.hid (fun w' (h' : Below w.heap.size w w') => clone2_any v1 R.a (by have := hL.2.1; omega) w' (h.1.below h'))
  have BK2 := Lib.hid (fun w' (h' : Below w.heap.size w w') => clone2_any v2 R.b (by have := hL.2.2.1; have := hL.2.1; omega) w' (h.2.1.below h'))
  have BK3 := Lib.hid (fun w' (h' : Below w.heap.size w w') => clone2_any v3 R.c (by have := hL.2.2.2.1; have := hL.2.1; omega) w' (h.2.2.1.below h'))
  have BK4 := Lib.hid (fun w' (h' : Below w.heap.size w w') => clone2_any v5 bs hbs w' (h5.below h'))
  clear hL h h5
  have hg := fun a1 a2 a3 a4 w h => checkedRod_any a1 a2 a3 a4 (warmR R bs) w h
  unfold RGive giveV at hg
  generalize okRod (warmR R bs) = q at *
  cases q
  all_goals
    simp only [Bool.false_eq_true, if_false, if_true] at hg ⊢
    have HG := Lib.hid hg
    clear hg
    go_enter Try.func35, Try.ntmps35
    go_upto_region 1 with fail
    generalize (w.alloc (.cells #[v1, v2, v3, v4] 26)).alloc (.cells #[.slice none 0 0, .slice none 0 0, .slice none 0 0, .slice none 0 0] 26) = W at *
    have cB := bB1.1
    obtain ⟨p0, p1, p2, p3⟩ := cB
    go_region_held3 (fun w' => w'.cell? ⟨w.heap.size, 0, none⟩ = some v1 ∧ w'.cell? ⟨w.heap.size, 1, none⟩ = some v2 ∧ w'.cell? ⟨w.heap.size, 2, none⟩ = some v3 ∧ w'.cell? ⟨w.heap.size, 3, none⟩ = some v4)
      (first | (refine ⟨?_, ?_, ?_, ?_⟩ <;> with_reducible assumption) | go_keep)
      (first
        | (go_at_call 41; (with_reducible refine (BK1.out W.drew D1.drew).mono ?_); rintro e x1 ⟨u1, rfl, o1, k1⟩; obtain ⟨a1', c1', rfl, _⟩ := OSf.len o1; have E1 := B_trans (w := w) D1.drew k1; have y1 := bB1.below (undrew k1); have zz1 := bZ1.below (undrew k1); have cy1 := y1.1; obtain ⟨y10, y11, y12, y13⟩ := cy1)
        | (go_at_call 41; (with_reducible refine (BK2.out _ E1).mono ?_); rintro e x2 ⟨u2, rfl, o2, k2⟩; obtain ⟨a2', c2', rfl, _⟩ := OSf.len o2; have E2 := B_trans (w := w) E1 k2; have y2 := y1.below k2; have zz2 := zz1.below k2; have cy2 := y2.1; obtain ⟨y20, y21, y22, y23⟩ := cy2)
        | (go_at_call 41; (with_reducible refine (BK3.out _ E2).mono ?_); rintro e x3 ⟨u3, rfl, o3, k3⟩; obtain ⟨a3', c3', rfl, _⟩ := OSf.len o3; have E3 := B_trans (w := w) E2 k3; have y3 := y2.below k3; have zz3 := zz2.below k3; have cy3 := y3.1; obtain ⟨y30, y31, y32, y33⟩ := cy3)
        | (go_at_call 41; (with_reducible refine (BK4.out _ E3).mono ?_); rintro e x4 ⟨u4, rfl, o4, k4⟩; obtain ⟨a4', c4', rfl, _⟩ := OSf.len o4; have E4 := B_trans (w := w) E3 k4; have y4 := y3.below k4; have zz4 := zz3.below k4; have cy4 := y4.1; obtain ⟨y40, y41, y42, y43⟩ := cy4)
        | (go_at_call 32; have r4 := rod4_mk (R := R) (OSl.fsl (((o1.below k2).below k3).below k4)) (OSl.fsl ((o2.below k3).below k4)) (OSl.fsl (o3.below k4)) (OSl.fsl o4); (with_reducible refine (HG.out _ _ _ _ x4 r4).mono ?_); clear r4; rintro e x5 ⟨rfl, k5⟩; have E5 := B_trans (w := w) E4 k5; have y5 := y4.below k5; have zz5 := zz4.below k5; have cy5 := y5.1; obtain ⟨y50, y51, y52, y53⟩ := cy5; obtain ⟨⟨z0, z1, z2, z3⟩, zf, zl⟩ := zz5))
    rename_i hHeld
    clear hHeld
    clear y1 y2 y3 y4 y5 zz1 zz2 zz3 zz4 y10 y11 y12 y13 y20 y21 y22 y23 y30 y31 y32 y33 y40 y41 y42 y43 y50 y51 y52 y53 p0 p1 p2 p3
    have O1 := (((o1.below k2).below k3).below k4).below k5
    have O2 := ((o2.below k3).below k4).below k5
    have O3 := (o3.below k4).below k5
    have O4 := o4.below k5
    have s1 := k1.size
    have s2 := k2.size
    have s3 := k3.size
    have s4 := k4.size
    have s5 := k5.size
    have sW := bZ1.2.2
    have sD : W.drew.heap.size = W.heap.size := rfl
    have sw := D1.size
    clear o1 o2 o3 o4 k2 k3 k4 k5 E1 E2 E3 E4 BK1 BK2 BK3 BK4 bB1 bZ1 HG
    go_wp2_with fail
  · refine bodyPost_ret (v := .tuple #[.agg #[.slice none 0 0, .slice none 0 0, .slice none 0 0, .slice none 0 0], .bool false]) (by simp [results, Try.results35, go_sem, z0, z1, z2, z3, zf, zl]) rfl ?_
    refine ⟨_, _, _, _, _, _, _, _, _, rfl, own4_zero (B := w.heap.size) ?_, Nat.le_refl _, ?_⟩
    · simp [World.setCell]; omega
    · repeat (refine Below.setCell ?_ (by first | (simp; done) | (simp; omega)) _)
      exact E5
  · refine bodyPost_ret (v := .tuple #[.agg #[.slice a1' R.a.length c1', .slice a2' R.b.length c2', .slice a3' R.c.length c3', .slice a4' bs.length c4'], .bool true]) (by simp [results, Try.results35, go_sem, z0, z1, z2, z3, zf, zl]) rfl ?_
    have FF := ((((Frm.refl (w.heap.size + 1) (w.heap.size + 1 + 1) x5).set (a := ⟨w.heap.size + 1, 0, none⟩) (Nat.le_refl _) (Nat.lt_succ_self _) (.slice a1' R.a.length c1')).set (a := ⟨w.heap.size + 1, 1, none⟩) (Nat.le_refl _) (Nat.lt_succ_self _) (.slice a2' R.b.length c2')).set (a := ⟨w.heap.size + 1, 2, none⟩) (Nat.le_refl _) (Nat.lt_succ_self _) (.slice a3' R.c.length c3')).set (a := ⟨w.heap.size + 1, 3, none⟩) (Nat.le_refl _) (Nat.lt_succ_self _) (.slice a4' bs.length c4')
    refine ⟨_, _, _, _, W.drew.heap.size, x1.heap.size, x2.heap.size, x3.heap.size, x4.heap.size, rfl, ⟨⟨s1, s2, s3, s4, Nat.le_trans s5 FF.size⟩, ?_, ?_, ?_, ?_⟩, by omega, ?_⟩
    · exact OSf.frame O1 FF (by omega)
    · exact OSf.frame O2 FF (by omega)
    · exact OSf.frame O3 FF (by omega)
    · exact OSf.frame O4 FF (by omega)
    · exact E5.trans (FF.below (by omega) |>.mono (by omega))
set_option maxHeartbeats 8000000 in
theorem iSetWarms_any (v1 v2 v3 v4 v5 : Value) (R : Rl) (bs : List Nat) (hbs : bs.length ≤ 1048576) (w : World) (h : Rod4 w v1 v2 v3 v4 R) (h5 : FSl .f32 w v5 bs) :
    Calls Try.prog 17 #[.agg #[v1, v2, v3, v4], v5] w (RRod w (okRod R && okRod (warmR R bs)) (if okRod R && okRod (warmR R bs) then warmR R bs else zeroR)) := by
  have bB := (box4_alloc w 26 v1 v2 v3 v4).alloc (.cells #[.slice none 0 0, .slice none 0 0, .slice none 0 0, .slice none 0 0] 26)
  have bZ := box4_alloc (w.alloc (.cells #[v1, v2, v3, v4] 26)) 26 (.slice none 0 0) (.slice none 0 0) (.slice none 0 0) (.slice none 0 0)
  have D0 : Below w.heap.size w ((w.alloc (.cells #[v1, v2, v3, v4] 26)).alloc (.cells #[.slice none 0 0, .slice none 0 0, .slice none 0 0, .slice none 0 0] 26)) := by (repeat' first | assumption | exact Below.refl _ _ | refine B_drew ?_ _ | refine Below.drew ?_ | refine Below.alloc ?_ (by first | exact Nat.le_refl _ | (simp; done) | (simp; omega)) _)
  rw [show (w.alloc (.cells #[v1, v2, v3, v4] 26)).heap.size = w.heap.size + 1 by simp] at bZ
  have hi := iValidRod_any _ _ _ _ R _ (h.below D0)
  have HH := Lib.hid (fun w' (h' : Below w.heap.size w w') => And.intro (h.below h') (h5.below h'))
  obtain ⟨a5, c5, rfl, m5⟩ := h5.len
  cases hok : okRod R
  · rw [hok] at hi
    have HI := Lib.hid hi
    simp only [Bool.false_and, Bool.false_eq_true, if_false]
    clear h5 HH
    go_enter Try.func17, Try.ntmps17
    go_wp2_with fail
    refine HI.out.mono ?_
    rintro e w1 ⟨rfl, hb1⟩
    have bZ1 := bZ.below hb1
    have D1 := B_trans D0 hb1
    clear bZ bB D0 hi HI
    have z1' := D1.size
    obtain ⟨⟨z0, z1, z2, z3⟩, zf, zl⟩ := bZ1
    go_wp2_with fail
    refine bodyPost_ret (v := .tuple #[.agg #[.slice none 0 0, .slice none 0 0, .slice none 0 0, .slice none 0 0], .bool false]) (by simp [results, Try.results17, go_sem, *]) rfl ?_
    refine ⟨_, _, _, _, _, _, _, _, _, rfl, own4_zero (B := w.heap.size) ?_, Nat.le_refl _, ?_⟩
    · simp [World.setCell]; omega
    · repeat (refine Below.setCell ?_ (by first | (simp; done) | (simp; omega)) _)
      exact D1
  · rw [hok] at hi
    have HI := Lib.hid hi
    have hL := (okRod_iff hok).1
    have WW := Lib.hid (fun w' (h' : Below w.heap.size w w') => (withWarms_any v1 v2 v3 v4 (.slice a5 bs.length c5) R hL bs hbs w' (HH.out w' h').1 (HH.out w' h').2).mono fun _ _ h => h.o)
    simp only [Bool.true_and]
    clear hL hok h h5 HH
    generalize (if okRod (warmR R bs) = true then warmR R bs else zeroR) = Q at *
    generalize okRod (warmR R bs) = q at *
    go_enter Try.func17, Try.ntmps17
    go_wp2_with fail
    refine HI.out.mono ?_
    rintro e w1 ⟨rfl, hb1⟩
    have bZ1 := bZ.below hb1
    have bB1 := bB.below hb1
    have D1 := B_trans D0 hb1
    clear bZ bB D0 hi HI hb1
    obtain ⟨⟨p0, p1, p2, p3⟩, pf, pl⟩ := bB1
    go_wp2_with fail
    refine (WW.out _ D1).mono ?_
    rintro e x5 ⟨a1', c1', a2', c2', a3', c3', a4', c4', B1, B2, B3, B4, B5, rfl, ⟨hs, o1, o2, o3, o4⟩, hB, k5⟩
    have hz : w.heap.size + 1 < B1 := by have := bZ1.2.2; omega
    replace bZ1 := bZ1.below k5
    replace D1 := B_trans D1 k5
    clear k5 WW hB p0 p1 p2 p3 pf pl
    obtain ⟨⟨z0, z1, z2, z3⟩, zf, zl⟩ := bZ1
    go_wp2_with fail
    refine bodyPost_ret (v := .tuple #[.agg #[.slice a1' Q.a.length c1', .slice a2' Q.b.length c2', .slice a3' Q.c.length c3', .slice a4' Q.d.length c4'], .bool q]) (by simp [results, Try.results17, go_sem, z0, z1, z2, z3, zf, zl]) rfl ?_
    have FF := ((((Frm.refl (w.heap.size + 1) (w.heap.size + 1 + 1) x5).set (a := ⟨w.heap.size + 1, 0, none⟩) (Nat.le_refl _) (Nat.lt_succ_self _) (.slice a1' Q.a.length c1')).set (a := ⟨w.heap.size + 1, 1, none⟩) (Nat.le_refl _) (Nat.lt_succ_self _) (.slice a2' Q.b.length c2')).set (a := ⟨w.heap.size + 1, 2, none⟩) (Nat.le_refl _) (Nat.lt_succ_self _) (.slice a3' Q.c.length c3')).set (a := ⟨w.heap.size + 1, 3, none⟩) (Nat.le_refl _) (Nat.lt_succ_self _) (.slice a4' Q.d.length c4')
    refine ⟨_, _, _, _, B1, B2, B3, B4, B5, rfl, ⟨⟨hs.1, hs.2.1, hs.2.2.1, hs.2.2.2.1, Nat.le_trans hs.2.2.2.2 FF.size⟩, ?_, ?_, ?_, ?_⟩, by omega, ?_⟩
    · exact OSf.frame o1 FF (by omega)
    · exact OSf.frame o2 FF (by omega)
    · exact OSf.frame o3 FF (by omega)
    · exact OSf.frame o4 FF (by omega)
    · exact D1.trans (FF.below (by omega) |>.mono (by omega))
end Go.Proofs.Ytiolmffcmbcgmaa
