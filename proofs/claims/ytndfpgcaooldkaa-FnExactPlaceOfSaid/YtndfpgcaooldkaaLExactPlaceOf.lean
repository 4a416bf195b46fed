/-
  The program's PlaceOf returns what the reference's returns, for every argument. No condition. Written by wip/gen_rwalk.py.
-/
import Derived.Test.YtndfpgcaooldkaaRows
import Derived.Test.YtndfpgcaooldkaaPost
import Derived.Test.YtndfpgcaooldkaaPlace
namespace Go.Proofs.Ytndfpgcaooldkaa
set_option linter.unusedVariables false
set_option linter.unusedSimpArgs false
open Go.ChangeShapes Go.WideShapes Go.ChangeAt Go.RowKit Go.Joins Go.ChangeMaps Fl

set_option maxHeartbeats 8000000 in
theorem walk_FnExactPlaceOf (v1 v2 v3 v4 : Value) (R : Rl) (w : World) (h : Rod4 w v1 v2 v3 v4 R) (z : Nat) (wz : (Lit.float .f32 z).wf = true) :
    Calls Try.prog 9 #[.agg #[v1, v2, v3, v4], .float .f32 z] w fun e w' => e = .returned (.bool true) ∧ Below w.heap.size w w' := by
  have hbits := h.bits
  have HBITS := Lib.hid hbits
  clear hbits
  by_cases hl : (R.total : Int) ≤ 1048576
  · have hs : R.small := Rl.small_of (n := 1048576) (by omega) (Nat.le_refl _)
    have hsz := fun w' (h' : Below w.heap.size w w') => szRod_any v1 v2 v3 v4 R 1048576 (by omega) (by omega) w' (h.below h')
    have HSZ := Lib.hid hsz
    simp only [if_pos hl] at HSZ
    have h0 : 0 ≤ 1048576 - (R.total : Int) := by omega
    have h00 : 1048576 - (R.total : Int) ≤ 1048576 := by omega
    generalize 1048576 - (R.total : Int) = left at *
    clear hl hsz
    have HS := Lib.hid hs
    clear hs
    have spc := fun a1 a2 a3 a4 w h => sPlaceOf_any a1 a2 a3 a4 R z _ (IsF.of (lt_of_wf wz)) w h
    have imp := fun a1 a2 a3 a4 w h => iPlaceOf_any a1 a2 a3 a4 R z _ (IsF.of (lt_of_wf wz)) w h
    generalize (plc R (cl .f32 z)).1 = sv at *
    generalize (plc R (cl .f32 z)).2 = sb at *
    have SPC := Lib.hid spc
    have IMP := Lib.hid imp
    clear spc imp
    have bA := box4_alloc w 24 v1 v2 v3 v4
    have D0 : Below w.heap.size w (w.alloc (.cells #[v1, v2, v3, v4] 24)) := by (repeat' first | assumption | exact Below.refl _ _ | refine B_drew ?_ _ | refine Below.drew ?_ | refine Below.alloc ?_ (by first | exact Nat.le_refl _ | (simp; done) | (simp; omega)) _)
    go_enter Try.func9, Try.ntmps9
    go_wp2_with fail
    refine (HSZ.out _ D0).mono ?_
    rintro e w1 ⟨rfl, hb1⟩
    have D1 := B_trans D0 hb1
    have bA1 := bA.below hb1
    clear hb1 D0 bA HSZ
    have A1 := bA1
    obtain ⟨⟨p0, p1, p2, p3⟩, pf, pl⟩ := A1
    go_wp2_with fail
    refine (toRod_any _ _ _ _ R HS.out _ (h.below D1)).mono ?_
    rintro e w2 ⟨g1, g2, g3, g4, rfl, hr2, hg2, hb2⟩
    have D2 := B_trans D1 hb2
    have bA2 := bA1.below hb2
    clear hb2 D1 bA1 p0 p1 p2 p3 pf pl
    have A1 := bA2
    obtain ⟨⟨p0, p1, p2, p3⟩, pf, pl⟩ := A1
    simp only [rodv]
    go_wp2_with fail
    refine (SPC.out _ _ _ _ _ (hr2.rod HS.out HBITS.out)).mono ?_
    rintro e w3 ⟨r1, rfl, z1, hb3⟩
    have D3 := B_trans D2 hb3
    have bA3 := bA2.below hb3
    clear hb3 D2 bA2 p0 p1 p2 p3 pf pl hr2 hg2
    have A1 := bA3
    obtain ⟨⟨p0, p1, p2, p3⟩, pf, pl⟩ := A1
    go_wp2_with fail
    refine (toRod_any _ _ _ _ R HS.out _ (h.below D3)).mono ?_
    rintro e w4 ⟨k1, k2, k3, k4, rfl, hr4, hg4, hb4⟩
    have D4 := B_trans D3 hb4
    have bA4 := bA3.below hb4
    clear hb4 D3 bA3 p0 p1 p2 p3 pf pl
    have A1 := bA4
    obtain ⟨⟨p0, p1, p2, p3⟩, pf, pl⟩ := A1
    simp only [rodv]
    go_wp2_with fail
    have xr := hr4.rod HS.out HBITS.out
    generalize (Value.slice (some ⟨k1, 0, none⟩) R.a.length R.a.length) = u1 at *
    generalize (Value.slice (some ⟨k2, 0, none⟩) R.b.length R.b.length) = u2 at *
    generalize (Value.slice (some ⟨k3, 0, none⟩) R.c.length R.c.length) = u3 at *
    generalize (Value.slice (some ⟨k4, 0, none⟩) R.d.length R.d.length) = u4 at *
    have bX := box4_alloc w4 29 u1 u2 u3 u4
    have bA5 := bA4.alloc (.cells #[u1, u2, u3, u4] 29)
    have D5 : Below w.heap.size w (w4.alloc (.cells #[u1, u2, u3, u4] 29)) := D4.alloc D4.size _
    have x5 := xr.below (show Below w4.heap.size w4 (w4.alloc (.cells #[u1, u2, u3, u4] 29)) by (repeat' first | assumption | exact Below.refl _ _ | refine B_drew ?_ _ | refine Below.drew ?_ | refine Below.alloc ?_ (by first | exact Nat.le_refl _ | (simp; done) | (simp; omega)) _))
    clear D4 bA4 xr hr4 p0 p1 p2 p3 pf pl
    refine (IMP.out _ _ _ _ _ x5).mono ?_
    rintro e w5 ⟨r2, rfl, z2, hb6⟩
    have D6 := B_trans D5 hb6
    have bA6 := bA5.below hb6
    have bX6 := bX.below hb6
    have x6 := x5.below hb6
    clear hb6 D5 bA5 bX x5
    generalize w4.heap.size = hx at *
    go_wp2_with (first | (refine wpList_far rfl rfl (by first | exact .inl rfl | exact .inr (.inl rfl) | exact .inr (.inr (.inl rfl)) | exact .inr (.inr (.inr rfl))) rfl rfl (by first | assumption | exact isF_ofInt _ _ | exact IsF.lit (by decide +kernel)) (by first | assumption | exact isF_ofInt _ _ | exact IsF.lit (by decide +kernel)) ?_; intro r n hr) | (refine wpList_fcmp rfl rfl (by first | exact .inl rfl | exact .inr (.inl rfl) | exact .inr (.inr (.inl rfl)) | exact .inr (.inr (.inr (.inl rfl))) | exact .inr (.inr (.inr (.inr (.inl rfl)))) | exact .inr (.inr (.inr (.inr (.inr rfl))))) rfl rfl (by first | assumption | exact isF_ofInt _ _ | exact IsF.lit (by decide +kernel)) (by first | assumption | exact isF_ofInt _ _ | exact IsF.lit (by decide +kernel)) (by first | assumption | exact rfl) ?_) | (first | (refine wpList_fsame rfl rfl rfl (congrArg Option.isSome Try.underlying26) Try.underlying26 ?_) | (refine wpList_fsame rfl rfl rfl (congrArg Option.isSome Try.underlying32) Try.underlying32 ?_)) | (refine wpList_fwid rfl rfl rfl (congrArg Option.isSome Try.underlying26) Try.underlying32 (by assumption) ?_; intro r n hr) | (refine wpList_fnar rfl rfl rfl (congrArg Option.isSome Try.underlying32) Try.underlying26 (by assumption) (by assumption) ?_; intro r n hr) | (refine wpList_fneg rfl rfl rfl (by assumption) ?_; intro r hr))
    refine (sameFloat_any _ _ _ (by assumption) (by assumption) _).mono ?_
    rintro e w6 ⟨n6, rfl, rfl⟩
    obtain ⟨⟨p0, p1, p2, p3⟩, pf, pl⟩ := bA6
    have bX7 := bX6
    obtain ⟨⟨q0, q1, q2, q3⟩, qf, ql⟩ := bX6
    go_wp2_with fail
    go_region_with (first
      | (go_at_call 12; refine (toRod_any _ _ _ _ R HS.out _ (h.below (by (repeat' first | assumption | exact Below.refl _ _ | refine B_drew ?_ _ | refine Below.drew ?_ | refine Below.alloc ?_ (by first | exact Nat.le_refl _ | (simp; done) | (simp; omega)) _)))).mono ?_; rintro e w8 ⟨m1, m2, m3, m4, rfl, hr8, hg8, hb8⟩; have E8 := B_trans (w := w5) (by (repeat' first | assumption | exact Below.refl _ _ | refine B_drew ?_ _ | refine Below.drew ?_ | refine Below.alloc ?_ (by first | exact Nat.le_refl _ | (simp; done) | (simp; omega)) _)) hb8; obtain ⟨⟨Q0, Q1, Q2, Q3⟩, Qf, Ql⟩ := bX7.below E8; have x8 := x6.below E8; have y8 := hr8.rod HS.out HBITS.out; have D8 := B_trans D6 E8; clear hb8 E8; simp only [rodv])
      | (go_at_call 15; refine (eqRod_any _ _ _ _ _ _ _ _ R _ (by assumption) (by assumption)).mono ?_; rintro e w9 ⟨rfl, hb9⟩))
    all_goals (go_wp2_with fail)
    all_goals (go_ret; exact ⟨rfl, B_trans D8 hb9⟩)
  · have hsz := fun w' (h' : Below w.heap.size w w') => szRod_any v1 v2 v3 v4 R 1048576 (by omega) (by omega) w' (h.below h')
    have HSZ := Lib.hid hsz
    simp only [if_neg hl] at HSZ
    clear hl hsz
    have D0 : Below w.heap.size w (w.alloc (.cells #[v1, v2, v3, v4] 24)) := by (repeat' first | assumption | exact Below.refl _ _ | refine B_drew ?_ _ | refine Below.drew ?_ | refine Below.alloc ?_ (by first | exact Nat.le_refl _ | (simp; done) | (simp; omega)) _)
    go_enter Try.func9, Try.ntmps9
    go_wp2_with fail
    refine (HSZ.out _ D0).mono ?_
    rintro e w1 ⟨rfl, hb1⟩
    go_wp2_with fail
    go_ret
    exact ⟨rfl, B_trans D0 hb1⟩
theorem laidOut_FnExactPlaceOf : laidOutB Try.prog = true := by kernel_rfl
theorem contract_FnExactPlaceOf (H : Type) (enc : TypeId × Value → H) (W : World) (base : Nat) (args : Array Value) (ds gs : List (DataW H)) (before : List MemPlace)
    (hval : ∀ (j : Nat) t v, Try.f9.params[j]? = some t → args[j]? = some v → Value.okWide Try.prog W .any base t v)
    (hW : DataW.Whole enc Try.prog Try.f9.params.toList Rows.fnExactPlaceOfSpec.vars false W args.toList ds gs before) :
    Calls Try.prog 9 args W fun e W' => ∃ v, e = .returned v ∧ Rows.fnExactPlaceOfSpec.post enc Try.prog Try.f9 false true false false W args v W' := by
  have hW' := hW
  obtain ⟨p, q, hA0, hV, rfl, hfz, hnd⟩ := hW
  have hA : DataW.TrodAll enc Try.prog W 0 (fun _ => true) true Try.f9.params.toList args.toList ds p := hA0
  rw [Try.params9] at hA hval
  obtain ⟨v0, vs0, d0, ds0, p0, q0, hargs, rfl, rfl, h0, r0⟩ := trodAll_cons hA
  obtain ⟨v1, vs1, d1, ds1, p1, q1, rfl, rfl, rfl, h1, r1⟩ := trodAll_cons r0
  obtain ⟨rfl, rfl, rfl⟩ := trodAll_nil r1
  obtain rfl : args = #[v0, v1] := by cases args; simp_all
  obtain ⟨rfl, rfl⟩ := trodVars_none hV
  have hlt0 : ∀ x ∈ p0, x.block < W.heap.size := fun x hx => hW'.lt x (by simp [hx])
  have hk0 := h0
  obtain ⟨x0a, x0b, x0c, x0d, y0a, y0b, y0c, y0d, n0, rfl, rfl, rfl, t0a, t0b, t0c, t0d⟩ := open_agg4 Try.underlying24 (by kernel_rfl) (by kernel_rfl) (hval 0 24 v0 rfl rfl) h0
  obtain ⟨bs0a, hs0a⟩ := open_floats Try.underlying22 Try.underlying26 (by kernel_rfl) t0a
  obtain ⟨bs0b, hs0b⟩ := open_floats Try.underlying22 Try.underlying26 (by kernel_rfl) t0b
  obtain ⟨bs0c, hs0c⟩ := open_floats Try.underlying22 Try.underlying26 (by kernel_rfl) t0c
  obtain ⟨bs0d, hs0d⟩ := open_floats Try.underlying22 Try.underlying26 (by kernel_rfl) t0d
  obtain ⟨a1, rfl, rfl, rfl, w1⟩ := open_float Try.underlying26 (hval 1 26 v1 rfl rfl) h1
  clear hA0
  simp only [List.append_nil] at hW'
  refine (walk_FnExactPlaceOf (w := W) _ _ _ _ ⟨bs0a, bs0b, bs0c, bs0d⟩ ⟨hs0a, hs0b, hs0c, hs0d⟩ a1 w1).mono fun e W' ⟨he, hb⟩ => ?_
  subst he
  exact ⟨_, rfl, post_of_below (pa := (_ ++ ([] ++ []))) (pv := []) hW' (fun _ _ _ => (trodAll_cons_mk (shut_bool Try.underlying4 _) trodAll_mk0)) (fun sp hsp => (trodAll_cons_mk (trod_keep laidOut_FnExactPlaceOf (by kernel_rfl) (of_decide_eq_true (by kernel_rfl)) hk0 hb hlt0 (fun x hx => hsp x (by simp_all))) (trodAll_cons_mk (shut_float Try.underlying26 w1) trodAll_mk0))) (fun _ _ => rfl) (by simp) hb (ok_one (by kernel_rfl) rfl (okWide_bool_mk Try.underlying4 _))⟩

theorem own_FnExactPlaceOf : ownKnob Try.prog.godebug = none := by kernel_rfl
set_option maxRecDepth 100000 in
theorem lifted_FnExactPlaceOf (os : Os) (started : os.Started) (H : Type) (enc : TypeId × Value → H) :
    ReturnsInHanded {} Try.checked os 9 .any (Rows.fnExactPlaceOfSpec.pre6 enc Try.prog Try.f9 Rows.fnExactPlaceOfRow.domain false) (Rows.fnExactPlaceOfSpec.post enc Try.prog Try.f9 false true false false) := by
  refine returnsInHanded_of_change (C := Try.checked) own_FnExactPlaceOf started (by kernel_rfl) Try.func9
    (ChangeSpec.witness6 (enc := enc) (C := Try.checked) false ⟨#[], #[.agg #[.slice none 0 0, .slice none 0 0, .slice none 0 0, .slice none 0 0], .float .f32 0], []⟩ 8 (by kernel_rfl) (by kernel_rfl) (by kernel_rfl) (by kernel_rfl)) ?_
  intro W base args ds gs before hval hW _ _
  exact contract_FnExactPlaceOf H enc W base args ds gs before hval hW
theorem over_FnExactPlaceOf : Rows.fnExactPlaceOfRow.holds Try.pinned (OpenSpec.ofChange Rows.fnExactPlaceOfSpec) :=
  OpenClaim.holds_of_wide 9 Try.f9 rfl rfl rfl rfl rfl rfl rfl ⟨rfl, rfl, rfl, rfl, rfl⟩ rfl rfl rfl rfl rfl (by kernel_rfl) Try.func9 (by kernel_rfl)
    (of_decide_eq_true (by kernel_rfl)) (by unfold Func.isWrapper; first | (rw [if_pos (by decide +kernel)]; kernel_rfl) | (rw [if_neg (by decide +kernel)]; exact ⟨rfl, rfl⟩))
    (fun os started H enc _ => lifted_FnExactPlaceOf os started H enc)
theorem proved_FnExactPlaceOf : Rows.FnExactPlaceOfSaid := over_FnExactPlaceOf
#print axioms proved_FnExactPlaceOf
end Go.Proofs.Ytndfpgcaooldkaa
