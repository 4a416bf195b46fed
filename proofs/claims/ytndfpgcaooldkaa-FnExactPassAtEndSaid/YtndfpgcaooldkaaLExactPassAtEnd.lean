/-
  The program's PassAtEnd returns what the reference's returns, for every argument. No condition. Written by wip/gen_atend.py.
-/
import Derived.Test.YtndfpgcaooldkaaRows
import Derived.Test.YtndfpgcaooldkaaPost
import Derived.Test.YtndfpgcaooldkaaAtend
namespace Go.Proofs.Ytndfpgcaooldkaa
set_option linter.unusedVariables false
set_option linter.unusedSimpArgs false
open Go.ChangeShapes Go.WideShapes Go.ChangeAt Go.RowKit Go.Joins Go.ChangeMaps Fl

set_option maxHeartbeats 16000000 in
theorem walk_FnExactPassAtEnd (v1 v2 v3 v4 : Value) (R : Rl) (w : World) (h : Rod4 w v1 v2 v3 v4 R) (last : Bool) (k : Int) (wk : (Lit.int .i64 k).wf = true) (a : Nat) (wa : (Lit.float .f32 a).wf = true) (c : Nat) (wc : (Lit.float .f32 c).wf = true) :
    Calls Try.prog 8 #[.agg #[v1, v2, v3, v4], .bool last, .agg #[.int .i64 k, .float .f32 a, .float .f32 c]] w fun e w' => e = .returned (.bool true) ∧ Below w.heap.size w w' := by
  have ha : IsF .f32 a (cl .f32 a) := IsF.of (lt_of_wf wa)
  have hc : IsF .f32 c (cl .f32 c) := IsF.of (lt_of_wf wc)
  generalize cl .f32 a = u at ha
  generalize cl .f32 c = v at hc
  clear wk wa wc
  have HBITS := Lib.hid h.bits
  have bA := (box4_alloc w 24 v1 v2 v3 v4).alloc (.cells #[.int .i64 k, .float .f32 a, .float .f32 c] 38)
  have bE := box3_alloc (w.alloc (.cells #[v1, v2, v3, v4] 24)) 38 k a c
  rw [show (w.alloc (.cells #[v1, v2, v3, v4] 24)).heap.size = w.heap.size + 1 by simp] at bE
  have D0 : Below w.heap.size w ((w.alloc (.cells #[v1, v2, v3, v4] 24)).alloc (.cells #[.int .i64 k, .float .f32 a, .float .f32 c] 38)) := by (repeat' first | assumption | exact Below.refl _ _ | refine B_drew ?_ _ | refine Below.drew ?_ | refine Below.alloc ?_ (by first | exact Nat.le_refl _ | (simp; done) | (simp; omega)) _)
  have hsz := fun w' (h9 : Below w.heap.size w w') => szRod_any v1 v2 v3 v4 R 1048576 (by omega) (by omega) w' (h.below h9)
  have HSZ := Lib.hid hsz
  clear hsz
  by_cases hl : (R.total : Int) ≤ 1048576
  · simp only [if_pos hl] at HSZ
    have HS := Lib.hid (show R.small from Rl.small_of (n := 1048576) (by omega) (Nat.le_refl _))
    have h0 : 0 ≤ 1048576 - (R.total : Int) := by omega
    have h00 : 1048576 - (R.total : Int) ≤ 1048576 := by omega
    generalize 1048576 - (R.total : Int) = left at *
    clear hl
    have SPC := Lib.hid (fun a1 a2 a3 a4 w h => sPassAtEnd_any a1 a2 a3 a4 R last k a c u v ha hc w h)
    have IMP := Lib.hid (fun a1 a2 a3 a4 w h => iPassAtEnd_any a1 a2 a3 a4 R last k a c u v ha hc w h)
    generalize (if atOk R k u v then chkF (atV R (endI R last) k v) else some 0) = sv at *
    generalize (atOk R k u v && finF (atV R (endI R last) k v)) = sb at *
    go_enter Try.func8, Try.ntmps8
    go_wp2_with fail
    refine (HSZ.out _ D0).mono ?_
    rintro e w1 ⟨rfl, hb1⟩
    have D1 := B_trans D0 hb1
    have bA1 := bA.below hb1
    have bE1 := bE.below hb1
    clear hb1 D0 bA bE HSZ
    go_upto_region 5 with fail
    go_cut [8, 9] (fun s8 s9 wx => ∃ r, s8 = .float .f32 r ∧ s9 = .bool sb ∧ IsF .f32 r sv ∧ Below w.heap.size w wx ∧ Box4 wx w.heap.size v1 v2 v3 v4 ∧ Box3 wx (w.heap.size + 1) k a c)
    case first =>
      have A1 := bA1
      have E1 := bE1
      obtain ⟨⟨p0, p1, p2, p3⟩, pf, pl⟩ := A1
      obtain ⟨⟨q0, q1, q2⟩, ql⟩ := E1
      go_region_with (first
        | (go_at_call 12; (with_reducible refine (toRod_any v1 v2 v3 v4 R HS.out _ (h.below (by (repeat' first | assumption | exact Below.refl _ _ | refine B_drew ?_ _ | refine Below.drew ?_ | refine Below.alloc ?_ (by first | exact Nat.le_refl _ | (simp; done) | (simp; omega)) _)))).mono ?_); rintro e w8 ⟨m1, m2, m3, m4, rfl, hr, hg, hb⟩; have D8 := B_trans (w := w) (by (repeat' first | assumption | exact Below.refl _ _ | refine B_drew ?_ _ | refine Below.drew ?_ | refine Below.alloc ?_ (by first | exact Nat.le_refl _ | (simp; done) | (simp; omega)) _)) hb; have bA8 := Box4.below (b := w.heap.size) (x0 := v1) (x1 := v2) (x2 := v3) (x3 := v4) (by assumption) hb; have bE8 := Box3.below (b := w.heap.size + 1) (k := k) (a := a) (c := c) (by assumption) hb; (try have z8 := Rod4.below (by assumption) hb); have y8 := hr.rod HS.out HBITS.out; have cA8 := bA8.1; obtain ⟨A0, A1, A2, A3⟩ := cA8; have cE8 := bE8.1; obtain ⟨E0, E1, E2⟩ := cE8; clear hb hr hg; simp only [rodv])
        | (go_at_call 25; refine (toEnd_below _ _ _ _).mono ?_; rintro e w8 ⟨rfl, hb⟩; have D8 := B_trans (w := w) (by (repeat' first | assumption | exact Below.refl _ _ | refine B_drew ?_ _ | refine Below.drew ?_ | refine Below.alloc ?_ (by first | exact Nat.le_refl _ | (simp; done) | (simp; omega)) _)) hb; have bA8 := Box4.below (b := w.heap.size) (x0 := v1) (x1 := v2) (x2 := v3) (x3 := v4) (by assumption) hb; have bE8 := Box3.below (b := w.heap.size + 1) (k := k) (a := a) (c := c) (by assumption) hb; (try have z8 := Rod4.below (by assumption) hb); have cA8 := bA8.1; obtain ⟨A0, A1, A2, A3⟩ := cA8; have cE8 := bE8.1; obtain ⟨E0, E1, E2⟩ := cE8; clear hb)
        | (go_at_call 24; refine (SPC.out _ _ _ _ _ (by assumption)).mono ?_; rintro e w9 ⟨r9, rfl, hr9, hb⟩; have D9 := B_trans (w := w) (by (repeat' first | assumption | exact Below.refl _ _ | refine B_drew ?_ _ | refine Below.drew ?_ | refine Below.alloc ?_ (by first | exact Nat.le_refl _ | (simp; done) | (simp; omega)) _)) hb; have bA9 := Box4.below (b := w.heap.size) (x0 := v1) (x1 := v2) (x2 := v3) (x3 := v4) (by assumption) hb; have bE9 := Box3.below (b := w.heap.size + 1) (k := k) (a := a) (c := c) (by assumption) hb; clear hb))
      all_goals
        go_wp2_with fail
        go_meet
        exact ⟨_, rfl, rfl, hr9, D9, bA9, bE9⟩
    case rest =>
      obtain ⟨r0, rfl, rfl, hr0, D3, bA3, bE3⟩ := hcut
      clear D1 bA1 bE1
      have A1 := bA3
      obtain ⟨⟨p0, p1, p2, p3⟩, pf, pl⟩ := A1
      go_wp2_with fail
      refine (toRod_any v1 v2 v3 v4 R HS.out _ (h.below D3)).mono ?_
      rintro e w4 ⟨k1, k2, k3, k4, rfl, hr4, hg4, hb4⟩
      have D4 := B_trans D3 hb4
      have bA4 := bA3.below hb4
      have bE4 := bE3.below hb4
      have xr := hr4.rod HS.out HBITS.out
      clear hb4 D3 bA3 bE3 hr4 hg4 p0 p1 p2 p3 pf pl
      simp only [rodv]
      go_upto_region 7 with fail
      generalize (Value.slice (some ⟨k1, 0, none⟩) R.a.length R.a.length) = u1 at *
      generalize (Value.slice (some ⟨k2, 0, none⟩) R.b.length R.b.length) = u2 at *
      generalize (Value.slice (some ⟨k3, 0, none⟩) R.c.length R.c.length) = u3 at *
      generalize (Value.slice (some ⟨k4, 0, none⟩) R.d.length R.d.length) = u4 at *
      have bX := box4_alloc w4 29 u1 u2 u3 u4
      have W5 : Below w4.heap.size w4 (w4.alloc (.cells #[u1, u2, u3, u4] 29)) := by (repeat' first | assumption | exact Below.refl _ _ | refine B_drew ?_ _ | refine Below.drew ?_ | refine Below.alloc ?_ (by first | exact Nat.le_refl _ | (simp; done) | (simp; omega)) _)
      have D5 := B_trans D4 W5
      have bA5 := bA4.below W5
      have bE5 := bE4.below W5
      have xr5 := xr.below W5
      clear W5 D4 bA4 bE4 xr
      generalize hx' : w4.heap.size = hx at *
      clear hx'
      generalize w4.alloc (.cells #[u1, u2, u3, u4] 29) = w5 at *
      go_cut [11, 12] (fun s11 s12 wx => ∃ r, s11 = .float .f32 r ∧ s12 = .bool sb ∧ IsF .f32 r sv ∧ Below w.heap.size w wx ∧ Box4 wx w.heap.size v1 v2 v3 v4 ∧ Box4 wx hx u1 u2 u3 u4 ∧ Rod4 wx u1 u2 u3 u4 R)
      case first =>
        have A1 := bX
        have E1 := bE5
        obtain ⟨⟨p0, p1, p2, p3⟩, pf, pl⟩ := A1
        obtain ⟨⟨q0, q1, q2⟩, ql⟩ := E1
        go_region_with (first
          | (go_at_call 25; refine (toEnd_below _ _ _ _).mono ?_; rintro e w8 ⟨rfl, hb⟩; have D8 := B_trans (w := w) (by (repeat' first | assumption | exact Below.refl _ _ | refine B_drew ?_ _ | refine Below.drew ?_ | refine Below.alloc ?_ (by first | exact Nat.le_refl _ | (simp; done) | (simp; omega)) _)) hb; have bA8 := Box4.below (b := w.heap.size) (x0 := v1) (x1 := v2) (x2 := v3) (x3 := v4) (by assumption) hb; have bX8 := Box4.below (b := hx) (x0 := u1) (x1 := u2) (x2 := u3) (x3 := u4) (by assumption) hb; have xr8 := Rod4.below (v1 := u1) (v2 := u2) (v3 := u3) (v4 := u4) (R := R) (by assumption) hb; (try have z8 := Rod4.below (by assumption) hb); have cA8 := bA8.1; obtain ⟨A0, A1, A2, A3⟩ := cA8; have cX8 := bX8.1; obtain ⟨X0, X1, X2, X3⟩ := cX8; clear hb)
          | (go_at_call 26; refine (IMP.out _ _ _ _ _ (by assumption)).mono ?_; rintro e w9 ⟨r9, rfl, hr9, hb⟩; have D9 := B_trans (w := w) (by (repeat' first | assumption | exact Below.refl _ _ | refine B_drew ?_ _ | refine Below.drew ?_ | refine Below.alloc ?_ (by first | exact Nat.le_refl _ | (simp; done) | (simp; omega)) _)) hb; have bA9 := Box4.below (b := w.heap.size) (x0 := v1) (x1 := v2) (x2 := v3) (x3 := v4) (by assumption) hb; have bX9 := Box4.below (b := hx) (x0 := u1) (x1 := u2) (x2 := u3) (x3 := u4) (by assumption) hb; have xr9 := Rod4.below (v1 := u1) (v2 := u2) (v3 := u3) (v4 := u4) (R := R) (by assumption) hb; clear hb))
        all_goals
          go_wp2_with fail
          go_meet
          exact ⟨_, rfl, rfl, hr9, D9, bA9, bX9, xr9⟩
      case rest =>
        obtain ⟨r1, rfl, rfl, hr1, D6, bA6, bX6, xr6⟩ := hcut
        clear D5 bA5 bE5 bX xr5
        go_wp2_with (first | (refine wpList_far rfl rfl (by first | exact .inl rfl | exact .inr (.inl rfl) | exact .inr (.inr (.inl rfl)) | exact .inr (.inr (.inr rfl))) rfl rfl (by first | assumption | exact isF_ofInt _ _ | exact IsF.lit (by decide +kernel)) (by first | assumption | exact isF_ofInt _ _ | exact IsF.lit (by decide +kernel)) ?_; intro r n hr) | (refine wpList_fcmp rfl rfl (by first | exact .inl rfl | exact .inr (.inl rfl) | exact .inr (.inr (.inl rfl)) | exact .inr (.inr (.inr (.inl rfl))) | exact .inr (.inr (.inr (.inr (.inl rfl)))) | exact .inr (.inr (.inr (.inr (.inr rfl))))) rfl rfl (by first | assumption | exact isF_ofInt _ _ | exact IsF.lit (by decide +kernel)) (by first | assumption | exact isF_ofInt _ _ | exact IsF.lit (by decide +kernel)) (by first | assumption | exact rfl) ?_) | (first | (refine wpList_fsame rfl rfl rfl (congrArg Option.isSome Try.underlying26) Try.underlying26 ?_) | (refine wpList_fsame rfl rfl rfl (congrArg Option.isSome Try.underlying32) Try.underlying32 ?_)) | (refine wpList_fwid rfl rfl rfl (congrArg Option.isSome Try.underlying26) Try.underlying32 (by assumption) ?_; intro r n hr) | (refine wpList_fnar rfl rfl rfl (congrArg Option.isSome Try.underlying32) Try.underlying26 (by assumption) (by assumption) ?_; intro r n hr) | (refine wpList_fneg rfl rfl rfl (by assumption) ?_; intro r hr))
        refine (sameFloat_any _ _ _ (by assumption) (by assumption) _).mono ?_
        rintro e w6 ⟨n6, rfl, rfl⟩
        have A1 := bA6
        have E1 := bX6
        obtain ⟨⟨p0, p1, p2, p3⟩, pf, pl⟩ := A1
        obtain ⟨⟨q0, q1, q2, q3⟩, qf, ql⟩ := E1
        go_wp2_with fail
        go_region_with (first
          | (go_at_call 12; (with_reducible refine (toRod_any v1 v2 v3 v4 R HS.out _ (h.below (by (repeat' first | assumption | exact Below.refl _ _ | refine B_drew ?_ _ | refine Below.drew ?_ | refine Below.alloc ?_ (by first | exact Nat.le_refl _ | (simp; done) | (simp; omega)) _)))).mono ?_); rintro e w8 ⟨m1, m2, m3, m4, rfl, hr, hg, hb⟩; have D8 := B_trans (w := w) (by (repeat' first | assumption | exact Below.refl _ _ | refine B_drew ?_ _ | refine Below.drew ?_ | refine Below.alloc ?_ (by first | exact Nat.le_refl _ | (simp; done) | (simp; omega)) _)) hb; have bA8 := Box4.below (b := w.heap.size) (x0 := v1) (x1 := v2) (x2 := v3) (x3 := v4) (by assumption) hb; have bX8 := Box4.below (b := hx) (x0 := u1) (x1 := u2) (x2 := u3) (x3 := u4) (by assumption) hb; have xr8 := Rod4.below (v1 := u1) (v2 := u2) (v3 := u3) (v4 := u4) (R := R) (by assumption) hb; (try have z8 := Rod4.below (by assumption) hb); have y8 := hr.rod HS.out HBITS.out; have cA8 := bA8.1; obtain ⟨A0, A1, A2, A3⟩ := cA8; have cX8 := bX8.1; obtain ⟨X0, X1, X2, X3⟩ := cX8; clear hb hr hg; simp only [rodv])
          | (go_at_call 15; refine (eqRod_any _ _ _ _ _ _ _ _ R _ (by assumption) (by assumption)).mono ?_; rintro e w9 ⟨rfl, hb9⟩; have D9 := B_trans (w := w) (by (repeat' first | assumption | exact Below.refl _ _ | refine B_drew ?_ _ | refine Below.drew ?_ | refine Below.alloc ?_ (by first | exact Nat.le_refl _ | (simp; done) | (simp; omega)) _)) hb9))
        all_goals (go_wp2_with fail)
        all_goals (go_ret; exact ⟨rfl, D9⟩)
  · simp only [if_neg hl] at HSZ
    clear hl
    go_enter Try.func8, Try.ntmps8
    go_wp2_with fail
    refine (HSZ.out _ D0).mono ?_
    rintro e w1 ⟨rfl, hb1⟩
    go_wp2_with fail
    go_ret
    exact ⟨rfl, B_trans D0 hb1⟩
theorem laidOut_FnExactPassAtEnd : laidOutB Try.prog = true := by kernel_rfl
theorem contract_FnExactPassAtEnd (H : Type) (enc : TypeId × Value → H) (W : World) (base : Nat) (args : Array Value) (ds gs : List (DataW H)) (before : List MemPlace)
    (hval : ∀ (j : Nat) t v, Try.f8.params[j]? = some t → args[j]? = some v → Value.okWide Try.prog W .any base t v)
    (hW : DataW.Whole enc Try.prog Try.f8.params.toList Rows.fnExactPassAtEndSpec.vars false W args.toList ds gs before) :
    Calls Try.prog 8 args W fun e W' => ∃ v, e = .returned v ∧ Rows.fnExactPassAtEndSpec.post enc Try.prog Try.f8 false true false false W args v W' := by
  have hW' := hW
  obtain ⟨p, q, hA0, hV, rfl, hfz, hnd⟩ := hW
  have hA : DataW.TrodAll enc Try.prog W 0 (fun _ => true) true Try.f8.params.toList args.toList ds p := hA0
  rw [Try.params8] at hA hval
  obtain ⟨v0, vs0, d0, ds0, p0, q0, hargs, rfl, rfl, h0, r0⟩ := trodAll_cons hA
  obtain ⟨v1, vs1, d1, ds1, p1, q1, rfl, rfl, rfl, h1, r1⟩ := trodAll_cons r0
  obtain ⟨v2, vs2, d2, ds2, p2, q2, rfl, rfl, rfl, h2, r2⟩ := trodAll_cons r1
  obtain ⟨rfl, rfl, rfl⟩ := trodAll_nil r2
  obtain rfl : args = #[v0, v1, v2] := by cases args; simp_all
  obtain ⟨rfl, rfl⟩ := trodVars_none hV
  have hlt0 : ∀ x ∈ p0, x.block < W.heap.size := fun x hx => hW'.lt x (by simp [hx])
  have hk0 := h0
  obtain ⟨x0a, x0b, x0c, x0d, y0a, y0b, y0c, y0d, n0, rfl, rfl, rfl, t0a, t0b, t0c, t0d⟩ := open_agg4 Try.underlying24 (by kernel_rfl) (by kernel_rfl) (hval 0 24 v0 rfl rfl) h0
  obtain ⟨bs0a, hs0a⟩ := open_floats Try.underlying22 Try.underlying26 (by kernel_rfl) t0a
  obtain ⟨bs0b, hs0b⟩ := open_floats Try.underlying22 Try.underlying26 (by kernel_rfl) t0b
  obtain ⟨bs0c, hs0c⟩ := open_floats Try.underlying22 Try.underlying26 (by kernel_rfl) t0c
  obtain ⟨bs0d, hs0d⟩ := open_floats Try.underlying22 Try.underlying26 (by kernel_rfl) t0d
  obtain ⟨a1, rfl, rfl, rfl⟩ := open_bool Try.underlying4 (hval 1 4 v1 rfl rfl) h1
  have hlt2 : ∀ x ∈ p2, x.block < W.heap.size := fun x hx => hW'.lt x (by simp [hx])
  have hk2 := h2
  obtain ⟨x2a, x2b, x2c, y2a, y2b, y2c, n2, rfl, rfl, rfl, t2a, t2b, t2c⟩ := open_agg3 Try.underlying38 (by kernel_rfl) (by kernel_rfl) (hval 2 38 v2 rfl rfl) h2
  obtain ⟨e2a, c2a, _, w2a⟩ := DataW.trod_int Try.underlying2 t2a
  obtain ⟨e2b, c2b, _, w2b⟩ := trod_float Try.underlying26 t2b
  obtain ⟨e2c, c2c, _, w2c⟩ := trod_float Try.underlying26 t2c
  obtain rfl := List.singleton_inj.1 c2a
  obtain rfl := List.singleton_inj.1 c2b
  obtain rfl := List.singleton_inj.1 c2c
  clear hA0
  simp only [List.append_nil] at hW'
  refine (walk_FnExactPassAtEnd (w := W) _ _ _ _ ⟨bs0a, bs0b, bs0c, bs0d⟩ ⟨hs0a, hs0b, hs0c, hs0d⟩ a1 e2a w2a e2b w2b e2c w2c).mono fun e W' ⟨he, hb⟩ => ?_
  subst he
  exact ⟨_, rfl, post_of_below (pa := (_ ++ ([] ++ (_ ++ [])))) (pv := []) hW' (fun _ _ _ => (trodAll_cons_mk (shut_bool Try.underlying4 _) trodAll_mk0)) (fun sp hsp => (trodAll_cons_mk (trod_keep laidOut_FnExactPassAtEnd (by kernel_rfl) (of_decide_eq_true (by kernel_rfl)) hk0 hb hlt0 (fun x hx => hsp x (by simp only [List.mem_append] at hx ⊢; rcases hx with hx | hx | hx | hx <;> simp [hx]))) (trodAll_cons_mk (shut_bool Try.underlying4 _) (trodAll_cons_mk (trod_keep laidOut_FnExactPassAtEnd (by kernel_rfl) (of_decide_eq_true (by kernel_rfl)) hk2 hb hlt2 (fun x hx => hsp x (by simp_all))) trodAll_mk0)))) (fun _ _ => rfl) (by simp) hb (ok_one (by kernel_rfl) rfl (okWide_bool_mk Try.underlying4 _))⟩

theorem own_FnExactPassAtEnd : ownKnob Try.prog.godebug = none := by kernel_rfl
set_option maxRecDepth 100000 in
theorem lifted_FnExactPassAtEnd (os : Os) (started : os.Started) (H : Type) (enc : TypeId × Value → H) :
    ReturnsInHanded {} Try.checked os 8 .any (Rows.fnExactPassAtEndSpec.pre6 enc Try.prog Try.f8 Rows.fnExactPassAtEndRow.domain false) (Rows.fnExactPassAtEndSpec.post enc Try.prog Try.f8 false true false false) := by
  refine returnsInHanded_of_change (C := Try.checked) own_FnExactPassAtEnd started (by kernel_rfl) Try.func8
    (ChangeSpec.witness6 (enc := enc) (C := Try.checked) false ⟨#[], #[.agg #[.slice none 0 0, .slice none 0 0, .slice none 0 0, .slice none 0 0], .bool false, .agg #[.int .i64 0, .float .f32 0, .float .f32 0]], []⟩ 8 (by kernel_rfl) (by kernel_rfl) (by kernel_rfl) (by kernel_rfl)) ?_
  intro W base args ds gs before hval hW _ _
  exact contract_FnExactPassAtEnd H enc W base args ds gs before hval hW
theorem over_FnExactPassAtEnd : Rows.fnExactPassAtEndRow.holds Try.pinned (OpenSpec.ofChange Rows.fnExactPassAtEndSpec) :=
  OpenClaim.holds_of_wide 8 Try.f8 rfl rfl rfl rfl rfl rfl rfl ⟨rfl, rfl, rfl, rfl, rfl⟩ rfl rfl rfl rfl rfl (by kernel_rfl) Try.func8 (by kernel_rfl)
    (of_decide_eq_true (by kernel_rfl)) (by unfold Func.isWrapper; first | (rw [if_pos (by decide +kernel)]; kernel_rfl) | (rw [if_neg (by decide +kernel)]; exact ⟨rfl, rfl⟩))
    (fun os started H enc _ => lifted_FnExactPassAtEnd os started H enc)
theorem proved_FnExactPassAtEnd : Rows.FnExactPassAtEndSaid := over_FnExactPassAtEnd
#print axioms proved_FnExactPassAtEnd
end Go.Proofs.Ytndfpgcaooldkaa
