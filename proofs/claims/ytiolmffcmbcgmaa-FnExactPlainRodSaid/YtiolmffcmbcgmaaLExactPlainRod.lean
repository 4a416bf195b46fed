/-
  The program's PlainRod returns what the reference's returns, for every argument. No condition. Written by wip/gen_rods.py.
-/
import Derived.Test.YtiolmffcmbcgmaaRows
import Derived.Test.YtiolmffcmbcgmaaPost
import Derived.Test.YtiolmffcmbcgmaaPlains
namespace Go.Proofs.Ytiolmffcmbcgmaa
set_option linter.unusedVariables false
set_option linter.unusedSimpArgs false
open Go.ChangeShapes Go.WideShapes Go.ChangeAt Go.RowKit Go.Joins Go.ChangeMaps Fl

set_option maxHeartbeats 32000000 in
set_option maxRecDepth 100000 in
theorem walk_FnExactPlainRod (c : Int) (wc : (Lit.int .i64 c).wf = true) (a1 : Nat) (f1 : (Lit.float .f32 a1).wf = true) (a2 : Nat) (f2 : (Lit.float .f32 a2).wf = true) (a3 : Nat) (f3 : (Lit.float .f32 a3).wf = true) (a4 : Nat) (f4 : (Lit.float .f32 a4).wf = true) (w : World) :
    Calls Try.prog 4 #[.int .i64 c, .float .f32 a1, .float .f32 a2, .float .f32 a3, .float .f32 a4] w fun e w' => e = .returned (.bool true) ∧ Below w.heap.size w w' := by
  have HQ := Lib.hid (show (if inR c && okRod (plainR c.toNat a1 a2 a3 a4) then plainR c.toNat a1 a2 a3 a4 else zeroR).small by
    split
    · rename_i h
      rw [Bool.and_eq_true] at h
      obtain ⟨n, rfl, _, h2⟩ := inR_true h.1
      exact small_plain (by simpa using h2)
    · exact small_zero)
  have SPC := Lib.hid (fun w => sPlainRod_any c a1 a2 a3 a4 (lt_of_wf f1) (lt_of_wf f2) (lt_of_wf f3) (lt_of_wf f4) w)
  have IMP := Lib.hid (fun w => (iPlainRod_any c a1 a2 a3 a4 (lt_of_wf f1) (lt_of_wf f2) (lt_of_wf f3) (lt_of_wf f4) w).mono fun _ _ h => h.o)
  generalize (if (inR c && okRod (plainR c.toNat a1 a2 a3 a4)) = true then plainR c.toNat a1 a2 a3 a4 else zeroR) = Q at *
  generalize (inR c && okRod (plainR c.toNat a1 a2 a3 a4)) = sb at *
  have m2 := markE_pos Q
  clear wc f1 f2 f3 f4
  go_enter Try.func4, Try.ntmps4
  go_wp2_with fail
  refine (SPC.out _).mono ?_
  rintro e w1 ⟨sa0, sc0, sa1, sc1, sa2, sc2, sa3, sc3, S1, S5, rfl, os, hs, D⟩
  have nsb : S1 ≤ S5 := os.1.1
  have nsc : S5 ≤ w1.heap.size := os.1.2
  clear SPC
  go_wp2_with fail
  generalize (Value.slice sa0 (Q).a.length sc0) = s0 at *
  generalize (Value.slice sa1 (Q).b.length sc1) = s1 at *
  generalize (Value.slice sa2 (Q).c.length sc2) = s2 at *
  generalize (Value.slice sa3 (Q).d.length sc3) = s3 at *
  have bs := box4_alloc w1 26 s0 s1 s2 s3
  have hA : Below w1.heap.size w1 (w1.alloc (.cells #[s0, s1, s2, s3] 26)) := (Below.refl _ _).alloc (Nat.le_refl _) _
  replace os := os.below hA
  replace D := B_trans (w := w) D hA
  clear hA
  generalize w1.heap.size = ps at *
  generalize w1.alloc (.cells #[s0, s1, s2, s3] 26) = w2 at *
  refine (IMP.out _).mono ?_
  rintro e w3 ⟨ga0, gc0, ga1, gc1, ga2, gc2, ga3, gc3, G1, G2, G3, G4, G5, rfl, og, hg, hb⟩
  have nga : ps < G1 := by have := bs.2.2; omega
  replace os := os.below hb
  replace bs := bs.below hb
  replace D := B_trans (w := w) D hb
  clear hb
  have ngb : G1 ≤ G5 := by have := og.1; omega
  have ngc : G5 ≤ w3.heap.size := og.1.2.2.2.2
  clear hg
  have cbs := bs
  obtain ⟨⟨bs0, bs1, bs2, bs3⟩, bsf, bsl⟩ := cbs
  go_wp2_with fail
  clear bs0 bs1 bs2 bs3 bsf bsl
  generalize (Value.slice ga0 (Q).a.length gc0) = g0 at *
  generalize (Value.slice ga1 (Q).b.length gc1) = g1 at *
  generalize (Value.slice ga2 (Q).c.length gc2) = g2 at *
  generalize (Value.slice ga3 (Q).d.length gc3) = g3 at *
  have bg := box4_alloc w3 26 g0 g1 g2 g3
  have hA : Below w3.heap.size w3 (w3.alloc (.cells #[g0, g1, g2, g3] 26)) := (Below.refl _ _).alloc (Nat.le_refl _) _
  replace os := os.below hA
  replace bs := bs.below hA
  replace og := og.below hA
  replace D := B_trans (w := w) D hA
  clear hA
  generalize w3.heap.size = pg at *
  generalize w3.alloc (.cells #[g0, g1, g2, g3] 26) = w4 at *
  refine (eqRod_any _ _ _ _ _ _ _ _ Q _ og.rod os.rod).mono ?_
  rintro e w5 ⟨rfl, hb⟩
  replace os := os.below hb
  replace bs := bs.below hb
  replace og := og.below hb
  replace bg := bg.below hb
  replace D := B_trans (w := w) D hb
  clear hb
  have cbg := bg
  obtain ⟨⟨bg0, bg1, bg2, bg3⟩, bgf, bgl⟩ := cbg
  go_wp2_with fail
  clear bg0 bg1 bg2 bg3 bgf bgl
  refine (markRod_any G1 G2 G3 G4 G5 _ _ _ _ Q HQ.out _ og).mono ?_
  rintro e w6 ⟨rfl, oM, hf⟩
  replace D := D.trans ((hf.below (by have := og.1; omega)).mono (by omega))
  clear og
  replace os := os.frame hf (by omega)
  replace bs := bs.frm hf (by omega)
  replace bg := bg.frm hf (by omega)
  clear hf
  have om := oM
  clear oM
  have cbg := bg
  obtain ⟨⟨bg0, bg1, bg2, bg3⟩, bgf, bgl⟩ := cbg
  go_wp2_with fail
  clear bg0 bg1 bg2 bg3 bgf bgl
  refine (heldRod_any G1 G2 G3 G4 G5 _ _ _ _ Q HQ.out _ om).mono ?_
  rintro e w7 ⟨rfl, hb⟩
  replace os := os.below hb
  replace bs := bs.below hb
  replace bg := bg.below hb
  replace om := om.below hb
  replace D := B_trans (w := w) D hb
  clear hb
  go_wp2_with fail
  refine (IMP.out _).mono ?_
  rintro e w8 ⟨ka0, kc0, ka1, kc1, ka2, kc2, ka3, kc3, K1, K2, K3, K4, K5, rfl, ok, hk, hb⟩
  replace os := os.below hb
  replace bs := bs.below hb
  replace bg := bg.below hb
  replace om := om.below hb
  replace D := B_trans (w := w) D hb
  clear hb hk
  have cbs := bs
  obtain ⟨⟨bs0, bs1, bs2, bs3⟩, bsf, bsl⟩ := cbs
  go_wp2_with fail
  clear bs0 bs1 bs2 bs3 bsf bsl
  generalize (Value.slice ka0 (Q).a.length kc0) = k0 at *
  generalize (Value.slice ka1 (Q).b.length kc1) = k1 at *
  generalize (Value.slice ka2 (Q).c.length kc2) = k2 at *
  generalize (Value.slice ka3 (Q).d.length kc3) = k3 at *
  have bk := box4_alloc w8 26 k0 k1 k2 k3
  have hA : Below w8.heap.size w8 (w8.alloc (.cells #[k0, k1, k2, k3] 26)) := (Below.refl _ _).alloc (Nat.le_refl _) _
  replace os := os.below hA
  replace bs := bs.below hA
  replace bg := bg.below hA
  replace om := om.below hA
  replace ok := ok.below hA
  replace D := B_trans (w := w) D hA
  clear hA
  generalize w8.heap.size = pk at *
  generalize w8.alloc (.cells #[k0, k1, k2, k3] 26) = w9 at *
  refine (eqRod_any _ _ _ _ _ _ _ _ Q _ ok.rod os.rod).mono ?_
  rintro e w10 ⟨rfl, hb⟩
  replace os := os.below hb
  replace bs := bs.below hb
  replace bg := bg.below hb
  replace om := om.below hb
  replace ok := ok.below hb
  replace bk := bk.below hb
  replace D := B_trans (w := w) D hb
  clear hb
  have cbg := bg
  obtain ⟨⟨bg0, bg1, bg2, bg3⟩, bgf, bgl⟩ := cbg
  go_wp2_with fail
  clear bg0 bg1 bg2 bg3 bgf bgl
  refine (heldRod_any G1 G2 G3 G4 G5 _ _ _ _ Q HQ.out _ om).mono ?_
  rintro e w11 ⟨rfl, hb⟩
  replace os := os.below hb
  replace bs := bs.below hb
  replace bg := bg.below hb
  replace om := om.below hb
  replace ok := ok.below hb
  replace bk := bk.below hb
  replace D := B_trans (w := w) D hb
  clear hb
  go_wp2_with fail
  go_ret
  exact ⟨rfl, D⟩
theorem laidOut_FnExactPlainRod : laidOutB Try.prog = true := by kernel_rfl
theorem contract_FnExactPlainRod (H : Type) (enc : TypeId × Value → H) (W : World) (base : Nat) (args : Array Value) (ds gs : List (DataW H)) (before : List MemPlace)
    (hval : ∀ (j : Nat) t v, Try.f4.params[j]? = some t → args[j]? = some v → Value.okWide Try.prog W .any base t v)
    (hW : DataW.Whole enc Try.prog Try.f4.params.toList Rows.fnExactPlainRodSpec.vars false W args.toList ds gs before) :
    Calls Try.prog 4 args W fun e W' => ∃ v, e = .returned v ∧ Rows.fnExactPlainRodSpec.post enc Try.prog Try.f4 false true false false W args v W' := by
  have hW' := hW
  obtain ⟨p, q, hA0, hV, rfl, hfz, hnd⟩ := hW
  have hA : DataW.TrodAll enc Try.prog W 0 (fun _ => true) true Try.f4.params.toList args.toList ds p := hA0
  rw [Try.params4] at hA hval
  obtain ⟨v0, vs0, d0, ds0, p0, q0, hargs, rfl, rfl, h0, r0⟩ := trodAll_cons hA
  obtain ⟨v1, vs1, d1, ds1, p1, q1, rfl, rfl, rfl, h1, r1⟩ := trodAll_cons r0
  obtain ⟨v2, vs2, d2, ds2, p2, q2, rfl, rfl, rfl, h2, r2⟩ := trodAll_cons r1
  obtain ⟨v3, vs3, d3, ds3, p3, q3, rfl, rfl, rfl, h3, r3⟩ := trodAll_cons r2
  obtain ⟨v4, vs4, d4, ds4, p4, q4, rfl, rfl, rfl, h4, r4⟩ := trodAll_cons r3
  obtain ⟨rfl, rfl, rfl⟩ := trodAll_nil r4
  obtain rfl : args = #[v0, v1, v2, v3, v4] := by cases args; simp_all
  obtain ⟨rfl, rfl⟩ := trodVars_none hV
  obtain ⟨a0, rfl, rfl, rfl, w0⟩ := open_int Try.underlying2 (hval 0 2 v0 rfl rfl) h0
  obtain ⟨a1, rfl, rfl, rfl, w1⟩ := open_float Try.underlying33 (hval 1 33 v1 rfl rfl) h1
  obtain ⟨a2, rfl, rfl, rfl, w2⟩ := open_float Try.underlying33 (hval 2 33 v2 rfl rfl) h2
  obtain ⟨a3, rfl, rfl, rfl, w3⟩ := open_float Try.underlying33 (hval 3 33 v3 rfl rfl) h3
  obtain ⟨a4, rfl, rfl, rfl, w4⟩ := open_float Try.underlying33 (hval 4 33 v4 rfl rfl) h4
  clear hA0
  simp only [List.append_nil] at hW'
  refine (walk_FnExactPlainRod (w := W) a0 w0 a1 w1 a2 w2 a3 w3 a4 w4).mono fun e W' ⟨he, hb⟩ => ?_
  subst he
  exact ⟨_, rfl, post_of_below (pa := ([] ++ ([] ++ ([] ++ ([] ++ ([] ++ [])))))) (pv := []) hW' (fun _ _ _ => (trodAll_cons_mk (shut_bool Try.underlying4 _) trodAll_mk0)) (fun sp hsp => (trodAll_cons_mk (shut_int Try.underlying2 w0) (trodAll_cons_mk (shut_float Try.underlying33 w1) (trodAll_cons_mk (shut_float Try.underlying33 w2) (trodAll_cons_mk (shut_float Try.underlying33 w3) (trodAll_cons_mk (shut_float Try.underlying33 w4) trodAll_mk0)))))) (fun _ _ => rfl) (by simp) hb (ok_one (by kernel_rfl) rfl (okWide_bool_mk Try.underlying4 _))⟩

theorem own_FnExactPlainRod : ownKnob Try.prog.godebug = none := by kernel_rfl
set_option maxRecDepth 100000 in
theorem lifted_FnExactPlainRod (os : Os) (started : os.Started) (H : Type) (enc : TypeId × Value → H) :
    ReturnsInHanded {} Try.checked os 4 .any (Rows.fnExactPlainRodSpec.pre6 enc Try.prog Try.f4 Rows.fnExactPlainRodRow.domain false) (Rows.fnExactPlainRodSpec.post enc Try.prog Try.f4 false true false false) := by
  refine returnsInHanded_of_change (C := Try.checked) own_FnExactPlainRod started (by kernel_rfl) Try.func4
    (ChangeSpec.witness6 (enc := enc) (C := Try.checked) false ⟨#[], #[.int .i64 0, .float .f32 0, .float .f32 0, .float .f32 0, .float .f32 0], []⟩ 8 (by kernel_rfl) (by kernel_rfl) (by kernel_rfl) (by kernel_rfl)) ?_
  intro W base args ds gs before hval hW _ _
  exact contract_FnExactPlainRod H enc W base args ds gs before hval hW
theorem over_FnExactPlainRod : Rows.fnExactPlainRodRow.holds Try.pinned (OpenSpec.ofChange Rows.fnExactPlainRodSpec) :=
  OpenClaim.holds_of_wide 4 Try.f4 rfl rfl rfl rfl rfl rfl rfl ⟨rfl, rfl, rfl, rfl, rfl⟩ rfl rfl rfl rfl rfl (by kernel_rfl) Try.func4 (by kernel_rfl)
    (of_decide_eq_true (by kernel_rfl)) (by unfold Func.isWrapper; first | (rw [if_pos (by decide +kernel)]; kernel_rfl) | (rw [if_neg (by decide +kernel)]; exact ⟨rfl, rfl⟩))
    (fun os started H enc _ => lifted_FnExactPlainRod os started H enc)
theorem proved_FnExactPlainRod : Rows.FnExactPlainRodSaid := over_FnExactPlainRod
#print axioms proved_FnExactPlainRod
end Go.Proofs.Ytiolmffcmbcgmaa
