/-
  The program's SetWarms returns what the reference's returns, for every argument. No condition. Written by wip/gen_rods.py.
-/
import Derived.Test.YtiolmffcmbcgmaaRows
import Derived.Test.YtiolmffcmbcgmaaPost
import Derived.Test.YtiolmffcmbcgmaaWarms
namespace Go.Proofs.Ytiolmffcmbcgmaa
set_option linter.unusedVariables false
set_option linter.unusedSimpArgs false
open Go.ChangeShapes Go.WideShapes Go.ChangeAt Go.RowKit Go.Joins Go.ChangeMaps Fl

set_option maxHeartbeats 32000000 in
set_option maxRecDepth 100000 in
theorem walk_FnExactSetWarms (v1 v2 v3 v4 : Value) (R : Rl) (w : World) (h : Rod4 w v1 v2 v3 v4 R) (v5 : Value) (ws : List Nat) (h5 : FSl .f32 w v5 ws) :
    Calls Try.prog 5 #[.agg #[v1, v2, v3, v4], v5] w fun e w' => e = .returned (.bool true) ∧ Below w.heap.size w w' := by
  have hsz := fun w' (h' : Below w.heap.size w w') => szRod_any v1 v2 v3 v4 R 1048576 (by omega) (by omega) w' (h.below h')
  have HSZ := Lib.hid hsz
  clear hsz
  have D : Below w.heap.size w (w.alloc (.cells #[v1, v2, v3, v4] 24)) := (Below.refl _ _).alloc (Nat.le_refl _) _
  have H5 := Lib.hid (fun w' (h' : Below w.heap.size w w') => h5.below h')
  obtain ⟨a5, c5, rfl, m5⟩ := h5.len
  clear h5
  by_cases hw : ¬ ws.length ≤ 1048576
  · have hw2 : (1048576 : Int) < (ws.length : Int) := by omega
    clear HSZ H5 hw
    generalize ws.length = nw at *
    go_enter Try.func5, Try.ntmps5
    go_wp2_with fail
    go_ret
    exact ⟨rfl, D⟩
  replace hw := Decidable.not_not.1 hw
  have hw2 : (ws.length : Int) ≤ 1048576 := by omega
  by_cases hl : (R.total : Int) ≤ 1048576
  · simp only [if_pos hl] at HSZ
    have HS := Lib.hid (show R.small from Rl.small_of (n := 1048576) (by omega) (Nat.le_refl _))
    have h0 : 0 ≤ 1048576 - (R.total : Int) := by omega
    generalize 1048576 - (R.total : Int) = left at *
    clear hl
    have HQ := Lib.hid (show (if okRod R && okRod (warmR R ws) then warmR R ws else zeroR).small by split; exact ⟨HS.out.1, HS.out.2.1, HS.out.2.2.1, hw⟩; exact small_zero)
    have SPC := Lib.hid (fun a1 a2 a3 a4 a5 w h h5 => (sSetWarms_any a1 a2 a3 a4 a5 R ws hw w h h5).mono fun _ _ h => h.o)
    have IMP := Lib.hid (fun a1 a2 a3 a4 a5 w h h5 => (iSetWarms_any a1 a2 a3 a4 a5 R ws hw w h h5).mono fun _ _ h => h.o)
    generalize (if (okRod R && okRod (warmR R ws)) = true then warmR R ws else zeroR) = Q at *
    generalize (okRod R && okRod (warmR R ws)) = sb at *
    have m1 := markE_pos R
    have m2 := markE_pos Q
    have m3 := markE_le HS.out
    have bA := box4_alloc w 24 v1 v2 v3 v4
    go_enter Try.func5, Try.ntmps5
    go_wp2_with fail
    refine (HSZ.out _ D).mono ?_
    rintro e w1 ⟨rfl, hb⟩
    replace bA := bA.below hb
    replace D := B_trans (w := w) D hb
    clear hb HSZ
    have cbA := bA
    obtain ⟨⟨bA0, bA1, bA2, bA3⟩, bAf, bAl⟩ := cbA
    go_wp2_with fail
    clear bA0 bA1 bA2 bA3 bAf bAl
    refine (toRod_own _ _ _ _ R HS.out _ (h.below D)).mono ?_
    rintro e w2 ⟨ta0, tc0, ta1, tc1, ta2, tc2, ta3, tc3, T1, T2, T3, T4, T5, rfl, ot, ht, hb⟩
    replace bA := bA.below hb
    replace D := B_trans (w := w) D hb
    clear hb
    clear ht
    go_wp2_with fail
    refine (toF_own _ ws _ (H5.out _ D) hw).mono ?_
    rintro e w2a ⟨alt, clt, Nlt, Mlt, rfl, lt, glt, ilt, hb⟩
    replace bA := bA.below hb
    replace ot := ot.below hb
    replace D := B_trans (w := w) D hb
    clear hb glt ilt
    go_wp2_with fail
    refine (SPC.out _ _ _ _ _ _ ot.rod (OSl.fsl lt)).mono ?_
    rintro e w3 ⟨sa0, sc0, sa1, sc1, sa2, sc2, sa3, sc3, S1, S2, S3, S4, S5, rfl, os, hs, hb⟩
    have nsa : w.heap.size < S1 := by have := bA.2.2; omega
    replace bA := bA.below hb
    replace ot := ot.below hb
    replace D := B_trans (w := w) D hb
    clear hb
    have nsb : S1 ≤ S5 := by have := os.1; omega
    have nsc : S5 ≤ w3.heap.size := os.1.2.2.2.2
    clear hs
    clear ot
    clear lt
    have cbA := bA
    obtain ⟨⟨bA0, bA1, bA2, bA3⟩, bAf, bAl⟩ := cbA
    go_wp2_with fail
    clear bA0 bA1 bA2 bA3 bAf bAl
    generalize (Value.slice sa0 (Q).a.length sc0) = s0 at *
    generalize (Value.slice sa1 (Q).b.length sc1) = s1 at *
    generalize (Value.slice sa2 (Q).c.length sc2) = s2 at *
    generalize (Value.slice sa3 (Q).d.length sc3) = s3 at *
    have bs := box4_alloc w3 26 s0 s1 s2 s3
    have hA : Below w3.heap.size w3 (w3.alloc (.cells #[s0, s1, s2, s3] 26)) := (Below.refl _ _).alloc (Nat.le_refl _) _
    replace bA := bA.below hA
    replace os := os.below hA
    replace D := B_trans (w := w) D hA
    clear hA
    generalize w3.heap.size = ps at *
    generalize w3.alloc (.cells #[s0, s1, s2, s3] 26) = w4 at *
    refine (toRod_own _ _ _ _ R HS.out _ (h.below D)).mono ?_
    rintro e w5 ⟨xa0, xc0, xa1, xc1, xa2, xc2, xa3, xc3, X1, X2, X3, X4, X5, rfl, ox, hx, hb⟩
    have nxa : ps < X1 := by have := bs.2.2; omega
    replace bA := bA.below hb
    replace os := os.below hb
    replace bs := bs.below hb
    replace D := B_trans (w := w) D hb
    clear hb
    have nxb : X1 ≤ X5 := by have := ox.1; omega
    have nxc : X5 ≤ w5.heap.size := ox.1.2.2.2.2
    clear hx
    go_wp2_with fail
    generalize (Value.slice xa0 (R).a.length xc0) = x0 at *
    generalize (Value.slice xa1 (R).b.length xc1) = x1 at *
    generalize (Value.slice xa2 (R).c.length xc2) = x2 at *
    generalize (Value.slice xa3 (R).d.length xc3) = x3 at *
    have bx := box4_alloc w5 26 x0 x1 x2 x3
    have hA : Below w5.heap.size w5 (w5.alloc (.cells #[x0, x1, x2, x3] 26)) := (Below.refl _ _).alloc (Nat.le_refl _) _
    replace bA := bA.below hA
    replace os := os.below hA
    replace bs := bs.below hA
    replace ox := ox.below hA
    replace D := B_trans (w := w) D hA
    clear hA
    generalize w5.heap.size = px at *
    generalize w5.alloc (.cells #[x0, x1, x2, x3] 26) = w6 at *
    refine (toF_own _ ws _ (H5.out _ D) hw).mono ?_
    rintro e w7 ⟨alx, clx, Nlx, Mlx, rfl, lx, glx, ilx, hb⟩
    have nl1 : px < Nlx := by have := bx.2.2; omega
    replace bA := bA.below hb
    replace os := os.below hb
    replace bs := bs.below hb
    replace ox := ox.below hb
    replace bx := bx.below hb
    replace D := B_trans (w := w) D hb
    clear hb glx
    have cbx := bx
    obtain ⟨⟨bx0, bx1, bx2, bx3⟩, bxf, bxl⟩ := cbx
    go_wp2_with fail
    clear bx0 bx1 bx2 bx3 bxf bxl
    refine (IMP.out _ _ _ _ _ _ ox.rod (OSl.fsl lx)).mono ?_
    rintro e w8 ⟨ga0, gc0, ga1, gc1, ga2, gc2, ga3, gc3, G1, G2, G3, G4, G5, rfl, og, hg, hb⟩
    have nga : Mlx ≤ G1 := by have := OSf.top lx; omega
    replace bA := bA.below hb
    replace os := os.below hb
    replace bs := bs.below hb
    replace ox := ox.below hb
    replace bx := bx.below hb
    replace lx := lx.below hb
    replace D := B_trans (w := w) D hb
    clear hb
    have ngb : G1 ≤ G5 := by have := og.1; omega
    have ngc : G5 ≤ w8.heap.size := og.1.2.2.2.2
    clear hg
    have cbs := bs
    obtain ⟨⟨bs0, bs1, bs2, bs3⟩, bsf, bsl⟩ := cbs
    go_wp2_with fail
    clear bs0 bs1 bs2 bs3 bsf bsl
    generalize (Value.slice ga0 (Q).a.length gc0) = g0 at *
    generalize (Value.slice ga1 (Q).b.length gc1) = g1 at *
    generalize (Value.slice ga2 (Q).c.length gc2) = g2 at *
    generalize (Value.slice ga3 (Q).d.length gc3) = g3 at *
    have bg := box4_alloc w8 26 g0 g1 g2 g3
    have hA : Below w8.heap.size w8 (w8.alloc (.cells #[g0, g1, g2, g3] 26)) := (Below.refl _ _).alloc (Nat.le_refl _) _
    replace bA := bA.below hA
    replace os := os.below hA
    replace bs := bs.below hA
    replace ox := ox.below hA
    replace bx := bx.below hA
    replace lx := lx.below hA
    replace og := og.below hA
    replace D := B_trans (w := w) D hA
    clear hA
    generalize w8.heap.size = pg at *
    generalize w8.alloc (.cells #[g0, g1, g2, g3] 26) = w9 at *
    refine (eqRod_any _ _ _ _ _ _ _ _ Q _ og.rod os.rod).mono ?_
    rintro e w10 ⟨rfl, hb⟩
    replace bA := bA.below hb
    replace os := os.below hb
    replace bs := bs.below hb
    replace ox := ox.below hb
    replace bx := bx.below hb
    replace lx := lx.below hb
    replace og := og.below hb
    replace bg := bg.below hb
    replace D := B_trans (w := w) D hb
    clear hb
    go_upto_region 13 with fail
    have cbx := bx
    obtain ⟨⟨bx0, bx1, bx2, bx3⟩, bxf, bxl⟩ := cbx
    have cbA := bA
    obtain ⟨⟨bA0, bA1, bA2, bA3⟩, bAf, bAl⟩ := cbA
    go_region_held3 (fun w' => w'.cell? ⟨px, 0, none⟩ = some x0 ∧ w'.cell? ⟨px, 1, none⟩ = some x1 ∧ w'.cell? ⟨px, 2, none⟩ = some x2 ∧ w'.cell? ⟨px, 3, none⟩ = some x3 ∧ w'.cell? ⟨w.heap.size, 0, none⟩ = some v1 ∧ w'.cell? ⟨w.heap.size, 1, none⟩ = some v2 ∧ w'.cell? ⟨w.heap.size, 2, none⟩ = some v3 ∧ w'.cell? ⟨w.heap.size, 3, none⟩ = some v4)
      (first | (refine ⟨?_, ?_, ?_, ?_, ?_, ?_, ?_, ?_⟩ <;> with_reducible assumption) | go_keep)
      (first
        | (go_at_call 8; (with_reducible refine (toRod_own v1 v2 v3 v4 R HS.out w10.drew (h.below D.drew)).mono ?_); rintro e w11 ⟨ya0, yc0, ya1, yc1, ya2, yc2, ya3, yc3, Y1, Y2, Y3, Y4, Y5, rfl, oy, hy, hb⟩; replace bA := bA.below (undrew hb); replace os := os.below (undrew hb); replace bs := bs.below (undrew hb); replace ox := ox.below (undrew hb); replace bx := bx.below (undrew hb); replace lx := lx.below (undrew hb); replace og := og.below (undrew hb); replace bg := bg.below (undrew hb); replace D := B_trans (w := w) D.drew hb; clear hb hy; have cbx_1 := bx.1; obtain ⟨bx_10, bx_11, bx_12, bx_13⟩ := cbx_1; have cbA_1 := bA.1; obtain ⟨bA_10, bA_11, bA_12, bA_13⟩ := cbA_1)
        | (go_at_call 10; (with_reducible refine (eqRod_any _ _ _ _ _ _ _ _ R _ ox.rod oy.rod).mono ?_); rintro e w12 ⟨rfl, hb⟩; replace bA := bA.below hb; replace os := os.below hb; replace bs := bs.below hb; replace ox := ox.below hb; replace bx := bx.below hb; replace lx := lx.below hb; replace og := og.below hb; replace bg := bg.below hb; replace D := B_trans (w := w) D hb; clear hb; have cbx_2 := bx.1; obtain ⟨bx_20, bx_21, bx_22, bx_23⟩ := cbx_2; have cbA_2 := bA.1; obtain ⟨bA_20, bA_21, bA_22, bA_23⟩ := cbA_2))
    rename_i hHeld
    clear hHeld
    clear bx0 bx1 bx2 bx3 bxf bxl
    clear bA0 bA1 bA2 bA3 bAf bAl
    clear bx_10 bA_10 bx_11 bA_11 bx_12 bA_12 bx_13 bA_13
    clear bx_20 bA_20 bx_21 bA_21 bx_22 bA_22 bx_23 bA_23
    clear oy
    go_wp2_with fail
    refine (toF_own _ ws _ (H5.out _ D) hw).mono ?_
    rintro e w13 ⟨aly, cly, Nly, Mly, rfl, ly, gly, ily, hb⟩
    replace bA := bA.below hb
    replace os := os.below hb
    replace bs := bs.below hb
    replace ox := ox.below hb
    replace bx := bx.below hb
    replace lx := lx.below hb
    replace og := og.below hb
    replace bg := bg.below hb
    replace D := B_trans (w := w) D hb
    clear hb gly ily
    go_wp2_with fail
    refine (eqFloat32S_any _ _ ws ws _ (OSl.fsl lx) (OSl.fsl ly) rfl (fun _ _ => rfl)).mono ?_
    rintro e w14 ⟨nd, rfl, hb⟩
    replace hb : Below w13.heap.size w13 w14 := by rw [hb]; exact below_draws _ _
    replace bA := bA.below hb
    replace os := os.below hb
    replace bs := bs.below hb
    replace ox := ox.below hb
    replace bx := bx.below hb
    replace lx := lx.below hb
    replace og := og.below hb
    replace bg := bg.below hb
    replace D := B_trans (w := w) D hb
    clear hb ly
    have cbx := bx
    obtain ⟨⟨bx0, bx1, bx2, bx3⟩, bxf, bxl⟩ := cbx
    go_wp2_with fail
    clear bx0 bx1 bx2 bx3 bxf bxl
    refine (markRod_any X1 X2 X3 X4 X5 _ _ _ _ R HS.out _ ox).mono ?_
    rintro e w15 ⟨rfl, oM, hf⟩
    replace D := D.trans ((hf.below (by have := ox.1; omega)).mono (by omega))
    clear ox
    replace bA := bA.frm hf (by omega)
    replace os := os.frame hf (by omega)
    replace bs := bs.frm hf (by omega)
    replace bx := bx.frm hf (by omega)
    replace lx := lx.frame hf (by omega)
    replace og := og.frame hf (by omega)
    replace bg := bg.frm hf (by omega)
    clear hf
    clear oM
    go_wp2_with fail
    refine (markF_any Nlx Mlx _ _ _ _ (by omega) (by omega) hw _ lx).mono ?_
    rintro e w16 ⟨rfl, lM, hf⟩
    replace D := D.trans ((hf.below (by have := OSf.top lx; omega)).mono (by omega))
    clear lx lM
    replace bA := bA.frm hf (by omega)
    replace os := os.frame hf (by omega)
    replace bs := bs.frm hf (by omega)
    replace bx := bx.frm hf (by omega)
    replace og := og.frame hf (by omega)
    replace bg := bg.frm hf (by omega)
    clear hf
    have m4 : 0 ≤ markE R 1 + (ws.length : Int) := by omega
    have cbg := bg
    obtain ⟨⟨bg0, bg1, bg2, bg3⟩, bgf, bgl⟩ := cbg
    have cbs := bs
    obtain ⟨⟨bs0, bs1, bs2, bs3⟩, bsf, bsl⟩ := cbs
    go_wp2_with fail
    clear bg0 bg1 bg2 bg3 bgf bgl
    clear bs0 bs1 bs2 bs3 bsf bsl
    refine (eqRod_any _ _ _ _ _ _ _ _ Q _ og.rod os.rod).mono ?_
    rintro e w17 ⟨rfl, hb⟩
    replace bA := bA.below hb
    replace os := os.below hb
    replace bs := bs.below hb
    replace bx := bx.below hb
    replace og := og.below hb
    replace bg := bg.below hb
    replace D := B_trans (w := w) D hb
    clear hb
    have cbg := bg
    obtain ⟨⟨bg0, bg1, bg2, bg3⟩, bgf, bgl⟩ := cbg
    go_wp2_with fail
    clear bg0 bg1 bg2 bg3 bgf bgl
    clear bx
    refine (markRod_any G1 G2 G3 G4 G5 _ _ _ _ Q HQ.out _ og).mono ?_
    rintro e w18 ⟨rfl, oM, hf⟩
    replace D := D.trans ((hf.below (by have := og.1; omega)).mono (by omega))
    clear og
    replace bA := bA.frm hf (by omega)
    replace os := os.frame hf (by omega)
    replace bs := bs.frm hf (by omega)
    replace bg := bg.frm hf (by omega)
    clear hf
    have om := oM
    clear oM
    have cbg := bg
    obtain ⟨⟨bg0, bg1, bg2, bg3⟩, bgf, bgl⟩ := cbg
    go_wp2_with fail
    clear bg0 bg1 bg2 bg3 bgf bgl
    refine (heldRod_any G1 G2 G3 G4 G5 _ _ _ _ Q HQ.out _ om).mono ?_
    rintro e w19 ⟨rfl, hb⟩
    replace bA := bA.below hb
    replace os := os.below hb
    replace bs := bs.below hb
    replace bg := bg.below hb
    replace om := om.below hb
    replace D := B_trans (w := w) D hb
    clear hb
    have cbA := bA
    obtain ⟨⟨bA0, bA1, bA2, bA3⟩, bAf, bAl⟩ := cbA
    go_wp2_with fail
    clear bA0 bA1 bA2 bA3 bAf bAl
    refine (toRod_own _ _ _ _ R HS.out _ (h.below D)).mono ?_
    rintro e w20 ⟨za0, zc0, za1, zc1, za2, zc2, za3, zc3, Z1, Z2, Z3, Z4, Z5, rfl, oz, hz, hb⟩
    replace bA := bA.below hb
    replace os := os.below hb
    replace bs := bs.below hb
    replace bg := bg.below hb
    replace om := om.below hb
    replace D := B_trans (w := w) D hb
    clear hb
    clear hz
    go_wp2_with fail
    refine (toF_own _ ws _ (H5.out _ D) hw).mono ?_
    rintro e w21 ⟨alz, clz, Nlz, Mlz, rfl, lz, glz, ilz, hb⟩
    replace bA := bA.below hb
    replace os := os.below hb
    replace bs := bs.below hb
    replace bg := bg.below hb
    replace om := om.below hb
    replace oz := oz.below hb
    replace D := B_trans (w := w) D hb
    clear hb glz ilz
    go_wp2_with fail
    refine (IMP.out _ _ _ _ _ _ oz.rod (OSl.fsl lz)).mono ?_
    rintro e w22 ⟨ka0, kc0, ka1, kc1, ka2, kc2, ka3, kc3, K1, K2, K3, K4, K5, rfl, ok, hk, hb⟩
    replace bA := bA.below hb
    replace os := os.below hb
    replace bs := bs.below hb
    replace bg := bg.below hb
    replace om := om.below hb
    replace oz := oz.below hb
    replace D := B_trans (w := w) D hb
    clear hb
    clear hk
    clear oz
    clear lz
    have cbs := bs
    obtain ⟨⟨bs0, bs1, bs2, bs3⟩, bsf, bsl⟩ := cbs
    go_wp2_with fail
    clear bs0 bs1 bs2 bs3 bsf bsl
    generalize (Value.slice ka0 (Q).a.length kc0) = k0 at *
    generalize (Value.slice ka1 (Q).b.length kc1) = k1 at *
    generalize (Value.slice ka2 (Q).c.length kc2) = k2 at *
    generalize (Value.slice ka3 (Q).d.length kc3) = k3 at *
    have bk := box4_alloc w22 26 k0 k1 k2 k3
    have hA : Below w22.heap.size w22 (w22.alloc (.cells #[k0, k1, k2, k3] 26)) := (Below.refl _ _).alloc (Nat.le_refl _) _
    replace bA := bA.below hA
    replace os := os.below hA
    replace bs := bs.below hA
    replace bg := bg.below hA
    replace om := om.below hA
    replace ok := ok.below hA
    replace D := B_trans (w := w) D hA
    clear hA
    generalize w22.heap.size = pk at *
    generalize w22.alloc (.cells #[k0, k1, k2, k3] 26) = w23 at *
    refine (eqRod_any _ _ _ _ _ _ _ _ Q _ ok.rod os.rod).mono ?_
    rintro e w24 ⟨rfl, hb⟩
    replace bA := bA.below hb
    replace os := os.below hb
    replace bs := bs.below hb
    replace bg := bg.below hb
    replace om := om.below hb
    replace ok := ok.below hb
    replace bk := bk.below hb
    replace D := B_trans (w := w) D hb
    clear hb
    have cbg := bg
    obtain ⟨⟨bg0, bg1, bg2, bg3⟩, bgf, bgl⟩ := cbg
    go_wp2_with fail
    clear bg0 bg1 bg2 bg3 bgf bgl
    refine (heldRod_any G1 G2 G3 G4 G5 _ _ _ _ Q HQ.out _ om).mono ?_
    rintro e w25 ⟨rfl, hb⟩
    replace bA := bA.below hb
    replace os := os.below hb
    replace bs := bs.below hb
    replace bg := bg.below hb
    replace om := om.below hb
    replace ok := ok.below hb
    replace bk := bk.below hb
    replace D := B_trans (w := w) D hb
    clear hb
    go_wp2_with fail
    go_ret
    exact ⟨rfl, D⟩
  · simp only [if_neg hl] at HSZ
    clear hl
    go_enter Try.func5, Try.ntmps5
    go_wp2_with fail
    refine (HSZ.out _ D).mono ?_
    rintro e w1 ⟨rfl, hb⟩
    go_wp2_with fail
    go_ret
    exact ⟨rfl, B_trans D hb⟩
theorem laidOut_FnExactSetWarms : laidOutB Try.prog = true := by kernel_rfl
theorem contract_FnExactSetWarms (H : Type) (enc : TypeId × Value → H) (W : World) (base : Nat) (args : Array Value) (ds gs : List (DataW H)) (before : List MemPlace)
    (hval : ∀ (j : Nat) t v, Try.f5.params[j]? = some t → args[j]? = some v → Value.okWide Try.prog W .any base t v)
    (hW : DataW.Whole enc Try.prog Try.f5.params.toList Rows.fnExactSetWarmsSpec.vars false W args.toList ds gs before) :
    Calls Try.prog 5 args W fun e W' => ∃ v, e = .returned v ∧ Rows.fnExactSetWarmsSpec.post enc Try.prog Try.f5 false true false false W args v W' := by
  have hW' := hW
  obtain ⟨p, q, hA0, hV, rfl, hfz, hnd⟩ := hW
  have hA : DataW.TrodAll enc Try.prog W 0 (fun _ => true) true Try.f5.params.toList args.toList ds p := hA0
  rw [Try.params5] at hA hval
  obtain ⟨v0, vs0, d0, ds0, p0, q0, hargs, rfl, rfl, h0, r0⟩ := trodAll_cons hA
  obtain ⟨v1, vs1, d1, ds1, p1, q1, rfl, rfl, rfl, h1, r1⟩ := trodAll_cons r0
  obtain ⟨rfl, rfl, rfl⟩ := trodAll_nil r1
  obtain rfl : args = #[v0, v1] := by cases args; simp_all
  obtain ⟨rfl, rfl⟩ := trodVars_none hV
  have hlt0 : ∀ x ∈ p0, x.block < W.heap.size := fun x hx => hW'.lt x (by simp [hx])
  have hk0 := h0
  obtain ⟨x0a, x0b, x0c, x0d, y0a, y0b, y0c, y0d, n0, rfl, rfl, rfl, t0a, t0b, t0c, t0d⟩ := open_agg4 Try.underlying24 (by kernel_rfl) (by kernel_rfl) (hval 0 24 v0 rfl rfl) h0
  obtain ⟨bs0a, hs0a⟩ := open_floats Try.underlying22 Try.underlying33 (by kernel_rfl) t0a
  obtain ⟨bs0b, hs0b⟩ := open_floats Try.underlying22 Try.underlying33 (by kernel_rfl) t0b
  obtain ⟨bs0c, hs0c⟩ := open_floats Try.underlying22 Try.underlying33 (by kernel_rfl) t0c
  obtain ⟨bs0d, hs0d⟩ := open_floats Try.underlying22 Try.underlying33 (by kernel_rfl) t0d
  have hlt1 : ∀ x ∈ p1, x.block < W.heap.size := fun x hx => hW'.lt x (by simp [hx])
  obtain ⟨sa1, sl1, sc1, rfl⟩ := okWide_slice Try.underlying22 (hval 1 22 v1 rfl rfl)
  obtain ⟨bs1, hs1⟩ : ∃ bs, FSl .f32 W (.slice sa1 sl1 sc1) bs := by
    obtain ⟨fuel, hf⟩ := h1
    exact open_floats Try.underlying22 Try.underlying33 (by kernel_rfl) hf
  clear hA0
  simp only [List.append_nil] at hW'
  refine (walk_FnExactSetWarms (w := W) _ _ _ _ ⟨bs0a, bs0b, bs0c, bs0d⟩ ⟨hs0a, hs0b, hs0c, hs0d⟩ _ bs1 hs1).mono fun e W' ⟨he, hb⟩ => ?_
  subst he
  exact ⟨_, rfl, post_of_below (pa := (_ ++ (p1 ++ []))) (pv := []) hW' (fun _ _ _ => (trodAll_cons_mk (shut_bool Try.underlying4 _) trodAll_mk0)) (fun sp hsp => (trodAll_cons_mk (trod_keep laidOut_FnExactSetWarms (by kernel_rfl) (of_decide_eq_true (by kernel_rfl)) hk0 hb hlt0 (fun x hx => hsp x (by simp only [List.mem_append] at hx ⊢; rcases hx with hx | hx | hx | hx <;> simp [hx]))) (trodAll_cons_mk (trod_keep laidOut_FnExactSetWarms (by kernel_rfl) (of_decide_eq_true (by kernel_rfl)) h1 hb hlt1 (fun x hx => hsp x (by simp [hx]))) trodAll_mk0))) (fun _ _ => rfl) (by simp) hb (ok_one (by kernel_rfl) rfl (okWide_bool_mk Try.underlying4 _))⟩

theorem own_FnExactSetWarms : ownKnob Try.prog.godebug = none := by kernel_rfl
set_option maxRecDepth 100000 in
theorem lifted_FnExactSetWarms (os : Os) (started : os.Started) (H : Type) (enc : TypeId × Value → H) :
    ReturnsInHanded {} Try.checked os 5 .any (Rows.fnExactSetWarmsSpec.pre6 enc Try.prog Try.f5 Rows.fnExactSetWarmsRow.domain false) (Rows.fnExactSetWarmsSpec.post enc Try.prog Try.f5 false true false false) := by
  refine returnsInHanded_of_change (C := Try.checked) own_FnExactSetWarms started (by kernel_rfl) Try.func5
    (ChangeSpec.witness6 (enc := enc) (C := Try.checked) false ⟨#[], #[.agg #[.slice none 0 0, .slice none 0 0, .slice none 0 0, .slice none 0 0], .slice none 0 0], []⟩ 8 (by kernel_rfl) (by kernel_rfl) (by kernel_rfl) (by kernel_rfl)) ?_
  intro W base args ds gs before hval hW _ _
  exact contract_FnExactSetWarms H enc W base args ds gs before hval hW
theorem over_FnExactSetWarms : Rows.fnExactSetWarmsRow.holds Try.pinned (OpenSpec.ofChange Rows.fnExactSetWarmsSpec) :=
  OpenClaim.holds_of_wide 5 Try.f5 rfl rfl rfl rfl rfl rfl rfl ⟨rfl, rfl, rfl, rfl, rfl⟩ rfl rfl rfl rfl rfl (by kernel_rfl) Try.func5 (by kernel_rfl)
    (of_decide_eq_true (by kernel_rfl)) (by unfold Func.isWrapper; first | (rw [if_pos (by decide +kernel)]; kernel_rfl) | (rw [if_neg (by decide +kernel)]; exact ⟨rfl, rfl⟩))
    (fun os started H enc _ => lifted_FnExactSetWarms os started H enc)
theorem proved_FnExactSetWarms : Rows.FnExactSetWarmsSaid := over_FnExactSetWarms
#print axioms proved_FnExactSetWarms
end Go.Proofs.Ytiolmffcmbcgmaa
