/-
  The law FnProducts, walked.
-/
import Derived.Test.YtgaecoekhcdaeaaGreatDoorFpl
import Derived.Deep.RegionWith
namespace Go.Proofs.YtgaecoekhcdaeaaGreatDoor
set_option linter.unusedVariables false
set_option linter.unusedSimpArgs false
set_option maxRecDepth 20000
open Go.RowKit Fl

set_option maxRecDepth 100000 in
set_option maxHeartbeats 16000000 in
theorem walk_FnProducts (v1 : Value) (n1 : Nat) {w : World} (b1 : BySl w v1 n1) (v2 : Value) (n2 : Nat) (b2 : BySl w v2 n2) (ht : RxF w) :
    Calls Tryz.prog 3 #[v1, v2] w fun e w' => e = .returned (.bool true) ∧ Below w.heap.size w w' := by
  cases hq : decide (1048576 < n1 ∨ 1048576 < n2)
  · have HL := Lib.hid (b10Long_any v1 v2 n1 n2 w b1 b2 false hq)
    have hn12 : n1 ≤ 1048576 ∧ n2 ≤ 1048576 := by simp at hq; omega
    obtain ⟨hn1, hn2⟩ := hn12
    have HX := Lib.hid (fun w' (hb : Below w.heap.size w w') => b10Whole_any v1 n1 hn1 w' (b1.below hb))
    have HY := Lib.hid (fun w' (hb : Below w.heap.size w w') => b10Whole_any v2 n2 hn2 w' (b2.below hb))
    have HZ := Lib.hid (fun w' (hb : Below w.heap.size w w') => b10Number_any v1 n1 hn1 w' (b1.below hb))
    have HC := Lib.hid (fun w' (hb : Below w.heap.size w w') => b10Complex_any v1 n1 hn1 w' (b1.below hb))
    have HA := Lib.hid (fun w' (hb : Below w.heap.size w w') => b10At_any v1 n1 0 (by decide) 9 (by decide) (by decide) w' (b1.below hb))
    have HNs := Lib.hid (fun k (hk : k ≤ 1000) w' (hb : Below w.heap.size w w') => b10Any_any v2 n2 hn2 k hk w' (b2.below hb))
    have HT := Lib.hid ht
    clear hq b1 b2 ht
    go_enter Tryz.func3, Tryz.ntmps3
    go_wp2_with fail
    refine HL.out.mono ?_
    rintro e w1 ⟨rfl, hw⟩
    obtain rfl := hw.symm
    clear hw HL
    go_wp2_with fail
    refine (HX.out _ (Below.refl _ _)).mono ?_
    rintro e w2 ⟨g1, cap1, i, j, rfl, ⟨hi0, hi1, hj0, hj1⟩, hc1, hb2⟩
    clear HX
    go_wp2_with fail
    refine (HY.out _ hb2).mono ?_
    rintro e w3 ⟨g2, cap2, k, l, rfl, ⟨hk0, hk1, hl0, hl1⟩, hc2, hb3⟩
    have D3 := B_trans hb2 hb3
    clear hb2 hb3 HY hc1
    obtain ⟨pa0, pa1⟩ := prodB hi0 hi1 hk0 hk1
    obtain ⟨pb0, pb1⟩ := prodB hj0 hj1 hl0 hl1
    obtain ⟨pc0, pc1⟩ := prodB hi0 hi1 hl0 hl1
    obtain ⟨pd0, pd1⟩ := prodB hj0 hj1 hk0 hk1
    obtain ⟨pe0, pe1⟩ := prodB hi0 hi1 hi0 hi1
    obtain ⟨pf0, pf1⟩ := prodB hj0 hj1 hj0 hj1
    have ci := c32_int (n := i) (by omega)
    have cj := c32_int (n := j) (by omega)
    have ck := c32_int (n := k) (by omega)
    have cl' := c32_int (n := l) (by omega)
    have cX := c32_int (n := i * k - j * l) (by omega)
    have cY := c32_int (n := i * l + j * k) (by omega)
    have cP := c32_int (n := i * i + j * j) (by omega)
    have c0 := c32_zero
    have HM1 := Lib.hid (fun w' => mulW_any _ _ _ _ ci cj ck cl' (by omega) (by omega) (by omega) (by omega) w')
    have hm2 := fun w' => mulW_any _ _ _ _ ck cl' ci cj (by omega) (by omega) (by omega) (by omega) w'
    rw [show k * i - l * j = i * k - j * l by rw [Int.mul_comm k i, Int.mul_comm l j], show k * j + l * i = i * l + j * k by rw [Int.mul_comm k j, Int.mul_comm l i]; omega] at hm2
    have HM2 := Lib.hid hm2
    have HPw := Lib.hid (fun w' => powerW_any _ _ ci cj (by omega) (by omega) w')
    have HCj := Lib.hid (fun w' => conjW_any hi0 hi1 hj0 hj1 w')
    have hm3 := fun r s (hr : C32 i r) (hs : C32 (-j) s) w' => mulW_any _ _ _ _ ci cj hr hs (by omega) (by omega) (by omega) (by omega) w'
    rw [show i * i - j * -j = i * i + j * j by rw [Int.mul_neg]; omega, show i * -j + j * i = 0 by rw [Int.mul_neg, Int.mul_comm j i]; omega] at hm3
    have HM3 := Lib.hid hm3
    obtain ⟨vl, hlo, hro⟩ := longW_any hi0 hi1 hj0 hj1
    have HLo := Lib.hid hlo
    have HRo := Lib.hid hro
    have HQu := Lib.hid (fun r s (hr : C32 (i * k - j * l) r) (hs : C32 (i * l + j * k) s) hn w' => quotW_any r s hr hs hi0 hi1 hj0 hj1 hk0 hk1 hl0 hl1 hn w')
    have HSc := Lib.hid (fun w' => scaleW_any hi0 hi1 hj0 hj1 w')
    have HS1 := Lib.hid (fun a b u (ha : IsF .f32 a u) (hb : IsF .f32 b u) w' => show Calls Tryz.prog 10 #[.float .f32 a, .float .f32 b] w' fun e w'' => e = .returned (.bool true) ∧ w'' = w' from by
      have := sSameNumber_any a b u u ha hb w'
      rw [cbits_same] at this
      exact this)
    clear hm2 hm3 hlo hro
    go_wp2_with fail
    refine (HM1.out _).mono ?_
    rintro e w4 ⟨pr, ps, m4, rfl, hpr, hps, rfl⟩
    have D4 := B_drew D3 m4
    clear D3 HM1 hc2
    generalize w3.drewN m4 = w4 at *
    go_wp2_with (first | (refine wpList_toInt rfl rfl rfl (congrArg Option.isSome Tryz.underlying28) Tryz.underlying2 (by assumption) (by assumption) ?_) | (refine wpList_cneqW rfl rfl rfl rfl (by assumption) (by assumption) (by assumption) (by assumption) (b := false) (by simp) ?_))
    refine (HM2.out _).mono ?_
    rintro e w5 ⟨r5, s5, m5, rfl, hr5, hs5, rfl⟩
    have D5 := B_drew D4 m5
    clear D4 HM2
    generalize w4.drewN m5 = w5 at *
    go_wp2_with (refine wpList_cneqW rfl rfl rfl rfl (by assumption) (by assumption) (by assumption) (by assumption) (b := false) (by simp) ?_)
    refine (HPw.out _).mono ?_
    rintro e w6 ⟨r6, m6, rfl, hr6, rfl⟩
    have D6 := B_drew D5 m6
    clear D5 HPw hr5 hs5
    generalize w5.drewN m6 = w6 at *
    go_wp2_with (refine wpList_fneqW rfl rfl rfl rfl (by assumption) (by assumption) (b := false) (by simp) ?_)
    refine (HCj.out _).mono ?_
    rintro e w7 ⟨r7, s7, m7, rfl, hr7, hs7, rfl⟩
    have D7 := B_drew D6 m7
    clear D6 HCj hr6
    generalize w6.drewN m7 = w7 at *
    go_wp2_with fail
    refine (HM3.out _ _ hr7 hs7 _).mono ?_
    rintro e w8 ⟨r8, s8, m8, rfl, hr8, hs8, rfl⟩
    have D8 := B_drew D7 m8
    clear D7 HM3 hr7 hs7
    generalize w7.drewN m8 = w8 at *
    go_wp2_with (refine wpList_cneqW rfl rfl rfl rfl (by assumption) (by assumption) (by assumption) (by assumption) (b := false) (by simp) ?_)
    refine (HLo.out _).mono ?_
    rintro e w9 ⟨r9, m9, rfl, hr9, rfl⟩
    have D9 := B_drew D8 m9
    clear D8 HLo hr8 hs8
    generalize w8.drewN m9 = w9 at *
    go_wp2_with fail
    refine (HRo.out _).mono ?_
    rintro e w10 ⟨r10, m10, rfl, hr10, rfl⟩
    have D10 := B_drew D9 m10
    have HSe := Lib.hid (HS1.out r9 r10 _ hr9 hr10)
    clear D9 HRo hr9 hr10
    generalize w9.drewN m10 = w10 at *
    go_wp2_with fail
    refine (HSe.out _).mono ?_
    rintro e w' ⟨rfl, hw⟩
    obtain rfl := hw.symm
    clear hw HSe
    cases hqz : (!(decide (k = 0) && decide (l = 0)))
    case' false =>
      go_wp2_with (refine wpList_cneqW rfl rfl rfl rfl ck cl' c0 c0 (b := false) hqz ?_)
      clear HQu
      obtain ⟨w11, D11, hw11⟩ : ∃ w11, Below w.heap.size w w11 ∧ w11 = w10 := ⟨_, D10, rfl⟩
      rw [← hw11]
      clear D10 hw11
    case' true =>
      have hnz : ¬ (k = 0 ∧ l = 0) := by
        rintro ⟨rfl, rfl⟩
        cases hqz
      go_wp2_with (refine wpList_cneqW rfl rfl rfl rfl ck cl' c0 c0 (b := true) hqz ?_)
      refine (HQu.out _ _ hpr hps hnz _).mono ?_
      rintro e w11 ⟨r11, s11, m11, rfl, hr11, hs11, rfl⟩
      have D11 := B_drew D10 m11
      clear HQu D10
      generalize w10.drewN m11 = w11 at *
      go_wp2_with (refine wpList_cneqW rfl rfl rfl rfl hr11 hs11 ci cj (b := false) (by simp) ?_)
      clear hr11 hs11 hnz
    all_goals
      refine (HSc.out _).mono ?_
      rintro e w12 ⟨r12, s12, m12, rfl, hr12, hs12, rfl⟩
      have D12 := B_drew D11 m12
      clear D11 HSc
      generalize w11.drewN m12 = w12 at *
      go_wp2_with (first | (refine wpList_caddW rfl rfl rfl rfl hi0 hi1 hj0 hj1 ?_; intro r13 s13 m13 hr13 hs13) | (refine wpList_cneqW rfl rfl rfl rfl (by assumption) (by assumption) (by assumption) (by assumption) (b := false) (by simp) ?_))
      have D13 := B_drew D12 m13
      clear D12 hr12 hs12 hr13 hs13 ci cj ck cl' cX cY cP c0 hpr hps
      generalize w12.drewN m13 = w13 at *
      clear pa0 pa1 pb0 pb1 pc0 pc1 pd0 pd1 pe0 pe1 pf0 pf1
      refine (HA.out _ D13).mono ?_
      rintro e w' ⟨q, rfl, hq0, hq1, hw⟩
      obtain rfl := hw.symm
      clear hw HA
      obtain ⟨t, rfl⟩ : ∃ t : Nat, q = (t : Int) := ⟨q.toNat, by omega⟩
      have ht9 : t < 9 := by omega
      clear hq0 hq1
      go_wp2_with fail
      refine (HNs.out t (by omega) _ D13).mono ?_
      rintro e w14 ⟨lv, ls, rfl, hls, hlen, hb14⟩
      have D14 := B_trans D13 hb14
      have hl256 : ls.length ≤ 256 := by omega
      have HLEN := Lib.hid hlen
      clear D13 hb14 HNs hlen
      have hbd : ∀ b ∈ ls, b.1 < 4294967296 ∧ b.2 < 4294967296 := by obtain ⟨_, _, _, _, _, h, _⟩ := hls; exact h
      obtain ⟨ao, cap, hlv⟩ : ∃ ao cap, lv = .slice ao ls.length cap := by obtain ⟨ao, cap, h, _⟩ := hls; exact ⟨ao, cap, h⟩
      subst hlv
      have HTx := Lib.hid (iComplexText_any _ ls w14 hls hl256 (HT.out.deb.below D14))
      obtain ⟨hok, hlc⟩ := read_backC ls hl256 hbd
      have htl := ctxt_len ls hl256
      have HRd : ∀ w', Below w.heap.size w w' → Calls Tryz.prog 18 #[.string ⟨(txtOf (wordsC ls)).toArray⟩] w' fun e w'' => ∃ ao2 cap2, e = .returned (.tuple #[.slice ao2 ls.length cap2, .bool true]) ∧ CSl w'' (.slice ao2 ls.length cap2) (ls.map backC) ∧ Below w'.heap.size w' w'' := fun w' hb => by
        refine (iReadComplex_any ⟨(txtOf (wordsC ls)).toArray⟩ (by show (txtOf (wordsC ls)).toArray.size ≤ _; simpa using htl) w' (HT.out.below hb)).mono ?_
        rintro e w'' ⟨v, rfl, hov, hb2⟩
        have hok2 : lokG rck 256 (partsL (⟨(txtOf (wordsC ls)).toArray⟩ : ByteArray).data.toList) = true := hok
        have hlc2 : lcG rck 256 ccell (partsL (⟨(txtOf (wordsC ls)).toArray⟩ : ByteArray).data.toList) = (ls.map backC).map ccv := hlc
        rw [hlc2] at hov
        have h3 := csl_of_ov (fun b hb => by
          obtain ⟨z, hz, rfl⟩ := List.mem_map.1 hb
          exact backC_lt (hbd z hz)) hov
        obtain ⟨ao2, cap2, hv, _⟩ := id h3
        rw [List.length_map] at hv
        subst hv
        exact ⟨ao2, cap2, by rw [hok2], h3, hb2⟩
      have HRD := Lib.hid HRd
      have HBD := Lib.hid hbd
      clear HRd hok hlc htl hbd
      generalize (⟨(txtOf (wordsC ls)).toArray⟩ : ByteArray) = T at *
      go_wp2_with fail
      refine HTx.out.mono ?_
      rintro e w15 ⟨rfl, hb15⟩
      have D15 := B_trans D14 hb15
      have hls15 := hls.below hb15
      clear D14 hls hb15 HTx
      go_wp2_with fail
      refine (HRD.out _ D15).mono ?_
      rintro e w16 ⟨ao2, cap2, rfl, hrd, hb16⟩
      have D16 := B_trans D15 hb16
      have hls16 := hls15.below hb16
      clear D15 hls15 hb16 HRD
      go_wp2_with fail
      refine (HZ.out _ D16).mono ?_
      rintro e w17 ⟨rz, rfl, hrz, hb17⟩
      have D17 := B_trans D16 hb17
      have hls17 := hls16.below hb17
      have hrd17 := hrd.below hb17
      clear D16 hls16 hrd hb17 HZ
      obtain ⟨vz, iz⟩ : ∃ vz, IsF .f32 rz vz := ⟨_, IsF.of (show rz < 4294967296 from hrz)⟩
      have HBt := fun w' => iBitsOf_any rz _ iz w'
      rw [bitsI_N] at HBt
      have ib := isF_bitsC iz
      have hbn := bitsN_lt iz
      have HFr := fun w' => iFromBits_yes (bitsN vz) w' (by omega) (by omega)
      simp only [Int.toNat_natCast] at HFr
      have HBt := Lib.hid HBt
      have HFr := Lib.hid HFr
      have HSr := Lib.hid (HS1.out _ rz vz ib iz)
      clear HS1
      generalize bitsN vz = bn at *
      go_wp2_with fail
      refine (HBt.out _).mono ?_
      rintro e w' ⟨rfl, hw⟩
      obtain rfl := hw.symm
      clear hw
      go_wp2_with fail
      refine (HFr.out _).mono ?_
      rintro e w' ⟨rfl, hw⟩
      obtain rfl := hw.symm
      clear hw HBt HFr
      go_wp2_with fail
      refine (HC.out _ D17).mono ?_
      rintro e w18 ⟨ra, rb, rfl, ⟨hra, hrb⟩, hb18⟩
      have D18 := B_trans D17 hb18
      have hls18 := hls17.below hb18
      have hrd18 := hrd17.below hb18
      clear D17 hls17 hrd17 hb18 HC
      obtain ⟨va, ia⟩ : ∃ va, IsF .f32 ra va := ⟨_, IsF.of (show ra < 4294967296 from hra)⟩
      obtain ⟨vb, ib2⟩ : ∃ vb, IsF .f32 rb vb := ⟨_, IsF.of (show rb < 4294967296 from hrb)⟩
      go_wp2_with (first | (refine wpList_fwid rfl rfl rfl (congrArg Option.isSome Tryz.underlying28) Tryz.underlying46 ia ?_; intro wa na hwa) | (refine wpList_fwid rfl rfl rfl (congrArg Option.isSome Tryz.underlying28) Tryz.underlying46 ib2 ?_; intro wb nb hwb))
      have D19 := B_drew D18 (na + nb)
      have hls19 := hls18.below (below_draws _ (na + nb))
      have hrd19 := hrd18.below (below_draws _ (na + nb))
      clear D18 hls18 hrd18
      generalize w18.drewN (na + nb) = w19 at *
      have HSm := Lib.hid (b10Same_any _ _ _ _ w19 hrd19 hls19 (List.length_map ..) (fun i hi => by
        have hb := HBD.out _ (cg_mem hi)
        rw [cg_back hi]
        exact ⟨(isF_bitsC (IsF.of (show (cg ls i).1 < 4294967296 from hb.1))).eq, (isF_bitsC (IsF.of (show (cg ls i).2 < 4294967296 from hb.2))).eq⟩))
      have HNr := Lib.hid (fun w' => narrowC_any ra rb wa wb va vb ia ib2 hwa hwb w')
      have HCs := Lib.hid (fun r s (hr : IsF .f32 r va) (hs : IsF .f32 s vb) w' => iSameComplex_any r s ra rb va vb hr hs ia ib2 w')
      have HC1 := Lib.hid (fun w' => conj_any ra rb va vb ia ib2 w')
      have HC2 := Lib.hid (fun r s (hr : IsF .f32 r va) (hs : IsF .f32 s (neg .f32 vb)) w' => (conj_any r s va (neg .f32 vb) hr hs w').mono (R' := RCx w' va vb) (by
        rintro e w'' ⟨x, y, n, h1, h2, h3, h4⟩
        rw [neg_neg ib2] at h3
        exact ⟨x, y, n, h1, h2, h3, h4⟩))
      have HIf := Lib.hid (fun w' => isFinC_any ra rb va vb ia ib2 w')
      have HF1 := Lib.hid (fun w' => sIsFinite_any ra va ia w')
      have HF2 := Lib.hid (fun w' => sIsFinite_any rb vb ib2 w')
      clear hls19 hrd19 hwa hwb HLEN hl256 HBD
      generalize finF va = p at *
      generalize finF vb = q at *
      go_wp2_with fail
      refine HSm.out.mono ?_
      rintro e w20 ⟨m20, rfl, rfl⟩
      have D20 := B_drew D19 m20
      clear D19 HSm
      generalize w19.drewN m20 = w20 at *
      go_wp2_with fail
      refine (HSr.out _).mono ?_
      rintro e w' ⟨rfl, hw⟩
      obtain rfl := hw.symm
      clear hw HSr
      go_wp2_with fail
      refine (HNr.out _).mono ?_
      rintro e w21 ⟨r21, s21, m21, rfl, hr21, hs21, rfl⟩
      have D21 := B_drew D20 m21
      have HSe := Lib.hid (HCs.out _ _ hr21 hs21)
      clear D20 HNr hr21 hs21
      generalize w20.drewN m21 = w21 at *
      go_wp2_with fail
      refine (HSe.out _).mono ?_
      rintro e w22 ⟨m22, rfl, rfl⟩
      have D22 := B_drew D21 m22
      clear D21 HSe
      generalize w21.drewN m22 = w22 at *
      go_wp2_with fail
      refine (HC1.out _).mono ?_
      rintro e w23 ⟨r23, s23, m23, rfl, hr23, hs23, rfl⟩
      have D23 := B_drew D22 m23
      have HSe := Lib.hid (HC2.out _ _ hr23 hs23)
      clear D22 HC1 HC2 hr23 hs23
      generalize w22.drewN m23 = w23 at *
      go_wp2_with fail
      refine (HSe.out _).mono ?_
      rintro e w24 ⟨r24, s24, m24, rfl, hr24, hs24, rfl⟩
      have D24 := B_drew D23 m24
      have HSf := Lib.hid (HCs.out _ _ hr24 hs24)
      clear D23 HSe hr24 hs24
      generalize w23.drewN m24 = w24 at *
      go_wp2_with fail
      refine (HSf.out _).mono ?_
      rintro e w25 ⟨m25, rfl, rfl⟩
      have D25 := B_drew D24 m25
      clear D24 HSf
      generalize w24.drewN m25 = w25 at *
      go_wp2_with fail
      refine (HIf.out _).mono ?_
      rintro e w26 ⟨rfl, hb26⟩
      have D26 := B_trans D25 hb26
      clear D25 hb26 HIf
      go_wp2_with fail
      refine (HF1.out _).mono ?_
      rintro e w27 ⟨m27, rfl, rfl⟩
      have D27 := B_drew D26 m27
      clear D26 HF1
      generalize w26.drewN m27 = w27 at *
      cases p
      case' false =>
        cases q
        all_goals
          go_wp2_with fail
          go_ret
          exact ⟨rfl, D27⟩
      case' true =>
        go_wp2_with fail
        refine (HF2.out _).mono ?_
        rintro e w28 ⟨m28, rfl, rfl⟩
        have D28 := B_drew D27 m28
        cases q
        all_goals
          go_wp2_with fail
          go_ret
          exact ⟨rfl, D28⟩
  · have HL := Lib.hid (b10Long_any v1 v2 n1 n2 w b1 b2 true hq)
    clear hq b1 b2
    go_enter Tryz.func3, Tryz.ntmps3
    go_wp2_with fail
    refine HL.out.mono ?_
    rintro e w1 ⟨rfl, hw⟩
    obtain rfl := hw.symm
    go_wp2_with fail
    go_ret
    exact ⟨rfl, Below.refl _ _⟩
end Go.Proofs.YtgaecoekhcdaeaaGreatDoor
