/-
  The law FnNumbers, walked.
-/
import Derived.Test.YtgaecoekhcdaeaaGreatDoorFnn
import Derived.Deep.RegionWith
namespace Go.Proofs.YtgaecoekhcdaeaaGreatDoor
set_option linter.unusedVariables false
set_option linter.unusedSimpArgs false
set_option maxRecDepth 20000
open Go.RowKit Fl

set_option maxRecDepth 100000 in
set_option maxHeartbeats 16000000 in
theorem walk_FnNumbers (v1 : Value) (n1 : Nat) {w : World} (b1 : BySl w v1 n1) (v2 : Value) (n2 : Nat) (b2 : BySl w v2 n2) (ht : RxF w) :
    Calls Tryz.prog 4 #[v1, v2] w fun e w' => e = .returned (.bool true) ∧ Below w.heap.size w w' := by
  cases hq : decide (1048576 < n1 ∨ 1048576 < n2)
  · have HL := Lib.hid (b10Long_any v1 v2 n1 n2 w b1 b2 false hq)
    have hn12 : n1 ≤ 1048576 ∧ n2 ≤ 1048576 := by simp at hq; omega
    obtain ⟨hn1, hn2⟩ := hn12
    have HX := Lib.hid (fun w' (hb : Below w.heap.size w w') => b10Number_any v1 n1 hn1 w' (b1.below hb))
    have HY := Lib.hid (fun w' (hb : Below w.heap.size w w') => b10Number_any v2 n2 hn2 w' (b2.below hb))
    have HA := Lib.hid (fun w' (hb : Below w.heap.size w w') => b10At_any v1 n1 0 (by decide) 12 (by decide) (by decide) w' (b1.below hb))
    have HNs := Lib.hid (fun k (hk : k ≤ 1000) w' (hb : Below w.heap.size w w') => b10Numbers_any v2 n2 hn2 k hk w' (b2.below hb))
    have HT := Lib.hid ht
    clear hq b1 b2 ht
    go_enter Tryz.func4, Tryz.ntmps4
    go_wp2_with fail
    refine HL.out.mono ?_
    rintro e w1 ⟨rfl, hw⟩
    obtain rfl := hw.symm
    clear hw
    go_wp2_with fail
    refine (HX.out _ (Below.refl _ _)).mono ?_
    rintro e w2 ⟨rx, rfl, hrx, hb2⟩
    go_wp2_with fail
    refine (HY.out _ hb2).mono ?_
    rintro e w3 ⟨ry, rfl, hry, hb3⟩
    have D3 := B_trans hb2 hb3
    clear hb2 hb3
    obtain ⟨vx, ix⟩ : ∃ vx, IsF .f32 rx vx := ⟨_, IsF.of (show rx < 4294967296 from hrx)⟩
    obtain ⟨vy, iy⟩ : ∃ vy, IsF .f32 ry vy := ⟨_, IsF.of (show ry < 4294967296 from hry)⟩
    have HBt := fun w' => iBitsOf_any rx _ ix w'
    rw [bitsI_N] at HBt
    have ib := isF_bitsN ix
    have hbn := bitsN_lt ix
    obtain ⟨hf1, hf2⟩ := flush_facts ix
    have HFr := fun w' => iFromBits_yes (bitsN vx) w' (by omega) (by omega)
    simp only [Int.toNat_natCast] at HFr
    have HSm := Lib.hid (fun a b u v (ha : IsF .f32 a u) (hb : IsF .f32 b v) w' => sSameNumber_any a b u v ha hb w')
    have HS1 := Lib.hid (fun a b u (ha : IsF .f32 a u) (hb : IsF .f32 b u) w' => show Calls Tryz.prog 10 #[.float .f32 a, .float .f32 b] w' fun e w'' => e = .returned (.bool true) ∧ w'' = w' from by
      have := sSameNumber_any a b u u ha hb w'
      rw [bits_same] at this
      exact this)
    have HFl := Lib.hid (fun w' => iFlushNumber_any rx vx ix w')
    have HAng := Lib.hid (fun w' => iAngleTurns_any ry rx vy vx iy ix w')
    have HAof := Lib.hid (fun w' => iAngleOf_any rx ry vx vy ix iy w')
    have HNr := Lib.hid (fun r (hr : IsF .f64 r (wid vx)) w' => iNarrow_wid rx r vx ix hr w')
    have HSi := Lib.hid (fun w' => iSineTurns_any 1048576000 (some 1048576000) (IsF.lit (by decide +kernel)) w')
    rw [sin_quarter] at HSi
    have HSub := Lib.hid (fun b v (h : IsF .f32 b v) w' => iIsSubnormal_any b v h w')
    have HBt := Lib.hid HBt
    have HFr := Lib.hid HFr
    generalize bitsN vx = bn at *
    go_wp2_with fail
    refine (HBt.out _).mono ?_
    rintro e w' ⟨rfl, hw⟩
    obtain rfl := hw.symm
    clear hw
    go_wp2_with fail
    refine (HFr.out _).mono ?_
    rintro e w' ⟨rfl, hw⟩
    obtain rfl := hw.symm
    clear hw HBt HFr
    go_wp2_with fail
    refine (HFl.out _).mono ?_
    rintro e w4 ⟨z, n4, rfl, iz, rfl⟩
    have D4 := B_drew D3 n4
    clear D3 HFl
    generalize w3.drewN n4 = w4 at *
    go_wp2_with fail
    refine (HA.out _ D4).mono ?_
    rintro e w' ⟨q, rfl, hq0, hq1, hw⟩
    obtain rfl := hw.symm
    clear hw
    obtain ⟨k, rfl⟩ : ∃ k : Nat, q = (k : Int) := ⟨q.toNat, by omega⟩
    have hk : k < 12 := by omega
    clear hq0 hq1
    go_wp2_with fail
    refine (HNs.out k (by omega) _ D4).mono ?_
    rintro e w5 ⟨lv, bs, rfl, hls, hlen, hb5⟩
    have D5 := B_trans D4 hb5
    have hl256 : bs.length ≤ 256 := by omega
    clear D4 hb5 HNs HA HX HY HL
    have HLS := Lib.hid hls
    have hbits := Lib.hid hls.bits
    obtain ⟨ao, cap, rfl, g1, g2, g3, g4⟩ := hls
    unfold maxLen at g2
    have HC := Lib.hid g4
    have HLEN := Lib.hid hlen
    clear g3 g4 hlen
    have hz0 := isF_zero
    go_wp2_with fail
    go_loopw [11, 41] (fun s i wr => ∃ (j r m : Nat), j ≤ bs.length ∧ i = .int .i64 j ∧ s = .float .f32 r ∧ IsF .f32 r (sumF bs j) ∧ wr = w5.drewN m) (fun _ i _ => bs.length - (intOf i).toNat)
    case atStart => exact ⟨0, 0, 0, Nat.zero_le _, rfl, rfl, by rw [sumF_zero]; exact hz0, rfl⟩
    case round =>
      obtain ⟨j, r, m, hj, rfl, rfl, hr, rfl⟩ := hrel
      by_cases hlt : j < bs.length
      · rcases HC.out with h0 | ⟨x1, o1, rfl, hx1, hc1⟩
        · subst h0; exact absurd hlt (Nat.not_lt_zero _)
        have s1 := hc1 j hlt
        have i1 : IsF .f32 (fget bs j) (cl .f32 (fget bs j)) := IsF.of (hbits.out _ (fget_mem hlt))
        have HS := Lib.hid (sumF_succ hlt)
        clear hc1
        go_wp2_with (first | (refine wpList_far rfl rfl (by first | exact .inl rfl | exact .inr (.inl rfl) | exact .inr (.inr (.inl rfl)) | exact .inr (.inr (.inr rfl))) rfl rfl (by first | assumption | exact isF_ofInt _ _ | exact IsF.lit (by decide +kernel)) (by first | assumption | exact isF_ofInt _ _ | exact IsF.lit (by decide +kernel)) ?_; intro r n hr) | (refine wpList_fcmp rfl rfl (by first | exact .inl rfl | exact .inr (.inl rfl) | exact .inr (.inr (.inl rfl)) | exact .inr (.inr (.inr (.inl rfl))) | exact .inr (.inr (.inr (.inr (.inl rfl)))) | exact .inr (.inr (.inr (.inr (.inr rfl))))) rfl rfl (by first | assumption | exact isF_ofInt _ _ | exact IsF.lit (by decide +kernel)) (by first | assumption | exact isF_ofInt _ _ | exact IsF.lit (by decide +kernel)) (by first | assumption | exact rfl) ?_) | (first | (refine wpList_fsame rfl rfl rfl (congrArg Option.isSome Tryz.underlying28) Tryz.underlying28 ?_) | (refine wpList_fsame rfl rfl rfl (congrArg Option.isSome Tryz.underlying46) Tryz.underlying46 ?_)) | (refine wpList_fwid rfl rfl rfl (congrArg Option.isSome Tryz.underlying28) Tryz.underlying46 (by assumption) ?_; intro r n hr) | (refine wpList_fnar rfl rfl rfl (congrArg Option.isSome Tryz.underlying46) Tryz.underlying28 (by assumption) (by assumption) ?_; intro r n hr) | (refine wpList_fneg rfl rfl rfl (by assumption) ?_; intro r hr))
        all_goals
          go_roundw
          case rel => exact ⟨j + 1, _, _, by omega, by go_num, rfl, by rw [HS.out]; assumption, rfl⟩
          case measure => simp [intOf]; omega
      · obtain rfl : j = bs.length := by omega
        have D6 := B_drew D5 m
        have hls6 := HLS.out.below (below_draws w5 m)
        clear D5 HLS HC
        generalize w5.drewN m = w6 at *
        have HSum := Lib.hid (iSumNumbers_any _ bs w6 hls6)
        rw [if_pos hl256, decide_eq_true hl256] at HSum
        have HTx := Lib.hid (fun w' (hb : Below w.heap.size w w') (h' : FSl .f32 w' (.slice ao bs.length cap) bs) => iNumbersText_any _ bs w' h' (HT.out.deb.below hb))
        have hnto : nto bs = .tuple #[.string ⟨(txtOf (wordsF bs)).toArray⟩, .bool true] := by
          have hf : fewF bs = true := by unfold fewF; exact decide_eq_true hl256
          unfold nto ntxt; rw [hf, if_pos rfl]
        rw [hnto] at HTx
        clear hnto
        obtain ⟨hok, hlv⟩ := read_back bs hl256 hbits.out
        have htl : (txtOf (wordsF bs)).length ≤ 1048576 := txt_len bs (by have := HLEN.out; omega)
        have HRd : ∀ w', Below w.heap.size w w' → Calls Tryz.prog 32 #[.string ⟨(txtOf (wordsF bs)).toArray⟩] w' fun e w'' => ∃ ao2 cap2, e = .returned (.tuple #[.slice ao2 bs.length cap2, .bool true]) ∧ FSl .f32 w'' (.slice ao2 bs.length cap2) (bs.map (fun b => bitsN (cl .f32 b))) ∧ Below w'.heap.size w' w'' := fun w' hb => by
          refine (iReadNumbers_any ⟨(txtOf (wordsF bs)).toArray⟩ (by show (txtOf (wordsF bs)).toArray.size ≤ _; simpa using htl) w' (HT.out.below hb)).mono ?_
          rintro e w'' ⟨v, rfl, hov, hb2⟩
          have h3 := fsl_of_ov hov
          have hok2 : lokG rhk 256 (partsL (⟨(txtOf (wordsF bs)).toArray⟩ : ByteArray).data.toList) = true := hok
          have hlv2 : lvF (partsL (⟨(txtOf (wordsF bs)).toArray⟩ : ByteArray).data.toList) = bs.map (fun b => bitsN (cl .f32 b)) := hlv
          rw [hlv2] at h3
          rw [hok2]
          obtain ⟨ao2, cap2, rfl, hrest⟩ := h3
          rw [List.length_map] at hrest ⊢
          refine ⟨ao2, cap2, rfl, ⟨ao2, cap2, by rw [List.length_map], by rw [List.length_map]; exact hrest.1, hrest.2.1, hrest.2.2.1, ?_⟩, hb2⟩
          rw [List.length_map]
          exact hrest.2.2.2
        have HRD := Lib.hid HRd
        clear HRd hok hlv htl
        generalize (⟨(txtOf (wordsF bs)).toArray⟩ : ByteArray) = T at *
        go_wp2_with fail
        refine HSum.out.mono ?_
        rintro e w7 ⟨rs, n7, rfl, hrs, rfl⟩
        have D7 := B_drew D6 n7
        have hls7 := hls6.below (below_draws w6 n7)
        clear D6 hls6 HSum
        generalize w6.drewN n7 = w7 at *
        go_wp2_with fail
        refine (HTx.out _ D7 hls7).mono ?_
        rintro e w8 ⟨rfl, hb8⟩
        have D8 := B_trans D7 hb8
        have hls8 := hls7.below hb8
        clear D7 hls7 hb8 HTx
        go_wp2_with fail
        refine (HRD.out _ D8).mono ?_
        rintro e w9 ⟨ao2, cap2, rfl, hrd, hb9⟩
        have D9 := B_trans D8 hb9
        have hls9 := hls8.below hb9
        clear D8 hls8 hb9 HRD
        have hsb := HSub.out z (flushF vx) iz
        rw [hf1] at hsb
        have HSb := Lib.hid hsb
        have HSx := Lib.hid (HSub.out rx vx ix)
        have HSz := Lib.hid (HSm.out rx z vx (flushF vx) ix iz)
        have HSg := Lib.hid (HS1.out rs r _ hrs hr)
        have HSr := Lib.hid (HS1.out bn rx vx ib ix)
        clear hsb hf1 HSub HSm
        generalize subF vx = p at *
        generalize (bitsI vx == bitsI (flushF vx)) = q at *
        clear iz hrs hr
        go_wp2_with fail
        refine (HSr.out _).mono ?_
        rintro e w' ⟨rfl, hw⟩
        obtain rfl := hw.symm
        clear hw
        go_wp2_with fail
        refine (HSb.out _).mono ?_
        rintro e w10 ⟨m10, rfl, rfl⟩
        have D10 := B_drew D9 m10
        have hls10 := hls9.below (below_draws w9 m10)
        have hrd10 := hrd.below (below_draws w9 m10)
        clear D9 hls9 hrd
        generalize w9.drewN m10 = w10 at *
        go_wp2_with fail
        refine (HSx.out _).mono ?_
        rintro e w11 ⟨m11, rfl, rfl⟩
        have D11 := B_drew D10 m11
        have hls11 := hls10.below (below_draws w10 m11)
        have hrd11 := hrd10.below (below_draws w10 m11)
        clear D10 hls10 hrd10
        generalize w10.drewN m11 = w11 at *
        go_wp2_with fail
        refine (HSz.out _).mono ?_
        rintro e w' ⟨rfl, hw⟩
        obtain rfl := hw.symm
        clear hw
        go_wp2_with fail
        refine (HSg.out _).mono ?_
        rintro e w' ⟨rfl, hw⟩
        obtain rfl := hw.symm
        clear hw HSb HSx HSz HSg HSr
        have HL1 := Lib.hid hls11
        have HL2 := Lib.hid hrd11
        clear hls11 hrd11
        go_wp2_with fail
        go_loopw [113] (fun i wr => ∃ (j m : Nat), j ≤ bs.length ∧ i = .int .i64 j ∧ wr = w11.drewN m) (fun i _ => bs.length - (intOf i).toNat)
        case atStart => exact ⟨0, 0, Nat.zero_le _, rfl, rfl⟩
        case round =>
          obtain ⟨j, m, hj, rfl, rfl⟩ := hrel
          by_cases hlt : j < bs.length
          · obtain ⟨oa, ca, ea, _, _, _, h1⟩ := HL1.out
            obtain ⟨ob, cb, eb, _, _, _, h2⟩ := HL2.out
            rw [List.length_map] at eb
            injection ea with ea1 ea2 ea3
            injection eb with eb1 eb2 eb3
            clear ea2 eb2
            subst ea1
            subst eb1
            subst ea3
            subst eb3
            rcases h1 with h1 | ⟨x1, o1, rfl, _, hc1⟩
            · subst h1; exact absurd hlt (Nat.not_lt_zero _)
            rcases h2 with h2 | ⟨x2, o2, rfl, _, hc2⟩
            · rw [List.map_eq_nil_iff] at h2; subst h2; exact absurd hlt (Nat.not_lt_zero _)
            have s1 := hc1 j hlt
            have s2 := hc2 j (by rw [List.length_map]; exact hlt)
            have i1 : IsF .f32 (fget bs j) (cl .f32 (fget bs j)) := IsF.of (hbits.out _ (fget_mem hlt))
            have hg : fget (bs.map (fun b => bitsN (cl .f32 b))) j = bitsN (cl .f32 (fget bs j)) := by unfold fget; simp [List.getD, hlt]
            rw [hg] at s2
            have HSe := Lib.hid (HS1.out _ _ _ (isF_bitsN i1) i1)
            clear hc1 hc2 hg i1
            generalize bitsN (cl .f32 (fget bs j)) = e2 at *
            generalize fget bs j = e1 at *
            go_wp2_with fail
            go_region_with (go_at_call 10; refine (HSe.out _).mono ?_; rintro e w' ⟨rfl, rfl⟩)
            all_goals go_wp2
            all_goals
              go_roundw
              case rel => exact ⟨j + 1, _, by omega, by go_num, rfl⟩
              case measure => simp [intOf]; omega
          · obtain rfl : j = bs.length := by omega
            have D12 := B_drew D11 m
            clear D11 HL1 HL2
            generalize w11.drewN m = w12 at *
            have one1 : cmpF .eql .f32 (some 1065353216) (some 1065353216) = true := by decide +kernel
            have ione : IsF .f32 1065353216 (some 1065353216) := IsF.lit (by decide +kernel)
            go_wp2_with fail
            refine (HAng.out _).mono ?_
            rintro e w13 ⟨a1, rfl, ia1, hb13⟩
            have D13 := B_trans D12 hb13
            clear D12 hb13 HAng
            go_wp2_with fail
            refine (HAof.out _).mono ?_
            rintro e w14 ⟨a2, rfl, ia2, hb14⟩
            have D14 := B_trans D13 hb14
            clear D13 hb14 HAof
            have HSe := Lib.hid (HS1.out a1 a2 _ ia1 ia2)
            clear ia1 ia2
            go_wp2_with fail
            refine (HSe.out _).mono ?_
            rintro e w' ⟨rfl, hw⟩
            obtain rfl := hw.symm
            clear hw HSe
            go_wp2_with (first | (refine wpList_fwid rfl rfl rfl (congrArg Option.isSome Tryz.underlying28) Tryz.underlying46 ix ?_; intro r2 n2' hr2))
            refine (HNr.out _ hr2 _).mono ?_
            rintro e w15 ⟨a3, n15, rfl, ia3, rfl⟩
            have D15 := B_drew (B_drew D14 n2') n15
            have HSe := Lib.hid (HS1.out a3 rx _ ia3 ix)
            clear D14 HNr hr2 ia3
            generalize (w14.drewN n2').drewN n15 = w15 at *
            go_wp2_with fail
            refine (HSe.out _).mono ?_
            rintro e w' ⟨rfl, hw⟩
            obtain rfl := hw.symm
            clear hw HSe
            go_wp2_with fail
            refine (HSi.out _).mono ?_
            rintro e w16 ⟨a4, n16, rfl, ia4, rfl⟩
            obtain rfl := ia4.num.1
            have D16 := B_drew D15 n16
            clear D15 HSi
            go_wp2_with (refine wpList_fcmp rfl rfl (.inl rfl) rfl rfl ione ione one1 ?_)
            go_ret
            exact ⟨rfl, D16⟩
  · have HL := Lib.hid (b10Long_any v1 v2 n1 n2 w b1 b2 true hq)
    clear hq b1 b2
    go_enter Tryz.func4, Tryz.ntmps4
    go_wp2_with fail
    refine HL.out.mono ?_
    rintro e w1 ⟨rfl, hw⟩
    obtain rfl := hw.symm
    go_wp2_with fail
    go_ret
    exact ⟨rfl, Below.refl _ _⟩
end Go.Proofs.YtgaecoekhcdaeaaGreatDoor
