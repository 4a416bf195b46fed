/-
  Phasors of 64ths of turns have nearly the power 1 and the angle from which they come, the product of two is nearly that of the sum, and tenths of decibels of a product are those of both, but for one. No condition.
-/
import Derived.Test.YtaannebjpmdhjaaRows
import Derived.Test.YtaannebjpmdhjaaPost
import Derived.Test.YtaannebjpmdhjaaCirw
namespace Go.Proofs.Ytaannebjpmdhjaa
set_option linter.unusedVariables false
set_option linter.unusedSimpArgs false
set_option maxRecDepth 20000
open Go.ChangeShapes Go.WideShapes Go.ChangeAt Go.RowKit Go.Joins Go.ChangeMaps Fl

theorem q_at {n : Nat} (hn : n < 511) (z : Int) (h : z = (n : Int) - 256) : ar .quo .f64 (ofInt .f64 z) (some 4634204016564240384) = some (qB n) := by
  rw [h]
  exact (q_fact hn).1
set_option maxRecDepth 100000 in
set_option maxHeartbeats 16000000 in
theorem walk_FnCircles (v1 : Value) (n1 : Nat) (w : World) (b1 : BySl w v1 n1) (v2 : Value) (n2 : Nat) (b2 : BySl w v2 n2) :
    Calls Try.prog 3 #[v1, v2] w fun e w' => e = .returned (.bool true) ∧ Below w.heap.size w w' := by
  cases hq : decide (1048576 < n1 ∨ 1048576 < n2)
  · have HL := Lib.hid (b10Long_any v1 v2 n1 n2 w b1 b2 false hq)
    have A1 := Lib.hid (b10At_any v1 n1 0 (by decide) 256 (by decide) (by decide) w b1)
    have A2 := Lib.hid (b10At_any v1 n1 1 (by decide) 256 (by decide) (by decide) w b1)
    have A3 := Lib.hid (fun w' (hb : Below w.heap.size w w') => b10At_any v2 n2 0 (by decide) 200 (by decide) (by decide) w' (b2.below hb))
    have A4 := Lib.hid (fun w' (hb : Below w.heap.size w w') => b10At_any v2 n2 1 (by decide) 200 (by decide) (by decide) w' (b2.below hb))
    clear hq b1 b2
    go_enter Try.func3, Try.ntmps3
    go_wp2_with fail
    refine HL.out.mono ?_
    rintro e w1 ⟨rfl, hw⟩
    obtain rfl := hw.symm
    clear hw
    go_wp2_with fail
    refine A1.out.mono ?_
    rintro e w1 ⟨r1, rfl, k1, k2, hw⟩
    obtain rfl := hw.symm
    obtain ⟨kx, rfl⟩ : ∃ kx : Nat, r1 = (kx : Int) := ⟨r1.toNat, by omega⟩
    have hx : kx < 256 := by omega
    clear hw k1 k2
    go_wp2_with fail
    refine A2.out.mono ?_
    rintro e w1 ⟨r2, rfl, k1, k2, hw⟩
    obtain rfl := hw.symm
    obtain ⟨ky, rfl⟩ : ∃ ky : Nat, r2 = (ky : Int) := ⟨r2.toNat, by omega⟩
    have hy : ky < 256 := by omega
    clear hw k1 k2 A1 A2 HL
    have Q1 := Lib.hid (q_at (n := kx + 128) (by omega) ((kx : Int) - 128) (by omega))
    have Q2 := Lib.hid (q_at (n := ky + 128) (by omega) ((ky : Int) - 128) (by omega))
    have Q3 := Lib.hid (q_at (n := kx + ky) (by omega) ((kx : Int) - 128 + ((ky : Int) - 128)) (by omega))
    have P1 := fun w' => phasor_at (n := kx + 128) (by omega) w'
    have P2 := fun w' => phasor_at (n := ky + 128) (by omega) w'
    have P3 := fun w' => phasor_at (n := kx + ky) (by omega) w'
    have e1 : (kx + 128) % 64 = kx % 64 := by omega
    have e2 : (ky + 128) % 64 = ky % 64 := by omega
    have e3 : (kx + ky) % 64 = (kx % 64 + ky % 64) % 64 := by omega
    have hm1 : kx % 64 < 64 := by omega
    have hm2 : ky % 64 < 64 := by omega
    rw [e1] at P1
    rw [e2] at P2
    rw [e3] at P3
    clear e1 e2 e3
    have HM := Lib.hid (fun w' => mul_at hm1 hm2 w')
    have HA := Lib.hid (fun w' => angle_at hm1 w')
    have HP := Lib.hid (fun w' => power_at hm1 w')
    have hI1 := isF_one64
    have hI0 := isF_zeroD
    obtain ⟨⟨f1, _, f3, f4⟩, _, _, c1⟩ := w_facts hm1
    obtain ⟨u1, u2, u3, c2, u5, kz1, kz2⟩ := u_facts hx
    have U0 := ar_num u1
    have U1 := Lib.hid u1
    have U2 := Lib.hid u2
    have U3 := Lib.hid u3
    have U5 := Lib.hid u5
    have H0 := Lib.hid (fun h => h_facts hm1 h)
    have HP1 := Lib.hid P1
    have HP2 := Lib.hid P2
    have HP3 := Lib.hid P3
    clear u1 u2 u3 u5 hm2 hm1 P1 P2 P3
    generalize (rB ((kx % 64 + ky % 64) % 64)) = pr3 at *
    generalize (iB ((kx % 64 + ky % 64) % 64)) = pi3 at *
    generalize (rB (ky % 64)) = pr2 at *
    generalize (iB (ky % 64)) = pi2 at *
    generalize (rB (kx % 64)) = pr1 at *
    generalize (iB (kx % 64)) = pi1 at *
    generalize (aB (kx % 64)) = pa at *
    generalize (wB (kx % 64)) = pw at *
    generalize (qB (kx + 128)) = q1 at *
    generalize (qB (ky + 128)) = q2 at *
    generalize (qB (kx + ky)) = q3 at *
    generalize (uB kx) = tu at *
    generalize (vB kx) = tv at *
    generalize (zI kx) = z at *
    go_wp2_with (first | (refine wpList_far rfl rfl (by first | exact .inl rfl | exact .inr (.inl rfl) | exact .inr (.inr (.inl rfl)) | exact .inr (.inr (.inr rfl))) rfl rfl (by first | assumption | exact isF_ofInt _ _ | exact IsF.lit (by decide +kernel)) (by first | assumption | exact isF_ofInt _ _ | exact IsF.lit (by decide +kernel)) ?_; intro r n hr) | (refine wpList_fcmp rfl rfl (by first | exact .inl rfl | exact .inr (.inl rfl) | exact .inr (.inr (.inl rfl)) | exact .inr (.inr (.inr (.inl rfl))) | exact .inr (.inr (.inr (.inr (.inl rfl)))) | exact .inr (.inr (.inr (.inr (.inr rfl))))) rfl rfl (by first | assumption | exact isF_ofInt _ _ | exact IsF.lit (by decide +kernel)) (by first | assumption | exact isF_ofInt _ _ | exact IsF.lit (by decide +kernel)) (by first | assumption | exact rfl) ?_) | (first | (refine wpList_fsame rfl rfl rfl (congrArg Option.isSome Try.underlying28) Try.underlying28 ?_) | (refine wpList_fsame rfl rfl rfl (congrArg Option.isSome Try.underlying27) Try.underlying27 ?_)) | (refine wpList_fwid rfl rfl rfl (congrArg Option.isSome Try.underlying28) Try.underlying27 (by assumption) ?_; intro r n hr) | (refine wpList_fnar rfl rfl rfl (congrArg Option.isSome Try.underlying27) Try.underlying28 (by assumption) (by assumption) ?_; intro r n hr) | (refine wpList_fneg rfl rfl rfl (by assumption) ?_; intro r hr))
    have i1 := isF_at (by assumption) Q1.out
    obtain rfl := i1.num.1
    refine (HP1.out _).mono ?_
    rintro e w1 ⟨m1, rfl, rfl⟩
    go_wp2_with (first | (refine wpList_far rfl rfl (by first | exact .inl rfl | exact .inr (.inl rfl) | exact .inr (.inr (.inl rfl)) | exact .inr (.inr (.inr rfl))) rfl rfl (by first | assumption | exact isF_ofInt _ _ | exact IsF.lit (by decide +kernel)) (by first | assumption | exact isF_ofInt _ _ | exact IsF.lit (by decide +kernel)) ?_; intro r n hr) | (refine wpList_fcmp rfl rfl (by first | exact .inl rfl | exact .inr (.inl rfl) | exact .inr (.inr (.inl rfl)) | exact .inr (.inr (.inr (.inl rfl))) | exact .inr (.inr (.inr (.inr (.inl rfl)))) | exact .inr (.inr (.inr (.inr (.inr rfl))))) rfl rfl (by first | assumption | exact isF_ofInt _ _ | exact IsF.lit (by decide +kernel)) (by first | assumption | exact isF_ofInt _ _ | exact IsF.lit (by decide +kernel)) (by first | assumption | exact rfl) ?_) | (first | (refine wpList_fsame rfl rfl rfl (congrArg Option.isSome Try.underlying28) Try.underlying28 ?_) | (refine wpList_fsame rfl rfl rfl (congrArg Option.isSome Try.underlying27) Try.underlying27 ?_)) | (refine wpList_fwid rfl rfl rfl (congrArg Option.isSome Try.underlying28) Try.underlying27 (by assumption) ?_; intro r n hr) | (refine wpList_fnar rfl rfl rfl (congrArg Option.isSome Try.underlying27) Try.underlying28 (by assumption) (by assumption) ?_; intro r n hr) | (refine wpList_fneg rfl rfl rfl (by assumption) ?_; intro r hr))
    have i2 := isF_at (by assumption) Q2.out
    obtain rfl := i2.num.1
    refine (HP2.out _).mono ?_
    rintro e w1 ⟨m2, rfl, rfl⟩
    go_wp2_with (first | (refine wpList_far rfl rfl (by first | exact .inl rfl | exact .inr (.inl rfl) | exact .inr (.inr (.inl rfl)) | exact .inr (.inr (.inr rfl))) rfl rfl (by first | assumption | exact isF_ofInt _ _ | exact IsF.lit (by decide +kernel)) (by first | assumption | exact isF_ofInt _ _ | exact IsF.lit (by decide +kernel)) ?_; intro r n hr) | (refine wpList_fcmp rfl rfl (by first | exact .inl rfl | exact .inr (.inl rfl) | exact .inr (.inr (.inl rfl)) | exact .inr (.inr (.inr (.inl rfl))) | exact .inr (.inr (.inr (.inr (.inl rfl)))) | exact .inr (.inr (.inr (.inr (.inr rfl))))) rfl rfl (by first | assumption | exact isF_ofInt _ _ | exact IsF.lit (by decide +kernel)) (by first | assumption | exact isF_ofInt _ _ | exact IsF.lit (by decide +kernel)) (by first | assumption | exact rfl) ?_) | (first | (refine wpList_fsame rfl rfl rfl (congrArg Option.isSome Try.underlying28) Try.underlying28 ?_) | (refine wpList_fsame rfl rfl rfl (congrArg Option.isSome Try.underlying27) Try.underlying27 ?_)) | (refine wpList_fwid rfl rfl rfl (congrArg Option.isSome Try.underlying28) Try.underlying27 (by assumption) ?_; intro r n hr) | (refine wpList_fnar rfl rfl rfl (congrArg Option.isSome Try.underlying27) Try.underlying28 (by assumption) (by assumption) ?_; intro r n hr) | (refine wpList_fneg rfl rfl rfl (by assumption) ?_; intro r hr))
    have i3 := isF_at (by assumption) Q3.out
    obtain rfl := i3.num.1
    refine (HP3.out _).mono ?_
    rintro e w1 ⟨m3, rfl, rfl⟩
    clear Q1 Q2 Q3 HP1 HP2 HP3 i1 i2 i3
    go_wp2_with (first | (refine wpList_far rfl rfl (by first | exact .inl rfl | exact .inr (.inl rfl) | exact .inr (.inr (.inl rfl)) | exact .inr (.inr (.inr rfl))) rfl rfl (by first | assumption | exact isF_ofInt _ _ | exact IsF.lit (by decide +kernel)) (by first | assumption | exact isF_ofInt _ _ | exact IsF.lit (by decide +kernel)) ?_; intro r n hr) | (refine wpList_fcmp rfl rfl (by first | exact .inl rfl | exact .inr (.inl rfl) | exact .inr (.inr (.inl rfl)) | exact .inr (.inr (.inr (.inl rfl))) | exact .inr (.inr (.inr (.inr (.inl rfl)))) | exact .inr (.inr (.inr (.inr (.inr rfl))))) rfl rfl (by first | assumption | exact isF_ofInt _ _ | exact IsF.lit (by decide +kernel)) (by first | assumption | exact isF_ofInt _ _ | exact IsF.lit (by decide +kernel)) (by first | assumption | exact rfl) ?_) | (first | (refine wpList_fsame rfl rfl rfl (congrArg Option.isSome Try.underlying28) Try.underlying28 ?_) | (refine wpList_fsame rfl rfl rfl (congrArg Option.isSome Try.underlying27) Try.underlying27 ?_)) | (refine wpList_fwid rfl rfl rfl (congrArg Option.isSome Try.underlying28) Try.underlying27 (by assumption) ?_; intro r n hr) | (refine wpList_fnar rfl rfl rfl (congrArg Option.isSome Try.underlying27) Try.underlying28 (by assumption) (by assumption) ?_; intro r n hr) | (refine wpList_fneg rfl rfl rfl (by assumption) ?_; intro r hr))
    refine (HA.out _).mono ?_
    rintro e w1 ⟨rfl, hb1⟩
    have D1 : Below w.heap.size w w1 := B_trans (w := w) (by (repeat' first | assumption | exact Below.refl _ _ | refine B_drew ?_ _ | refine Below.drew ?_ | refine Below.alloc ?_ (by first | exact Nat.le_refl _ | (simp; done) | (simp; omega)) _)) hb1
    clear hb1 HA
    go_upto_region 10 with (first | (refine wpList_far rfl rfl (by first | exact .inl rfl | exact .inr (.inl rfl) | exact .inr (.inr (.inl rfl)) | exact .inr (.inr (.inr rfl))) rfl rfl (by first | assumption | exact isF_ofInt _ _ | exact IsF.lit (by decide +kernel)) (by first | assumption | exact isF_ofInt _ _ | exact IsF.lit (by decide +kernel)) ?_; intro r n hr) | (refine wpList_fcmp rfl rfl (by first | exact .inl rfl | exact .inr (.inl rfl) | exact .inr (.inr (.inl rfl)) | exact .inr (.inr (.inr (.inl rfl))) | exact .inr (.inr (.inr (.inr (.inl rfl)))) | exact .inr (.inr (.inr (.inr (.inr rfl))))) rfl rfl (by first | assumption | exact isF_ofInt _ _ | exact IsF.lit (by decide +kernel)) (by first | assumption | exact isF_ofInt _ _ | exact IsF.lit (by decide +kernel)) (by first | assumption | exact rfl) ?_) | (first | (refine wpList_fsame rfl rfl rfl (congrArg Option.isSome Try.underlying28) Try.underlying28 ?_) | (refine wpList_fsame rfl rfl rfl (congrArg Option.isSome Try.underlying27) Try.underlying27 ?_)) | (refine wpList_fwid rfl rfl rfl (congrArg Option.isSome Try.underlying28) Try.underlying27 (by assumption) ?_; intro r n hr) | (refine wpList_fnar rfl rfl rfl (congrArg Option.isSome Try.underlying27) Try.underlying28 (by assumption) (by assumption) ?_; intro r n hr) | (refine wpList_fneg rfl rfl rfl (by assumption) ?_; intro r hr))
    obtain rfl := isF_eq (by assumption) U1.out
    go_upto_region 11 with (first | (refine wpList_far rfl rfl (by first | exact .inl rfl | exact .inr (.inl rfl) | exact .inr (.inr (.inl rfl)) | exact .inr (.inr (.inr rfl))) rfl rfl (by first | assumption | exact isF_ofInt _ _ | exact IsF.lit (by decide +kernel)) (by first | assumption | exact isF_ofInt _ _ | exact IsF.lit (by decide +kernel)) ?_; intro r n hr) | (refine wpList_fcmp rfl rfl (by first | exact .inl rfl | exact .inr (.inl rfl) | exact .inr (.inr (.inl rfl)) | exact .inr (.inr (.inr (.inl rfl))) | exact .inr (.inr (.inr (.inr (.inl rfl)))) | exact .inr (.inr (.inr (.inr (.inr rfl))))) rfl rfl (by first | assumption | exact isF_ofInt _ _ | exact IsF.lit (by decide +kernel)) (by first | assumption | exact isF_ofInt _ _ | exact IsF.lit (by decide +kernel)) (by first | assumption | exact rfl) ?_) | (first | (refine wpList_fsame rfl rfl rfl (congrArg Option.isSome Try.underlying28) Try.underlying28 ?_) | (refine wpList_fsame rfl rfl rfl (congrArg Option.isSome Try.underlying27) Try.underlying27 ?_)) | (refine wpList_fwid rfl rfl rfl (congrArg Option.isSome Try.underlying28) Try.underlying27 (by assumption) ?_; intro r n hr) | (refine wpList_fnar rfl rfl rfl (congrArg Option.isSome Try.underlying27) Try.underlying28 (by assumption) (by assumption) ?_; intro r n hr) | (refine wpList_fneg rfl rfl rfl (by assumption) ?_; intro r hr) | (obtain rfl := isF_eq (by assumption) U2.out; refine wpList_toInt rfl rfl rfl (congrArg Option.isSome Try.underlying27) Try.underlying2 U3.out (by omega) (by omega) ?_))
    clear U1 U2 U3
    go_upto_if 83 with (first | (refine wpList_far rfl rfl (by first | exact .inl rfl | exact .inr (.inl rfl) | exact .inr (.inr (.inl rfl)) | exact .inr (.inr (.inr rfl))) rfl rfl (by first | assumption | exact isF_ofInt _ _ | exact IsF.lit (by decide +kernel)) (by first | assumption | exact isF_ofInt _ _ | exact IsF.lit (by decide +kernel)) ?_; intro r n hr) | (refine wpList_fcmp rfl rfl (by first | exact .inl rfl | exact .inr (.inl rfl) | exact .inr (.inr (.inl rfl)) | exact .inr (.inr (.inr (.inl rfl))) | exact .inr (.inr (.inr (.inr (.inl rfl)))) | exact .inr (.inr (.inr (.inr (.inr rfl))))) rfl rfl (by first | assumption | exact isF_ofInt _ _ | exact IsF.lit (by decide +kernel)) (by first | assumption | exact isF_ofInt _ _ | exact IsF.lit (by decide +kernel)) (by first | assumption | exact rfl) ?_) | (first | (refine wpList_fsame rfl rfl rfl (congrArg Option.isSome Try.underlying28) Try.underlying28 ?_) | (refine wpList_fsame rfl rfl rfl (congrArg Option.isSome Try.underlying27) Try.underlying27 ?_)) | (refine wpList_fwid rfl rfl rfl (congrArg Option.isSome Try.underlying28) Try.underlying27 (by assumption) ?_; intro r n hr) | (refine wpList_fnar rfl rfl rfl (congrArg Option.isSome Try.underlying27) Try.underlying28 (by assumption) (by assumption) ?_; intro r n hr) | (refine wpList_fneg rfl rfl rfl (by assumption) ?_; intro r hr) | (go_at_call 9; refine (HP.out _).mono ?_; rintro e w' ⟨n9, rfl, rfl⟩) | (go_at_call 11; refine (HM.out _).mono ?_; rintro e w' ⟨rr, ss, n9, rfl, rfl, hN⟩; have HN := Lib.hid hN; clear hN) | (go_at_call 10; refine (HN.out _).mono ?_; rintro e w' ⟨n9, rfl, rfl⟩) | (go_at_call 8; refine (gapC_any _ _ _ _ (by first | assumption | exact isF_ofInt _ _) (by first | assumption | exact isF_ofInt _ _) _).mono ?_; rintro e w' ⟨r, n9, rfl, hr, rfl⟩))
    have h5 := U5.out
    clear c1 c2 HM HP
    go_upto_region 13 with fail
    go_simp
    go_cut [100] (fun c wx => c = .bool false ∧ Below w.heap.size w wx)
    case first =>
      have HG := Lib.hid (fun (r : Nat) (hr : IsF .f64 r (wid (some pr1))) w' => gapC_any r 0 _ _ hr hI0 w')
      by_cases hz : ((kx : Int) - 128).tmod 16 = 0
      · have hd : (16 : Int) ∣ (kx : Int) - 128 := Int.dvd_of_tmod_eq_zero hz
        rcases H0.out (by omega) with c0 | ⟨c0, c1⟩
        all_goals
          clear hd H0
          go_wp2_with (first | (refine wpList_far rfl rfl (by first | exact .inl rfl | exact .inr (.inl rfl) | exact .inr (.inr (.inl rfl)) | exact .inr (.inr (.inr rfl))) rfl rfl (by first | assumption | exact isF_ofInt _ _ | exact IsF.lit (by decide +kernel)) (by first | assumption | exact isF_ofInt _ _ | exact IsF.lit (by decide +kernel)) ?_; intro r n hr) | (refine wpList_fcmp rfl rfl (by first | exact .inl rfl | exact .inr (.inl rfl) | exact .inr (.inr (.inl rfl)) | exact .inr (.inr (.inr (.inl rfl))) | exact .inr (.inr (.inr (.inr (.inl rfl)))) | exact .inr (.inr (.inr (.inr (.inr rfl))))) rfl rfl (by first | assumption | exact isF_ofInt _ _ | exact IsF.lit (by decide +kernel)) (by first | assumption | exact isF_ofInt _ _ | exact IsF.lit (by decide +kernel)) (by first | assumption | exact rfl) ?_) | (first | (refine wpList_fsame rfl rfl rfl (congrArg Option.isSome Try.underlying28) Try.underlying28 ?_) | (refine wpList_fsame rfl rfl rfl (congrArg Option.isSome Try.underlying27) Try.underlying27 ?_)) | (refine wpList_fwid rfl rfl rfl (congrArg Option.isSome Try.underlying28) Try.underlying27 (by assumption) ?_; intro r n hr) | (refine wpList_fnar rfl rfl rfl (congrArg Option.isSome Try.underlying27) Try.underlying28 (by assumption) (by assumption) ?_; intro r n hr) | (refine wpList_fneg rfl rfl rfl (by assumption) ?_; intro r hr) | (go_at_call 8; refine (HG.out _ (by assumption) _).mono ?_; rintro e w' ⟨r, n9, rfl, hr, rfl⟩))
          go_meet
          exact ⟨rfl, by (repeat' first | assumption | exact Below.refl _ _ | refine B_drew ?_ _ | refine Below.drew ?_ | refine Below.alloc ?_ (by first | exact Nat.le_refl _ | (simp; done) | (simp; omega)) _)⟩
      · clear H0
        go_wp2_with fail
        go_meet
        exact ⟨rfl, by (repeat' first | assumption | exact Below.refl _ _ | refine B_drew ?_ _ | refine Below.drew ?_ | refine Below.alloc ?_ (by first | exact Nat.le_refl _ | (simp; done) | (simp; omega)) _)⟩
    case rest =>
      obtain ⟨rfl, hcut⟩ := hcut
      clear h5 U5 H0 D1
      go_wp2_with fail
      refine (A3.out _ hcut).mono ?_
      rintro e w2 ⟨r3, rfl, k1, k2, hw⟩
      obtain rfl := hw.symm
      obtain ⟨ki, rfl⟩ : ∃ ki : Nat, r3 = (ki : Int) := ⟨r3.toNat, by omega⟩
      have hi : ki < 200 := by omega
      clear hw k1 k2
      have X1 := Lib.hid (quo_fB ki hi)
      go_upto_region 16 with (first | (refine wpList_far rfl rfl (by first | exact .inl rfl | exact .inr (.inl rfl) | exact .inr (.inr (.inl rfl)) | exact .inr (.inr (.inr rfl))) rfl rfl (by first | assumption | exact isF_ofInt _ _ | exact IsF.lit (by decide +kernel)) (by first | assumption | exact isF_ofInt _ _ | exact IsF.lit (by decide +kernel)) ?_; intro r n hr) | (refine wpList_fcmp rfl rfl (by first | exact .inl rfl | exact .inr (.inl rfl) | exact .inr (.inr (.inl rfl)) | exact .inr (.inr (.inr (.inl rfl))) | exact .inr (.inr (.inr (.inr (.inl rfl)))) | exact .inr (.inr (.inr (.inr (.inr rfl))))) rfl rfl (by first | assumption | exact isF_ofInt _ _ | exact IsF.lit (by decide +kernel)) (by first | assumption | exact isF_ofInt _ _ | exact IsF.lit (by decide +kernel)) (by first | assumption | exact rfl) ?_) | (first | (refine wpList_fsame rfl rfl rfl (congrArg Option.isSome Try.underlying28) Try.underlying28 ?_) | (refine wpList_fsame rfl rfl rfl (congrArg Option.isSome Try.underlying27) Try.underlying27 ?_)) | (refine wpList_fwid rfl rfl rfl (congrArg Option.isSome Try.underlying28) Try.underlying27 (by assumption) ?_; intro r n hr) | (refine wpList_fnar rfl rfl rfl (congrArg Option.isSome Try.underlying27) Try.underlying28 (by assumption) (by assumption) ?_; intro r n hr) | (refine wpList_fneg rfl rfl rfl (by assumption) ?_; intro r hr))
      obtain rfl := isF_eq (by assumption) X1.out
      go_wp2_with fail
      refine (A4.out _ (by (repeat' first | assumption | exact Below.refl _ _ | refine B_drew ?_ _ | refine Below.drew ?_ | refine Below.alloc ?_ (by first | exact Nat.le_refl _ | (simp; done) | (simp; omega)) _))).mono ?_
      rintro e w2 ⟨r4, rfl, k1, k2, hw⟩
      obtain rfl := hw.symm
      obtain ⟨kj, rfl⟩ : ∃ kj : Nat, r4 = (kj : Int) := ⟨r4.toNat, by omega⟩
      have hj : kj < 200 := by omega
      clear hw k1 k2
      have X2 := Lib.hid (quo_fB kj hj)
      go_upto_region 17 with (first | (refine wpList_far rfl rfl (by first | exact .inl rfl | exact .inr (.inl rfl) | exact .inr (.inr (.inl rfl)) | exact .inr (.inr (.inr rfl))) rfl rfl (by first | assumption | exact isF_ofInt _ _ | exact IsF.lit (by decide +kernel)) (by first | assumption | exact isF_ofInt _ _ | exact IsF.lit (by decide +kernel)) ?_; intro r n hr) | (refine wpList_fcmp rfl rfl (by first | exact .inl rfl | exact .inr (.inl rfl) | exact .inr (.inr (.inl rfl)) | exact .inr (.inr (.inr (.inl rfl))) | exact .inr (.inr (.inr (.inr (.inl rfl)))) | exact .inr (.inr (.inr (.inr (.inr rfl))))) rfl rfl (by first | assumption | exact isF_ofInt _ _ | exact IsF.lit (by decide +kernel)) (by first | assumption | exact isF_ofInt _ _ | exact IsF.lit (by decide +kernel)) (by first | assumption | exact rfl) ?_) | (first | (refine wpList_fsame rfl rfl rfl (congrArg Option.isSome Try.underlying28) Try.underlying28 ?_) | (refine wpList_fsame rfl rfl rfl (congrArg Option.isSome Try.underlying27) Try.underlying27 ?_)) | (refine wpList_fwid rfl rfl rfl (congrArg Option.isSome Try.underlying28) Try.underlying27 (by assumption) ?_; intro r n hr) | (refine wpList_fnar rfl rfl rfl (congrArg Option.isSome Try.underlying27) Try.underlying28 (by assumption) (by assumption) ?_; intro r n hr) | (refine wpList_fneg rfl rfl rfl (by assumption) ?_; intro r hr))
      obtain rfl := isF_eq (by assumption) X2.out
      have hk : (ki + 1) * (kj + 1) ≤ 40000 := Nat.le_trans (Nat.mul_le_mul (show ki + 1 ≤ 200 by omega) (show kj + 1 ≤ 200 by omega)) (by decide)
      have hk0 : (ki + 1) * (kj + 1) ≠ 0 := Nat.mul_ne_zero (by omega) (by omega)
      have i1 := isF_fB (k := 8 * (ki + 1)) (by omega) (by omega)
      have i2 := isF_fB (k := 8 * (kj + 1)) (by omega) (by omega)
      have i3 := isF_fB hk0 hk
      have T1 := Lib.hid (fun w' => tenths_at (k := 8 * (ki + 1)) (by omega) (by omega) w')
      have T2 := Lib.hid (fun w' => tenths_at (k := 8 * (kj + 1)) (by omega) (by omega) w')
      have T3 := Lib.hid (fun w' => tenths_at hk0 hk w')
      have HX := Lib.hid (ten_mul hi hj).1
      obtain ⟨l1, l2⟩ := ten_law hi hj
      obtain ⟨s1, s2⟩ := tenV_small _ i1
      obtain ⟨s3, s4⟩ := tenV_small _ i2
      obtain ⟨s5, s6⟩ := tenV_small _ i3
      clear hk hk0 X1 X2 A3 A4 i3
      generalize tenV (some (fB (8 * (ki + 1)))) = t1 at *
      generalize tenV (some (fB (8 * (kj + 1)))) = t2 at *
      generalize tenV (some (fB ((ki + 1) * (kj + 1)))) = t3 at *
      generalize fB (8 * (ki + 1)) = y1 at *
      generalize fB (8 * (kj + 1)) = y2 at *
      generalize fB ((ki + 1) * (kj + 1)) = y3 at *
      have d1 : decide (t1 + t2 - t3 ≤ 1) = true := decide_eq_true l1
      have d2 : decide (t3 - t1 - t2 ≤ 1) = true := decide_eq_true l2
      go_wp2_with fail
      refine (T1.out _).mono ?_
      rintro e w3 ⟨rfl, hb3⟩
      have D3 : Below w.heap.size w w3 := B_trans (w := w) (by (repeat' first | assumption | exact Below.refl _ _ | refine B_drew ?_ _ | refine Below.drew ?_ | refine Below.alloc ?_ (by first | exact Nat.le_refl _ | (simp; done) | (simp; omega)) _)) hb3
      clear hb3 hcut T1
      go_wp2_with fail
      refine (T2.out _).mono ?_
      rintro e w4 ⟨rfl, hb4⟩
      have D4 : Below w.heap.size w w4 := B_trans (w := w) (by (repeat' first | assumption | exact Below.refl _ _ | refine B_drew ?_ _ | refine Below.drew ?_ | refine Below.alloc ?_ (by first | exact Nat.le_refl _ | (simp; done) | (simp; omega)) _)) hb4
      clear hb4 D3 T2
      go_wp2_with (first | (refine wpList_far rfl rfl (by first | exact .inl rfl | exact .inr (.inl rfl) | exact .inr (.inr (.inl rfl)) | exact .inr (.inr (.inr rfl))) rfl rfl (by first | assumption | exact isF_ofInt _ _ | exact IsF.lit (by decide +kernel)) (by first | assumption | exact isF_ofInt _ _ | exact IsF.lit (by decide +kernel)) ?_; intro r n hr) | (refine wpList_fcmp rfl rfl (by first | exact .inl rfl | exact .inr (.inl rfl) | exact .inr (.inr (.inl rfl)) | exact .inr (.inr (.inr (.inl rfl))) | exact .inr (.inr (.inr (.inr (.inl rfl)))) | exact .inr (.inr (.inr (.inr (.inr rfl))))) rfl rfl (by first | assumption | exact isF_ofInt _ _ | exact IsF.lit (by decide +kernel)) (by first | assumption | exact isF_ofInt _ _ | exact IsF.lit (by decide +kernel)) (by first | assumption | exact rfl) ?_) | (first | (refine wpList_fsame rfl rfl rfl (congrArg Option.isSome Try.underlying28) Try.underlying28 ?_) | (refine wpList_fsame rfl rfl rfl (congrArg Option.isSome Try.underlying27) Try.underlying27 ?_)) | (refine wpList_fwid rfl rfl rfl (congrArg Option.isSome Try.underlying28) Try.underlying27 (by assumption) ?_; intro r n hr) | (refine wpList_fnar rfl rfl rfl (congrArg Option.isSome Try.underlying27) Try.underlying28 (by assumption) (by assumption) ?_; intro r n hr) | (refine wpList_fneg rfl rfl rfl (by assumption) ?_; intro r hr))
      obtain rfl := isF_eq (by assumption) HX.out
      refine (T3.out _).mono ?_
      rintro e w5 ⟨rfl, hb5⟩
      have D5 : Below w.heap.size w w5 := B_trans (w := w) (by (repeat' first | assumption | exact Below.refl _ _ | refine B_drew ?_ _ | refine Below.drew ?_ | refine Below.alloc ?_ (by first | exact Nat.le_refl _ | (simp; done) | (simp; omega)) _)) hb5
      clear hb5 D4 T3
      go_wp2_with fail
      refine (tenths_one _).mono ?_
      rintro e w6 ⟨rfl, hb6⟩
      have D6 : Below w.heap.size w w6 := B_trans (w := w) (by (repeat' first | assumption | exact Below.refl _ _ | refine B_drew ?_ _ | refine Below.drew ?_ | refine Below.alloc ?_ (by first | exact Nat.le_refl _ | (simp; done) | (simp; omega)) _)) hb6
      clear hb6 D5
      go_wp2_with fail
      refine (angle_one _).mono ?_
      rintro e w7 ⟨rfl, hb7⟩
      have D7 : Below w.heap.size w w7 := B_trans (w := w) (by (repeat' first | assumption | exact Below.refl _ _ | refine B_drew ?_ _ | refine Below.drew ?_ | refine Below.alloc ?_ (by first | exact Nat.le_refl _ | (simp; done) | (simp; omega)) _)) hb7
      clear hb7 D6
      go_wp2_with fail
      refine (same_one _).mono ?_
      rintro e w8 ⟨rfl, hw8⟩
      obtain rfl := hw8.symm
      clear hw8
      go_wp2_with fail
      go_ret
      exact ⟨rfl, by (repeat' first | assumption | exact Below.refl _ _ | refine B_drew ?_ _ | refine Below.drew ?_ | refine Below.alloc ?_ (by first | exact Nat.le_refl _ | (simp; done) | (simp; omega)) _)⟩
  · have HL := Lib.hid (b10Long_any v1 v2 n1 n2 w b1 b2 true hq)
    clear hq b1 b2
    go_enter Try.func3, Try.ntmps3
    go_wp2_with fail
    refine HL.out.mono ?_
    rintro e w1 ⟨rfl, hw⟩
    obtain rfl := hw.symm
    go_wp2_with fail
    go_ret
    exact ⟨rfl, Below.refl _ _⟩
theorem laidOut_FnCircles : laidOutB Try.prog = true := by kernel_rfl
theorem contract_FnCircles (H : Type) (enc : TypeId × Value → H) (W : World) (base : Nat) (args : Array Value) (ds gs : List (DataW H)) (before : List MemPlace)
    (hval : ∀ (j : Nat) t v, Try.f3.params[j]? = some t → args[j]? = some v → Value.okWide Try.prog W .any base t v)
    (hW : DataW.Whole enc Try.prog Try.f3.params.toList Rows.fnCirclesSpec.vars false W args.toList ds gs before) :
    Calls Try.prog 3 args W fun e W' => ∃ v, e = .returned v ∧ Rows.fnCirclesSpec.post enc Try.prog Try.f3 false true false false W args v W' := by
  have hW' := hW
  obtain ⟨p, q, hA0, hV, rfl, hfz, hnd⟩ := hW
  have hA : DataW.TrodAll enc Try.prog W 0 (fun _ => true) true Try.f3.params.toList args.toList ds p := hA0
  rw [Try.params3] at hA hval
  obtain ⟨v0, vs0, d0, ds0, p0, q0, hargs, rfl, rfl, h0, r0⟩ := trodAll_cons hA
  obtain ⟨v1, vs1, d1, ds1, p1, q1, rfl, rfl, rfl, h1, r1⟩ := trodAll_cons r0
  obtain ⟨rfl, rfl, rfl⟩ := trodAll_nil r1
  obtain rfl : args = #[v0, v1] := by cases args; simp_all
  obtain ⟨rfl, rfl⟩ := trodVars_none hV
  have hlt0 : ∀ x ∈ p0, x.block < W.heap.size := fun x hx => hW'.lt x (by simp [hx])
  obtain ⟨sa0, sl0, sc0, rfl⟩ := okWide_slice Try.underlying22 (hval 0 22 v0 rfl rfl)
  obtain ⟨bn0, hs0⟩ : ∃ n, BySl W (.slice sa0 sl0 sc0) n := by
    obtain ⟨fuel, hf⟩ := h0
    exact open_bytes Try.underlying22 Try.underlying5 (by kernel_rfl) hf
  have hlt1 : ∀ x ∈ p1, x.block < W.heap.size := fun x hx => hW'.lt x (by simp [hx])
  obtain ⟨sa1, sl1, sc1, rfl⟩ := okWide_slice Try.underlying22 (hval 1 22 v1 rfl rfl)
  obtain ⟨bn1, hs1⟩ : ∃ n, BySl W (.slice sa1 sl1 sc1) n := by
    obtain ⟨fuel, hf⟩ := h1
    exact open_bytes Try.underlying22 Try.underlying5 (by kernel_rfl) hf
  clear hA0
  simp only [List.append_nil] at hW'
  refine (walk_FnCircles (w := W) _ bn0 hs0 _ bn1 hs1).mono fun e W' ⟨he, hb⟩ => ?_
  subst he
  exact ⟨_, rfl, post_of_below (pa := (p0 ++ (p1 ++ []))) (pv := []) hW' (fun _ _ _ => (trodAll_cons_mk (shut_bool Try.underlying4 _) trodAll_mk0)) (fun sp hsp => (trodAll_cons_mk (trod_keep laidOut_FnCircles (by kernel_rfl) (of_decide_eq_true (by kernel_rfl)) h0 hb hlt0 (fun x hx => hsp x (by simp [hx]))) (trodAll_cons_mk (trod_keep laidOut_FnCircles (by kernel_rfl) (of_decide_eq_true (by kernel_rfl)) h1 hb hlt1 (fun x hx => hsp x (by simp [hx]))) trodAll_mk0))) (fun _ _ => rfl) (by simp) hb (ok_one (by kernel_rfl) rfl (okWide_bool_mk Try.underlying4 _))⟩

theorem own_FnCircles : ownKnob Try.prog.godebug = none := by kernel_rfl
set_option maxRecDepth 100000 in
theorem lifted_FnCircles (os : Os) (started : os.Started) (H : Type) (enc : TypeId × Value → H) :
    ReturnsInHanded {} Try.checked os 3 .any (Rows.fnCirclesSpec.pre6 enc Try.prog Try.f3 Rows.fnCirclesRow.domain false) (Rows.fnCirclesSpec.post enc Try.prog Try.f3 false true false false) := by
  refine returnsInHanded_of_change (C := Try.checked) own_FnCircles started (by kernel_rfl) Try.func3
    (ChangeSpec.witness6 (enc := enc) (C := Try.checked) false ⟨#[], #[.slice none 0 0, .slice none 0 0], []⟩ 8 (by kernel_rfl) (by kernel_rfl) (by kernel_rfl) (by kernel_rfl)) ?_
  intro W base args ds gs before hval hW _ _
  exact contract_FnCircles H enc W base args ds gs before hval hW
theorem over_FnCircles : Rows.fnCirclesRow.holds Try.pinned (OpenSpec.ofChange Rows.fnCirclesSpec) :=
  OpenClaim.holds_of_wide 3 Try.f3 rfl rfl rfl rfl rfl rfl rfl ⟨rfl, rfl, rfl, rfl, rfl⟩ rfl rfl rfl rfl rfl (by kernel_rfl) Try.func3 (by kernel_rfl)
    (of_decide_eq_true (by kernel_rfl)) (by unfold Func.isWrapper; first | (rw [if_pos (by decide +kernel)]; kernel_rfl) | (rw [if_neg (by decide +kernel)]; exact ⟨rfl, rfl⟩))
    (fun os started H enc _ => lifted_FnCircles os started H enc)
theorem proved_FnCircles : Rows.FnCirclesSaid := over_FnCircles
#print axioms proved_FnCircles
end Go.Proofs.Ytaannebjpmdhjaa
