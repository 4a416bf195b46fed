/-
  Contracts: what FnCircles calls, at the numbers that it draws.
-/
import Derived.Test.YtaannebjpmdhjaaCirq
import Derived.Test.YtaannebjpmdhjaaTenm
import Derived.Test.YtaannebjpmdhjaaBy
namespace Go.Proofs.Ytaannebjpmdhjaa
set_option linter.unusedVariables false
set_option linter.unusedSimpArgs false
set_option maxRecDepth 20000
open Go.RowKit Fl

theorem isF_aOne : IsF .f32 1048576000 (some 1048576000) := IsF.lit (by decide +kernel)
theorem isF_one64 : IsF .f64 4607182418800017408 (some 4607182418800017408) := IsF.lit (by decide +kernel)
theorem gapC_any (a b : Nat) (u v : Option Nat) (ha : IsF .f64 a u) (hb : IsF .f64 b v) (w : World) : Calls Try.prog 8 #[.float .f64 a, .float .f64 b] w (RetF w .f64 (gapC u v)) := by
  unfold gapC
  cases c1 : cmpF .lss .f64 u v
  all_goals
    go_enter Try.func8, Try.ntmps8
    go_wp2_with (first | (refine wpList_far rfl rfl (by first | exact .inl rfl | exact .inr (.inl rfl) | exact .inr (.inr (.inl rfl)) | exact .inr (.inr (.inr rfl))) rfl rfl (by first | assumption | exact isF_ofInt _ _ | exact IsF.lit (by decide +kernel)) (by first | assumption | exact isF_ofInt _ _ | exact IsF.lit (by decide +kernel)) ?_; intro r n hr) | (refine wpList_fcmp rfl rfl (by first | exact .inl rfl | exact .inr (.inl rfl) | exact .inr (.inr (.inl rfl)) | exact .inr (.inr (.inr (.inl rfl))) | exact .inr (.inr (.inr (.inr (.inl rfl)))) | exact .inr (.inr (.inr (.inr (.inr rfl))))) rfl rfl (by first | assumption | exact isF_ofInt _ _ | exact IsF.lit (by decide +kernel)) (by first | assumption | exact isF_ofInt _ _ | exact IsF.lit (by decide +kernel)) (by first | assumption | exact rfl) ?_) | (first | (refine wpList_fsame rfl rfl rfl (congrArg Option.isSome Try.underlying28) Try.underlying28 ?_) | (refine wpList_fsame rfl rfl rfl (congrArg Option.isSome Try.underlying27) Try.underlying27 ?_)) | (refine wpList_fwid rfl rfl rfl (congrArg Option.isSome Try.underlying28) Try.underlying27 (by assumption) ?_; intro r n hr) | (refine wpList_fnar rfl rfl rfl (congrArg Option.isSome Try.underlying27) Try.underlying28 (by assumption) (by assumption) ?_; intro r n hr) | (refine wpList_fneg rfl rfl rfl (by assumption) ?_; intro r hr))
    go_ret
    exact ⟨_, _, rfl, by assumption, rfl⟩
theorem b10Near_any (a b c d : Nat) (u v x y : Option Nat) (ha : IsF .f32 a u) (hb : IsF .f32 b v) (hc : IsF .f32 c x) (hd : IsF .f32 d y) (h1 : cmpF .leq .f64 (gapC (wid u) (wid x)) (some 4547007122018943789) = true) (h2 : cmpF .leq .f64 (gapC (wid v) (wid y)) (some 4547007122018943789) = true) (w : World) :
    Calls Try.prog 10 #[.complex .f32 a b, .complex .f32 c d, .float .f64 4547007122018943789] w (Ret w (.bool true)) := by
  go_enter Try.func10, Try.ntmps10
  go_wp2_with (first | (refine wpList_far rfl rfl (by first | exact .inl rfl | exact .inr (.inl rfl) | exact .inr (.inr (.inl rfl)) | exact .inr (.inr (.inr rfl))) rfl rfl (by first | assumption | exact isF_ofInt _ _ | exact IsF.lit (by decide +kernel)) (by first | assumption | exact isF_ofInt _ _ | exact IsF.lit (by decide +kernel)) ?_; intro r n hr) | (refine wpList_fcmp rfl rfl (by first | exact .inl rfl | exact .inr (.inl rfl) | exact .inr (.inr (.inl rfl)) | exact .inr (.inr (.inr (.inl rfl))) | exact .inr (.inr (.inr (.inr (.inl rfl)))) | exact .inr (.inr (.inr (.inr (.inr rfl))))) rfl rfl (by first | assumption | exact isF_ofInt _ _ | exact IsF.lit (by decide +kernel)) (by first | assumption | exact isF_ofInt _ _ | exact IsF.lit (by decide +kernel)) (by first | assumption | exact rfl) ?_) | (first | (refine wpList_fsame rfl rfl rfl (congrArg Option.isSome Try.underlying28) Try.underlying28 ?_) | (refine wpList_fsame rfl rfl rfl (congrArg Option.isSome Try.underlying27) Try.underlying27 ?_)) | (refine wpList_fwid rfl rfl rfl (congrArg Option.isSome Try.underlying28) Try.underlying27 (by assumption) ?_; intro r n hr) | (refine wpList_fnar rfl rfl rfl (congrArg Option.isSome Try.underlying27) Try.underlying28 (by assumption) (by assumption) ?_; intro r n hr) | (refine wpList_fneg rfl rfl rfl (by assumption) ?_; intro r hr) | (go_at_call 8; refine (gapC_any _ _ _ _ (by assumption) (by assumption) _).mono ?_; rintro e w' ⟨r, n9, rfl, hr, rfl⟩))
  go_ret
  exact ret_mk rfl
theorem phasor_at {n : Nat} (hn : n < 511) (w : World) : Calls Try.prog 6 #[.float .f64 (qB n)] w (Ret w (.complex .f32 (rB (n % 64)) (iB (n % 64)))) := by
  obtain ⟨q1, q2, q3⟩ := q_fact hn
  have hm : n % 64 < 64 := by omega
  generalize n % 64 = m at *
  obtain ⟨j1, j2, j3, _⟩ := j_fact hm
  have s1 := (j_fact (show m % 16 < 64 by omega)).2.2.2
  have s2 := (j_fact (show 16 - m % 16 < 64 by omega)).2.2.2
  have hp := p_fact hm
  refine (iPhasor_fin (qB n) q3 (ar_num q1) (m / 16) (tB (m % 16)) (tB (16 - m % 16)) (by omega) (by rw [q2]; exact j1) (by rw [q2]; exact j2) s1 j3 s2 w).mono ?_
  rintro e w' ⟨r, s, k, rfl, hr, hs, rfl⟩
  rw [hp] at hr hs
  obtain rfl := hr.num.1
  obtain rfl := hs.num.1
  exact ret_mk rfl
theorem angleOf_any (a b : Nat) (u v : Option Nat) (ha : IsF .f32 a u) (hb : IsF .f32 b v) (w : World) : Calls Try.prog 7 #[.complex .f32 a b] w (RetFw w .f32 (angN v u)) := by
  have HA := Lib.hid (iAngleTurns_any b a v u hb ha w)
  clear ha hb
  go_enter Try.func7, Try.ntmps7
  go_wp2_with fail
  refine HA.out.mono ?_
  rintro e w1 ⟨r, rfl, hr, hb⟩
  go_wp2_with fail
  go_ret
  exact ⟨r, rfl, hr, hb⟩
theorem angle_at {m : Nat} (hm : m < 64) (w : World) : Calls Try.prog 7 #[.complex .f32 (rB m) (iB m)] w fun e w' => e = .returned (.float .f32 (aB m)) ∧ Below w.heap.size w w' := by
  obtain ⟨⟨f1, f2, _, _⟩, _⟩ := w_facts hm
  refine (angleOf_any _ _ _ _ f1 f2 w).mono ?_
  rintro e w' ⟨r, rfl, hr, hb⟩
  rw [a_fact hm] at hr
  obtain rfl := hr.num.1
  exact ⟨rfl, hb⟩
theorem angle_one (w : World) : Calls Try.prog 7 #[.complex .f32 0 1065353216] w fun e w' => e = .returned (.float .f32 1048576000) ∧ Below w.heap.size w w' := by
  refine (angleOf_any 0 1065353216 (some 0) (some 1065353216) (IsF.lit (by decide +kernel)) (IsF.lit (by decide +kernel)) w).mono ?_
  rintro e w' ⟨r, rfl, hr, hb⟩
  rw [a_one] at hr
  obtain rfl := hr.num.1
  exact ⟨rfl, hb⟩
theorem power_at {m : Nat} (hm : m < 64) (w : World) : Calls Try.prog 9 #[.complex .f32 (rB m) (iB m)] w (Ret w (.float .f32 (wB m))) := by
  obtain ⟨⟨f1, f2, _, _⟩, h1, h2, _⟩ := w_facts hm
  refine (powerOf_any _ _ _ _ f1 f2 h1 w).mono ?_
  rintro e w' ⟨r, n, rfl, hr, rfl⟩
  rw [h2] at hr
  obtain rfl := hr.num.1
  exact ret_mk rfl
/-- The product of two phasors: both its parts are near to the third's. -/
theorem mul_at {n m : Nat} (hn : n < 64) (hm : m < 64) (w : World) : Calls Try.prog 11 #[.complex .f32 (rB n) (iB n), .complex .f32 (rB m) (iB m)] w fun e w' => ∃ r s k, e = .returned (.complex .f32 r s) ∧ w' = w.drewN k ∧
    ∀ w2, Calls Try.prog 10 #[.complex .f32 r s, .complex .f32 (rB ((n + m) % 64)) (iB ((n + m) % 64)), .float .f64 4547007122018943789] w2 (Ret w2 (.bool true)) := by
  obtain ⟨⟨f1, f2, _, _⟩, _⟩ := w_facts hn
  obtain ⟨⟨g1, g2, _, _⟩, _⟩ := w_facts hm
  obtain ⟨⟨h1, h2, _, _⟩, _⟩ := w_facts (show (n + m) % 64 < 64 by omega)
  obtain ⟨⟨k1, k2⟩, l1, l2⟩ := mul_facts hn hm
  refine (mulC_any _ _ _ _ _ _ _ _ f1 f2 g1 g2 k1 l1 w).mono ?_
  rintro e w' ⟨r, s, k, rfl, hr, hs, rfl⟩
  exact ⟨r, s, k, rfl, rfl, fun w2 => b10Near_any r s _ _ _ _ _ _ hr hs h1 h2 k2 l2 w2⟩
theorem tenths_at {k : Nat} (h0 : k ≠ 0) (h1 : k ≤ 40000) (w : World) : Calls Try.prog 12 #[.float .f32 (fB k)] w (RetIB w (tenV (some (fB k))) true) := by
  have h := iTenthsOf_any (fB k) (some (fB k)) (isF_fB h0 h1) w
  rwa [posF_fB h0 h1] at h
theorem tenths_one (w : World) : Calls Try.prog 12 #[.float .f32 1065353216] w (RetIB w 0 true) := by
  have h := iTenthsOf_any 1065353216 (some 1065353216) (IsF.lit (by decide +kernel)) w
  rwa [ten_zero.1, ten_zero.2] at h
theorem same_one (w : World) : Calls Try.prog 13 #[.float .f32 1048576000, .float .f32 0] w fun e w' => e = .returned (.bool false) ∧ w' = w := by
  have h := sSameNumber_any 1048576000 0 (some 1048576000) (some 0) isF_aOne (IsF.lit (by decide +kernel)) w
  rwa [show (bitsI (some 1048576000) == bitsI (some 0)) = false from by decide] at h
end Go.Proofs.Ytaannebjpmdhjaa
