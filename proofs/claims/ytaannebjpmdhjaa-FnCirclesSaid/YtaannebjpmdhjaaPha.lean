/-
  Contracts: PhasorOf at both sides.
-/
import Derived.Test.YtaannebjpmdhjaaSin
import Derived.Test.YtaannebjpmdhjaaCx
import Derived.Deep.DeepCutAuto
namespace Go.Proofs.Ytaannebjpmdhjaa
set_option linter.unusedVariables false
set_option linter.unusedSimpArgs false
set_option maxRecDepth 20000
open Go.RowKit Fl

theorem p2_pos (e : Nat) : 0 < p2 e := Nat.two_pow_pos e
theorem Bd.p2 {e : Nat} {v : Option Nat} (h : Bd e v) : ∃ b, v = some b ∧ Fl.Fin D b ∧ U D (rg D b) ≤ Fl.p2 e := by
  obtain ⟨s, b, h1, h2, _, h4⟩ := h
  exact ⟨b, h1, h2, h4⟩
/-- A quarter of a turn taken away j times. -/
def phF (f : Option Nat) : Nat → Option Nat
  | 0 => f
  | j + 1 => ar .sub .f64 (phF f j) (some 4598175219545276416)
/-- A quarter of a turn is taken away just q times. -/
def phJ (f : Option Nat) (q : Nat) : Prop := (∀ i, i < q → cmpF .geq .f64 (phF f i) (some 4598175219545276416) = true) ∧ cmpF .geq .f64 (phF f q) (some 4598175219545276416) = false
theorem quart : Fl.Fin D 4598175219545276416 ∧ sg D 4598175219545276416 = false ∧ U D (rg D 4598175219545276416) = p2 1072 := ⟨by unfold Fl.Fin; decide +kernel, by decide +kernel, by decide +kernel⟩
theorem I_abs {b : Nat} : (I D b).natAbs = U D (rg D b) := by unfold I; cases sg D b <;> simp
/-- A quarter taken from what is at most k + 1 quarters. -/
theorem sub_quart {b k : Nat} (hf : Fl.Fin D b) (hU : U D (rg D b) ≤ (k + 1) * p2 1072) (hk : k ≤ 3) (hg : cmpF .geq .f64 (some b) (some 4598175219545276416) = true) :
    ∃ c, ar .sub .f64 (some b) (some 4598175219545276416) = some c ∧ Fl.Fin D c ∧ U D (rg D c) ≤ k * p2 1072 := by
  obtain ⟨q1, q2, q3⟩ := quart
  have hI : (p2 1072 : Int) ≤ I D b := by
    have e : ord .f64 (some b) (some 4598175219545276416) = some (compare (I D b) (I D 4598175219545276416)) := order_fin hf q1
    unfold cmpF at hg
    simp only [e] at hg
    rw [I_pos q2, q3] at hg
    rcases Int.lt_trichotomy (I D b) (p2 1072 : Int) with h | h | h
    · rw [Int.compare_eq_lt.2 h] at hg; simp at hg
    · omega
    · omega
  have hp : 0 < p2 1072 := p2_pos _
  have hs : sg D b = false := by
    cases hs : sg D b
    · rfl
    · unfold I at hI; rw [hs] at hI; simp at hI; omega
  rw [I_pos hs] at hI
  obtain ⟨m, i, rb, eb⟩ := read_fin hf
  obtain ⟨n, j, rc, ec⟩ := read_fin q1
  rw [hs] at rb
  rw [q2] at rc
  obtain ⟨q, mag, h4, h5, _⟩ := sum_at false true m i n j
  have e1 : ar .sub .f64 (some b) (some 4598175219545276416) = some (D.nearest q mag (D.leastPlace + ((min i j : Nat) : Int))) := by
    show ((D.read b).sum (D.read 4598175219545276416).opposite).map D.write = _
    rw [rb, rc]
    show ((Ieee.Datum.number false m (D.leastPlace + i)).sum (.number true n (D.leastPlace + j))).map D.write = _
    rw [h4]; rfl
  rw [e1]
  obtain ⟨e, he⟩ : ∃ e : Nat, e = 1072 := ⟨_, rfl⟩
  obtain ⟨r, hr⟩ := rung_of D k e (by rw [show D.binade = 2 ^ 52 from rfl]; omega)
  have hr : U D r = k * p2 e := hr
  rw [he] at hr
  have hr2 : r < D.infRung := by
    refine lt_of_U (f := D) ?_
    rw [hr, U_D_inf]
    have a1 : 3 * p2 1072 < p2 2098 := by decide +kernel
    exact Nat.lt_of_le_of_lt (Nat.mul_le_mul_right _ hk) a1
  have hrnd : rnd D mag (D.leastPlace + ((min i j : Nat) : Int)) ≤ r := by
    refine rnd_le ?_
    unfold LeU
    rw [show (D.leastPlace + ((min i j : Nat) : Int) - D.leastPlace).toNat = min i j by omega, show (D.leastPlace - (D.leastPlace + ((min i j : Nat) : Int))).toNat = 0 by omega, Nat.pow_zero, Nat.mul_one, h5, hr, eb, ec, q3]
    simp only [Bool.false_eq_true, if_false, if_true]
    rw [Nat.add_mul, Nat.one_mul] at hU
    generalize k * p2 1072 = y at *
    generalize p2 1072 = z at *
    omega
  refine ⟨_, rfl, ?_, ?_⟩
  · unfold Fl.Fin; rw [rg_nearest]; omega
  · rw [rg_nearest, ← hr]; exact U_le hrnd
theorem not_geq {b : Nat} (hf : Fl.Fin D b) (hU : U D (rg D b) ≤ 0) : cmpF .geq .f64 (some b) (some 4598175219545276416) = false := by
  obtain ⟨q1, q2, q3⟩ := quart
  have e : ord .f64 (some b) (some 4598175219545276416) = some (compare (I D b) (I D 4598175219545276416)) := order_fin hf q1
  have hp : 0 < p2 1072 := p2_pos _
  have hI : I D b = 0 := by have := I_abs (b := b); omega
  unfold cmpF
  simp only [e]
  rw [I_pos q2, q3, hI, Int.compare_eq_lt.2 (by omega)]
  rfl
theorem ph_step {f : Option Nat} (k : Nat) : ∀ (b j : Nat), k + j = 4 → phF f j = some b → Fl.Fin D b → U D (rg D b) ≤ k * p2 1072 → (∀ i, i < j → cmpF .geq .f64 (phF f i) (some 4598175219545276416) = true) →
    ∃ q c, q ≤ 4 ∧ phJ f q ∧ phF f q = some c ∧ Fl.Fin D c ∧ U D (rg D c) ≤ 4 * p2 1072 := by
  induction k with
  | zero =>
    intro b j hj hb hf hU hi
    rw [Nat.zero_mul] at hU
    exact ⟨j, b, by omega, ⟨hi, by rw [hb]; exact not_geq hf hU⟩, hb, hf, by omega⟩
  | succ k ih =>
    intro b j hj hb hf hU hi
    cases hg : cmpF .geq .f64 (some b) (some 4598175219545276416)
    · exact ⟨j, b, by omega, ⟨hi, by rw [hb]; exact hg⟩, hb, hf, Nat.le_trans hU (Nat.mul_le_mul_right _ (by omega))⟩
    · obtain ⟨c, hc, hfc, hUc⟩ := sub_quart hf hU (by omega) hg
      refine ih c (j + 1) (by omega) (by show ar .sub .f64 (phF f j) _ = _; rw [hb]; exact hc) hfc hUc ?_
      intro i hi2
      rcases Nat.lt_or_ge i j with h | h
      · exact hi i h
      · have : i = j := by omega
        subst this
        rw [hb]; exact hg
theorem ph_all {f : Option Nat} (h : Bd 1074 f) : ∃ q c, q ≤ 4 ∧ phJ f q ∧ phF f q = some c ∧ Fl.Fin D c ∧ U D (rg D c) ≤ p2 1074 := by
  obtain ⟨b, rfl, hf, hU⟩ := Go.Proofs.Ytaannebjpmdhjaa.Bd.p2 h
  have e : 4 * p2 1072 = p2 1074 := by decide +kernel
  have := ph_step (f := some b) 4 b 0 rfl rfl hf (by rw [e]; exact hU) (fun i hi => by omega)
  rw [e] at this
  exact this
theorem small_p2 {c : Nat} (hf : Fl.Fin D c) (h : U D (rg D c) ≤ p2 1075) : Small c := by
  refine ⟨hf, Nat.lt_of_le_of_lt h ?_⟩
  decide +kernel
/-- The complement of what is at most a turn. -/
theorem compl {c : Nat} (hf : Fl.Fin D c) (h : U D (rg D c) ≤ p2 1074) : ∃ d, ar .sub .f64 (some 4598175219545276416) (some c) = some d ∧ Small d ∧ IsF .f64 d (some d) := by
  obtain ⟨e, he⟩ : ∃ e : Nat, e = 1074 := ⟨_, rfl⟩
  have hc : Bd e (some c) := ⟨_, c, rfl, hf, rfl, by show _ ≤ p2 e; rw [he]; exact h⟩
  have hs : Bd (e + 1) (ar .sub .f64 (some 4598175219545276416) (some c)) := bd_sub (e := 1072) (f := e) (bs_lit (by decide +kernel)).bd hc (by omega) (by omega) (by omega)
  obtain ⟨s, d, hd, hfd, _, hU⟩ := hs
  refine ⟨d, hd, small_p2 hfd ?_, ar_num hd⟩
  have hU : _ ≤ p2 (e + 1) := hU
  rw [he] at hU
  exact hU
/-- The point's parts behind q quarters. -/
def phC (q : Nat) (c s : Option Nat) : Option Nat × Option Nat :=
  match q with
  | 1 => (nar (ar .sub .f64 (some 0) s), nar c)
  | 2 => (nar (ar .sub .f64 (some 0) c), nar (ar .sub .f64 (some 0) s))
  | 3 => (nar s, nar (ar .sub .f64 (some 0) c))
  | _ => (nar c, nar s)
theorem bd_sinV {b : Nat} (h : Small b) : Bd 1167 (sinV (some b)) := bd_sinF (bd_frac h.1 (small_lt h))
theorem narOk_nsin {b : Nat} (h : Small b) : NarOk (ar .sub .f64 (some 0) (sinV (some b))) :=
  (bd_sub (e := 1074) (bs_lit (b := 0) (by decide +kernel)).bd (bd_sinV h) (by decide) (show 1167 < 1168 by decide) (by decide)).narOk (by decide)
/-- The call returns a complex number, behind some draws. -/
def RetC (w : World) (u v : Option Nat) (e : Ending) (w' : World) : Prop := ∃ r s n, e = .returned (.complex .f32 r s) ∧ IsF .f32 r u ∧ IsF .f32 s v ∧ w' = w.drewN n
theorem isF_Q : IsF .f64 4598175219545276416 (some 4598175219545276416) := IsF.lit (by decide +kernel)

set_option maxRecDepth 100000 in
set_option maxHeartbeats 8000000 in
theorem iPhasor_fin (b : Nat) (h : Small b) (hb : IsF .f64 b (some b)) (q c d : Nat) (hq : q ≤ 4) (hJ : phJ (frac (some b)) q) (hc : phF (frac (some b)) q = some c) (sc : Small c) (hd : ar .sub .f64 (some 4598175219545276416) (some c) = some d) (sd : Small d) (w : World) :
    Calls Try.prog 6 #[.float .f64 b] w (RetC w (phC q (sinV (some d)) (sinV (some c))).1 (phC q (sinV (some d)) (sinV (some c))).2) := by
  have hna := isF_nan
  have hok2 := narOk_none
  have hqq := isF_Q
  have hz := isF_zeroD
  obtain ⟨_, _, g1, g2⟩ := small_facts h
  have G1 := Lib.hid g1
  have o1 := narOk_sin sc
  have o2 := narOk_sin sd
  have o3 := narOk_nsin sc
  have o4 := narOk_nsin sd
  have HJ := Lib.hid hJ
  have HC := Lib.hid hc
  have HD := Lib.hid hd
  clear g1 hJ hc hd
  go_enter Try.func6, Try.ntmps6
  go_wp2_with (first | (refine wpList_far rfl rfl (by first | exact .inl rfl | exact .inr (.inl rfl) | exact .inr (.inr (.inl rfl)) | exact .inr (.inr (.inr rfl))) rfl rfl (by first | assumption | exact isF_ofInt _ _ | exact IsF.lit (by decide +kernel)) (by first | assumption | exact isF_ofInt _ _ | exact IsF.lit (by decide +kernel)) ?_; intro r n hr) | (refine wpList_fcmp rfl rfl (by first | exact .inl rfl | exact .inr (.inl rfl) | exact .inr (.inr (.inl rfl)) | exact .inr (.inr (.inr (.inl rfl))) | exact .inr (.inr (.inr (.inr (.inl rfl)))) | exact .inr (.inr (.inr (.inr (.inr rfl))))) rfl rfl (by first | assumption | exact isF_ofInt _ _ | exact IsF.lit (by decide +kernel)) (by first | assumption | exact isF_ofInt _ _ | exact IsF.lit (by decide +kernel)) (by first | assumption | exact rfl) ?_) | (first | (refine wpList_fsame rfl rfl rfl (congrArg Option.isSome Try.underlying28) Try.underlying28 ?_) | (refine wpList_fsame rfl rfl rfl (congrArg Option.isSome Try.underlying27) Try.underlying27 ?_)) | (refine wpList_fwid rfl rfl rfl (congrArg Option.isSome Try.underlying28) Try.underlying27 (by assumption) ?_; intro r n hr) | (refine wpList_fnar rfl rfl rfl (congrArg Option.isSome Try.underlying27) Try.underlying28 (by assumption) (by assumption) ?_; intro r n hr) | (refine wpList_fneg rfl rfl rfl (by assumption) ?_; intro r hr) | (go_at_call 14; refine (nan_any _).mono ?_; rintro e w' ⟨rfl, hw'⟩; obtain rfl := hw'.symm) | (go_at_call 15; refine (isHuge_any _ hb _).mono ?_; rintro e w' ⟨n, rfl, rfl⟩; rw [G1.out]) | (go_at_call 16; refine (partOfTurn_any _ h hb _).mono ?_; rintro e w' ⟨r, n, rfl, hr, rfl⟩))
  generalize frac (some b) = f at *
  go_simp
  go_loopw [4, 5] (fun x i wr => ∃ (j r m : Nat), j ≤ q ∧ x = .float .f64 r ∧ i = .int .i64 (j : Int) ∧ IsF .f64 r (phF f j) ∧ wr = w.drewN m) (fun _ i _ => (q - intOf i).toNat)
  case atStart => exact ⟨0, _, _, by omega, rfl, rfl, by assumption, rfl⟩
  case round =>
    obtain ⟨j, r, m, hj, rfl, rfl, hr, rfl⟩ := hrel
    by_cases hlt : j < q
    · have ht := HJ.out.1 j hlt
      have Hs := Lib.hid (show phF f (j + 1) = ar .sub .f64 (phF f j) (some 4598175219545276416) from rfl)
      go_wp2_with (first | (refine wpList_far rfl rfl (by first | exact .inl rfl | exact .inr (.inl rfl) | exact .inr (.inr (.inl rfl)) | exact .inr (.inr (.inr rfl))) rfl rfl (by first | assumption | exact isF_ofInt _ _ | exact IsF.lit (by decide +kernel)) (by first | assumption | exact isF_ofInt _ _ | exact IsF.lit (by decide +kernel)) ?_; intro r n hr) | (refine wpList_fcmp rfl rfl (by first | exact .inl rfl | exact .inr (.inl rfl) | exact .inr (.inr (.inl rfl)) | exact .inr (.inr (.inr (.inl rfl))) | exact .inr (.inr (.inr (.inr (.inl rfl)))) | exact .inr (.inr (.inr (.inr (.inr rfl))))) rfl rfl (by first | assumption | exact isF_ofInt _ _ | exact IsF.lit (by decide +kernel)) (by first | assumption | exact isF_ofInt _ _ | exact IsF.lit (by decide +kernel)) (by first | assumption | exact rfl) ?_) | (first | (refine wpList_fsame rfl rfl rfl (congrArg Option.isSome Try.underlying28) Try.underlying28 ?_) | (refine wpList_fsame rfl rfl rfl (congrArg Option.isSome Try.underlying27) Try.underlying27 ?_)) | (refine wpList_fwid rfl rfl rfl (congrArg Option.isSome Try.underlying28) Try.underlying27 (by assumption) ?_; intro r n hr) | (refine wpList_fnar rfl rfl rfl (congrArg Option.isSome Try.underlying27) Try.underlying28 (by assumption) (by assumption) ?_; intro r n hr) | (refine wpList_fneg rfl rfl rfl (by assumption) ?_; intro r hr))
      all_goals
        go_roundw
        case rel => exact ⟨j + 1, _, _, by omega, rfl, by go_num, by rw [Hs.out]; assumption, rfl⟩
        case measure => simp [intOf]; omega
    · obtain rfl : j = q := by omega
      have ht := HJ.out.2
      obtain rfl := isF_eq hr HC.out
      have hr' := isF_at hr HC.out
      rw [HC.out] at ht
      clear hr
      go_upto_region 11 with (first | (refine wpList_far rfl rfl (by first | exact .inl rfl | exact .inr (.inl rfl) | exact .inr (.inr (.inl rfl)) | exact .inr (.inr (.inr rfl))) rfl rfl (by first | assumption | exact isF_ofInt _ _ | exact IsF.lit (by decide +kernel)) (by first | assumption | exact isF_ofInt _ _ | exact IsF.lit (by decide +kernel)) ?_; intro r n hr) | (refine wpList_fcmp rfl rfl (by first | exact .inl rfl | exact .inr (.inl rfl) | exact .inr (.inr (.inl rfl)) | exact .inr (.inr (.inr (.inl rfl))) | exact .inr (.inr (.inr (.inr (.inl rfl)))) | exact .inr (.inr (.inr (.inr (.inr rfl))))) rfl rfl (by first | assumption | exact isF_ofInt _ _ | exact IsF.lit (by decide +kernel)) (by first | assumption | exact isF_ofInt _ _ | exact IsF.lit (by decide +kernel)) (by first | assumption | exact rfl) ?_) | (first | (refine wpList_fsame rfl rfl rfl (congrArg Option.isSome Try.underlying28) Try.underlying28 ?_) | (refine wpList_fsame rfl rfl rfl (congrArg Option.isSome Try.underlying27) Try.underlying27 ?_)) | (refine wpList_fwid rfl rfl rfl (congrArg Option.isSome Try.underlying28) Try.underlying27 (by assumption) ?_; intro r n hr) | (refine wpList_fnar rfl rfl rfl (congrArg Option.isSome Try.underlying27) Try.underlying28 (by assumption) (by assumption) ?_; intro r n hr) | (refine wpList_fneg rfl rfl rfl (by assumption) ?_; intro r hr) | (go_at_call 17; obtain rfl := isF_eq (by assumption) HD.out; (with_reducible refine (sine_any _ sd (isF_at (by assumption) HD.out) _).mono ?_); rintro e w' ⟨r, n, rfl, hr, rfl⟩) | (go_at_call 17; refine (sine_any _ sc hr' _).mono ?_; rintro e w' ⟨r, n, rfl, hr, rfl⟩))
      have h5 : j = 0 ∨ j = 1 ∨ j = 2 ∨ j = 3 ∨ j = 4 := by omega
      clear HJ HC HD hlt hj
      rcases h5 with rfl | rfl | rfl | rfl | rfl
      all_goals
        go_wp2_with (first | (refine wpList_far rfl rfl (by first | exact .inl rfl | exact .inr (.inl rfl) | exact .inr (.inr (.inl rfl)) | exact .inr (.inr (.inr rfl))) rfl rfl (by first | assumption | exact isF_ofInt _ _ | exact IsF.lit (by decide +kernel)) (by first | assumption | exact isF_ofInt _ _ | exact IsF.lit (by decide +kernel)) ?_; intro r n hr) | (refine wpList_fcmp rfl rfl (by first | exact .inl rfl | exact .inr (.inl rfl) | exact .inr (.inr (.inl rfl)) | exact .inr (.inr (.inr (.inl rfl))) | exact .inr (.inr (.inr (.inr (.inl rfl)))) | exact .inr (.inr (.inr (.inr (.inr rfl))))) rfl rfl (by first | assumption | exact isF_ofInt _ _ | exact IsF.lit (by decide +kernel)) (by first | assumption | exact isF_ofInt _ _ | exact IsF.lit (by decide +kernel)) (by first | assumption | exact rfl) ?_) | (first | (refine wpList_fsame rfl rfl rfl (congrArg Option.isSome Try.underlying28) Try.underlying28 ?_) | (refine wpList_fsame rfl rfl rfl (congrArg Option.isSome Try.underlying27) Try.underlying27 ?_)) | (refine wpList_fwid rfl rfl rfl (congrArg Option.isSome Try.underlying28) Try.underlying27 (by assumption) ?_; intro r n hr) | (refine wpList_fnar rfl rfl rfl (congrArg Option.isSome Try.underlying27) Try.underlying28 (by assumption) (by assumption) ?_; intro r n hr) | (refine wpList_fneg rfl rfl rfl (by assumption) ?_; intro r hr))
        go_ret
        exact ⟨_, _, _, rfl, by assumption, by assumption, rfl⟩
theorem iPhasor_nan (b : Nat) (v : Option Nat) (hb : IsF .f64 b v) (c1 : cmpF .neq .f64 (ar .sub .f64 v v) (some 0) = true) (w : World) : Calls Try.prog 6 #[.float .f64 b] w (RetC w none none) := by
  have hna := isF_nan
  have hok2 := narOk_none
  go_enter Try.func6, Try.ntmps6
  go_wp2_with (first | (refine wpList_far rfl rfl (by first | exact .inl rfl | exact .inr (.inl rfl) | exact .inr (.inr (.inl rfl)) | exact .inr (.inr (.inr rfl))) rfl rfl (by first | assumption | exact isF_ofInt _ _ | exact IsF.lit (by decide +kernel)) (by first | assumption | exact isF_ofInt _ _ | exact IsF.lit (by decide +kernel)) ?_; intro r n hr) | (refine wpList_fcmp rfl rfl (by first | exact .inl rfl | exact .inr (.inl rfl) | exact .inr (.inr (.inl rfl)) | exact .inr (.inr (.inr (.inl rfl))) | exact .inr (.inr (.inr (.inr (.inl rfl)))) | exact .inr (.inr (.inr (.inr (.inr rfl))))) rfl rfl (by first | assumption | exact isF_ofInt _ _ | exact IsF.lit (by decide +kernel)) (by first | assumption | exact isF_ofInt _ _ | exact IsF.lit (by decide +kernel)) (by first | assumption | exact rfl) ?_) | (first | (refine wpList_fsame rfl rfl rfl (congrArg Option.isSome Try.underlying28) Try.underlying28 ?_) | (refine wpList_fsame rfl rfl rfl (congrArg Option.isSome Try.underlying27) Try.underlying27 ?_)) | (refine wpList_fwid rfl rfl rfl (congrArg Option.isSome Try.underlying28) Try.underlying27 (by assumption) ?_; intro r n hr) | (refine wpList_fnar rfl rfl rfl (congrArg Option.isSome Try.underlying27) Try.underlying28 (by assumption) (by assumption) ?_; intro r n hr) | (refine wpList_fneg rfl rfl rfl (by assumption) ?_; intro r hr) | (go_at_call 14; refine (nan_any _).mono ?_; rintro e w' ⟨rfl, hw'⟩; obtain rfl := hw'.symm))
  go_ret
  exact ⟨_, _, _, rfl, by assumption, by assumption, rfl⟩
theorem isF_oneS : IsF .f32 1065353216 (some 1065353216) := IsF.lit (by decide +kernel)
theorem iPhasor_huge (b : Nat) (hb : IsF .f64 b (some b)) (hf : Fl.Fin D b) (hs : ¬ Small b) (w : World) : Calls Try.prog 6 #[.float .f64 b] w (RetC w (some 1065353216) (some 0)) := by
  have hna := isF_nan
  have hok2 := narOk_none
  obtain ⟨_, g1, g2⟩ := huge_facts hf hs
  have G1 := Lib.hid g1
  clear g1
  go_enter Try.func6, Try.ntmps6
  go_wp2_with (first | (refine wpList_far rfl rfl (by first | exact .inl rfl | exact .inr (.inl rfl) | exact .inr (.inr (.inl rfl)) | exact .inr (.inr (.inr rfl))) rfl rfl (by first | assumption | exact isF_ofInt _ _ | exact IsF.lit (by decide +kernel)) (by first | assumption | exact isF_ofInt _ _ | exact IsF.lit (by decide +kernel)) ?_; intro r n hr) | (refine wpList_fcmp rfl rfl (by first | exact .inl rfl | exact .inr (.inl rfl) | exact .inr (.inr (.inl rfl)) | exact .inr (.inr (.inr (.inl rfl))) | exact .inr (.inr (.inr (.inr (.inl rfl)))) | exact .inr (.inr (.inr (.inr (.inr rfl))))) rfl rfl (by first | assumption | exact isF_ofInt _ _ | exact IsF.lit (by decide +kernel)) (by first | assumption | exact isF_ofInt _ _ | exact IsF.lit (by decide +kernel)) (by first | assumption | exact rfl) ?_) | (first | (refine wpList_fsame rfl rfl rfl (congrArg Option.isSome Try.underlying28) Try.underlying28 ?_) | (refine wpList_fsame rfl rfl rfl (congrArg Option.isSome Try.underlying27) Try.underlying27 ?_)) | (refine wpList_fwid rfl rfl rfl (congrArg Option.isSome Try.underlying28) Try.underlying27 (by assumption) ?_; intro r n hr) | (refine wpList_fnar rfl rfl rfl (congrArg Option.isSome Try.underlying27) Try.underlying28 (by assumption) (by assumption) ?_; intro r n hr) | (refine wpList_fneg rfl rfl rfl (by assumption) ?_; intro r hr) | (go_at_call 14; refine (nan_any _).mono ?_; rintro e w' ⟨rfl, hw'⟩; obtain rfl := hw'.symm) | (go_at_call 15; refine (isHuge_any _ hb _).mono ?_; rintro e w' ⟨n, rfl, rfl⟩; rw [G1.out]))
  go_ret
  exact ⟨_, _, _, rfl, isF_oneS, isF_zeroS, rfl⟩
end Go.Proofs.Ytaannebjpmdhjaa
