/-
  Contracts: logarithms at both sides, at a positive finite number; math.NaN, math.Inf, math.IsInf.
-/
import Derived.Test.YtaannebjpmdhjaaFlush
import Derived.Test.YtaannebjpmdhjaaLogp
namespace Go.Proofs.Ytaannebjpmdhjaa
set_option linter.unusedVariables false
set_option linter.unusedSimpArgs false
set_option maxRecDepth 20000
open Go.RowKit Fl

def fltOf (v : Value) : Nat := match v with | .float _ b => b | _ => 0
theorem isF_nrm {y : Nat} (h : Nrm y) : IsF .f64 y (some y) := by
  refine IsF.lit ⟨?_, ?_⟩
  · show (D.read y).isNaN = false
    rw [read_nrm h]; rfl
  · have := h.2
    rw [D_inf] at this
    show y < 18446744073709551616
    omega
theorem isF_eq {k : FloatKind} {r y : Nat} {v : Option Nat} (h : IsF k r v) (hv : v = some y) : r = y := by
  subst hv; exact h.num.1
theorem isF_at {k : FloatKind} {r y : Nat} {v : Option Nat} (h : IsF k r v) (hv : v = some y) : IsF k r (some y) := by
  subst hv; exact h
def kF (j : Nat) : Option Nat := ofInt .f64 (25 - 2 * j)
theorem kF_ge : ∀ j : Nat, j ≤ 13 → cmpF .geq .f64 (kF j) (some 4607182418800017408) = decide (j < 13) := by decide +kernel
theorem kF_sub : ∀ j : Nat, j < 13 → ar .sub .f64 (kF j) (some 4611686018427387904) = kF (j + 1) := by decide +kernel
/-- A measure: the bits of a positive float. -/
def posN (v : Value) : Nat := match v with | .float _ b => if b < 9223372036854775808 then b else 0 | _ => 0
theorem kF_down : ∀ j : Nat, j < 13 → posN (.float .f64 (floatOfInt .f64 (25 - 2 * ((j + 1 : Nat) : Int)))) < posN (.float .f64 (floatOfInt .f64 (25 - 2 * (j : Int)))) := by decide +kernel
theorem kF_zero : IsF .f64 4627730092099895296 (kF 0) := by
  have e : kF 0 = some 4627730092099895296 := by decide +kernel
  rw [e]
  exact IsF.lit (by decide +kernel)
theorem isF_zeroD : IsF .f64 0 (some 0) := IsF.lit (by decide +kernel)
theorem e_zero : IsF .f64 0 (ofInt .f64 (-((0 : Nat) : Int))) := by
  have e : ofInt .f64 (-((0 : Nat) : Int)) = some 0 := by decide +kernel
  rw [e]
  exact IsF.lit (by decide +kernel)
theorem red_eq {x y : Nat} {e : Int} (h : (y : Int) = x - e * 4503599627370496) (h1 : 4604930618986332160 ≤ y) (h2 : y < 4609434218613702656) : logTail y e = logV x := by
  have h3 : redE x = e := by unfold redE; omega
  have h4 : redX x = y := by unfold redX; rw [h3]; omega
  unfold logV
  rw [h3, h4]

set_option maxHeartbeats 2000000 in
theorem logarithm_any (x : Nat) (h1 : 3936146074321813504 ≤ x) (h2 : x < 5188146770730811392) (w : World) :
    Calls Try.prog 23 #[.float .f64 x] w (RetF w .f64 (logV x)) := by
  have hz := isF_zeroD
  go_enter Try.func23, Try.ntmps23
  go_wp2_with fail
  go_loopw [0, 3] (fun a e wr => ∃ (j y r m : Nat), a = .float .f64 y ∧ e = .float .f64 r ∧ wr = w.drewN m ∧ y = x + j * 4503599627370496 ∧ (j = 0 ∨ y < 4609434218613702656) ∧ IsF .f64 r (ofInt .f64 (-(j : Int)))) (fun a _ _ => 4609434218613702656 - fltOf a)
  case atStart => exact ⟨0, x, 0, 0, rfl, rfl, rfl, by omega, .inl rfl, e_zero⟩
  case round =>
    obtain ⟨j, y, r, m, rfl, rfl, rfl, hy, hj, hr⟩ := hrel
    have hN : Nrm y := ⟨by rw [D_binade]; omega, by rw [D_inf]; omega⟩
    have fy := isF_nrm hN
    by_cases hlt : y < 4604930618986332160
    · have ht : cmpF .lss .f64 (some y) (some 4604930618986332160) = true := by rw [lt_pos hN.2 (by rw [D_inf]; decide)]; simpa using hlt
      have Hd := Lib.hid (show ar .mul .f64 (some y) (some 4611686018427387904) = some (y + 4503599627370496) by rw [dbl hN (by rw [D_inf, D_binade]; omega), D_binade])
      have He := Lib.hid (e_dec j (by omega))
      have Hy := Lib.hid hy
      clear hy
      go_wp2_with (first | (refine wpList_far rfl rfl (by first | exact .inl rfl | exact .inr (.inl rfl) | exact .inr (.inr (.inl rfl)) | exact .inr (.inr (.inr rfl))) rfl rfl (by first | assumption | exact isF_ofInt _ _ | exact IsF.lit (by decide +kernel)) (by first | assumption | exact isF_ofInt _ _ | exact IsF.lit (by decide +kernel)) ?_; intro r n hr) | (refine wpList_fcmp rfl rfl (by first | exact .inl rfl | exact .inr (.inl rfl) | exact .inr (.inr (.inl rfl)) | exact .inr (.inr (.inr (.inl rfl))) | exact .inr (.inr (.inr (.inr (.inl rfl)))) | exact .inr (.inr (.inr (.inr (.inr rfl))))) rfl rfl (by first | assumption | exact isF_ofInt _ _ | exact IsF.lit (by decide +kernel)) (by first | assumption | exact isF_ofInt _ _ | exact IsF.lit (by decide +kernel)) (by first | assumption | exact rfl) ?_) | (first | (refine wpList_fsame rfl rfl rfl (congrArg Option.isSome Try.underlying28) Try.underlying28 ?_) | (refine wpList_fsame rfl rfl rfl (congrArg Option.isSome Try.underlying27) Try.underlying27 ?_)) | (refine wpList_fwid rfl rfl rfl (congrArg Option.isSome Try.underlying28) Try.underlying27 (by assumption) ?_; intro r n hr) | (refine wpList_fnar rfl rfl rfl (congrArg Option.isSome Try.underlying27) Try.underlying28 (by assumption) (by assumption) ?_; intro r n hr) | (refine wpList_fneg rfl rfl rfl (by assumption) ?_; intro r hr))
      all_goals
        go_roundw
        case rel =>
          exact ⟨j + 1, y + 4503599627370496, _, _, congrArg (Value.float .f64) (isF_eq (by assumption) Hd.out), rfl, rfl, by have := Hy.out; omega, .inr (by omega), by rw [← He.out]; assumption⟩
        case measure =>
          have := isF_eq (by assumption) Hd.out
          simp [fltOf]; omega
    · have ht : cmpF .lss .f64 (some y) (some 4604930618986332160) = false := by rw [lt_pos hN.2 (by rw [D_inf]; decide)]; simpa using hlt
      have Hy := Lib.hid hy
      clear hy
      go_wp2_with (first | (refine wpList_far rfl rfl (by first | exact .inl rfl | exact .inr (.inl rfl) | exact .inr (.inr (.inl rfl)) | exact .inr (.inr (.inr rfl))) rfl rfl (by first | assumption | exact isF_ofInt _ _ | exact IsF.lit (by decide +kernel)) (by first | assumption | exact isF_ofInt _ _ | exact IsF.lit (by decide +kernel)) ?_; intro r n hr) | (refine wpList_fcmp rfl rfl (by first | exact .inl rfl | exact .inr (.inl rfl) | exact .inr (.inr (.inl rfl)) | exact .inr (.inr (.inr (.inl rfl))) | exact .inr (.inr (.inr (.inr (.inl rfl)))) | exact .inr (.inr (.inr (.inr (.inr rfl))))) rfl rfl (by first | assumption | exact isF_ofInt _ _ | exact IsF.lit (by decide +kernel)) (by first | assumption | exact isF_ofInt _ _ | exact IsF.lit (by decide +kernel)) (by first | assumption | exact rfl) ?_) | (first | (refine wpList_fsame rfl rfl rfl (congrArg Option.isSome Try.underlying28) Try.underlying28 ?_) | (refine wpList_fsame rfl rfl rfl (congrArg Option.isSome Try.underlying27) Try.underlying27 ?_)) | (refine wpList_fwid rfl rfl rfl (congrArg Option.isSome Try.underlying28) Try.underlying27 (by assumption) ?_; intro r n hr) | (refine wpList_fnar rfl rfl rfl (congrArg Option.isSome Try.underlying27) Try.underlying28 (by assumption) (by assumption) ?_; intro r n hr) | (refine wpList_fneg rfl rfl rfl (by assumption) ?_; intro r hr))
      clear ht
      go_simp
      go_loopw [0, 3] (fun a e wr => ∃ (y r m : Nat) (i : Int), a = .float .f64 y ∧ e = .float .f64 r ∧ wr = w.drewN m ∧ (y : Int) = x - i * 4503599627370496 ∧ 4604930618986332160 ≤ y ∧ (y < 4609434218613702656 ∨ 0 ≤ i) ∧ IsF .f64 r (ofInt .f64 i)) (fun a _ _ => fltOf a)
      case atStart => exact ⟨y, r, _, -(j : Int), rfl, rfl, rfl, by have := Hy.out; omega, by omega, by omega, hr⟩
      case round =>
        clear hr hj fy hN hlt Hy
        obtain ⟨z, r2, m2, i, rfl, rfl, rfl, hy, hL, hi, hr⟩ := hrel
        have hN : Nrm z := ⟨by rw [D_binade]; omega, by rw [D_inf]; omega⟩
        have fy := isF_nrm hN
        by_cases hge : 4609434218613702656 ≤ z
        · have ht : cmpF .geq .f64 (some z) (some 4609434218613702656) = true := by rw [ge_pos hN.2 (by rw [D_inf]; decide)]; simpa using hge
          have Hd := Lib.hid (show ar .quo .f64 (some z) (some 4611686018427387904) = some (z - 4503599627370496) by rw [hlv hN (by rw [D_binade]; omega), D_binade])
          obtain ⟨k, rfl⟩ : ∃ k : Nat, i = (k : Int) := ⟨i.toNat, by omega⟩
          have He := Lib.hid (e_inc k (by omega))
          have Hy := Lib.hid hy
          clear hy hi
          go_wp2_with (first | (refine wpList_far rfl rfl (by first | exact .inl rfl | exact .inr (.inl rfl) | exact .inr (.inr (.inl rfl)) | exact .inr (.inr (.inr rfl))) rfl rfl (by first | assumption | exact isF_ofInt _ _ | exact IsF.lit (by decide +kernel)) (by first | assumption | exact isF_ofInt _ _ | exact IsF.lit (by decide +kernel)) ?_; intro r n hr) | (refine wpList_fcmp rfl rfl (by first | exact .inl rfl | exact .inr (.inl rfl) | exact .inr (.inr (.inl rfl)) | exact .inr (.inr (.inr (.inl rfl))) | exact .inr (.inr (.inr (.inr (.inl rfl)))) | exact .inr (.inr (.inr (.inr (.inr rfl))))) rfl rfl (by first | assumption | exact isF_ofInt _ _ | exact IsF.lit (by decide +kernel)) (by first | assumption | exact isF_ofInt _ _ | exact IsF.lit (by decide +kernel)) (by first | assumption | exact rfl) ?_) | (first | (refine wpList_fsame rfl rfl rfl (congrArg Option.isSome Try.underlying28) Try.underlying28 ?_) | (refine wpList_fsame rfl rfl rfl (congrArg Option.isSome Try.underlying27) Try.underlying27 ?_)) | (refine wpList_fwid rfl rfl rfl (congrArg Option.isSome Try.underlying28) Try.underlying27 (by assumption) ?_; intro r n hr) | (refine wpList_fnar rfl rfl rfl (congrArg Option.isSome Try.underlying27) Try.underlying28 (by assumption) (by assumption) ?_; intro r n hr) | (refine wpList_fneg rfl rfl rfl (by assumption) ?_; intro r hr))
          all_goals
            go_roundw
            case rel =>
              exact ⟨z - 4503599627370496, _, _, ((k + 1 : Nat) : Int), congrArg (Value.float .f64) (isF_eq (by assumption) Hd.out), rfl, rfl, by have := Hy.out; omega, by omega, .inr (by omega), by rw [← He.out]; assumption⟩
            case measure =>
              have := isF_eq (by assumption) Hd.out
              simp [fltOf]; omega
        · have ht : cmpF .geq .f64 (some z) (some 4609434218613702656) = false := by rw [ge_pos hN.2 (by rw [D_inf]; decide)]; simpa using hge
          have Hv := Lib.hid (red_eq hy hL (by omega))
          clear hy hi hL hge
          go_wp2_with (first | (refine wpList_far rfl rfl (by first | exact .inl rfl | exact .inr (.inl rfl) | exact .inr (.inr (.inl rfl)) | exact .inr (.inr (.inr rfl))) rfl rfl (by first | assumption | exact isF_ofInt _ _ | exact IsF.lit (by decide +kernel)) (by first | assumption | exact isF_ofInt _ _ | exact IsF.lit (by decide +kernel)) ?_; intro r n hr) | (refine wpList_fcmp rfl rfl (by first | exact .inl rfl | exact .inr (.inl rfl) | exact .inr (.inr (.inl rfl)) | exact .inr (.inr (.inr (.inl rfl))) | exact .inr (.inr (.inr (.inr (.inl rfl)))) | exact .inr (.inr (.inr (.inr (.inr rfl))))) rfl rfl (by first | assumption | exact isF_ofInt _ _ | exact IsF.lit (by decide +kernel)) (by first | assumption | exact isF_ofInt _ _ | exact IsF.lit (by decide +kernel)) (by first | assumption | exact rfl) ?_) | (first | (refine wpList_fsame rfl rfl rfl (congrArg Option.isSome Try.underlying28) Try.underlying28 ?_) | (refine wpList_fsame rfl rfl rfl (congrArg Option.isSome Try.underlying27) Try.underlying27 ?_)) | (refine wpList_fwid rfl rfl rfl (congrArg Option.isSome Try.underlying28) Try.underlying27 (by assumption) ?_; intro r n hr) | (refine wpList_fnar rfl rfl rfl (congrArg Option.isSome Try.underlying27) Try.underlying28 (by assumption) (by assumption) ?_; intro r n hr) | (refine wpList_fneg rfl rfl rfl (by assumption) ?_; intro r hr))
          clear ht
          go_simp
          have hk0 := kF_zero
          go_loopw [6, 7] (fun q k wr => ∃ (j rq rk m : Nat), j ≤ 13 ∧ q = .float .f64 rq ∧ k = .float .f64 rk ∧ wr = w.drewN m ∧ IsF .f64 rq (logQ (ar .mul .f64 (logS z) (logS z)) j) ∧ IsF .f64 rk (kF j)) (fun _ k _ => posN k)
          case atStart => exact ⟨0, _, _, _, by omega, rfl, rfl, rfl, hz, hk0⟩
          case round =>
            obtain ⟨j, rq, rk, m, hj, rfl, rfl, rfl, hq, hk⟩ := hrel
            by_cases hlt : j < 13
            · have ht : cmpF .geq .f64 (kF j) (some 4607182418800017408) = true := by rw [kF_ge j hj]; simpa using hlt
              have Hs := Lib.hid (kF_sub j hlt)
              go_wp2_with (first | (refine wpList_far rfl rfl (by first | exact .inl rfl | exact .inr (.inl rfl) | exact .inr (.inr (.inl rfl)) | exact .inr (.inr (.inr rfl))) rfl rfl (by first | assumption | exact isF_ofInt _ _ | exact IsF.lit (by decide +kernel)) (by first | assumption | exact isF_ofInt _ _ | exact IsF.lit (by decide +kernel)) ?_; intro r n hr) | (refine wpList_fcmp rfl rfl (by first | exact .inl rfl | exact .inr (.inl rfl) | exact .inr (.inr (.inl rfl)) | exact .inr (.inr (.inr (.inl rfl))) | exact .inr (.inr (.inr (.inr (.inl rfl)))) | exact .inr (.inr (.inr (.inr (.inr rfl))))) rfl rfl (by first | assumption | exact isF_ofInt _ _ | exact IsF.lit (by decide +kernel)) (by first | assumption | exact isF_ofInt _ _ | exact IsF.lit (by decide +kernel)) (by first | assumption | exact rfl) ?_) | (first | (refine wpList_fsame rfl rfl rfl (congrArg Option.isSome Try.underlying28) Try.underlying28 ?_) | (refine wpList_fsame rfl rfl rfl (congrArg Option.isSome Try.underlying27) Try.underlying27 ?_)) | (refine wpList_fwid rfl rfl rfl (congrArg Option.isSome Try.underlying28) Try.underlying27 (by assumption) ?_; intro r n hr) | (refine wpList_fnar rfl rfl rfl (congrArg Option.isSome Try.underlying27) Try.underlying28 (by assumption) (by assumption) ?_; intro r n hr) | (refine wpList_fneg rfl rfl rfl (by assumption) ?_; intro r hr))
              all_goals
                go_roundw
                case rel =>
                  exact ⟨j + 1, _, _, _, by omega, rfl, rfl, rfl, by assumption, by rw [← Hs.out]; assumption⟩
                case measure =>
                  have e1 := isF_eq (by assumption) Hs.out
                  have e2 := isF_eq hk rfl
                  have e3 := kF_down j hlt
                  rw [← e1, ← e2] at e3
                  exact e3
            · have ht : cmpF .geq .f64 (kF j) (some 4607182418800017408) = false := by rw [kF_ge j hj]; simpa using hlt
              obtain rfl : j = 13 := by omega
              go_wp2_with (first | (refine wpList_far rfl rfl (by first | exact .inl rfl | exact .inr (.inl rfl) | exact .inr (.inr (.inl rfl)) | exact .inr (.inr (.inr rfl))) rfl rfl (by first | assumption | exact isF_ofInt _ _ | exact IsF.lit (by decide +kernel)) (by first | assumption | exact isF_ofInt _ _ | exact IsF.lit (by decide +kernel)) ?_; intro r n hr) | (refine wpList_fcmp rfl rfl (by first | exact .inl rfl | exact .inr (.inl rfl) | exact .inr (.inr (.inl rfl)) | exact .inr (.inr (.inr (.inl rfl))) | exact .inr (.inr (.inr (.inr (.inl rfl)))) | exact .inr (.inr (.inr (.inr (.inr rfl))))) rfl rfl (by first | assumption | exact isF_ofInt _ _ | exact IsF.lit (by decide +kernel)) (by first | assumption | exact isF_ofInt _ _ | exact IsF.lit (by decide +kernel)) (by first | assumption | exact rfl) ?_) | (first | (refine wpList_fsame rfl rfl rfl (congrArg Option.isSome Try.underlying28) Try.underlying28 ?_) | (refine wpList_fsame rfl rfl rfl (congrArg Option.isSome Try.underlying27) Try.underlying27 ?_)) | (refine wpList_fwid rfl rfl rfl (congrArg Option.isSome Try.underlying28) Try.underlying27 (by assumption) ?_; intro r n hr) | (refine wpList_fnar rfl rfl rfl (congrArg Option.isSome Try.underlying27) Try.underlying28 (by assumption) (by assumption) ?_; intro r n hr) | (refine wpList_fneg rfl rfl rfl (by assumption) ?_; intro r hr))
              go_ret
              exact ⟨_, _, rfl, by rw [← Hv.out]; assumption, rfl⟩
theorem nan_any (w : World) : Calls Try.prog 14 #[] w fun e w' => e = .returned (.float .f64 9221120237041090561) ∧ w' = w := by
  have hy : ∀ w, (callFunc 25 #[.int .u64 9221120237041090561]).run Try.prog w = .ok (.value (.float .f64 9221120237041090561)) w := ext_f64from 9221120237041090561
  go_enter Try.func14, Try.ntmps14
  go_wp2_with fail
  go_ret
  exact ⟨rfl, rfl⟩
theorem isF_nan : IsF .f64 9221120237041090561 none := IsF.lit_nan (by decide +kernel)
theorem isF_ninf : IsF .f64 18442240474082181120 (some 18442240474082181120) := IsF.lit (by decide +kernel)
theorem isF_pinf : IsF .f64 9218868437227405312 (some 9218868437227405312) := IsF.lit (by decide +kernel)
theorem isInf1_any (b : Nat) (v : Option Nat) (h : IsF .f64 b v) (w : World) : Calls Try.prog 43 #[.float .f64 b, .int .i64 1] w (Ret w (.bool (cmpF .gtr .f64 v (some 9218868437227405311)))) := by
  go_enter Try.func43, Try.ntmps43
  go_wp2_with (first | (refine wpList_far rfl rfl (by first | exact .inl rfl | exact .inr (.inl rfl) | exact .inr (.inr (.inl rfl)) | exact .inr (.inr (.inr rfl))) rfl rfl (by first | assumption | exact isF_ofInt _ _ | exact IsF.lit (by decide +kernel)) (by first | assumption | exact isF_ofInt _ _ | exact IsF.lit (by decide +kernel)) ?_; intro r n hr) | (refine wpList_fcmp rfl rfl (by first | exact .inl rfl | exact .inr (.inl rfl) | exact .inr (.inr (.inl rfl)) | exact .inr (.inr (.inr (.inl rfl))) | exact .inr (.inr (.inr (.inr (.inl rfl)))) | exact .inr (.inr (.inr (.inr (.inr rfl))))) rfl rfl (by first | assumption | exact isF_ofInt _ _ | exact IsF.lit (by decide +kernel)) (by first | assumption | exact isF_ofInt _ _ | exact IsF.lit (by decide +kernel)) (by first | assumption | exact rfl) ?_) | (first | (refine wpList_fsame rfl rfl rfl (congrArg Option.isSome Try.underlying28) Try.underlying28 ?_) | (refine wpList_fsame rfl rfl rfl (congrArg Option.isSome Try.underlying27) Try.underlying27 ?_)) | (refine wpList_fwid rfl rfl rfl (congrArg Option.isSome Try.underlying28) Try.underlying27 (by assumption) ?_; intro r n hr) | (refine wpList_fnar rfl rfl rfl (congrArg Option.isSome Try.underlying27) Try.underlying28 (by assumption) (by assumption) ?_; intro r n hr) | (refine wpList_fneg rfl rfl rfl (by assumption) ?_; intro r hr))
  go_ret
  exact ret_mk0 rfl
theorem pos_facts {x : Nat} (h1 : 3936146074321813504 ≤ x) (h2 : x < 5188146770730811392) : Nrm x ∧ cmpF .lss .f64 (some x) (some 0) = false ∧ cmpF .eql .f64 (some x) (some 0) = false ∧ cmpF .gtr .f64 (some x) (some 9218868437227405311) = false ∧ cmpF .neq .f64 (some x) (some x) = false := by
  have hN : Nrm x := ⟨by rw [D_binade]; omega, by rw [D_inf]; omega⟩
  have a0 : (0 : Nat) < Ieee.Format.infRung D := by rw [D_inf]; decide
  have a1 : (9218868437227405311 : Nat) < Ieee.Format.infRung D := by rw [D_inf]; decide
  refine ⟨hN, ?_, ?_, ?_, neq_self (isF_nrm hN)⟩
  · rw [lt_pos hN.2 a0]; simp
  · unfold cmpF; simp only [ord_pos hN.2 a0]; rw [Int.compare_eq_gt.2 (by omega)]; rfl
  · unfold cmpF; simp only [ord_pos hN.2 a1]; rw [Int.compare_eq_lt.2 (by omega)]; rfl
end Go.Proofs.Ytaannebjpmdhjaa
