/-
  Contracts: the sine of turns at both sides.
-/
import Derived.Test.YtaannebjpmdhjaaLogn
import Derived.Test.YtaannebjpmdhjaaTrigp
namespace Go.Proofs.Ytaannebjpmdhjaa
set_option linter.unusedVariables false
set_option linter.unusedSimpArgs false
set_option maxRecDepth 20000
open Go.RowKit Fl

theorem p2_lt' {a b : Nat} (h : a < b) : p2 a < 2 ^ b := by rw [p2_eq]; exact Nat.pow_lt_pow_right (by decide) h
/-- A finite float64 of an absolute value below 2^52. -/
def Small (b : Nat) : Prop := Fl.Fin D b ∧ U D (rg D b) < U D 4841369599423283200
theorem small_lt {b : Nat} (h : Small b) : U D (rg D b) < 2 ^ (1074 + 53) := by
  refine Nat.lt_trans h.2 ?_
  obtain ⟨c, hc⟩ : ∃ c : Nat, c = 1074 + 53 := ⟨_, rfl⟩
  rw [← hc]
  have h1 : U D 4841369599423283200 = p2 1126 := by decide +kernel
  rw [h1]
  exact p2_lt' (by omega)
/-- The whole part of a small number as an int64. -/
theorem tz_small {b : Nat} (h : Small b) : (tz b).natAbs ≤ 4503599627370496 := by
  obtain ⟨e, he⟩ : ∃ e : Nat, e = 52 := ⟨_, rfl⟩
  have h2 : U D (rg D b) ≤ 2 ^ (1074 + e) := by
    refine Nat.le_trans (Nat.le_of_lt h.2) ?_
    have h1 : U D 4841369599423283200 = p2 1126 := by decide +kernel
    rw [h1]
    exact le_p2 (by omega)
  have := tz_bd h.1 h2
  rw [he] at this
  exact this

theorem run_toInt {P : Program} (w : World) (src dst : TypeId) {b : Nat} {n : Int} (hs : (P.underlying src).isSome = true) (hd : P.underlying dst = some (.int .i64)) (h : (D.read b).toInt .zero = some n) (h1 : -9223372036854775808 ≤ n) (h2 : n ≤ 9223372036854775807) :
    (convert src dst (.float .f64 b)).run P w = .ok (.int .i64 n) w := by
  obtain ⟨u, hs'⟩ := Option.isSome_iff_exists.1 hs
  have e : (Conv.floatToInt .f64 b .i64).run P w = .ok (.int .i64 n) w := by
    have h' : (FloatKind.decode .f64 b).toInt .zero = some n := h
    simp only [Conv.floatToInt, h']
    have m1 : IntKind.i64.min = -9223372036854775808 := by decide
    have m2 : IntKind.i64.max = 9223372036854775807 := by decide
    rw [if_pos ⟨by rw [m1]; exact h1, by rw [m2]; exact h2⟩]
    rfl
  cases u <;> simp [convert, run_underlying hs', run_underlying hd, e]
theorem wpList_toInt {P : Program} {w : World} {ops : Array Oper} {rest : List Oper} {o : Oper} {a : Act} {Q : Exit → Act → World → Prop}
    (hg : Region.wanted o (yielded ops a.tmps) = true) {src dst : TypeId} {x : Operand} (ho : o.op = .convert src dst x) {b : Nat} (hx : a.eval x = .float .f64 b)
    (hs : (P.underlying src).isSome = true) (hd : P.underlying dst = some (.int .i64)) {n : Int} (h : (D.read b).toInt .zero = some n) (h1 : -9223372036854775808 ≤ n) (h2 : n ≤ 9223372036854775807)
    (hk : wpList P ops Q rest (a.put o.dst (.int .i64 n)) w) : wpList P ops Q (o :: rest) a w := by
  refine wpList_val hg (v := .int .i64 n) (n := 0) ?_ hk
  simp only [execOp, ho, hx, Sem.run_bind, run_toInt w src dst hs hd h h1 h2, Result.andThen_ok, Sem.run_pure]
  rfl

def truncD (b : Nat) : Nat := D.write ((D.read b).integral .zero)
theorem ext_trunc {b : Nat} (h : Fl.Fin D b) (w : World) : (callFunc 37 #[.float .f64 b]).run Try.prog w = .ok (.value (.float .f64 (truncD b))) w := by
  obtain ⟨m, k, hr, _⟩ := read_fin h
  have hr' : FloatKind.decode .f64 b = .number (sg D b) m (D.leastPlace + k) := hr
  rw [run_callFunc_extern (fn := Try.f37) (e := Extern.MathFloor.toIntegral "math.archTrunc" .zero) Try.func37 (by kernel_rfl) (by kernel_rfl) (by kernel_rfl) (by kernel_rfl)]
  have e : (Extern.MathFloor.toIntegral "math.archTrunc" .zero #[.float .f64 b]).run Try.prog w = .ok (.float .f64 (truncD b)) w := by
    show Sem.run Try.prog (match FloatKind.decode .f64 b with
      | .nan s t => _
      | d => (pure (Value.float .f64 (FloatKind.encode .f64 (d.integral .zero))) : Sem Value)) w = _
    rw [hr']
    unfold truncD
    rw [hr]
    rfl
  rw [e]
  rfl
theorem trunc_any (b : Nat) (h : Fl.Fin D b) (w : World) : Calls Try.prog 27 #[.float .f64 b] w fun e w' => e = .returned (.float .f64 (truncD b)) ∧ w' = w := by
  have hy := ext_trunc h
  go_enter Try.func27, Try.ntmps27
  go_wp2_with fail
  go_ret
  exact ⟨rfl, rfl⟩
theorem isF_trunc {b : Nat} (h : Fl.Fin D b) : IsF .f64 (truncD b) (some (truncD b)) := by
  obtain ⟨m, k, hr, _⟩ := read_fin h
  unfold truncD
  rw [hr]
  exact isF_write .f64 _ rfl
theorem whole_cases {b : Nat} (h : Small b) : (cmpF .eql .f64 (some (truncD b)) (some 0) = true ∧ wholeV (some b) = some 0) ∨ (cmpF .eql .f64 (some (truncD b)) (some 0) = false ∧ wholeV (some b) = some (truncD b)) := by
  have := trunc_whole h.1 (small_lt h)
  change (if cmpF .eql .f64 (some (truncD b)) (some 0) = true then some 0 else some (truncD b)) = wholeV (some b) at this
  cases hc : cmpF .eql .f64 (some (truncD b)) (some 0)
  · rw [hc] at this; exact .inr ⟨rfl, this.symm⟩
  · rw [hc] at this; exact .inl ⟨rfl, this.symm⟩
set_option maxHeartbeats 1000000 in
theorem partOfTurn_any (b : Nat) (h : Small b) (hb : IsF .f64 b (some b)) (w : World) : Calls Try.prog 16 #[.float .f64 b] w (RetF w .f64 (frac (some b))) := by
  have hz := isF_zeroD
  have ht := isF_trunc h.1
  rcases whole_cases h with ⟨c1, c2⟩ | ⟨c1, c2⟩
  all_goals
    have Hf := Lib.hid (show frac1 (some b) = ar .sub .f64 (some b) (wholeV (some b)) from rfl)
    rw [c2] at Hf
    cases c3 : cmpF .lss .f64 (frac1 (some b)) (some 0)
  all_goals
    rw [Hf.out] at c3
    have Hv := Lib.hid (show frac (some b) = if cmpF .lss .f64 (frac1 (some b)) (some 0) then ar .add .f64 (frac1 (some b)) (some 4607182418800017408) else frac1 (some b) from rfl)
    rw [Hf.out] at Hv
    rw [c3] at Hv
    clear c2 Hf
    go_enter Try.func16, Try.ntmps16
    go_wp2_with (first | (refine wpList_far rfl rfl (by first | exact .inl rfl | exact .inr (.inl rfl) | exact .inr (.inr (.inl rfl)) | exact .inr (.inr (.inr rfl))) rfl rfl (by first | assumption | exact isF_ofInt _ _ | exact IsF.lit (by decide +kernel)) (by first | assumption | exact isF_ofInt _ _ | exact IsF.lit (by decide +kernel)) ?_; intro r n hr) | (refine wpList_fcmp rfl rfl (by first | exact .inl rfl | exact .inr (.inl rfl) | exact .inr (.inr (.inl rfl)) | exact .inr (.inr (.inr (.inl rfl))) | exact .inr (.inr (.inr (.inr (.inl rfl)))) | exact .inr (.inr (.inr (.inr (.inr rfl))))) rfl rfl (by first | assumption | exact isF_ofInt _ _ | exact IsF.lit (by decide +kernel)) (by first | assumption | exact isF_ofInt _ _ | exact IsF.lit (by decide +kernel)) (by first | assumption | exact rfl) ?_) | (first | (refine wpList_fsame rfl rfl rfl (congrArg Option.isSome Try.underlying28) Try.underlying28 ?_) | (refine wpList_fsame rfl rfl rfl (congrArg Option.isSome Try.underlying27) Try.underlying27 ?_)) | (refine wpList_fwid rfl rfl rfl (congrArg Option.isSome Try.underlying28) Try.underlying27 (by assumption) ?_; intro r n hr) | (refine wpList_fnar rfl rfl rfl (congrArg Option.isSome Try.underlying27) Try.underlying28 (by assumption) (by assumption) ?_; intro r n hr) | (refine wpList_fneg rfl rfl rfl (by assumption) ?_; intro r hr) | (go_at_call 27; refine (trunc_any _ h.1 _).mono ?_; rintro e w' ⟨rfl, rfl⟩))
    go_ret
    exact ⟨_, _, rfl, by rw [Hv.out]; assumption, rfl⟩
def kS (j : Nat) : Option Nat := ofInt .f64 (8 - j)
theorem kS_ge : ∀ j : Nat, j ≤ 8 → cmpF .geq .f64 (kS j) (some 4607182418800017408) = decide (j < 8) := by decide +kernel
theorem kS_sub : ∀ j : Nat, j < 8 → ar .sub .f64 (kS j) (some 4607182418800017408) = kS (j + 1) := by decide +kernel
theorem kS_down : ∀ j : Nat, j < 8 → posN (.float .f64 (floatOfInt .f64 (8 - ((j + 1 : Nat) : Int)))) < posN (.float .f64 (floatOfInt .f64 (8 - (j : Int)))) := by decide +kernel
theorem kS_zero : IsF .f64 4620693217682128896 (kS 0) := by
  have e : kS 0 = some 4620693217682128896 := by decide +kernel
  rw [e]
  exact IsF.lit (by decide +kernel)
set_option maxHeartbeats 4000000 in
theorem sine_any (b : Nat) (h : Small b) (hb : IsF .f64 b (some b)) (w : World) : Calls Try.prog 17 #[.float .f64 b] w (RetF w .f64 (sinV (some b))) := by
  have ho := isF_oneD
  have hk0 := kS_zero
  have Hv := Lib.hid (show sinV (some b) = sinF (frac (some b)) from rfl)
  rw [Hv.out]
  generalize hv : frac (some b) = v
  have Hfr := Lib.hid hv
  clear hv
  cases c1 : cmpF .geq .f64 v (some 4602678819172646912)
  all_goals
    have Hs1 := Lib.hid (show sin1 v = if cmpF .geq .f64 v (some 4602678819172646912) then ar .sub .f64 v (some 4602678819172646912) else v from rfl)
    rw [c1] at Hs1
    cases c2 : cmpF .gtr .f64 (sin1 v) (some 4598175219545276416)
  all_goals
    rw [Hs1.out] at c2
    have Hs2 := Lib.hid (show sin2 v = if cmpF .gtr .f64 (sin1 v) (some 4598175219545276416) then ar .sub .f64 (some 4602678819172646912) (sin1 v) else sin1 v from rfl)
    rw [Hs1.out] at Hs2
    rw [c2] at Hs2
    have Hs3 := Lib.hid (show sin3 v = ar .mul .f64 (sin2 v) (some 4618760256179416344) from rfl)
    rw [Hs2.out] at Hs3
    have Hs5 := Lib.hid (show sinF v = if cmpF .geq .f64 v (some 4602678819172646912) then neg .f64 (sin4 v) else sin4 v from rfl)
    rw [c1] at Hs5
    clear Hs1 Hs2
    go_enter Try.func17, Try.ntmps17
    go_wp2_with (first | (refine wpList_far rfl rfl (by first | exact .inl rfl | exact .inr (.inl rfl) | exact .inr (.inr (.inl rfl)) | exact .inr (.inr (.inr rfl))) rfl rfl (by first | assumption | exact isF_ofInt _ _ | exact IsF.lit (by decide +kernel)) (by first | assumption | exact isF_ofInt _ _ | exact IsF.lit (by decide +kernel)) ?_; intro r n hr) | (refine wpList_fcmp rfl rfl (by first | exact .inl rfl | exact .inr (.inl rfl) | exact .inr (.inr (.inl rfl)) | exact .inr (.inr (.inr (.inl rfl))) | exact .inr (.inr (.inr (.inr (.inl rfl)))) | exact .inr (.inr (.inr (.inr (.inr rfl))))) rfl rfl (by first | assumption | exact isF_ofInt _ _ | exact IsF.lit (by decide +kernel)) (by first | assumption | exact isF_ofInt _ _ | exact IsF.lit (by decide +kernel)) (by first | assumption | exact rfl) ?_) | (first | (refine wpList_fsame rfl rfl rfl (congrArg Option.isSome Try.underlying28) Try.underlying28 ?_) | (refine wpList_fsame rfl rfl rfl (congrArg Option.isSome Try.underlying27) Try.underlying27 ?_)) | (refine wpList_fwid rfl rfl rfl (congrArg Option.isSome Try.underlying28) Try.underlying27 (by assumption) ?_; intro r n hr) | (refine wpList_fnar rfl rfl rfl (congrArg Option.isSome Try.underlying27) Try.underlying28 (by assumption) (by assumption) ?_; intro r n hr) | (refine wpList_fneg rfl rfl rfl (by assumption) ?_; intro r hr) | (go_at_call 16; refine (partOfTurn_any _ h hb _).mono ?_; rintro e w' ⟨r, n, rfl, hr, rfl⟩; rw [Hfr.out] at hr))
    go_simp
    go_loopw [7, 8] (fun q k wr => ∃ (j rq rk m : Nat), j ≤ 8 ∧ q = .float .f64 rq ∧ k = .float .f64 rk ∧ wr = w.drewN m ∧ IsF .f64 rq (sinP (ar .mul .f64 (sin3 v) (sin3 v)) j) ∧ IsF .f64 rk (kS j)) (fun _ k _ => posN k)
    case atStart => exact ⟨0, _, _, _, by omega, rfl, rfl, rfl, ho, hk0⟩
    case round =>
      obtain ⟨j, rq, rk, m, hj, rfl, rfl, rfl, hq, hk⟩ := hrel
      by_cases hlt : j < 8
      · have ht : cmpF .geq .f64 (kS j) (some 4607182418800017408) = true := by rw [kS_ge j hj]; simpa using hlt
        have Hs := Lib.hid (kS_sub j hlt)
        have Hk := Lib.hid (show sinP (ar .mul .f64 (sin3 v) (sin3 v)) (j + 1) = ar .sub .f64 (some 4607182418800017408) (ar .quo .f64 (ar .mul .f64 (ar .mul .f64 (sin3 v) (sin3 v)) (sinP (ar .mul .f64 (sin3 v) (sin3 v)) j)) (ofInt .f64 (2 * (8 - j) * (2 * (8 - j) + 1)))) from rfl)
        rw [← k_prod j hlt] at Hk
        rw [Hs3.out] at Hk
        rw [Hs3.out] at hq
        go_wp2_with (first | (refine wpList_far rfl rfl (by first | exact .inl rfl | exact .inr (.inl rfl) | exact .inr (.inr (.inl rfl)) | exact .inr (.inr (.inr rfl))) rfl rfl (by first | assumption | exact isF_ofInt _ _ | exact IsF.lit (by decide +kernel)) (by first | assumption | exact isF_ofInt _ _ | exact IsF.lit (by decide +kernel)) ?_; intro r n hr) | (refine wpList_fcmp rfl rfl (by first | exact .inl rfl | exact .inr (.inl rfl) | exact .inr (.inr (.inl rfl)) | exact .inr (.inr (.inr (.inl rfl))) | exact .inr (.inr (.inr (.inr (.inl rfl)))) | exact .inr (.inr (.inr (.inr (.inr rfl))))) rfl rfl (by first | assumption | exact isF_ofInt _ _ | exact IsF.lit (by decide +kernel)) (by first | assumption | exact isF_ofInt _ _ | exact IsF.lit (by decide +kernel)) (by first | assumption | exact rfl) ?_) | (first | (refine wpList_fsame rfl rfl rfl (congrArg Option.isSome Try.underlying28) Try.underlying28 ?_) | (refine wpList_fsame rfl rfl rfl (congrArg Option.isSome Try.underlying27) Try.underlying27 ?_)) | (refine wpList_fwid rfl rfl rfl (congrArg Option.isSome Try.underlying28) Try.underlying27 (by assumption) ?_; intro r n hr) | (refine wpList_fnar rfl rfl rfl (congrArg Option.isSome Try.underlying27) Try.underlying28 (by assumption) (by assumption) ?_; intro r n hr) | (refine wpList_fneg rfl rfl rfl (by assumption) ?_; intro r hr))
        all_goals
          go_roundw
          case rel =>
            exact ⟨j + 1, _, _, _, by omega, rfl, rfl, rfl, by rw [Hs3.out, Hk.out]; assumption, by rw [← Hs.out]; assumption⟩
          case measure =>
            have e1 := isF_eq (by assumption) Hs.out
            have e2 := isF_eq hk rfl
            have e3 := kS_down j hlt
            rw [← e1, ← e2] at e3
            exact e3
      · have ht : cmpF .geq .f64 (kS j) (some 4607182418800017408) = false := by rw [kS_ge j hj]; simpa using hlt
        obtain rfl : j = 8 := by omega
        have H4 := Lib.hid (show sin4 v = ar .mul .f64 (sin3 v) (sinP (ar .mul .f64 (sin3 v) (sin3 v)) 8) from rfl)
        rw [Hs3.out] at H4
        rw [Hs3.out] at hq
        go_wp2_with (first | (refine wpList_far rfl rfl (by first | exact .inl rfl | exact .inr (.inl rfl) | exact .inr (.inr (.inl rfl)) | exact .inr (.inr (.inr rfl))) rfl rfl (by first | assumption | exact isF_ofInt _ _ | exact IsF.lit (by decide +kernel)) (by first | assumption | exact isF_ofInt _ _ | exact IsF.lit (by decide +kernel)) ?_; intro r n hr) | (refine wpList_fcmp rfl rfl (by first | exact .inl rfl | exact .inr (.inl rfl) | exact .inr (.inr (.inl rfl)) | exact .inr (.inr (.inr (.inl rfl))) | exact .inr (.inr (.inr (.inr (.inl rfl)))) | exact .inr (.inr (.inr (.inr (.inr rfl))))) rfl rfl (by first | assumption | exact isF_ofInt _ _ | exact IsF.lit (by decide +kernel)) (by first | assumption | exact isF_ofInt _ _ | exact IsF.lit (by decide +kernel)) (by first | assumption | exact rfl) ?_) | (first | (refine wpList_fsame rfl rfl rfl (congrArg Option.isSome Try.underlying28) Try.underlying28 ?_) | (refine wpList_fsame rfl rfl rfl (congrArg Option.isSome Try.underlying27) Try.underlying27 ?_)) | (refine wpList_fwid rfl rfl rfl (congrArg Option.isSome Try.underlying28) Try.underlying27 (by assumption) ?_; intro r n hr) | (refine wpList_fnar rfl rfl rfl (congrArg Option.isSome Try.underlying27) Try.underlying28 (by assumption) (by assumption) ?_; intro r n hr) | (refine wpList_fneg rfl rfl rfl (by assumption) ?_; intro r hr))
        go_ret
        exact ⟨_, _, rfl, by rw [Hs5.out, H4.out]; assumption, rfl⟩
end Go.Proofs.Ytaannebjpmdhjaa
