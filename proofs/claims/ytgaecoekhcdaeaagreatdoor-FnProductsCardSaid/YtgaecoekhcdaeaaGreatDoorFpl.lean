/-
  FnProducts: the program's products, powers and quotients of complex numbers with small whole parts.
-/
import Derived.Test.YtgaecoekhcdaeaaGreatDoorFpm
import Derived.Test.YtgaecoekhcdaeaaGreatDoorCxm
namespace Go.Proofs.YtgaecoekhcdaeaaGreatDoor
set_option linter.unusedVariables false
set_option linter.unusedSimpArgs false
set_option maxRecDepth 20000
open Go.RowKit Fl

/-- A float32 that is an integer. -/
def C32 (n : Int) (b : Nat) : Prop := ∃ u, IsF .f32 b u ∧ W32 n u
theorem c32_int {n : Int} (h : n.natAbs < 2 ^ 24) : C32 n (floatOfInt .f32 n) := ⟨_, isF_ofInt .f32 n, w32_int h⟩
theorem c32_zero : C32 0 0 := by
  have := c32_int (n := 0) (by decide)
  have e : floatOfInt .f32 0 = 0 := by decide +kernel
  rwa [e] at this
/-- The call returns a complex number with whole parts. -/
def RW (w : World) (x y : Int) (e : Ending) (w' : World) : Prop := ∃ r s n, e = .returned (.complex .f32 r s) ∧ C32 x r ∧ C32 y s ∧ w' = w.drewN n
section
variable {P : Program} {w : World} {ops : Array Oper} {rest : List Oper} {o : Oper} {a : Act} {Q : Exit → Act → World → Prop}
theorem c32_eql {x y : Int} {b c : Nat} {u v : Option Nat} (hb : IsF .f32 b u) (hc : IsF .f32 c v) (h1 : W32 x u) (h2 : W32 y v) : cmpF .eql .f32 u v = decide (x = y) := w32_eql h1 h2
/-- Two complex numbers with whole parts compared. -/
theorem wpList_cneqW (hg : Region.wanted o (yielded ops a.tmps) = true) {t t' : TypeId} {p q : Operand} (ho : o.op = .binOp .neq t p q t') {x1 y1 x2 y2 : Nat}
    (hx : a.eval p = .complex .f32 x1 y1) (hy : a.eval q = .complex .f32 x2 y2) {i1 j1 i2 j2 : Int} (f1 : C32 i1 x1) (f2 : C32 j1 y1) (f3 : C32 i2 x2) (f4 : C32 j2 y2) {b : Bool} (hb : (!(decide (i1 = i2) && decide (j1 = j2))) = b)
    (h : wpList P ops Q rest (a.put o.dst (.bool b)) w) : wpList P ops Q (o :: rest) a w := by
  obtain ⟨u1, a1, b1⟩ := f1
  obtain ⟨u2, a2, b2⟩ := f2
  obtain ⟨u3, a3, b3⟩ := f3
  obtain ⟨u4, a4, b4⟩ := f4
  refine wpList_cneq hg ho hx hy a1 a2 a3 a4 (b := b) ?_ h
  rw [w32_eql b1 b3, w32_eql b2 b4]
  exact hb
/-- Two floats that are whole compared. -/
theorem wpList_fneqW (hg : Region.wanted o (yielded ops a.tmps) = true) {t t' : TypeId} {p q : Operand} (ho : o.op = .binOp .neq t p q t') {x y : Nat}
    (hx : a.eval p = .float .f32 x) (hy : a.eval q = .float .f32 y) {i j : Int} (f1 : C32 i x) (f2 : C32 j y) {b : Bool} (hb : (!decide (i = j)) = b)
    (h : wpList P ops Q rest (a.put o.dst (.bool b)) w) : wpList P ops Q (o :: rest) a w := by
  obtain ⟨u1, a1, b1⟩ := f1
  obtain ⟨u2, a2, b2⟩ := f2
  refine wpList_fcmp hg ho (.inr (.inl rfl)) hx hy a1 a2 (b := b) ?_ h
  have := w32_eql b1 b2
  have e : cmpF .neq .f32 u1 u2 = !cmpF .eql .f32 u1 u2 := by
    unfold cmpF
    cases ord .f32 u1 u2 with
    | none => rfl
    | some z => cases z <;> rfl
  rw [e, this]
  exact hb
/-- A complex number added to itself. -/
theorem wpList_caddW (hg : Region.wanted o (yielded ops a.tmps) = true) {t t' : TypeId} {p q : Operand} (ho : o.op = .binOp .add t p q t') {i j : Int}
    (hx : a.eval p = .complex .f32 (floatOfInt .f32 i) (floatOfInt .f32 j)) (hy : a.eval q = .complex .f32 (floatOfInt .f32 i) (floatOfInt .f32 j)) (hi0 : -200 ≤ i) (hi1 : i ≤ 200) (hj0 : -200 ≤ j) (hj1 : j ≤ 200)
    (h : ∀ r s n, C32 (2 * i) r → C32 (2 * j) s → wpList P ops Q rest (a.put o.dst (.complex .f32 r s)) (w.drewN n)) : wpList P ops Q (o :: rest) a w := by
  have f1 := isF_ofInt .f32 i
  have f2 := isF_ofInt .f32 j
  obtain ⟨r, n, hr, hf⟩ := run_ar (P := P) w (op := .add) (.inl rfl) .f32 f1 f1
  obtain ⟨s, m, hs, hf2⟩ := run_ar (P := P) (w.drewN n) (op := .add) (.inl rfl) .f32 f2 f2
  refine wpList_val hg (v := .complex .f32 r s) (n := n + m) ?_ (h r s (n + m) ⟨_, hf, (w32_two hi0 hi1).2⟩ ⟨_, hf2, (w32_two hj0 hj1).2⟩)
  have hr2 : (Op.Complex.arith .add .f32 (floatOfInt .f32 i) (floatOfInt .f32 i)).run P w = .ok r (w.drewN n) := by
    simp only [Op.Complex.arith, Sem.run_bind, hr, Result.andThen_ok]
    rfl
  have hs2 : (Op.Complex.arith .add .f32 (floatOfInt .f32 j) (floatOfInt .f32 j)).run P (w.drewN n) = .ok s ((w.drewN n).drewN m) := by
    simp only [Op.Complex.arith, Sem.run_bind, hs, Result.andThen_ok]
    rfl
  have hq : (eqGuard .add t p q (.complex .f32 (floatOfInt .f32 i) (floatOfInt .f32 j)) (.complex .f32 (floatOfInt .f32 i) (floatOfInt .f32 j))).run P w = .ok () w := by simp [eqGuard]
  have hb : (binOp .add t (.complex .f32 (floatOfInt .f32 i) (floatOfInt .f32 j)) (.complex .f32 (floatOfInt .f32 i) (floatOfInt .f32 j))).run P w = .ok (.complex .f32 r s) (w.drewN (n + m)) := by
    simp only [binOp, Op.complexOp, ne_eq, not_true_eq_false, if_false, Sem.run_bind, hr2, Result.andThen_ok, hs2, Sem.run_pure]
    exact congrArg _ (World.drewN_drewN _ _ _)
  simp only [execOp, ho, hx, hy, Sem.run_bind, hq, Result.andThen_ok, hb, Sem.run_pure]
theorem wpList_toInt (hg : Region.wanted o (yielded ops a.tmps) = true) {src dst : TypeId} {z : Operand} (ho : o.op = .convert src dst z) {j : Int} (hx : a.eval z = .float .f32 (floatOfInt .f32 j))
    (hs : (P.underlying src).isSome = true) (hd : P.underlying dst = some (.int .i64)) (h0 : -200 ≤ j) (h1 : j ≤ 200)
    (h : wpList P ops Q rest (a.put o.dst (.int .i64 j)) w) : wpList P ops Q (o :: rest) a w := by
  refine wpList_val hg (v := .int .i64 j) (n := 0) ?_ h
  simp only [execOp, ho, hx, Sem.run_bind, run_int hs hd h0 h1 w, Result.andThen_ok, Sem.run_pure]
  rfl
end
theorem absB {x : Int} {N : Nat} (h0 : -(N : Int) ≤ x) (h1 : x ≤ N) : x.natAbs ≤ N := by omega
theorem prodB {i k : Int} (h0 : -200 ≤ i) (h1 : i ≤ 200) (h2 : -200 ≤ k) (h3 : k ≤ 200) : -40000 ≤ i * k ∧ i * k ≤ 40000 := by
  have := mulB (a := i) (b := k) (A := 200) (B := 200) (by omega) (by omega)
  omega
theorem mulW_any (a b c d : Nat) {i j k l : Int} (ha : C32 i a) (hb : C32 j b) (hc : C32 k c) (hd : C32 l d) (hi : i.natAbs ≤ 200) (hj : j.natAbs ≤ 200) (hk : k.natAbs ≤ 200) (hl : l.natAbs ≤ 200) (w : World) :
    Calls Tryz.prog 7 #[.complex .f32 a b, .complex .f32 c d] w (RW w (i * k - j * l) (i * l + j * k)) := by
  obtain ⟨u1, a1, b1⟩ := ha
  obtain ⟨v1, a2, b2⟩ := hb
  obtain ⟨u2, a3, b3⟩ := hc
  obtain ⟨v2, a4, b4⟩ := hd
  have e1 := mulB hi hk
  have e2 := mulB hj hl
  have e3 := mulB hi hl
  have e4 := mulB hj hk
  have h1 := w_nar (tRe_w b1 b2 b3 b4 (by omega) (by omega) (by omega) (by omega)) (by omega)
  have h2 := w_nar (tIm_w b1 b2 b3 b4 (by omega) (by omega) (by omega) (by omega)) (by omega)
  refine (mulC_any a b c d u1 v1 u2 v2 a1 a2 a3 a4 h1.1 h2.1 w).mono ?_
  rintro e w' ⟨r, s, n, rfl, hr, hs, rfl⟩
  exact ⟨r, s, n, rfl, ⟨_, hr, h1.2⟩, ⟨_, hs, h2.2⟩, rfl⟩
theorem powerW_any (a b : Nat) {i j : Int} (ha : C32 i a) (hb : C32 j b) (hi : i.natAbs ≤ 200) (hj : j.natAbs ≤ 200) (w : World) :
    Calls Tryz.prog 8 #[.complex .f32 a b] w fun e w' => ∃ r n, e = .returned (.float .f32 r) ∧ C32 (i * i + j * j) r ∧ w' = w.drewN n := by
  obtain ⟨u1, a1, b1⟩ := ha
  obtain ⟨v1, a2, b2⟩ := hb
  have e1 := mulB hi hi
  have e2 := mulB hj hj
  have h1 := w_nar (pW_w b1 b2 (by omega) (by omega)) (by omega)
  refine (powerOf_any a b u1 v1 a1 a2 h1.1 w).mono ?_
  rintro e w' ⟨r, n, rfl, hr, rfl⟩
  exact ⟨r, n, rfl, ⟨_, hr, h1.2⟩, rfl⟩
theorem conjW_any {i j : Int} (hi0 : -200 ≤ i) (hi1 : i ≤ 200) (hj0 : -200 ≤ j) (hj1 : j ≤ 200) (w : World) :
    Calls Tryz.prog 9 #[.complex .f32 (floatOfInt .f32 i) (floatOfInt .f32 j)] w (RW w i (-j)) := by
  refine (conj_any _ _ _ _ (isF_ofInt .f32 i) (isF_ofInt .f32 j) w).mono ?_
  rintro e w' ⟨r, s, n, rfl, hr, hs, rfl⟩
  exact ⟨r, s, n, rfl, ⟨_, hr, w32_int (by omega)⟩, ⟨_, hs, w32_neg hj0 hj1⟩, rfl⟩
theorem scaleW_any {i j : Int} (hi0 : -200 ≤ i) (hi1 : i ≤ 200) (hj0 : -200 ≤ j) (hj1 : j ≤ 200) (w : World) :
    Calls Tryz.prog 14 #[.complex .f32 (floatOfInt .f32 i) (floatOfInt .f32 j), .float .f32 1073741824] w (RW w (2 * i) (2 * j)) := by
  refine (scale_any _ _ 1073741824 _ _ (some 1073741824) (isF_ofInt .f32 i) (isF_ofInt .f32 j) (IsF.lit (by decide +kernel)) w).mono ?_
  rintro e w' ⟨r, s, n, rfl, hr, hs, rfl⟩
  exact ⟨r, s, n, rfl, ⟨_, hr, (w32_two hi0 hi1).1⟩, ⟨_, hs, (w32_two hj0 hj1).1⟩, rfl⟩
theorem longW_any {i j : Int} (hi0 : -200 ≤ i) (hi1 : i ≤ 200) (hj0 : -200 ≤ j) (hj1 : j ≤ 200) : ∃ v, (∀ w, Calls Tryz.prog 11 #[.complex .f32 (floatOfInt .f32 i) (floatOfInt .f32 j)] w (RetF w .f32 v)) ∧ ∀ w, Calls Tryz.prog 12 #[.float .f32 (floatOfInt .f32 (i * i + j * j))] w (RetF w .f32 v) := by
  have e := long_root hi0 hi1 hj0 hj1
  obtain ⟨r0, n0, _, hr0⟩ := run_wid (P := Tryz.prog) (default : World) (isF_ofInt .f32 (i * i + j * j))
  have hn := narOk_sqrt (isF_ofInt .f32 (i * i + j * j)) hr0
  refine ⟨nar (sqrt (wid (ofInt .f32 (i * i + j * j)))), fun w => ?_, fun w => sRootNumber_any _ _ (isF_ofInt .f32 _) w⟩
  rw [← e] at hn ⊢
  exact longOf_any _ _ _ _ (isF_ofInt .f32 i) (isF_ofInt .f32 j) hn w
theorem quot_re (i j k l : Int) : (i * k - j * l) * k - (i * l + j * k) * (-l) = i * (k * k + l * l) := by grind
theorem quot_im (i j k l : Int) : (i * k - j * l) * (-l) + (i * l + j * k) * k = j * (k * k + l * l) := by grind
theorem quotW_any (r s : Nat) {i j k l : Int} (hr : C32 (i * k - j * l) r) (hs : C32 (i * l + j * k) s) (hi0 : -200 ≤ i) (hi1 : i ≤ 200) (hj0 : -200 ≤ j) (hj1 : j ≤ 200) (hk0 : -200 ≤ k) (hk1 : k ≤ 200) (hl0 : -200 ≤ l) (hl1 : l ≤ 200) (hn : ¬ (k = 0 ∧ l = 0)) (w : World) :
    Calls Tryz.prog 13 #[.complex .f32 r s, .complex .f32 (floatOfInt .f32 k) (floatOfInt .f32 l)] w (RW w i j) := by
  obtain ⟨u1, a1, b1⟩ := hr
  obtain ⟨v1, a2, b2⟩ := hs
  have b3 : W32 k (ofInt .f32 k) := w32_int (by omega)
  have b4 : W32 (-l) (neg .f32 (ofInt .f32 l)) := w32_neg hl0 hl1
  have b5 : W32 l (ofInt .f32 l) := w32_int (by omega)
  have e1 := prodB hi0 hi1 hk0 hk1
  have e2 := prodB hj0 hj1 hl0 hl1
  have e3 := prodB hi0 hi1 hl0 hl1
  have e4 := prodB hj0 hj1 hk0 hk1
  have h1 := tRe_w b1 b2 b3 b4 (by omega) (by omega) (by omega) (by omega)
  have h2 := tIm_w b1 b2 b3 b4 (by omega) (by omega) (by omega) (by omega)
  have h3 := pW_w b3 b5 (by omega) (by omega)
  rw [quot_re] at h1
  rw [quot_im] at h2
  have hp : k * k + l * l ≠ 0 := by
    intro h
    have a1 := Int.natAbs_mul_self (a := k)
    have a2 := Int.natAbs_mul_self (a := l)
    have c1 : k.natAbs * k.natAbs = 0 := by omega
    have c2 : l.natAbs * l.natAbs = 0 := by omega
    have d1 : k.natAbs = 0 := by rcases Nat.mul_eq_zero.1 c1 with h | h <;> exact h
    have d2 : l.natAbs = 0 := by rcases Nat.mul_eq_zero.1 c2 with h | h <;> exact h
    exact hn ⟨by omega, by omega⟩
  have q1 := w_nar (w_quo h1 h3 hp (by omega)) (by omega)
  have q2 := w_nar (w_quo h2 h3 hp (by omega)) (by omega)
  refine (quot_any r s _ _ u1 v1 _ _ a1 a2 (isF_ofInt .f32 k) (isF_ofInt .f32 l) q1.1 q2.1 w).mono ?_
  rintro e w' ⟨x, y, n, rfl, hx, hy, rfl⟩
  exact ⟨x, y, n, rfl, ⟨_, hx, q1.2⟩, ⟨_, hy, q2.2⟩, rfl⟩
end Go.Proofs.YtgaecoekhcdaeaaGreatDoor
