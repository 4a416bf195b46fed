/-
  Complex numbers: widened, narrowed, compared.
-/
import Derived.Test.YtaannebjpmdhjaaMore
namespace Go.Proofs.Ytaannebjpmdhjaa
set_option linter.unusedVariables false
set_option linter.unusedSimpArgs false
set_option maxRecDepth 20000
open Go.RowKit Fl

section
variable {P : Program} {w : World} {ops : Array Oper} {rest : List Oper} {o : Oper} {a : Act} {Q : Exit → Act → World → Prop}
theorem run_cwid {x y : Nat} {u v : Option Nat} (hx : IsF .f32 x u) (hy : IsF .f32 y v) : ∃ r s n, (Conv.complexToComplex .f32 x y .f64).run P w = .ok (.complex .f64 r s) (w.drewN n) ∧ IsF .f64 r (wid u) ∧ IsF .f64 s (wid v) := by
  obtain ⟨r, n, h1, h2⟩ := run_wid (P := P) w hx
  obtain ⟨s, m, h3, h4⟩ := run_wid (P := P) (w.drewN n) hy
  refine ⟨r, s, n + m, ?_, h2, h4⟩
  simp only [Conv.complexToComplex, Sem.run_bind, h1, Result.andThen_ok, h3, Sem.run_pure]
  exact congrArg _ (World.drewN_drewN _ _ _)
theorem run_convert_cc (src dst : TypeId) (x y : Nat) (hs : (P.underlying src).isSome = true) (hd : P.underlying dst = some (.complex .f64)) :
    (convert src dst (.complex .f32 x y)).run P w = (Conv.complexToComplex .f32 x y .f64).run P w := by
  obtain ⟨u, hs'⟩ := Option.isSome_iff_exists.1 hs
  cases u <;> simp [convert, run_underlying hs', run_underlying hd]
theorem wpList_cwid (hg : Region.wanted o (yielded ops a.tmps) = true) {src dst : TypeId} {z : Operand} (ho : o.op = .convert src dst z) {x y : Nat} (hx : a.eval z = .complex .f32 x y)
    (hs : (P.underlying src).isSome = true) (hd : P.underlying dst = some (.complex .f64)) {u v : Option Nat} (fx : IsF .f32 x u) (fy : IsF .f32 y v)
    (h : ∀ r s n, IsF .f64 r (wid u) → IsF .f64 s (wid v) → wpList P ops Q rest (a.put o.dst (.complex .f64 r s)) (w.drewN n)) : wpList P ops Q (o :: rest) a w := by
  obtain ⟨r, s, n, hr, h1, h2⟩ := run_cwid (P := P) (w := w) fx fy
  refine wpList_val hg (v := .complex .f64 r s) (n := n) ?_ (h r s n h1 h2)
  simp only [execOp, ho, hx, Sem.run_bind, run_convert_cc src dst x y hs hd, hr, Result.andThen_ok, Sem.run_pure]
end
section
variable {P : Program}
/-- Widening as an equation for every world. -/
theorem cwid_fn {src dst : TypeId} (hs : (P.underlying src).isSome = true) (hd : P.underlying dst = some (.complex .f64)) {x y : Nat} {u v : Option Nat} (hx : IsF .f32 x u) (hy : IsF .f32 y v) :
    ∃ c d n : World → Nat, (∀ w, (convert src dst (.complex .f32 x y)).run P w = .ok (.complex .f64 (c w) (d w)) (w.drewN (n w))) ∧ (∀ w, IsF .f64 (c w) (wid u)) ∧ ∀ w, IsF .f64 (d w) (wid v) := by
  have h1 : ∀ w : World, ∃ x' : Nat × Nat × Nat, (convert src dst (.complex .f32 x y)).run P w = .ok (.complex .f64 x'.1 x'.2.1) (w.drewN x'.2.2) ∧ IsF .f64 x'.1 (wid u) ∧ IsF .f64 x'.2.1 (wid v) := fun w => by
    obtain ⟨r, s, n, h2, h3, h4⟩ := run_cwid (P := P) (w := w) hx hy
    exact ⟨(r, s, n), by rw [run_convert_cc (w := w) src dst x y hs hd]; exact h2, h3, h4⟩
  obtain ⟨f, hf⟩ := Classical.axiomOfChoice h1
  exact ⟨fun w => (f w).1, fun w => (f w).2.1, fun w => (f w).2.2, fun w => (hf w).1, fun w => (hf w).2.1, fun w => (hf w).2.2⟩
/-- c is b as a float32, and is no infinity. -/
def narB (b c : Nat) : Bool := match FloatKind.decode .f64 b with
  | .number s m e => decide (FloatKind.encode .f32 (.number s m e) = c) && !(FloatKind.decode .f32 c).isInfinity
  | _ => false
theorem run_narB {b c : Nat} (h : narB b c = true) (w : World) : (Conv.floatToFloat .f64 b .f32).run P w = .ok (.float .f32 c) w := by
  unfold narB at h
  split at h
  · rename_i s m e hr
    simp only [Bool.and_eq_true, decide_eq_true_eq, Bool.not_eq_true'] at h
    obtain ⟨rfl, h2⟩ := h
    simp only [Conv.floatToFloat, hr, reduceCtorEq, if_false, h2, Bool.false_eq_true, Sem.run_pure]
  · cases h
theorem run_convert_cn {src dst : TypeId} {x y c d : Nat} (hs : (P.underlying src).isSome = true) (hd : P.underlying dst = some (.complex .f32)) (hx : narB x c = true) (hy : narB y d = true) (w : World) :
    (convert src dst (.complex .f64 x y)).run P w = .ok (.complex .f32 c d) w := by
  obtain ⟨u, hs'⟩ := Option.isSome_iff_exists.1 hs
  have e : (convert src dst (.complex .f64 x y)).run P w = (Conv.complexToComplex .f64 x y .f32).run P w := by
    cases u <;> simp [convert, run_underlying hs', run_underlying hd]
  rw [e]
  simp only [Conv.complexToComplex, Sem.run_bind, run_narB hx, run_narB hy, Result.andThen_ok, Sem.run_pure]
end
section
variable {P : Program} {w : World} {ops : Array Oper} {rest : List Oper} {o : Oper} {a : Act} {Q : Exit → Act → World → Prop}
/-- Two complex numbers compared. -/
theorem run_cneq {t : TypeId} {k : FloatKind} {a b c d : Nat} {u v x y : Option Nat} (ha : IsF k a u) (hb : IsF k b v) (hc : IsF k c x) (hd : IsF k d y) (w : World) :
    (binOp .neq t (.complex k a b) (.complex k c d)).run P w = .ok (.bool (!(cmpF .eql k u x && cmpF .eql k v y))) w := by
  simp [binOp, Op.complexOp, Op.Complex.cmp, Op.floatCmp, cmpF, ord_spec ha hc, ord_spec hb hd, asBool]
theorem wpList_cneq (hg : Region.wanted o (yielded ops a.tmps) = true) {t t' : TypeId} {p q : Operand} (ho : o.op = .binOp .neq t p q t') {k : FloatKind} {x1 y1 x2 y2 : Nat}
    (hx : a.eval p = .complex k x1 y1) (hy : a.eval q = .complex k x2 y2) {u1 v1 u2 v2 : Option Nat} (f1 : IsF k x1 u1) (f2 : IsF k y1 v1) (f3 : IsF k x2 u2) (f4 : IsF k y2 v2) {b : Bool} (hb : (!(cmpF .eql k u1 u2 && cmpF .eql k v1 v2)) = b)
    (h : wpList P ops Q rest (a.put o.dst (.bool b)) w) : wpList P ops Q (o :: rest) a w := by
  refine wpList_val hg (v := .bool b) (n := 0) ?_ h
  have hr := run_cneq (P := P) (t := t) f1 f2 f3 f4 w
  have hq : (eqGuard .neq t p q (.complex k x1 y1) (.complex k x2 y2)).run P w = .ok () w := by simp [eqGuard]
  rw [hb] at hr
  simp only [execOp, ho, hx, hy, Sem.run_bind, hq, hr, Result.andThen_ok, Sem.run_pure]
  rfl
end
end Go.Proofs.Ytaannebjpmdhjaa
