/-
  Floating-point values up to the choice of a NaN's bits, and the walk's laws for the operations on floats that may draw such bits.
  'cl k b': the bits b of a float of kind k; 'none' for each NaN. 'IsF k b v': the bits b fit the kind and stand for v. No program is in sight.
-/
import Derived.WalkKit
import Derived.WalkLawsBesides
import Derived.Deep.Draws
namespace Go.Proofs.Ytaannebjpmdhjaa
set_option linter.unusedVariables false
set_option linter.unusedSimpArgs false
set_option maxRecDepth 20000
open Go.RowKit
namespace Fl

/-- All NaNs are one: none. -/
def cl (k : FloatKind) (b : Nat) : Option Nat := if (k.format.read b).isNaN = true then none else some b

/-- The bits b fit the kind k and stand for v. -/
def IsF (k : FloatKind) (b : Nat) (v : Option Nat) : Prop := cl k b = v ∧ b < 2 ^ k.format.width

theorem IsF.lt {k : FloatKind} {b : Nat} {v : Option Nat} (h : IsF k b v) : b < 2 ^ k.format.width := h.2
theorem IsF.eq {k : FloatKind} {b : Nat} {v : Option Nat} (h : IsF k b v) : cl k b = v := h.1
theorem IsF.of {k : FloatKind} {b : Nat} (h : b < 2 ^ k.format.width) : IsF k b (cl k b) := ⟨rfl, h⟩
theorem IsF.wf {k : FloatKind} {b : Nat} {v : Option Nat} (h : IsF k b v) : (Lit.float k b).wf = true := wf_of_lt k b h.2
theorem lt_of_wf {k : FloatKind} {b : Nat} (h : (Lit.float k b).wf = true) : b < 2 ^ k.format.width := by
  cases k
  · have : b < 2 ^ 32 := by simpa [Lit.wf] using h
    exact this
  · have : b < 2 ^ 64 := by simpa [Lit.wf] using h
    exact this
theorem IsF.nan {k : FloatKind} {b : Nat} (h : IsF k b none) : (k.format.read b).isNaN = true := by
  have := h.1
  unfold cl at this
  split at this
  · assumption
  · cases this
theorem IsF.num {k : FloatKind} {b x : Nat} (h : IsF k b (some x)) : b = x ∧ (k.format.read x).isNaN = false := by
  have := h.1
  unfold cl at this
  split at this
  · cases this
  · rename_i hn
    cases this
    exact ⟨rfl, by simpa using hn⟩
theorem IsF.lit {k : FloatKind} {b : Nat} (h : ((k.format.read b).isNaN = false ∧ b < 2 ^ k.format.width)) : IsF k b (some b) :=
  ⟨by unfold cl; rw [h.1]; rfl, h.2⟩
theorem IsF.lit_nan {k : FloatKind} {b : Nat} (h : ((k.format.read b).isNaN = true ∧ b < 2 ^ k.format.width)) : IsF k b none :=
  ⟨by unfold cl; rw [h.1]; rfl, h.2⟩

/-- The bits as a number. -/
def bitsI (v : Option Nat) : Int := match v with | none => 2143289344 | some b => b

/-- The call returns v, behind some draws. -/
def Ret (w : World) (v : Value) (e : Ending) (w' : World) : Prop := ∃ n, e = .returned v ∧ w' = w.drewN n
/-- The call returns a float that stands for v, behind some draws. -/
def RetF (w : World) (k : FloatKind) (v : Option Nat) (e : Ending) (w' : World) : Prop := ∃ r n, e = .returned (.float k r) ∧ IsF k r v ∧ w' = w.drewN n
theorem ret_mk {w : World} {v v' : Value} {n : Nat} (h : v = v') : Ret w v' (.returned v) (w.drewN n) := ⟨n, by rw [h], rfl⟩
theorem ret_mk0 {w : World} {v v' : Value} (h : v = v') : Ret w v' (.returned v) w := ⟨0, by rw [h], rfl⟩

/-! ### What is written is no NaN -/
theorem read_word (k : FloatKind) (neg : Bool) (rung : Nat) (h : rung ≤ k.format.infRung) : (k.format.read (k.format.word neg rung)).isNaN = false := by
  have hlt := k.format.infRung_lt
  have hmod : k.format.word neg rung % k.format.signWeight = rung := by
    unfold Ieee.Format.word
    split
    · rw [Nat.add_mod_left, Nat.mod_eq_of_lt (by omega)]
    · exact Nat.mod_eq_of_lt (by omega)
  unfold Ieee.Format.read
  simp only [hmod]
  split
  · rfl
  · split
    · rfl
    · rw [if_pos (by omega)]
      rfl

theorem read_write (k : FloatKind) (d : Ieee.Datum) (h : d.isNaN = false) : (k.format.read (k.format.write d)).isNaN = false := by
  cases d with
  | number neg mag place =>
    show (k.format.read (k.format.nearest neg mag place)).isNaN = false
    unfold Ieee.Format.nearest
    dsimp only
    split
    · exact read_word k neg 0 (Nat.zero_le _)
    · exact read_word k neg _ (Nat.min_le_right ..)
  | infinity neg => exact read_word k neg _ (Nat.le_refl _)
  | nan neg t => cases h

theorem isF_write (k : FloatKind) (d : Ieee.Datum) (h : d.isNaN = false) : IsF k (k.format.write d) (some (k.format.write d)) :=
  IsF.lit ⟨read_write k d h, k.format.write_lt d⟩

/-- What an operation gives, written: none for a NaN. -/
def wr (k : FloatKind) (d : Option Ieee.Datum) : Option Nat := d.map k.format.write

theorem sum_num (x y d : Ieee.Datum) (h : x.sum y = some d) : d.isNaN = false := by
  cases x <;> cases y <;> simp [Ieee.Datum.sum] at h <;> first | (subst h; rfl) | (obtain ⟨_, rfl⟩ := h; rfl)
theorem product_num (x y d : Ieee.Datum) (h : x.product y = some d) : d.isNaN = false := by
  cases x <;> cases y <;> simp [Ieee.Datum.product] at h <;> first | (subst h; rfl) | (obtain ⟨_, rfl⟩ := h; rfl)
theorem quotient_num (n : Nat) (x y d : Ieee.Datum) (h : x.quotient n y = some d) : d.isNaN = false := by
  cases x with
  | nan => simp [Ieee.Datum.quotient] at h
  | infinity s => cases y <;> simp [Ieee.Datum.quotient] at h <;> (subst h; rfl)
  | number s m i =>
    cases y with
    | nan => simp [Ieee.Datum.quotient] at h
    | infinity t => simp [Ieee.Datum.quotient] at h; subst h; rfl
    | number t n' j =>
      simp only [Ieee.Datum.quotient] at h
      split at h
      · split at h
        · cases h
        · cases h; rfl
      · cases h; rfl
theorem root_num (n : Nat) (x d : Ieee.Datum) (h : x.root n = some d) : d.isNaN = false := by
  cases x with
  | nan => simp [Ieee.Datum.root] at h
  | infinity s => cases s <;> simp [Ieee.Datum.root] at h; subst h; rfl
  | number s m i =>
    simp only [Ieee.Datum.root] at h
    split at h
    · cases h; rfl
    · split at h
      · cases h
      · cases h; rfl

/-- '+', '-', '*', '/' on values. -/
def ar (op : BinOp) (k : FloatKind) : Option Nat → Option Nat → Option Nat
  | some x, some y => floatBits op k x y
  | _, _ => none

def Arith (op : BinOp) : Prop := op = .add ∨ op = .sub ∨ op = .mul ∨ op = .quo

theorem map_write_num {k : FloatKind} {d : Option Ieee.Datum} {r : Nat} (hd : ∀ e, d = some e → e.isNaN = false) (h : d.map k.format.write = some r) : IsF k r (some r) := by
  cases d with
  | none => cases h
  | some e => cases h; exact isF_write k e (hd e rfl)

theorem floatBits_num {op : BinOp} {k : FloatKind} {x y r : Nat} (h : floatBits op k x y = some r) : IsF k r (some r) := by
  unfold floatBits at h
  split at h
  · exact map_write_num (fun e he => sum_num _ _ _ he) h
  · exact map_write_num (fun e he => sum_num _ _ _ he) h
  · exact map_write_num (fun e he => product_num _ _ _ he) h
  · exact map_write_num (fun e he => quotient_num _ _ _ _ he) h
  · cases h

theorem read_nan {f : Ieee.Format} {b : Nat} (h : (f.read b).isNaN = true) : ∃ s t, f.read b = .nan s t := by
  cases he : f.read b with
  | nan s t => exact ⟨s, t, rfl⟩
  | number => rw [he] at h; cases h
  | infinity => rw [he] at h; cases h

theorem floatBits_nan_left {op : BinOp} (hop : Arith op) {k : FloatKind} {x y : Nat} (h : (k.format.read x).isNaN = true) : floatBits op k x y = none := by
  obtain ⟨s, t, he⟩ := read_nan h
  rcases hop with rfl | rfl | rfl | rfl <;> simp [floatBits, Ieee.Format.add, Ieee.Format.sub, Ieee.Format.mul, Ieee.Format.div, he, Ieee.Datum.sum, Ieee.Datum.product, Ieee.Datum.quotient]
theorem floatBits_nan_right {op : BinOp} (hop : Arith op) {k : FloatKind} {x y : Nat} (h : (k.format.read y).isNaN = true) : floatBits op k x y = none := by
  obtain ⟨s, t, he⟩ := read_nan h
  rcases hop with rfl | rfl | rfl | rfl <;>
    (simp only [floatBits, Ieee.Format.add, Ieee.Format.sub, Ieee.Format.mul, Ieee.Format.div, he, Ieee.Datum.opposite]
     cases k.format.read x <;> rfl)

theorem ar_spec {op : BinOp} (hop : Arith op) {k : FloatKind} {x y : Nat} {vx vy : Option Nat} (hx : IsF k x vx) (hy : IsF k y vy) : floatBits op k x y = ar op k vx vy := by
  cases vx with
  | none => exact (floatBits_nan_left hop hx.nan).trans (by unfold ar; rfl)
  | some a =>
    cases vy with
    | none => exact (floatBits_nan_right hop hy.nan).trans (by unfold ar; rfl)
    | some b =>
      obtain ⟨rfl, _⟩ := hx.num
      obtain ⟨rfl, _⟩ := hy.num
      rfl

theorem ar_num {op : BinOp} {k : FloatKind} {u v : Option Nat} {r : Nat} (h : ar op k u v = some r) : IsF k r (some r) := by
  cases u with
  | none => cases h
  | some a =>
    cases v with
    | none => cases h
    | some b => exact floatBits_num h

/-! ### The bits of a NaN that is drawn -/
theorem nan_cut (q : Question) (k : FloatKind) (hq : (∃ x y, q = .nanBits k x y) ∨ ∃ b, q = .nanConv k b) (n : Nat) : IsF k (q.cut n) none := by
  refine IsF.lit_nan ?_
  cases k
  · have h2 : (n / 2) % (2 ^ 23 - 1) < 2 ^ 23 - 1 := Nat.mod_lt _ (by decide)
    have h1 : n % 2 < 2 := Nat.mod_lt _ (by decide)
    have e : q.cut n = (n % 2) * 2 ^ 31 + 0x7f800000 + 1 + (n / 2) % (2 ^ 23 - 1) := by
      rcases hq with ⟨x, y, rfl⟩ | ⟨b, rfl⟩ <;> rfl
    rw [e]
    generalize (n / 2) % (2 ^ 23 - 1) = m at *
    generalize n % 2 = s at *
    have hw : FloatKind.f32.format.signWeight = 2147483648 := by decide
    have hi : FloatKind.f32.format.infRung = 2139095040 := by decide
    have hb : FloatKind.f32.format.binade = 8388608 := by decide
    have hwd : FloatKind.f32.format.width = 32 := by decide
    refine ⟨?_, by rw [hwd]; omega⟩
    unfold Ieee.Format.read
    simp only [hw, hi, hb]
    rw [if_neg (by omega), if_neg (by omega), if_neg (by omega)]
    rfl
  · have h2 : (n / 2) % (2 ^ 52 - 1) < 2 ^ 52 - 1 := Nat.mod_lt _ (by decide)
    have h1 : n % 2 < 2 := Nat.mod_lt _ (by decide)
    have e : q.cut n = (n % 2) * 2 ^ 63 + 0x7ff0000000000000 + 1 + (n / 2) % (2 ^ 52 - 1) := by
      rcases hq with ⟨x, y, rfl⟩ | ⟨b, rfl⟩ <;> rfl
    rw [e]
    generalize (n / 2) % (2 ^ 52 - 1) = m at *
    generalize n % 2 = s at *
    have hw : FloatKind.f64.format.signWeight = 9223372036854775808 := by decide
    have hi : FloatKind.f64.format.infRung = 9218868437227405312 := by decide
    have hb : FloatKind.f64.format.binade = 4503599627370496 := by decide
    have hwd : FloatKind.f64.format.width = 64 := by decide
    refine ⟨?_, by rw [hwd]; omega⟩
    unfold Ieee.Format.read
    simp only [hw, hi, hb]
    rw [if_neg (by omega), if_neg (by omega), if_neg (by omega)]
    rfl

/-! ### The operations' runs -/
section
variable {P : Program} (w : World)

theorem run_choose (q : Question) (hq : q.forced = false) : (choose q).run P w = .ok (q.cut (w.tape w.drawn q)) w.drew := by
  show (if q.forced = true then _ else _) = _
  rw [hq]
  rfl

theorem run_ar {op : BinOp} (hop : Arith op) (k : FloatKind) {x y : Nat} {vx vy : Option Nat} (hx : IsF k x vx) (hy : IsF k y vy) :
    ∃ r n, (Op.floatArith op k x y).run P w = .ok (.float k r) (w.drewN n) ∧ IsF k r (ar op k vx vy) := by
  have h := ar_spec hop hx hy
  cases hr : ar op k vx vy with
  | some r => exact ⟨r, 0, run_floatArith w (h.trans hr), ar_num hr⟩
  | none =>
    rw [hr] at h
    refine ⟨_, 1, ?_, nan_cut (.nanBits k x y) k (.inl ⟨x, y, rfl⟩) (w.tape w.drawn (.nanBits k x y))⟩
    have hc := run_choose (P := P) w (.nanBits k x y) rfl
    rcases hop with rfl | rfl | rfl | rfl <;> simp only [floatBits] at h <;> simp only [Op.floatArith, h, Sem.run_bind, Sem.run_pure, Result.andThen_ok, hc, World.drew_is_drewN]
end


/-! ### Conversions -/
/-- 'float64(x)' of a float32. -/
def wid (v : Option Nat) : Option Nat := v.map fun b => FloatKind.f64.format.write (FloatKind.f32.format.read b)
/-- 'float32(x)' of a float64, where it is not too great. -/
def nar (v : Option Nat) : Option Nat := v.map fun b => FloatKind.f32.format.write (FloatKind.f64.format.read b)
/-- The float64 v is no finite number that is too great for a float32. -/
def NarOk (v : Option Nat) : Prop := ∀ b, v = some b → (FloatKind.f64.format.read b).isInfinity = true ∨ (FloatKind.f32.format.read (FloatKind.f32.format.write (FloatKind.f64.format.read b))).isInfinity = false
/-- A number as a float. -/
def ofInt (k : FloatKind) (n : Int) : Option Nat := some (floatOfInt k n)
theorem isF_ofInt (k : FloatKind) (n : Int) : IsF k (floatOfInt k n) (ofInt k n) := isF_write k (.number (n < 0) n.natAbs 0) rfl
/-- '-x'. -/
def neg (k : FloatKind) (v : Option Nat) : Option Nat := v.map (Op.negFloat k)
/-- 'math.Sqrt'. -/
def sqrt (v : Option Nat) : Option Nat := v.bind FloatKind.f64.format.sqrt
/-- The three comparisons and equality. -/
def ord (k : FloatKind) : Option Nat → Option Nat → Option Ordering
  | some x, some y => k.format.order x y
  | _, _ => none
def eqF (k : FloatKind) (u v : Option Nat) : Bool := ord k u v == some .eq
def ltF (k : FloatKind) (u v : Option Nat) : Bool := ord k u v == some .lt
def gtF (k : FloatKind) (u v : Option Nat) : Bool := ord k u v == some .gt

theorem ord_spec {k : FloatKind} {x y : Nat} {vx vy : Option Nat} (hx : IsF k x vx) (hy : IsF k y vy) : k.format.order x y = ord k vx vy := by
  cases vx with
  | none =>
    obtain ⟨s, t, he⟩ := read_nan hx.nan
    show Ieee.Datum.order _ _ = _
    rw [he]; rfl
  | some a =>
    cases vy with
    | none =>
      obtain ⟨s, t, he⟩ := read_nan hy.nan
      show Ieee.Datum.order _ _ = _
      rw [he]; cases k.format.read x <;> rfl
    | some b =>
      obtain ⟨rfl, _⟩ := hx.num
      obtain ⟨rfl, _⟩ := hy.num
      rfl


theorem xor_low {i b : Nat} (h : b < 2 ^ i) : b ^^^ 2 ^ i = 2 ^ i + b := by
  have e := Nat.two_pow_add_eq_or_of_lt h 1
  rw [Nat.mul_one] at e
  rw [e]
  apply Nat.eq_of_testBit_eq
  intro j
  rw [Nat.testBit_xor, Nat.testBit_or, Nat.testBit_two_pow]
  by_cases hj : i = j
  · subst hj
    simp [Nat.testBit_lt_two_pow h]
  · simp [hj]

theorem negFloat_at (k : FloatKind) {b : Nat} (hb : b < 2 ^ k.format.width) :
    Op.negFloat k b = if b < k.format.signWeight then k.format.signWeight + b else b - k.format.signWeight := by
  have hW : 2 ^ k.format.width = 2 * k.format.signWeight := by
    unfold Ieee.Format.width Ieee.Format.signWeight
    rw [Nat.add_assoc, Nat.add_comm 1, Nat.pow_succ, Nat.mul_comm]
  unfold Op.negFloat
  show b ^^^ k.format.signWeight = _
  split
  · rename_i hlt
    exact xor_low hlt
  · rename_i hge
    obtain ⟨c, rfl⟩ : ∃ c, b = k.format.signWeight + c := ⟨b - k.format.signWeight, by omega⟩
    have hc : c < k.format.signWeight := by omega
    have e : k.format.signWeight + c = c ^^^ k.format.signWeight := (xor_low hc).symm
    rw [Nat.add_sub_cancel_left, e, Nat.xor_assoc, Nat.xor_self, Nat.xor_zero]

theorem isNaN_mod (f : Ieee.Format) (a b : Nat) (h : a % f.signWeight = b % f.signWeight) : (f.read a).isNaN = (f.read b).isNaN := by
  unfold Ieee.Format.read
  simp only [h]
  split
  · rfl
  · split
    · rfl
    · split <;> rfl

theorem isF_neg {k : FloatKind} {b : Nat} {v : Option Nat} (h : IsF k b v) : IsF k (Op.negFloat k b) (neg k v) := by
  have hw : ∀ b, b < 2 ^ k.format.width → Op.negFloat k b < 2 ^ k.format.width ∧ (k.format.read (Op.negFloat k b)).isNaN = (k.format.read b).isNaN := by
    intro b hb
    have hW : 2 ^ k.format.width = 2 * k.format.signWeight := by
      unfold Ieee.Format.width Ieee.Format.signWeight
      rw [Nat.add_assoc, Nat.add_comm 1, Nat.pow_succ, Nat.mul_comm]
    have hpos : 0 < k.format.signWeight := Nat.two_pow_pos _
    rw [negFloat_at k hb]
    split
    · exact ⟨by omega, isNaN_mod _ _ _ (Nat.add_mod_left ..)⟩
    · rename_i hge
      refine ⟨by omega, isNaN_mod _ _ _ ?_⟩
      have e : b = k.format.signWeight + (b - k.format.signWeight) := by omega
      rw [e, Nat.add_mod_left]
      congr 1
      omega
  cases v with
  | none => exact IsF.lit_nan ⟨by rw [(hw b h.2).2]; exact h.nan, (hw b h.2).1⟩
  | some x =>
    obtain ⟨rfl, hx⟩ := h.num
    exact IsF.lit ⟨by rw [(hw b h.2).2]; exact hx, (hw b h.2).1⟩

/-- A comparison of two values. -/
def cmpF (op : BinOp) (k : FloatKind) (u v : Option Nat) : Bool :=
  match op with
  | .eql => ord k u v == some .eq
  | .neq => ord k u v != some .eq
  | .lss => ord k u v == some .lt
  | .leq => ord k u v == some .lt || ord k u v == some .eq
  | .gtr => ord k u v == some .gt
  | .geq => ord k u v == some .gt || ord k u v == some .eq
  | _ => false
def Cmp (op : BinOp) : Prop := op = .eql ∨ op = .neq ∨ op = .lss ∨ op = .leq ∨ op = .gtr ∨ op = .geq

/-! ### The walk's laws -/
section
variable {P : Program} {w : World} {ops : Array Oper} {rest : List Oper} {o : Oper} {a : Act} {Q : Exit → Act → World → Prop}

theorem wpList_val (hg : Region.wanted o (yielded ops a.tmps) = true) {v : Value} {n : Nat} (hrun : (execOp a.eval o).run P w = .ok (.value v) (w.drewN n))
    (h : wpList P ops Q rest (a.put o.dst v) (w.drewN n)) : wpList P ops Q (o :: rest) a w := by
  refine BigFrame.wpList_want hg fun K hK => ?_
  unfold Oper.wp
  rw [hrun]
  exact hK _ _ h

theorem wpList_far (hg : Region.wanted o (yielded ops a.tmps) = true) {op : BinOp} {t t' : TypeId} {x y : Operand} (ho : o.op = .binOp op t x y t') (hop : Arith op) {k : FloatKind} {bx by' : Nat}
    (hx : a.eval x = .float k bx) (hy : a.eval y = .float k by') {vx vy : Option Nat} (fx : IsF k bx vx) (fy : IsF k by' vy)
    (h : ∀ r n, IsF k r (ar op k vx vy) → wpList P ops Q rest (a.put o.dst (.float k r)) (w.drewN n)) : wpList P ops Q (o :: rest) a w := by
  obtain ⟨r, n, hr, hf⟩ := run_ar (P := P) w hop k fx fy
  refine wpList_val hg (v := .float k r) (n := n) ?_ (h r n hf)
  have hb : (binOp op t (.float k bx) (.float k by')).run P w = .ok (.float k r) (w.drewN n) := by
    rcases hop with rfl | rfl | rfl | rfl <;> simpa [binOp] using hr
  have hq : (eqGuard op t x y (.float k bx) (.float k by')).run P w = .ok () w := by
    rcases hop with rfl | rfl | rfl | rfl <;> simp [eqGuard]
  simp only [execOp, ho, hx, hy, Sem.run_bind, hq, hb, Result.andThen_ok, Sem.run_pure]

theorem wpList_fcmp (hg : Region.wanted o (yielded ops a.tmps) = true) {op : BinOp} {t t' : TypeId} {x y : Operand} (ho : o.op = .binOp op t x y t') (hop : Cmp op) {k : FloatKind} {bx by' : Nat}
    (hx : a.eval x = .float k bx) (hy : a.eval y = .float k by') {vx vy : Option Nat} (fx : IsF k bx vx) (fy : IsF k by' vy) {b : Bool} (hb : cmpF op k vx vy = b)
    (h : wpList P ops Q rest (a.put o.dst (.bool b)) w) : wpList P ops Q (o :: rest) a w := by
  refine wpList_val hg (v := .bool b) (n := 0) ?_ h
  have hr : (binOp op t (.float k bx) (.float k by')).run P w = .ok (.bool b) w := by
    have e := ord_spec fx fy
    rw [← hb]
    rcases hop with rfl | rfl | rfl | rfl | rfl | rfl <;> simp [binOp, Op.floatCmp, cmpF, e]
  have hq : (eqGuard op t x y (.float k bx) (.float k by')).run P w = .ok () w := by
    rcases hop with rfl | rfl | rfl | rfl | rfl | rfl <;> simp [eqGuard]
  simp only [execOp, ho, hx, hy, Sem.run_bind, hq, hr, Result.andThen_ok, Sem.run_pure]
  rfl

theorem wpList_fneg (hg : Region.wanted o (yielded ops a.tmps) = true) {t : TypeId} {x : Operand} (ho : o.op = .unOp .neg t x) {k : FloatKind} {bx : Nat}
    (hx : a.eval x = .float k bx) {vx : Option Nat} (fx : IsF k bx vx)
    (h : ∀ r, IsF k r (neg k vx) → wpList P ops Q rest (a.put o.dst (.float k r)) w) : wpList P ops Q (o :: rest) a w := by
  refine wpList_val hg (v := .float k (Op.negFloat k bx)) (n := 0) ?_ (h _ (isF_neg fx))
  simp only [execOp, ho, hx, Op.unary, Sem.run_bind, Sem.run_pure, Result.andThen_ok]
  rfl
end

end Fl
end Go.Proofs.Ytaannebjpmdhjaa
