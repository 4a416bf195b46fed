/-
  What finite floats stand for: 'I f b' is the number of the word b in units of 2 to the power of 'f.leastPlace'; comparisons are those of these integers; float64 holds every float32.
-/
import Derived.Test.YtaannebjpmdhjaaFl
import Derived.Test.YtaannebjpmdhjaaNum
namespace Go.Proofs.Ytaannebjpmdhjaa
set_option linter.unusedVariables false
set_option linter.unusedSimpArgs false
set_option maxRecDepth 20000
open Go.RowKit
namespace Fl
open Ieee

def sg (f : Format) (b : Nat) : Bool := b / f.signWeight % 2 == 1
def rg (f : Format) (b : Nat) : Nat := b % f.signWeight
def I (f : Format) (b : Nat) : Int := if sg f b then -(U f (rg f b) : Int) else (U f (rg f b) : Int)
/-- The word is a finite number. -/
def Fin (f : Format) (b : Nat) : Prop := rg f b < f.infRung

theorem read_fin {f : Format} {b : Nat} (h : Fin f b) : ∃ (m : Nat) (k : Nat), f.read b = .number (sg f b) m (f.leastPlace + k) ∧ m * 2 ^ k = U f (rg f b) := by
  unfold Fin rg at h
  unfold Format.read sg rg U
  by_cases h1 : b % f.signWeight < f.binade
  · simp only [h1, if_true]
    exact ⟨b % f.signWeight, 0, by simp, by simp⟩
  · simp only [h1, if_false, h, if_true]
    exact ⟨_, _, rfl, rfl⟩

theorem order_refl {f : Format} {b : Nat} (h : (f.read b).isNaN = false) : f.order b b = some .eq := by
  unfold Format.order
  cases hb : f.read b with
  | nan s t => rw [hb] at h; cases h
  | infinity s => simp [Datum.order]
  | number s m i => simp [Datum.order]

theorem ord_refl {k : FloatKind} {b x : Nat} (h : IsF k b (some x)) : ord k (some x) (some x) = some .eq := order_refl h.num.2

theorem neq_self {k : FloatKind} {b : Nat} {v : Option Nat} (h : IsF k b v) : cmpF .neq k v v = v.isNone := by
  cases v with
  | none => rfl
  | some x => simp [cmpF, ord_refl h]
theorem eql_self {k : FloatKind} {b : Nat} {v : Option Nat} (h : IsF k b v) : cmpF .eql k v v = v.isSome := by
  cases v with
  | none => rfl
  | some x => simp [cmpF, ord_refl h]

theorem compare_mul (x y : Int) (n : Nat) (h : 0 < n) : compare (x * n) (y * n) = compare x y := by
  have hn : (0 : Int) < n := by omega
  rcases Int.lt_trichotomy x y with h1 | h1 | h1
  · rw [Int.compare_eq_lt.2 h1, Int.compare_eq_lt.2 (Int.mul_lt_mul_of_pos_right h1 hn)]
  · subst h1; simp
  · rw [Int.compare_eq_gt.2 h1, Int.compare_eq_gt.2 (Int.mul_lt_mul_of_pos_right h1 hn)]

theorem signed_eq (s : Bool) (m k : Nat) : signed s m k = (if s then -((m * 2 ^ k : Nat) : Int) else ((m * 2 ^ k : Nat) : Int)) := by
  unfold signed; rw [Nat.shiftLeft_eq]

theorem signed_mul (s : Bool) (m k n : Nat) : signed s m k * ((2 ^ n : Nat) : Int) = signed s m (k + n) := by
  rw [signed_eq, signed_eq, Nat.pow_add, ← Nat.mul_assoc]
  cases s <;> simp [Int.neg_mul]

/-- Finite numbers are compared as the integers that they stand for. -/
theorem order_fin {f : Format} {a b : Nat} (ha : Fin f a) (hb : Fin f b) : f.order a b = some (compare (I f a) (I f b)) := by
  obtain ⟨m, i, ra, ea⟩ := read_fin ha
  obtain ⟨n, j, rb, eb⟩ := read_fin hb
  unfold Format.order
  rw [ra, rb]
  show some (compare _ _) = _
  congr 1
  have e1 : (f.leastPlace + i - min (f.leastPlace + i) (f.leastPlace + j)).toNat = i - min i j := by omega
  have e2 : (f.leastPlace + j - min (f.leastPlace + i) (f.leastPlace + j)).toNat = j - min i j := by omega
  rw [e1, e2, ← compare_mul _ _ (2 ^ min i j) (Nat.two_pow_pos _), signed_mul, signed_mul]
  rw [show i - min i j + min i j = i by omega, show j - min i j + min i j = j by omega, signed_eq, signed_eq, ea, eb]
  rfl

theorem word_of (f : Format) {b : Nat} (hb : b < 2 ^ f.width) : b = f.word (sg f b) (rg f b) := by
  have hW : 2 ^ f.width = 2 * f.signWeight := by
    unfold Format.width Format.signWeight
    rw [Nat.add_assoc, Nat.add_comm 1, Nat.pow_succ, Nat.mul_comm]
  have hpos : 0 < f.signWeight := Nat.two_pow_pos _
  have hdm := Nat.div_add_mod b f.signWeight
  have hq : b / f.signWeight < 2 := Nat.div_lt_of_lt_mul (by omega)
  unfold Format.word sg rg
  generalize b / f.signWeight = q at *
  rcases (by omega : q = 0 ∨ q = 1) with rfl | rfl
  · simp at hdm ⊢; omega
  · simp at hdm ⊢; omega
theorem eq_of_parts {f : Format} {a b : Nat} (ha : a < 2 ^ f.width) (hb : b < 2 ^ f.width) (hs : sg f a = sg f b) (hr : rg f a = rg f b) : a = b := by
  rw [word_of f ha, word_of f hb, hs, hr]

theorem sg_word (f : Format) (s : Bool) {r : Nat} (hr : r < f.signWeight) : sg f (f.word s r) = s := by
  have hpos : 0 < f.signWeight := Nat.two_pow_pos _
  unfold sg Format.word
  cases s
  · simp [Nat.div_eq_of_lt hr]
  · simp [Nat.add_div_left _ hpos, Nat.div_eq_of_lt hr]
theorem rg_word (f : Format) (s : Bool) {r : Nat} (hr : r < f.signWeight) : rg f (f.word s r) = r := by
  unfold rg Format.word
  cases s
  · simp [Nat.mod_eq_of_lt hr]
  · simp [Nat.mod_eq_of_lt hr]
theorem rnd_lt (f : Format) (m : Nat) (p : Int) : rnd f m p < f.signWeight := Nat.lt_of_le_of_lt (rnd_le_inf f m p) f.infRung_lt
theorem sg_nearest (f : Format) (s : Bool) (m : Nat) (p : Int) : sg f (f.nearest s m p) = s := by rw [nearest_eq, sg_word _ _ (rnd_lt ..)]
theorem rg_nearest (f : Format) (s : Bool) (m : Nat) (p : Int) : rg f (f.nearest s m p) = rnd f m p := by rw [nearest_eq, rg_word _ _ (rnd_lt ..)]

theorem binade_le_inf (k : FloatKind) : k.format.binade ≤ k.format.infRung := by cases k <;> decide
theorem read_inf {k : FloatKind} {b : Nat} (h : rg k.format b = k.format.infRung) : k.format.read b = .infinity (sg k.format b) := by
  have hB := binade_le_inf k
  unfold rg at h
  unfold Format.read sg
  simp only [h]
  rw [if_neg (by omega), if_neg (by omega)]
  rfl
theorem read_nan' {k : FloatKind} {b : Nat} (h : k.format.infRung < rg k.format b) : (k.format.read b).isNaN = true := by
  have hB := binade_le_inf k
  unfold rg at h
  unfold Format.read
  rw [if_neg (by omega), if_neg (by omega), if_neg (by omega)]
  rfl
theorem not_nan {k : FloatKind} {b : Nat} (h : (k.format.read b).isNaN = false) : rg k.format b ≤ k.format.infRung := by
  rcases Nat.lt_or_ge k.format.infRung (rg k.format b) with h1 | h1
  · rw [read_nan' h1] at h; cases h
  · exact h1

/-! ### float64 holds every float32 -/
def D : Format := FloatKind.f64.format
def S : Format := FloatKind.f32.format
theorem D_eq : FloatKind.f64.format = D := rfl
theorem S_eq : FloatKind.f32.format = S := rfl

/-- A whole number of few digits, times a power of two, is a word's number. -/
theorem rung_of (f : Format) (m k : Nat) (h : m < 2 * f.binade) : ∃ r, U f r = m * 2 ^ k := by
  by_cases hm : m = 0
  · exact ⟨0, by subst hm; simp [U, binade_pos]⟩
  by_cases hb : f.binade ≤ m
  · exact ⟨k * f.binade + m, U_at f k m (.inr ⟨hb, by omega⟩)⟩
  · have h1 : 2 ^ m.log2 ≤ m := Nat.log2_self_le hm
    have h2 : m < 2 ^ (m.log2 + 1) := Nat.lt_log2_self
    have hL : m.log2 < f.fractionBits := by
      rcases Nat.lt_or_ge m.log2 f.fractionBits with h3 | h3
      · exact h3
      · exfalso
        have : 2 ^ f.fractionBits ≤ 2 ^ m.log2 := Nat.pow_le_pow_right (by omega) h3
        rw [binade_eq] at hb; omega
    generalize m.log2 = L at *
    by_cases hk : f.fractionBits - L ≤ k
    · refine ⟨(k - (f.fractionBits - L)) * f.binade + m * 2 ^ (f.fractionBits - L), ?_⟩
      rw [U_at f _ _ (.inr ⟨?_, ?_⟩), Nat.mul_assoc, ← Nat.pow_add]
      · congr 2; omega
      · calc f.binade = 2 ^ L * 2 ^ (f.fractionBits - L) := by rw [← Nat.pow_add, binade_eq]; congr 1; omega
          _ ≤ m * 2 ^ (f.fractionBits - L) := Nat.mul_le_mul_right _ h1
      · calc m * 2 ^ (f.fractionBits - L) ≤ 2 ^ (L + 1) * 2 ^ (f.fractionBits - L) := Nat.mul_le_mul_right _ (by omega)
          _ = 2 * f.binade := by rw [← Nat.pow_add, binade_eq, ← Nat.pow_succ']; congr 1; omega
    · refine ⟨0 * f.binade + m * 2 ^ k, ?_⟩
      rw [U_at f 0 _ (.inl ⟨rfl, ?_⟩)]
      · simp
      · calc m * 2 ^ k ≤ 2 ^ (L + 1) * 2 ^ (f.fractionBits - L) := Nat.mul_le_mul (by omega) (Nat.pow_le_pow_right (by omega) (by omega))
          _ = 2 * f.binade := by rw [← Nat.pow_add, binade_eq, ← Nat.pow_succ']; congr 1; omega


theorem read_mag {f : Format} {b m : Nat} {s : Bool} {p : Int} (h : f.read b = .number s m p) : m < 2 * f.binade := by
  have hB := binade_pos f
  unfold Format.read at h
  dsimp only at h
  split at h
  · cases h; omega
  · split at h
    · cases h
      have := Nat.mod_lt (b % f.signWeight) hB
      omega
    · split at h <;> cases h

def wide : Nat := 2 ^ 925
theorem U_S_inf : U S S.infRung * wide ≤ U D (D.infRung - 1) := by decide +kernel
theorem wide_eq : wide = 2 ^ 925 := by unfold wide; with_reducible rfl
theorem wide_pos : 0 < wide := by rw [wide_eq]; apply Nat.two_pow_pos

/-- A finite float32, widened. -/
theorem wid_fin {b : Nat} (hf : Fin S b) : Fin D (D.write (S.read b)) ∧ sg D (D.write (S.read b)) = sg S b ∧ U D (rg D (D.write (S.read b))) = U S (rg S b) * wide := by
  obtain ⟨m, k, hr, hm⟩ := read_fin hf
  have hmag := read_mag hr
  have hBS : S.binade = 8388608 := by decide
  have hBD : D.binade = 4503599627370496 := by decide
  obtain ⟨r, hU⟩ := rung_of D m (k + 925) (by omega)
  have hU' : U D r = U S (rg S b) * wide := by rw [hU, Nat.pow_add, ← Nat.mul_assoc, hm, wide_eq]
  have hlt : r < D.infRung := by
    have h1 : U S (rg S b) ≤ U S S.infRung := U_le (Nat.le_of_lt hf)
    have h2 : U D r ≤ U D (D.infRung - 1) := by rw [hU']; exact Nat.le_trans (Nat.mul_le_mul_right _ h1) U_S_inf
    have h3 := le_of_U h2
    have : 0 < D.infRung := by decide
    omega
  have hS : S.leastPlace = -149 := by decide
  have hD : D.leastPlace = -1074 := by decide
  have hrnd : rnd D m (S.leastPlace + k) = r := by
    refine rnd_exact (Nat.le_of_lt hlt) ?_
    rw [hS, hD, hU]
    rw [show ((-149 : Int) + k - -1074).toNat = k + 925 by omega, show ((-1074 : Int) - (-149 + k)).toNat = 0 by omega]
    simp
  have e : D.write (S.read b) = D.nearest (sg S b) m (S.leastPlace + k) := by rw [hr]; rfl
  rw [e]
  refine ⟨?_, sg_nearest .., ?_⟩
  · unfold Fin; rw [rg_nearest, hrnd]; exact hlt
  · rw [rg_nearest, hrnd, hU']

theorem I_wid {b : Nat} (hf : Fin S b) : I D (D.write (S.read b)) = I S b * wide := by
  obtain ⟨_, h2, h3⟩ := wid_fin hf
  unfold I
  rw [h2, h3]
  cases sg S b
  · simp
  · simp [Int.neg_mul]

/-- The class of a value: a NaN, an infinity, a finite number. -/
theorem fin_or {k : FloatKind} {b : Nat} {v : Option Nat} (h : IsF k b v) : v = none ∨ (v = some b ∧ (Fin k.format b ∨ k.format.read b = .infinity (sg k.format b))) := by
  cases v with
  | none => exact .inl rfl
  | some x =>
    obtain ⟨rfl, hx⟩ := h.num
    have := not_nan hx
    rcases Nat.lt_or_ge (rg k.format b) k.format.infRung with h1 | h1
    · exact .inr ⟨rfl, .inl h1⟩
    · exact .inr ⟨rfl, .inr (read_inf (Nat.le_antisymm this h1))⟩

theorem read_not_inf {k : FloatKind} {b : Nat} (h : Fin k.format b) : (k.format.read b).isInfinity = false := by
  obtain ⟨m, j, hr, _⟩ := read_fin h
  rw [hr]; rfl

section
variable {P : Program} (w : World)
/-- 'float64(x)' of a float32. -/
theorem run_wid {b : Nat} {v : Option Nat} (h : IsF .f32 b v) : ∃ r n, (Conv.floatToFloat .f32 b .f64).run P w = .ok (.float .f64 r) (w.drewN n) ∧ IsF .f64 r (wid v) := by
  rcases fin_or h with rfl | ⟨rfl, hf | hi⟩
  · obtain ⟨s, t, he⟩ := read_nan h.nan
    have he' : FloatKind.decode .f32 b = .nan s t := he
    refine ⟨_, 1, ?_, nan_cut (.nanConv .f64 b) .f64 (.inr ⟨b, rfl⟩) (w.tape w.drawn (.nanConv .f64 b))⟩
    have hc := run_choose (P := P) w (.nanConv .f64 b) rfl
    simp only [Conv.floatToFloat, he', reduceCtorEq, if_false, Sem.run_bind, hc, Result.andThen_ok, Sem.run_pure, World.drew_is_drewN]
  · obtain ⟨m, k, hr, _⟩ := read_fin hf
    have hr' : FloatKind.decode .f32 b = .number (sg S b) m (S.leastPlace + k) := hr
    have hw := (wid_fin hf).1
    have hn := read_not_inf (k := .f64) hw
    have e : D.write (S.read b) = FloatKind.encode .f64 (.number (sg S b) m (S.leastPlace + k)) := by rw [S, hr]; rfl
    rw [e] at hn
    have hn' : (FloatKind.decode .f64 (FloatKind.encode .f64 (.number (sg S b) m (S.leastPlace + k)))).isInfinity = false := hn
    refine ⟨FloatKind.encode .f64 (.number (sg S b) m (S.leastPlace + k)), 0, ?_, ?_⟩
    · simp only [Conv.floatToFloat, hr', reduceCtorEq, if_false, hn', Bool.false_eq_true, Sem.run_pure]
      rfl
    · have := isF_write .f64 (.number (sg S b) m (S.leastPlace + k)) rfl
      unfold wid
      simp only [Option.map_some]
      rw [hr]
      exact this
  · refine ⟨FloatKind.encode .f64 (.infinity (sg S b)), 0, ?_, ?_⟩
    · have hi' : FloatKind.decode .f32 b = .infinity (sg S b) := hi
      simp only [Conv.floatToFloat, hi', reduceCtorEq, if_false, Sem.run_pure]
      rfl
    · have := isF_write .f64 (.infinity (sg S b)) rfl
      unfold wid
      simp only [Option.map_some]
      rw [hi]
      exact this

/-- 'float32(x)' of a float64 that is not too great. -/
theorem run_nar {b : Nat} {v : Option Nat} (h : IsF .f64 b v) (ho : NarOk v) : ∃ r n, (Conv.floatToFloat .f64 b .f32).run P w = .ok (.float .f32 r) (w.drewN n) ∧ IsF .f32 r (nar v) := by
  rcases fin_or h with rfl | ⟨rfl, hf | hi⟩
  · obtain ⟨s, t, he⟩ := read_nan h.nan
    have he' : FloatKind.decode .f64 b = .nan s t := he
    refine ⟨_, 1, ?_, nan_cut (.nanConv .f32 b) .f32 (.inr ⟨b, rfl⟩) (w.tape w.drawn (.nanConv .f32 b))⟩
    have hc := run_choose (P := P) w (.nanConv .f32 b) rfl
    simp only [Conv.floatToFloat, he', reduceCtorEq, if_false, Sem.run_bind, hc, Result.andThen_ok, Sem.run_pure, World.drew_is_drewN]
  · obtain ⟨m, k, hr, _⟩ := read_fin hf
    have hr' : FloatKind.decode .f64 b = .number (sg D b) m (D.leastPlace + k) := hr
    have hn : (FloatKind.decode .f32 (FloatKind.encode .f32 (.number (sg D b) m (D.leastPlace + k)))).isInfinity = false := by
      rcases ho b rfl with h1 | h1
      · rw [hr] at h1; cases h1
      · rw [hr] at h1; exact h1
    refine ⟨FloatKind.encode .f32 (.number (sg D b) m (D.leastPlace + k)), 0, ?_, ?_⟩
    · simp only [Conv.floatToFloat, hr', reduceCtorEq, if_false, hn, Bool.false_eq_true, Sem.run_pure]
      rfl
    · have := isF_write .f32 (.number (sg D b) m (D.leastPlace + k)) rfl
      unfold nar
      simp only [Option.map_some]
      rw [hr]
      exact this
  · refine ⟨FloatKind.encode .f32 (.infinity (sg D b)), 0, ?_, ?_⟩
    · have hi' : FloatKind.decode .f64 b = .infinity (sg D b) := hi
      simp only [Conv.floatToFloat, hi', reduceCtorEq, if_false, Sem.run_pure]
      rfl
    · have := isF_write .f32 (.infinity (sg D b)) rfl
      unfold nar
      simp only [Option.map_some]
      rw [hi]
      exact this

theorem run_convert_ff (src dst : TypeId) (s k : FloatKind) (b : Nat) (hs : (P.underlying src).isSome = true) (hd : P.underlying dst = some (.float k)) :
    (convert src dst (.float s b)).run P w = (Conv.floatToFloat s b k).run P w := by
  obtain ⟨u, hs'⟩ := Option.isSome_iff_exists.1 hs
  cases u <;> simp [convert, run_underlying hs', run_underlying hd]
end

section
variable {P : Program} {w : World} {ops : Array Oper} {rest : List Oper} {o : Oper} {a : Act} {Q : Exit → Act → World → Prop}
theorem wpList_fwid (hg : Region.wanted o (yielded ops a.tmps) = true) {src dst : TypeId} {x : Operand} (ho : o.op = .convert src dst x) {b : Nat} (hx : a.eval x = .float .f32 b)
    (hs : (P.underlying src).isSome = true) (hd : P.underlying dst = some (.float .f64)) {v : Option Nat} (fx : IsF .f32 b v)
    (h : ∀ r n, IsF .f64 r (wid v) → wpList P ops Q rest (a.put o.dst (.float .f64 r)) (w.drewN n)) : wpList P ops Q (o :: rest) a w := by
  obtain ⟨r, n, hr, hf⟩ := run_wid (P := P) w fx
  refine wpList_val hg (v := .float .f64 r) (n := n) ?_ (h r n hf)
  simp only [execOp, ho, hx, Sem.run_bind, run_convert_ff w src dst .f32 .f64 b hs hd, hr, Result.andThen_ok, Sem.run_pure]
theorem wpList_fnar (hg : Region.wanted o (yielded ops a.tmps) = true) {src dst : TypeId} {x : Operand} (ho : o.op = .convert src dst x) {b : Nat} (hx : a.eval x = .float .f64 b)
    (hs : (P.underlying src).isSome = true) (hd : P.underlying dst = some (.float .f32)) {v : Option Nat} (fx : IsF .f64 b v) (hn : NarOk v)
    (h : ∀ r n, IsF .f32 r (nar v) → wpList P ops Q rest (a.put o.dst (.float .f32 r)) (w.drewN n)) : wpList P ops Q (o :: rest) a w := by
  obtain ⟨r, n, hr, hf⟩ := run_nar (P := P) w fx hn
  refine wpList_val hg (v := .float .f32 r) (n := n) ?_ (h r n hf)
  simp only [execOp, ho, hx, Sem.run_bind, run_convert_ff w src dst .f64 .f32 b hs hd, hr, Result.andThen_ok, Sem.run_pure]
/-- A conversion of a float to its own kind. -/
theorem wpList_fsame (hg : Region.wanted o (yielded ops a.tmps) = true) {src dst : TypeId} {x : Operand} (ho : o.op = .convert src dst x) {k : FloatKind} {b : Nat} (hx : a.eval x = .float k b)
    (hs : (P.underlying src).isSome = true) (hd : P.underlying dst = some (.float k))
    (h : wpList P ops Q rest (a.put o.dst (.float k b)) w) : wpList P ops Q (o :: rest) a w := by
  refine wpList_val hg (v := .float k b) (n := 0) ?_ h
  simp only [execOp, ho, hx, Sem.run_bind, run_convert_ff w src dst k k b hs hd, Conv.floatToFloat, if_true, Result.andThen_ok, Sem.run_pure]
  rfl
end

/-- 'float64(x)' as an equation for every world: for a region that draws its order. -/
theorem wid_fn {P : Program} {src dst : TypeId} (hs : (P.underlying src).isSome = true) (hd : P.underlying dst = some (.float .f64)) {b : Nat} {v : Option Nat} (h : IsF .f32 b v) :
    ∃ c n : World → Nat, (∀ w, (convert src dst (.float .f32 b)).run P w = .ok (.float .f64 (c w)) (w.drewN (n w))) ∧ ∀ w, IsF .f64 (c w) (wid v) := by
  have h1 : ∀ w : World, ∃ x : Nat × Nat, (convert src dst (.float .f32 b)).run P w = .ok (.float .f64 x.1) (w.drewN x.2) ∧ IsF .f64 x.1 (wid v) := fun w => by
    obtain ⟨r, n, h2, h3⟩ := run_wid (P := P) w h
    exact ⟨(r, n), by rw [run_convert_ff w src dst .f32 .f64 b hs hd]; exact h2, h3⟩
  obtain ⟨f, hf⟩ := Classical.axiomOfChoice h1
  exact ⟨fun w => (f w).1, fun w => (f w).2, fun w => (hf w).1, fun w => (hf w).2⟩
/-- An arithmetic operation as an equation for every world. -/
theorem ar_fn {P : Program} {op : BinOp} (hop : Arith op) (t : TypeId) {k : FloatKind} {x y : Nat} {vx vy : Option Nat} (hx : IsF k x vx) (hy : IsF k y vy) :
    ∃ c n : World → Nat, (∀ w, (binOp op t (.float k x) (.float k y)).run P w = .ok (.float k (c w)) (w.drewN (n w))) ∧ ∀ w, IsF k (c w) (ar op k vx vy) := by
  have h1 : ∀ w : World, ∃ z : Nat × Nat, (binOp op t (.float k x) (.float k y)).run P w = .ok (.float k z.1) (w.drewN z.2) ∧ IsF k z.1 (ar op k vx vy) := fun w => by
    obtain ⟨r, n, h2, h3⟩ := run_ar (P := P) w hop k hx hy
    refine ⟨(r, n), ?_, h3⟩
    rcases hop with rfl | rfl | rfl | rfl <;> simpa [binOp] using h2
  obtain ⟨f, hf⟩ := Classical.axiomOfChoice h1
  exact ⟨fun w => (f w).1, fun w => (f w).2, fun w => (hf w).1, fun w => (hf w).2⟩


/-- The result of an arithmetic operation in a world: the bits of a NaN are drawn there. -/
def fop (op : BinOp) (k : FloatKind) (x y : Nat) (w : World) : Nat := (floatBits op k x y).getD (Question.cut (.nanBits k x y) (w.tape w.drawn (.nanBits k x y)))
def fdn (op : BinOp) (k : FloatKind) (x y : Nat) : Nat := if (floatBits op k x y).isSome then 0 else 1
theorem run_fop {P : Program} {op : BinOp} (hop : Arith op) (t : TypeId) (k : FloatKind) (x y : Nat) (w : World) :
    (binOp op t (.float k x) (.float k y)).run P w = .ok (.float k (fop op k x y w)) (w.drewN (fdn op k x y)) := by
  have hb : (binOp op t (.float k x) (.float k y)).run P w = (Op.floatArith op k x y).run P w := by
    rcases hop with rfl | rfl | rfl | rfl <;> simp [binOp]
  rw [hb]
  unfold fop fdn
  cases hr : floatBits op k x y with
  | some r => exact run_floatArith w hr
  | none =>
    have hc := run_choose (P := P) w (.nanBits k x y) rfl
    rcases hop with rfl | rfl | rfl | rfl <;> simp only [floatBits] at hr <;> simp only [Op.floatArith, hr, Sem.run_bind, Sem.run_pure, Result.andThen_ok, hc, World.drew_is_drewN] <;> rfl
theorem isF_fop {op : BinOp} (hop : Arith op) {k : FloatKind} {x y : Nat} {vx vy : Option Nat} (hx : IsF k x vx) (hy : IsF k y vy) (w : World) : IsF k (fop op k x y w) (ar op k vx vy) := by
  have h := ar_spec hop hx hy
  unfold fop
  cases hr : ar op k vx vy with
  | some r => rw [h, hr]; exact ar_num hr
  | none => rw [h, hr]; exact nan_cut (.nanBits k x y) k (.inl ⟨x, y, rfl⟩) _
theorem a_add : Arith .add := .inl rfl
theorem a_sub : Arith .sub := .inr (.inl rfl)
theorem a_mul : Arith .mul := .inr (.inr (.inl rfl))
theorem a_quo : Arith .quo := .inr (.inr (.inr rfl))

end Fl
end Go.Proofs.Ytaannebjpmdhjaa
