/-
  Rounding to nearest is monotone, and exact where it can be: plain facts on the words of 'Ieee', no program in sight.
  'U f r': what rung r of the format f stands for, in units of 2 to the power of 'f.leastPlace'. 'rnd f mag place': the rung of the word nearest to mag * 2^place.
-/
import GoSem.Core.Float
namespace Go.Proofs.Ytaannebjpmdhjaa.Fl
set_option linter.unusedVariables false
set_option linter.unusedSimpArgs false
set_option maxRecDepth 20000
open Ieee

def U (f : Format) (r : Nat) : Nat := if r < f.binade then r else (f.binade + r % f.binade) * 2 ^ (r / f.binade - 1)

theorem binade_pos (f : Format) : 0 < f.binade := Nat.two_pow_pos _

theorem U_low {f : Format} {r : Nat} (h : r < f.binade) : U f r = r := if_pos h

theorem div_at {B t : Nat} (e : Nat) (h : t < B) : (e * B + t) / B = e := by
  rw [Nat.mul_comm, Nat.mul_add_div (by omega), Nat.div_eq_of_lt h, Nat.add_zero]
theorem mod_at {B t : Nat} (e : Nat) (h : t < B) : (e * B + t) % B = t := by
  rw [Nat.mul_comm, Nat.mul_add_mod, Nat.mod_eq_of_lt h]

/-- A rung out of its exponent and its kept digits. -/
theorem U_at (f : Format) (e k : Nat) (h : (e = 0 ∧ k ≤ 2 * f.binade) ∨ (f.binade ≤ k ∧ k ≤ 2 * f.binade)) : U f (e * f.binade + k) = k * 2 ^ e := by
  have hB := binade_pos f
  have key : ∀ k, f.binade ≤ k → k < 2 * f.binade → U f (e * f.binade + k) = k * 2 ^ e := by
    intro k h1 h2
    obtain ⟨t, rfl⟩ : ∃ t, k = f.binade + t := ⟨k - f.binade, by omega⟩
    have ht : t < f.binade := by omega
    have e1 : e * f.binade + (f.binade + t) = (e + 1) * f.binade + t := by rw [Nat.add_mul, Nat.one_mul, Nat.add_assoc]
    rw [e1]
    unfold U
    have hle : f.binade ≤ (e + 1) * f.binade := Nat.le_mul_of_pos_left _ (by omega)
    rw [if_neg (by omega), mod_at _ ht, div_at _ ht]
    simp
  by_cases h2 : k = 2 * f.binade
  · subst h2
    have e1 : e * f.binade + 2 * f.binade = (e + 1 + 1) * f.binade + 0 := by rw [Nat.add_zero, Nat.add_assoc, Nat.add_mul]
    rw [e1]
    unfold U
    have hle : f.binade ≤ (e + 1 + 1) * f.binade := Nat.le_mul_of_pos_left _ (by omega)
    rw [if_neg (by omega), mod_at _ hB, div_at _ hB]
    simp [Nat.pow_succ, Nat.mul_comm, Nat.mul_left_comm, Nat.mul_assoc]
  · rcases h with ⟨rfl, h⟩ | ⟨h1, h⟩
    · by_cases hk : k < f.binade
      · simp [U, hk]
      · exact key k (by omega) (by omega)
    · exact key k h1 (by omega)

/-- Every rung is of that form. -/
theorem rung_form (f : Format) (r : Nat) : ∃ e k, r = e * f.binade + k ∧ ((e = 0 ∧ k < f.binade) ∨ (f.binade ≤ k ∧ k < 2 * f.binade)) := by
  have hB := binade_pos f
  by_cases h : r < f.binade
  · exact ⟨0, r, by simp, .inl ⟨rfl, h⟩⟩
  · have hq : 1 ≤ r / f.binade := (Nat.one_le_div_iff hB).2 (by omega)
    have hm := Nat.mod_lt r hB
    refine ⟨r / f.binade - 1, f.binade + r % f.binade, ?_, .inr ⟨by omega, by omega⟩⟩
    have e := Nat.div_add_mod r f.binade
    obtain ⟨q, hq'⟩ : ∃ q, r / f.binade = q + 1 := ⟨r / f.binade - 1, by omega⟩
    rw [hq'] at e ⊢
    rw [Nat.add_sub_cancel]
    rw [Nat.mul_add, Nat.mul_one, Nat.mul_comm] at e
    omega

theorem U_succ (f : Format) (r : Nat) : U f r < U f (r + 1) := by
  have hB := binade_pos f
  obtain ⟨e, k, rfl, h⟩ := rung_form f r
  rw [Nat.add_assoc, U_at f e k (by omega), U_at f e (k + 1) (by omega)]
  exact Nat.mul_lt_mul_of_pos_right (by omega) (Nat.two_pow_pos _)

theorem U_lt {f : Format} {r s : Nat} (h : r < s) : U f r < U f s := by
  induction s with
  | zero => omega
  | succ s ih =>
    by_cases hrs : r = s
    · subst hrs; exact U_succ f r
    · exact Nat.lt_trans (ih (by omega)) (U_succ f s)
theorem U_le {f : Format} {r s : Nat} (h : r ≤ s) : U f r ≤ U f s := by
  by_cases e : r = s
  · subst e; exact Nat.le_refl _
  · exact Nat.le_of_lt (U_lt (by omega))
theorem le_of_U {f : Format} {r s : Nat} (h : U f r ≤ U f s) : r ≤ s := by
  rcases Nat.lt_or_ge s r with h1 | h1
  · have := U_lt (f := f) h1; omega
  · exact h1
theorem lt_of_U {f : Format} {r s : Nat} (h : U f r < U f s) : r < s := by
  rcases Nat.lt_or_ge r s with h1 | h1
  · exact h1
  · have := U_le (f := f) h1; omega
theorem U_inj {f : Format} {r s : Nat} (h : U f r = U f s) : r = s :=
  Nat.le_antisymm (le_of_U (Nat.le_of_eq h)) (le_of_U (Nat.le_of_eq h.symm))

/-- A great rung stands for a multiple of a power of two. -/
theorem U_dvd {f : Format} {r e : Nat} (h : f.binade * 2 ^ e ≤ U f r) : ∃ N, U f r = N * 2 ^ e := by
  have hB := binade_pos f
  obtain ⟨q, k, rfl, hk⟩ := rung_form f r
  rw [U_at f q k (by omega)] at h ⊢
  by_cases hqe : e ≤ q
  · refine ⟨k * 2 ^ (q - e), ?_⟩
    rw [Nat.mul_assoc, ← Nat.pow_add]
    congr 2
    omega
  · exfalso
    have h1 : 2 ^ (q + 1) ≤ 2 ^ e := Nat.pow_le_pow_right (by omega) (by omega)
    have h2 : k * 2 ^ q < f.binade * 2 ^ e := by
      calc k * 2 ^ q < (2 * f.binade) * 2 ^ q := Nat.mul_lt_mul_of_pos_right (by omega) (Nat.two_pow_pos _)
        _ = f.binade * 2 ^ (q + 1) := by rw [Nat.pow_succ, Nat.mul_comm 2, Nat.mul_assoc, Nat.mul_comm 2]
        _ ≤ f.binade * 2 ^ e := Nat.mul_le_mul_left _ h1
    omega

/-! ### cut -/
theorem gap_cases (n drop : Nat) : (1 <<< min drop (n.log2 + 2) = 2 ^ drop) ∨ (2 * n < 1 <<< min drop (n.log2 + 2) ∧ 1 <<< min drop (n.log2 + 2) ≤ 2 ^ drop) := by
  rw [Nat.shiftLeft_eq, Nat.one_mul]
  by_cases h : drop ≤ n.log2 + 2
  · left; rw [Nat.min_eq_left h]
  · right
    rw [Nat.min_eq_right (by omega)]
    have h1 : n < 2 ^ (n.log2 + 1) := Nat.lt_log2_self
    refine ⟨?_, Nat.pow_le_pow_right (by omega) (by omega)⟩
    rw [Nat.pow_succ]
    omega

theorem cut_le {s : Bool} {n drop N : Nat} (h : n ≤ N * 2 ^ drop) : Toward.even.cut s n drop ≤ N := by
  unfold Toward.cut
  dsimp only
  rcases gap_cases n drop with hg | ⟨h2, _⟩
  · rw [hg]
    have hpos : 0 < 2 ^ drop := Nat.two_pow_pos _
    have hdm := Nat.div_add_mod n (2 ^ drop)
    have hm := Nat.mod_lt n hpos
    have hle : n / 2 ^ drop ≤ N := by
      calc n / 2 ^ drop ≤ N * 2 ^ drop / 2 ^ drop := Nat.div_le_div_right h
        _ = N := Nat.mul_div_cancel _ hpos
    by_cases he : n / 2 ^ drop = N
    · have hr : n % 2 ^ drop = 0 := by
        rw [he, Nat.mul_comm] at hdm; omega
      rw [hr, he]
      have e1 : (decide (2 ^ drop < 2 * 0)) = false := by simp
      have e2 : (2 ^ drop == 2 * 0) = false := by simp
      simp [e2]
    · generalize (decide (2 ^ drop < 2 * (n % 2 ^ drop)) || 2 ^ drop == 2 * (n % 2 ^ drop) && n / 2 ^ drop % 2 == 1) = c
      cases c <;> simp <;> omega
  · generalize hgap : 1 <<< min drop (n.log2 + 2) = g at *
    have hlt : n < g := by omega
    rw [Nat.div_eq_of_lt hlt, Nat.mod_eq_of_lt hlt]
    have e1 : decide (g < 2 * n) = false := by simp; omega
    have e2 : (g == 2 * n) = false := by simp; omega
    rw [e1, e2]
    simp

theorem le_cut {s : Bool} {n drop N : Nat} (h : N * 2 ^ drop ≤ n) : N ≤ Toward.even.cut s n drop := by
  unfold Toward.cut
  dsimp only
  refine Nat.le_trans ?_ (Nat.le_add_right _ _)
  rcases gap_cases n drop with hg | ⟨h2, h3⟩
  · rw [hg]
    have hpos : 0 < 2 ^ drop := Nat.two_pow_pos _
    calc N = N * 2 ^ drop / 2 ^ drop := (Nat.mul_div_cancel _ hpos).symm
      _ ≤ n / 2 ^ drop := Nat.div_le_div_right h
  · have : N = 0 := by
      rcases Nat.eq_zero_or_pos N with h0 | h0
      · exact h0
      · have : 2 ^ drop ≤ N * 2 ^ drop := Nat.le_mul_of_pos_left _ h0
        omega
    rw [this]
    exact Nat.zero_le _

/-! ### nearest -/
/-- The rung of the word nearest to mag * 2^place. -/
def rnd (f : Format) (mag : Nat) (place : Int) : Nat :=
  if mag = 0 then 0 else
  let last := max (place + mag.log2 - f.fractionBits) f.leastPlace
  min ((last - f.leastPlace).toNat * f.binade + Toward.even.cut false (mag <<< (place - last).toNat) (last - place).toNat) f.infRung

theorem cut_sign (s t : Bool) (n drop : Nat) : Toward.even.cut s n drop = Toward.even.cut t n drop := rfl

theorem nearest_eq (f : Format) (s : Bool) (mag : Nat) (place : Int) : f.nearest s mag place = f.word s (rnd f mag place) := by
  unfold Format.nearest rnd
  by_cases h : mag = 0
  · simp [h]
  · simp only [h, if_false]
    rfl

theorem rnd_le_inf (f : Format) (mag : Nat) (place : Int) : rnd f mag place ≤ f.infRung := by
  unfold rnd
  split
  · exact Nat.zero_le _
  · exact Nat.min_le_right ..

/-- The value mag * 2^place is at most that of rung r. -/
def LeU (f : Format) (mag : Nat) (place : Int) (r : Nat) : Prop := mag * 2 ^ (place - f.leastPlace).toNat ≤ U f r * 2 ^ (f.leastPlace - place).toNat
def GeU (f : Format) (mag : Nat) (place : Int) (r : Nat) : Prop := U f r * 2 ^ (f.leastPlace - place).toNat ≤ mag * 2 ^ (place - f.leastPlace).toNat


theorem pow_cancel {X Y c d k : Nat} : X * 2 ^ (c + k) ≤ Y * 2 ^ (d + k) ↔ X * 2 ^ c ≤ Y * 2 ^ d := by
  rw [Nat.pow_add, Nat.pow_add, ← Nat.mul_assoc, ← Nat.mul_assoc]
  exact ⟨fun h => Nat.le_of_mul_le_mul_right h (Nat.two_pow_pos _), fun h => Nat.mul_le_mul_right _ h⟩

theorem binade_eq (f : Format) : f.binade = 2 ^ f.fractionBits := rfl

/-- What 'nearest' does: an exponent e and kept digits. -/
theorem rnd_form (f : Format) {mag : Nat} (hm : mag ≠ 0) (place : Int) : ∃ e c d : Nat,
    rnd f mag place = min (e * f.binade + Toward.even.cut false (mag * 2 ^ c) d) f.infRung ∧
    (place - f.leastPlace).toNat + d = c + (f.leastPlace - place).toNat + e ∧
    ((e = 0 ∧ mag * 2 ^ c ≤ 2 * f.binade * 2 ^ d) ∨ (f.binade * 2 ^ d ≤ mag * 2 ^ c ∧ mag * 2 ^ c ≤ 2 * f.binade * 2 ^ d)) := by
  have h1 : 2 ^ mag.log2 ≤ mag := Nat.log2_self_le hm
  have h2 : mag < 2 ^ (mag.log2 + 1) := Nat.lt_log2_self
  unfold rnd
  rw [if_neg hm]
  dsimp only
  generalize hL : mag.log2 = L at *
  rw [binade_eq]
  generalize f.fractionBits = fb
  generalize f.leastPlace = lp
  by_cases hcase : place + L - fb ≤ lp
  · rw [Int.max_eq_right hcase]
    refine ⟨0, (place - lp).toNat, (lp - place).toNat, ?_, by omega, .inl ⟨rfl, ?_⟩⟩
    · rw [Nat.shiftLeft_eq]; simp
    · have : mag * 2 ^ (place - lp).toNat ≤ 2 ^ (L + 1) * 2 ^ (place - lp).toNat := Nat.mul_le_mul_right _ (by omega)
      refine Nat.le_trans this ?_
      rw [show 2 * 2 ^ fb = 2 ^ (fb + 1) by rw [Nat.pow_succ, Nat.mul_comm], ← Nat.pow_add, ← Nat.pow_add]
      exact Nat.pow_le_pow_right (by omega) (by omega)
  · rw [Int.max_eq_left (by omega)]
    refine ⟨(place + L - fb - lp).toNat, (place - (place + L - fb)).toNat, (place + L - fb - place).toNat, ?_, by omega, .inr ⟨?_, ?_⟩⟩
    · rw [Nat.shiftLeft_eq]
    · rw [← Nat.pow_add]
      refine Nat.le_trans ?_ (Nat.mul_le_mul_right _ h1)
      rw [← Nat.pow_add]
      exact Nat.pow_le_pow_right (by omega) (by omega)
    · have : mag * 2 ^ (place - (place + L - fb)).toNat ≤ 2 ^ (L + 1) * 2 ^ (place - (place + L - fb)).toNat := Nat.mul_le_mul_right _ (by omega)
      refine Nat.le_trans this ?_
      rw [show 2 * 2 ^ fb = 2 ^ (fb + 1) by rw [Nat.pow_succ, Nat.mul_comm], ← Nat.pow_add, ← Nat.pow_add]
      exact Nat.pow_le_pow_right (by omega) (by omega)

/-- ROUNDING IS MONOTONE: what is at most a word's number is rounded to at most that word. -/
theorem rnd_le {f : Format} {mag : Nat} {place : Int} {r : Nat} (h : LeU f mag place r) : rnd f mag place ≤ r := by
  by_cases hm : mag = 0
  · unfold rnd; rw [if_pos hm]; exact Nat.zero_le _
  obtain ⟨e, c, d, hr, hacd, hk⟩ := rnd_form f hm place
  unfold LeU at h
  generalize (place - f.leastPlace).toNat = a at *
  generalize (f.leastPlace - place).toNat = b at *
  rw [hr]
  refine Nat.le_trans (Nat.min_le_left _ _) ?_
  have hup : mag * 2 ^ c ≤ 2 * f.binade * 2 ^ d := by rcases hk with ⟨_, h⟩ | ⟨_, h⟩ <;> exact h
  have hcut2 := cut_le (s := false) hup
  rcases hk with ⟨rfl, hk⟩ | ⟨hk, _⟩
  · have h' : mag * 2 ^ c ≤ U f r * 2 ^ d := by
      have e1 : mag * 2 ^ (c + (a + b)) ≤ U f r * 2 ^ (d + (a + b)) := by
        have e2 : c + (a + b) = a + (d + a) := by omega
        have e3 : d + (a + b) = b + (d + a) := by omega
        rw [e2, e3]
        exact pow_cancel.2 h
      exact pow_cancel.1 e1
    have hc := cut_le (s := false) h'
    have hu := U_at f 0 _ (.inl ⟨rfl, hcut2⟩)
    rw [Nat.pow_zero, Nat.mul_one] at hu
    exact le_of_U (by rw [hu]; exact hc)
  · have hlow := le_cut (s := false) hk
    have hB : f.binade * 2 ^ e ≤ U f r := by
      have e1 : f.binade * 2 ^ d * 2 ^ (a + e) ≤ mag * 2 ^ c * 2 ^ (a + e) := Nat.mul_le_mul_right _ hk
      have e2 : mag * 2 ^ a * 2 ^ (c + e) ≤ U f r * 2 ^ b * 2 ^ (c + e) := Nat.mul_le_mul_right _ h
      rw [Nat.mul_assoc, Nat.mul_assoc, ← Nat.pow_add, ← Nat.pow_add] at e1 e2
      have e3 : f.binade * 2 ^ (d + (a + e)) ≤ U f r * 2 ^ (b + (c + e)) := by
        refine Nat.le_trans e1 ?_
        rw [show c + (a + e) = a + (c + e) by omega]
        exact e2
      rw [show d + (a + e) = e + (d + a) by omega, show b + (c + e) = 0 + (d + a) by omega] at e3
      have := pow_cancel.1 e3
      simpa using this
    obtain ⟨N, hN⟩ := U_dvd hB
    have h' : mag * 2 ^ c ≤ N * 2 ^ d := by
      rw [hN, Nat.mul_assoc, ← Nat.pow_add] at h
      have e1 : mag * 2 ^ (a + d) ≤ N * 2 ^ ((e + b) + d) := pow_cancel.2 h
      rw [show a + d = c + (b + e) by omega, show e + b + d = d + (b + e) by omega] at e1
      exact pow_cancel.1 e1
    have hc := cut_le (s := false) h'
    have hu := U_at f e _ (.inr ⟨hlow, hcut2⟩)
    refine le_of_U (f := f) ?_
    rw [hu, hN]
    exact Nat.mul_le_mul_right _ hc

theorem le_rnd {f : Format} {mag : Nat} {place : Int} {r : Nat} (hinf : r ≤ f.infRung) (h : GeU f mag place r) : r ≤ rnd f mag place := by
  by_cases hm : mag = 0
  · unfold GeU at h
    rw [hm, Nat.zero_mul] at h
    have h0 : U f r = 0 := by
      rcases Nat.eq_zero_or_pos (U f r) with h0 | h0
      · exact h0
      · have := Nat.mul_pos h0 (Nat.two_pow_pos (f.leastPlace - place).toNat); omega
    rcases Nat.eq_zero_or_pos r with hr | hr
    · omega
    · have := U_lt (f := f) hr; omega
  obtain ⟨e, c, d, hr, hacd, hk⟩ := rnd_form f hm place
  unfold GeU at h
  generalize (place - f.leastPlace).toNat = a at *
  generalize (f.leastPlace - place).toNat = b at *
  rw [hr]
  refine Nat.le_min.2 ⟨?_, hinf⟩
  have hup : mag * 2 ^ c ≤ 2 * f.binade * 2 ^ d := by rcases hk with ⟨_, h⟩ | ⟨_, h⟩ <;> exact h
  have hcut2 := cut_le (s := false) hup
  rcases hk with ⟨rfl, hk⟩ | ⟨hk, _⟩
  · have h' : U f r * 2 ^ d ≤ mag * 2 ^ c := by
      have e1 : U f r * 2 ^ (d + (a + b)) ≤ mag * 2 ^ (c + (a + b)) := by
        have e2 : c + (a + b) = a + (d + a) := by omega
        have e3 : d + (a + b) = b + (d + a) := by omega
        rw [e2, e3]
        exact pow_cancel.2 h
      exact pow_cancel.1 e1
    have hc := le_cut (s := false) h'
    have hu := U_at f 0 _ (.inl ⟨rfl, hcut2⟩)
    rw [Nat.pow_zero, Nat.mul_one] at hu
    exact le_of_U (by rw [hu]; exact hc)
  · have hlow := le_cut (s := false) hk
    have hu := U_at f e _ (.inr ⟨hlow, hcut2⟩)
    refine le_of_U (f := f) ?_
    rw [hu]
    by_cases hB : f.binade * 2 ^ e ≤ U f r
    · obtain ⟨N, hN⟩ := U_dvd hB
      have h' : N * 2 ^ d ≤ mag * 2 ^ c := by
        rw [hN, Nat.mul_assoc, ← Nat.pow_add] at h
        have e1 : N * 2 ^ ((e + b) + d) ≤ mag * 2 ^ (a + d) := pow_cancel.2 h
        rw [show a + d = c + (b + e) by omega, show e + b + d = d + (b + e) by omega] at e1
        exact pow_cancel.1 e1
      rw [hN]
      exact Nat.mul_le_mul_right _ (le_cut (s := false) h')
    · exact Nat.le_trans (by omega) (Nat.mul_le_mul_right _ hlow)

/-- A number that a word stands for is rounded to that word. -/
theorem rnd_exact {f : Format} {mag : Nat} {place : Int} {r : Nat} (hinf : r ≤ f.infRung) (h : mag * 2 ^ (place - f.leastPlace).toNat = U f r * 2 ^ (f.leastPlace - place).toNat) : rnd f mag place = r :=
  Nat.le_antisymm (rnd_le (Nat.le_of_eq h)) (le_rnd hinf (Nat.le_of_eq h.symm))

end Go.Proofs.Ytaannebjpmdhjaa.Fl
