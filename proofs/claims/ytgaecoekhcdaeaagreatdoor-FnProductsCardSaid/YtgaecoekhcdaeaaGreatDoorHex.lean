/-
  Plain laws of hexadecimal digits. No program is in sight.
-/
import Derived.Lib.Strings
namespace Go.Proofs.YtgaecoekhcdaeaaGreatDoor
set_option linter.unusedVariables false
set_option linter.unusedSimpArgs false
set_option maxRecDepth 20000

/-- A hexadecimal digit. -/
def hxd (d : Nat) : UInt8 := UInt8.ofNat (if d < 10 then 48 + d else 87 + d)
theorem hxd_nat {d : Nat} (h : d < 16) : (hxd d).toNat = if d < 10 then 48 + d else 87 + d := by
  unfold hxd
  rw [UInt8.toNat_ofNat_of_lt' (by split <;> (show _ < 256; omega))]
/-- The digits of a number, without zeros ahead. -/
def hexL (u : Nat) : List UInt8 := if h : u < 16 then [hxd u] else hexL (u / 16) ++ [hxd (u % 16)]
termination_by u
decreasing_by omega
theorem hexL_low {u : Nat} (h : u < 16) : hexL u = [hxd u] := by rw [hexL, dif_pos h]
theorem hexL_high {u : Nat} (h : ¬ u < 16) : hexL u = hexL (u / 16) ++ [hxd (u % 16)] := by rw [hexL, dif_neg h]
/-- The last k digits. -/
def hexW : Nat → Nat → List UInt8
  | 0, _ => []
  | k + 1, n => hexW k (n / 16) ++ [hxd (n % 16)]
theorem hexW_len (k : Nat) : ∀ n, (hexW k n).length = k := by
  induction k with
  | zero => intro n; rfl
  | succ k ih => intro n; simp [hexW, ih]
theorem hexW_zero (k : Nat) : hexW k 0 = List.replicate k 48 := by
  induction k with
  | zero => rfl
  | succ k ih =>
    rw [hexW, Nat.zero_div, ih, List.replicate_succ']
    rfl
theorem hexL_pad (k : Nat) : ∀ n, n < 16 ^ (k + 1) → (hexL n).length ≤ k + 1 ∧ List.replicate (k + 1 - (hexL n).length) 48 ++ hexL n = hexW (k + 1) n := by
  induction k with
  | zero =>
    intro n hn
    have h : n < 16 := by simpa using hn
    rw [hexL_low h]
    refine ⟨by simp, ?_⟩
    simp [hexW, Nat.mod_eq_of_lt h]
  | succ k ih =>
    intro n hn
    by_cases h : n < 16
    · rw [hexL_low h]
      refine ⟨by simp, ?_⟩
      rw [hexW, Nat.div_eq_of_lt h, hexW_zero, Nat.mod_eq_of_lt h]
      simp
    · have h2 : n / 16 < 16 ^ (k + 1) := by
        rw [Nat.pow_succ] at hn
        exact Nat.div_lt_of_lt_mul (by omega)
      obtain ⟨h3, h4⟩ := ih _ h2
      rw [hexL_high h]
      refine ⟨by simp; omega, ?_⟩
      rw [hexW, ← h4, List.length_append, List.length_singleton, show k + 1 + 1 - ((hexL (n / 16)).length + 1) = k + 1 - (hexL (n / 16)).length by omega, List.append_assoc]
/-- The eight digits of a number. -/
def hex8 (n : Nat) : List UInt8 := hexW 8 n
theorem hex8_len (n : Nat) : (hex8 n).length = 8 := hexW_len 8 n
theorem hex8_pad {n : Nat} (h : n < 4294967296) : (hexL n).length ≤ 8 ∧ List.replicate (8 - (hexL n).length) 48 ++ hexL n = hex8 n := hexL_pad 7 n (by simpa using h)
/-- The digits as the reference makes them: from the left. -/
theorem hexW_left (n : Nat) : ∀ k, hexW (k + 1) n = hxd (n / 16 ^ k % 16) :: hexW k n := by
  intro k
  induction k generalizing n with
  | zero => simp [hexW]
  | succ k ih =>
    rw [hexW, ih, hexW]
    rw [Nat.div_div_eq_div_mul, ← Nat.pow_succ', List.cons_append]
def isH (c : UInt8) : Bool := (decide (48 ≤ c.toNat) && decide (c.toNat ≤ 57)) || (decide (97 ≤ c.toNat) && decide (c.toNat ≤ 102))
def hdv (c : UInt8) : Nat := if c.toNat ≤ 57 then c.toNat - 48 else c.toNat - 87
def hfold (n : Nat) (l : List UInt8) : Nat := l.foldl (fun n c => 16 * n + hdv c) n
theorem hfold_snoc (n : Nat) (l : List UInt8) (c : UInt8) : hfold n (l ++ [c]) = 16 * hfold n l + hdv c := by simp [hfold]
theorem hdv_lt {c : UInt8} (h : isH c = true) : hdv c < 16 := by
  unfold isH at h
  unfold hdv
  simp at h
  split <;> omega
theorem hxd_hdv {c : UInt8} (h : isH c = true) : hxd (hdv c) = c := by
  apply UInt8.toNat_inj.1
  rw [hxd_nat (hdv_lt h)]
  unfold isH at h
  unfold hdv
  simp at h
  split <;> split <;> omega
theorem hdv_hxd {d : Nat} (h : d < 16) : isH (hxd d) = true ∧ hdv (hxd d) = d := by
  unfold isH hdv
  rw [hxd_nat h]
  constructor
  · split <;> simp <;> omega
  · split <;> split <;> omega
theorem hfold_lt (l : List UInt8) (h : l.all isH = true) : ∀ n, hfold n l < (n + 1) * 16 ^ l.length := by
  induction l with
  | nil => intro n; simp [hfold]
  | cons c r ih =>
    intro n
    simp only [List.all_cons, Bool.and_eq_true] at h
    have hc := hdv_lt h.1
    refine Nat.lt_of_lt_of_le (ih h.2 (16 * n + hdv c)) ?_
    rw [List.length_cons, Nat.pow_succ]
    rw [show (n + 1) * (16 ^ r.length * 16) = (16 * n + 16) * 16 ^ r.length by rw [Nat.mul_comm (16 ^ r.length) 16, ← Nat.mul_assoc]; congr 1; omega]
    exact Nat.mul_le_mul_right _ (by omega)
/-- A text's number. -/
def hval (l : List UInt8) : Nat := hfold 0 l
theorem hval_lt {l : List UInt8} (h : l.all isH = true) (h8 : l.length = 8) : hval l < 4294967296 := by
  have := hfold_lt l h 0
  rw [h8] at this
  exact this
theorem hexW_fold (l : List UInt8) (h : l.all isH = true) : hexW l.length (hval l) = l := by
  suffices H : ∀ k, ∀ l : List UInt8, l.length = k → l.all isH = true → hexW k (hval l) = l from H _ l rfl h
  intro k
  induction k with
  | zero => intro l hl _; rw [List.length_eq_zero_iff.1 hl]; rfl
  | succ k ih =>
    intro l hl h
    have hne : l ≠ [] := by intro e; subst e; cases hl
    obtain ⟨r, c, rfl⟩ : ∃ r c, l = r ++ [c] := ⟨l.dropLast, l.getLast hne, (List.dropLast_concat_getLast hne).symm⟩
    simp only [List.all_append, List.all_cons, List.all_nil, Bool.and_true, Bool.and_eq_true] at h
    have hc := hdv_lt h.2
    have e : hval (r ++ [c]) = 16 * hval r + hdv c := hfold_snoc 0 r c
    rw [e, hexW, show (16 * hval r + hdv c) / 16 = hval r by omega, show (16 * hval r + hdv c) % 16 = hdv c by omega, hxd_hdv h.2, ih r (by simpa using hl) h.1]
theorem hex8_fold {l : List UInt8} (h : l.all isH = true) (h8 : l.length = 8) : hex8 (hval l) = l := by
  have := hexW_fold l h
  rw [h8] at this
  exact this
theorem hexW_all (k : Nat) : ∀ n, (hexW k n).all isH = true ∧ (n < 16 ^ k → hval (hexW k n) = n) := by
  induction k with
  | zero => intro n; exact ⟨rfl, fun h => by simp at h; subst h; rfl⟩
  | succ k ih =>
    intro n
    have hm : n % 16 < 16 := Nat.mod_lt _ (by decide)
    obtain ⟨h1, h2⟩ := hdv_hxd hm
    obtain ⟨h3, h4⟩ := ih (n / 16)
    refine ⟨by rw [hexW, List.all_append, h3]; simp [h1], fun h => ?_⟩
    have e : hval (hexW k (n / 16) ++ [hxd (n % 16)]) = 16 * hval (hexW k (n / 16)) + hdv (hxd (n % 16)) := hfold_snoc 0 _ _
    rw [hexW, e, h2, h4 (by rw [Nat.pow_succ] at h; exact Nat.div_lt_of_lt_mul (by omega))]
    omega
theorem hex8_all (n : Nat) : (hex8 n).all isH = true := (hexW_all 8 n).1
theorem hex8_val {n : Nat} (h : n < 4294967296) : hval (hex8 n) = n := (hexW_all 8 n).2 (by simpa using h)
/-- What the library's reader answers at base 16 and 32 bits. -/
inductive PuR where
  | ok (n : Nat)
  | bad
  | far
def udig (c : UInt8) : Nat := if 48 ≤ c.toNat ∧ c.toNat ≤ 57 then c.toNat - 48 else if 97 ≤ (c ||| 32).toNat ∧ (c ||| 32).toNat ≤ 122 then (c ||| 32).toNat - 97 + 10 else 99
def pu : Nat → List UInt8 → PuR
  | n, [] => .ok n
  | n, c :: r => if 16 ≤ udig c then .bad else if 4294967295 < n * 16 + udig c then .far else pu (n * 16 + udig c) r
theorem udig_isH {c : UInt8} (h : isH c = true) : udig c = hdv c := by
  have hall : ∀ c : UInt8, isH c = true → udig c = hdv c := by
    intro c
    have : ∀ n : Fin 256, isH (UInt8.ofNat n) = true → udig (UInt8.ofNat n) = hdv (UInt8.ofNat n) := by decide +kernel
    have h2 := this ⟨c.toNat, c.toNat_lt⟩
    simpa using h2
  exact hall c h
theorem pu_fold : ∀ (l : List UInt8) (n k : Nat), l.all isH = true → n < 16 ^ k → l.length + k ≤ 8 → pu n l = .ok (hfold n l)
  | [], n, k, _, _, _ => rfl
  | c :: r, n, k, h, hn, hk => by
    simp only [List.all_cons, Bool.and_eq_true] at h
    simp only [List.length_cons] at hk
    have hc := hdv_lt h.1
    have hp : 16 ^ (k + 1) ≤ 16 ^ 8 := Nat.pow_le_pow_right (by decide) (by omega)
    have hs : 16 ^ (k + 1) = 16 ^ k * 16 := Nat.pow_succ ..
    have h8 : (16 : Nat) ^ 8 = 4294967296 := by decide
    have hn1 : n * 16 + hdv c < 16 ^ (k + 1) := by omega
    rw [pu, udig_isH h.1, if_neg (by omega), if_neg (by omega), pu_fold r _ (k + 1) h.2 hn1 (by omega)]
    show PuR.ok (hfold _ r) = PuR.ok (hfold (16 * n + hdv c) r)
    rw [Nat.mul_comm]
theorem pu_hex {l : List UInt8} (h : l.all isH = true) (h8 : l.length = 8) : pu 0 l = .ok (hval l) := pu_fold l 0 0 h (by decide) (by omega)
theorem pu_le : ∀ (l : List UInt8) (n m : Nat), n ≤ 4294967295 → pu n l = .ok m → m ≤ 4294967295
  | [], n, m, hn, h => by
    have h1 : PuR.ok n = PuR.ok m := h
    injection h1 with h1
    omega
  | c :: r, n, m, hn, h => by
    rw [pu] at h
    split at h
    · cases h
    · split at h
      · cases h
      · exact pu_le r _ m (by omega) h
end Go.Proofs.YtgaecoekhcdaeaaGreatDoor
