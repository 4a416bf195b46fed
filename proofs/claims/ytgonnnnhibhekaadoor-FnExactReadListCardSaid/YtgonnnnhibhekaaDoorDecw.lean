/-
  Decimals at both sides; reading one.
-/
import Derived.Test.YtgonnnnhibhekaaDoorTxt
import Derived.Test.YtgonnnnhibhekaaDoorSh1
import Derived.Test.YtgonnnnhibhekaaDoorSh3
import Derived.Test.YtgonnnnhibhekaaDoorReadp
import Derived.Test.YtgonnnnhibhekaaDoorPost
import Derived.WalkKit
import Derived.Lib.AtoiErrMem
namespace Go.Proofs.YtgonnnnhibhekaaDoor
set_option linter.unusedVariables false
set_option linter.unusedSimpArgs false
open Go.RowKit

theorem gPow : Tryd.prog.globalNamed "internal/strconv.uint64pow10" = some 0 := by kernel_rfl
theorem gPowT : (Tryd.prog.globals[0]?).map (·.type) = some 87 := by kernel_rfl
theorem tab_below {W W' : World} (h : Lib.TabIs Tryd.prog W "internal/strconv.uint64pow10" .u64 Lib.pow10Tab) (hb : Below W.heap.size W W') : Lib.TabIs Tryd.prog W' "internal/strconv.uint64pow10" .u64 Lib.pow10Tab := by
  have hlt : 0 < W.heap.size := World.block_lt_of_cell? W ⟨0, 0, none⟩ (h.cell gPow 0 (by decide))
  unfold Lib.TabIs World.var? at h ⊢
  rw [gPow] at h ⊢
  simp only [Option.bind_some] at h ⊢
  rw [hb.block 0 hlt]
  exact h
theorem below_grow {w w1 : World} (h : Below w.heap.size w w1) (k : Nat) (os : Array Obj) : Below w.heap.size w (Go.Sort.grow (w1.drewN k) os) :=
  ⟨h.os, h.tape, h.output, by show _ ≤ (w1.heap ++ os).size; rw [Array.size_append]; exact Nat.le_trans h.size (Nat.le_add_right _ _), fun i hi => by
    show (w1.heap ++ os)[i]? = _
    rw [Array.getElem?_append_left (Nat.lt_of_lt_of_le hi h.size)]
    exact h.block i hi⟩
theorem int_wf {n : Int} (h : (Lit.int .i64 n).wf = true) : -9223372036854775808 ≤ n ∧ n ≤ 9223372036854775807 := by
  simp [Lit.wf, IntKind.min, IntKind.max, IntKind.signed, IntKind.bits] at h
  omega
theorem sDecimal_any (n : Int) (h0 : -9223372036854775808 ≤ n) (h1 : n ≤ 9223372036854775807) (w : World) : Calls Tryd.prog 8 #[.int .i64 n] w fun e w' => e = .returned (.string ⟨(Lib.itoa n).toArray⟩) ∧ Below w.heap.size w w' := by
  have HS := Lib.hid (l01Dec_any n h0 h1 w)
  clear h0 h1
  go_enter Tryd.func8, Tryd.ntmps8
  go_wp2_with fail
  refine HS.out.mono ?_
  rintro e w1 ⟨rfl, hb1⟩
  go_wp2_with fail
  go_ret
  exact ⟨rfl, hb1⟩
theorem iDecimal_any (n : Int) (h0 : -9223372036854775808 ≤ n) (h1 : n ≤ 9223372036854775807) (w : World) (ht : Lib.TabIs Tryd.prog w "internal/strconv.uint64pow10" .u64 Lib.pow10Tab) : Calls Tryd.prog 9 #[.int .i64 n] w fun e w' => e = .returned (.string ⟨(Lib.itoa n).toArray⟩) ∧ Below w.heap.size w w' := by
  have HS := Lib.hid (Tryd.strconv_FormatInt_10 n h0 h1 w ht)
  clear h0 h1 ht
  go_enter Tryd.func9, Tryd.ntmps9
  go_wp2_with fail
  refine HS.out.mono ?_
  rintro e w1 ⟨rfl, k, os, rfl⟩
  have hb := below_grow (Below.refl w.heap.size w) k os
  generalize Go.Sort.grow (w.drewN k) os = w1 at *
  go_wp2_with fail
  go_ret
  exact ⟨rfl, hb⟩
/-- The number with a text, as the reference takes it. -/
def rdv (l : List UInt8) : Int := if l.head? = some 45 then -(fold10 0 l : Int) else (fold10 0 l : Int)
def small (n : Int) : Bool := decide (-1000000000000000 ≤ n) && decide (n ≤ 1000000000000000)
/-- Whether a text is a small number's own. -/
def rdk (l : List UInt8) : Bool := small (rdv l) && decide (Lib.itoa (rdv l) = l)
theorem rdv_itoa (n : Int) : rdv (Lib.itoa n) = n := by
  have hf := fold_itoa n
  unfold rdv
  by_cases hn : n < 0
  · obtain ⟨r, hr⟩ := (head_itoa n).2 hn
    rw [if_pos (by rw [hr]; rfl), hf]; omega
  · have hh : ¬ (Lib.itoa n).head? = some 45 := fun h => by
      cases e : Lib.itoa n with
      | nil => rw [e] at h; cases h
      | cons c r => rw [e] at h; obtain rfl := Option.some.inj h; exact hn ((head_itoa n).1 ⟨r, e⟩)
    rw [if_neg hh, hf]; omega
/-- A small number with that text: it is the one that is read. -/
theorem rdk_of (n : Int) (h : small n = true) (l : List UInt8) (e : Lib.itoa n = l) : rdk l = true ∧ rdv l = n := by
  subst e
  unfold rdk
  rw [rdv_itoa, h]
  simp
theorem rdk_no (n : Int) (l : List UInt8) (hp : Lib.parseIntB 64 l = .ok n) (h : small n = false ∨ Lib.itoa n ≠ l) : rdk l = false := by
  cases hk : rdk l
  · rfl
  · unfold rdk at hk
    simp only [Bool.and_eq_true, decide_eq_true_eq] at hk
    have hs := hk.1
    unfold small at hs
    simp only [Bool.and_eq_true, decide_eq_true_eq] at hs
    have := parse_itoa (rdv l) hs.1 hs.2
    rw [hk.2, hp] at this
    injection this with this
    subst this
    rcases h with h | h
    · rw [hk.1] at h; cases h
    · exact absurd hk.2 h
theorem rdk_bad (l : List UInt8) (h : ∀ n, Lib.parseIntB 64 l ≠ .ok n) : rdk l = false := by
  cases hk : rdk l
  · rfl
  · unfold rdk at hk
    simp only [Bool.and_eq_true, decide_eq_true_eq] at hk
    have hs := hk.1
    unfold small at hs
    simp only [Bool.and_eq_true, decide_eq_true_eq] at hs
    have := parse_itoa (rdv l) hs.1 hs.2
    rw [hk.2] at this
    exact absurd this (h _)
theorem rdk_len (l : List UInt8) (h : l.length < 1 ∨ 17 < l.length) : rdk l = false := by
  cases hk : rdk l
  · rfl
  · unfold rdk at hk
    simp only [Bool.and_eq_true, decide_eq_true_eq] at hk
    have hs := hk.1
    unfold small at hs
    simp only [Bool.and_eq_true, decide_eq_true_eq] at hs
    have := length_itoa (rdv l) hs.1 hs.2
    rw [hk.2] at this
    omega
/-- What is returned. -/
def rdo (l : List UInt8) : Value := .tuple #[.int .i64 (if rdk l then rdv l else 0), .bool (rdk l)]
theorem l00In_any (n lo hi : Int) (w : World) : Calls Tryd.prog 34 #[.int .i64 n, .int .i64 lo, .int .i64 hi] w fun e w' => e = .returned (.bool (decide (lo ≤ n) && decide (n ≤ hi))) ∧ w' = w := by
  by_cases h : lo ≤ n
  · go_enter Tryd.func34, Tryd.ntmps34
    go_wp2
    go_ret
    refine ⟨?_, rfl⟩
    simp [h]
  · have h' : decide (lo ≤ n) = false := by simpa using h
    go_enter Tryd.func34, Tryd.ntmps34
    go_wp2
    go_ret
    refine ⟨?_, rfl⟩
    simp [h']
theorem within_any (n lo hi : Int) (w : World) : Calls Tryd.prog 37 #[.int .i64 n, .int .i64 lo, .int .i64 hi] w fun e w' => e = .returned (.bool (decide (lo ≤ n) && decide (n ≤ hi))) ∧ w' = w := by
  by_cases h : lo ≤ n
  · go_enter Tryd.func37, Tryd.ntmps37
    go_wp2
    go_ret
    refine ⟨?_, rfl⟩
    simp [h]
  · have h' : decide (lo ≤ n) = false := by simpa using h
    go_enter Tryd.func37, Tryd.ntmps37
    go_wp2
    go_ret
    refine ⟨?_, rfl⟩
    simp [h']
theorem isValue_any (n : Int) (w : World) : Calls Tryd.prog 26 #[.int .i64 n] w fun e w' => e = .returned (.bool (small n)) ∧ w' = w := by
  go_enter Tryd.func26, Tryd.ntmps26
  go_wp2_with (go_at_call 37; refine (within_any _ _ _ _).mono ?_; rintro e w' ⟨rfl, rfl⟩)
  go_ret
  exact ⟨rfl, rfl⟩
end Go.Proofs.YtgonnnnhibhekaaDoor
