/-
  Names: at both sides.
-/
import Derived.Test.YtgonnnnhibhekaaDoorSh2
import Derived.Test.YtgonnnnhibhekaaDoorPost
import Derived.Lib.SlBytesConst
import Derived.WalkKit
import Derived.Shelf.Strings.SlTrimAscii
namespace Go.Proofs.YtgonnnnhibhekaaDoor
set_option linter.unusedVariables false
set_option linter.unusedSimpArgs false
open Go.RowKit

def letters : ByteArray := ⟨#[97, 98, 99, 100, 101, 102, 103, 104, 105, 106, 107, 108, 109, 110, 111, 112, 113, 114, 115, 116, 117, 118, 119, 120, 121, 122]⟩
theorem trim_any (s : ByteArray) (hs : s.size ≤ 9223372036854775807) (w : World) :
    Calls Tryd.prog 32 #[.string s, .string letters] w fun e w' => e = .returned (.string ⟨(Lib.trimS s.data.toList letters.data.toList).toArray⟩) ∧ Below w.heap.size w w' :=
  Any.strings_Trim_laid Tryd.lays160 (by kernel_rfl) s letters w hs (by decide) (ascii_of_all (by decide))
/-! ### Names -/
def isL (b : UInt8) : Bool := decide (97 ≤ b.toNat) && decide (b.toNat ≤ 122)
theorem isL_eq (b : UInt8) : letters.data.toList.contains b = isL b := by
  have h : ∀ n : Nat, n < 256 → letters.data.toList.contains (UInt8.ofNat n) = isL (UInt8.ofNat n) := by decide +kernel
  have := h b.toNat b.toNat_lt
  simpa using this
theorem dw_nil (p : UInt8 → Bool) : ∀ l : List UInt8, l.dropWhile p = [] ↔ ∀ x ∈ l, p x = true := by
  intro l
  induction l with
  | nil => simp
  | cons a l ih =>
    rw [List.dropWhile_cons]
    cases h : p a
    · simp [h]
    · simp [h, ih]
theorem dw_head (p : UInt8 → Bool) : ∀ (l : List UInt8) (x : UInt8) (xs : List UInt8), l.dropWhile p = x :: xs → p x = false := by
  intro l
  induction l with
  | nil => intro x xs h; cases h
  | cons a l ih =>
    intro x xs h
    rw [List.dropWhile_cons] at h
    cases ha : p a
    · rw [ha] at h
      simp at h
      rw [← h.1]
      exact ha
    · rw [ha] at h
      exact ih x xs (by simpa using h)
def allL (s : ByteArray) : Bool := s.data.toList.all isL
def nmB (s : ByteArray) : Bool := allL s && (decide (1 ≤ s.size) && decide (s.size ≤ 8))
theorem trim_nil (l : List UInt8) : Lib.trimS l letters.data.toList = [] ↔ l.all isL = true := by
  have hp : (fun b => letters.data.toList.contains b) = isL := funext isL_eq
  unfold Lib.trimS Lib.trimLeftS Lib.trimRightS
  rw [show (letters.data.toList.contains ·) = isL from hp, dw_nil]
  constructor
  · intro h
    cases hq : l.reverse.dropWhile isL with
    | nil =>
      rw [dw_nil] at hq
      rw [List.all_eq_true]
      exact fun x hx => hq x (by simpa using hx)
    | cons x xs =>
      exfalso
      have h1 : isL x = true := h x (by rw [hq]; simp)
      have h2 := dw_head isL _ _ _ hq
      rw [h1] at h2
      cases h2
  · intro h x hx
    rw [List.all_eq_true] at h
    have : x ∈ l.reverse := by
      have hx' : x ∈ l.reverse.dropWhile isL := by simpa using hx
      exact (List.dropWhile_sublist isL).subset hx'
    exact h x (by simpa using this)
set_option maxHeartbeats 1000000 in
theorem iIsName_any (s : ByteArray) (hs : s.size ≤ 9223372036854775807) (w : World) : Calls Tryd.prog 21 #[.string s] w fun e w' => e = .returned (.bool (nmB s)) ∧ Below w.heap.size w w' := by
  have HT := Lib.hid (fun w' => trim_any s hs w')
  unfold nmB
  by_cases h1 : 1 ≤ s.size
  · by_cases h8 : s.size ≤ 8
    · cases ha : allL s
      · have hne : (Lib.trimS s.data.toList letters.data.toList).isEmpty = false := by
          cases hx : Lib.trimS s.data.toList letters.data.toList with
          | nil => rw [trim_nil] at hx; unfold allL at ha; rw [hx] at ha; cases ha
          | cons => rfl
        have hne2 : True := trivial
        generalize Lib.trimS s.data.toList letters.data.toList = L at *
        unfold letters at HT
        clear ha hne2
        go_enter Tryd.func21, Tryd.ntmps21
        go_wp2_with fail
        refine (HT.out _).mono ?_
        rintro e w1 ⟨rfl, hb⟩
        go_wp2_with fail
        go_ret
        exact ⟨by simp, hb⟩
      · have hnil := (trim_nil s.data.toList).2 ha
        rw [hnil] at HT
        unfold letters at HT
        clear ha hnil
        go_enter Tryd.func21, Tryd.ntmps21
        go_wp2_with fail
        refine (HT.out _).mono ?_
        rintro e w1 ⟨rfl, hb⟩
        go_wp2_with fail
        go_ret
        exact ⟨by simp [h1, h8], hb⟩
    · have hf : (allL s && (decide (1 ≤ s.size) && decide (s.size ≤ 8))) = false := by simp [h8]
      rw [hf]
      clear hf HT
      go_enter Tryd.func21, Tryd.ntmps21
      go_wp2_with fail
      go_ret
      exact ⟨rfl, Below.refl _ _⟩
  · have hf : (allL s && (decide (1 ≤ s.size) && decide (s.size ≤ 8))) = false := by simp [h1]
    rw [hf]
    clear hf HT
    go_enter Tryd.func21, Tryd.ntmps21
    go_wp2_with fail
    go_ret
    exact ⟨rfl, Below.refl _ _⟩
theorem take_snoc (s : ByteArray) (k : Nat) (h : k < s.size) : s.data.toList.take (k + 1) = s.data.toList.take k ++ [s[k]] := by
  rw [List.take_succ_eq_append_getElem (by simpa using h)]; rfl
set_option maxHeartbeats 1000000 in
theorem sIsName_any (s : ByteArray) (hs : s.size ≤ 9223372036854775807) (w : World) : Calls Tryd.prog 20 #[.string s] w fun e w' => e = .returned (.bool (nmB s)) ∧ w' = w := by
  go_enter Tryd.func20, Tryd.ntmps20
  go_wp2_with fail
  go_loop [3] (fun i => ∃ k : Nat, k ≤ s.size ∧ i = .int .i64 (k : Int) ∧ Hid ((s.data.toList.take k).all isL = true)) (fun i => s.size - (intOf i).toNat)
  case atStart => exact ⟨0, Nat.zero_le _, rfl, Lib.hid (by simp)⟩
  case round =>
    obtain ⟨k, hk, rfl, hall⟩ := hrel
    by_cases hlt : k < s.size
    · have hsn := take_snoc s k hlt
      cases hc : isL s[k]
      · have hf : nmB s = false := by
          have : allL s = false := by
            unfold allL
            rw [List.all_eq_false]
            refine ⟨s[k], ?_, by simp [hc]⟩
            have : s[k] ∈ s.data.toList.take (k + 1) := by rw [hsn]; simp
            exact List.mem_of_mem_take this
          unfold nmB
          rw [this]
          rfl
        have HF := Lib.hid hf
        have hd : (s[k].toNat : Int) < 97 ∨ (97 ≤ (s[k].toNat : Int) ∧ 122 < (s[k].toNat : Int)) := by
          unfold isL at hc
          simp at hc
          omega
        clear hf hsn hc
        rcases hd with hd | ⟨hd, hd2⟩
        all_goals
          go_wp2_with fail
          go_ret
          exact ⟨by rw [HF.out]; rfl, rfl⟩
      · have hd : 97 ≤ (s[k].toNat : Int) ∧ (s[k].toNat : Int) ≤ 122 := by
          unfold isL at hc
          simp at hc
          omega
        obtain ⟨hd1, hd2⟩ := hd
        have HN := Lib.hid (show (s.data.toList.take (k + 1)).all isL = true by rw [hsn, List.all_append, hall.out]; simp [hc])
        clear hsn hc
        go_wp2_with fail
        go_round
        case rel => exact ⟨k + 1, by omega, by go_num, HN⟩
        case measure => simp [intOf]; omega
    · obtain rfl : k = s.size := by omega
      have ha : allL s = true := by
        have := hall.out
        rw [List.take_of_length_le (by simp)] at this
        exact this
      clear hall
      by_cases h1 : 1 ≤ s.size
      · by_cases h8 : s.size ≤ 8
        · have HF := Lib.hid (show nmB s = true by unfold nmB; rw [ha]; simp [h1, h8])
          clear ha
          have h8i : decide ((s.size : Int) ≤ 8) = true := by simp; omega
          go_wp2_with fail
          go_ret
          exact ⟨by rw [HF.out]; rfl, rfl⟩
        · have HF := Lib.hid (show nmB s = false by unfold nmB; rw [ha]; simp [h8])
          clear ha
          have h8i : decide ((s.size : Int) ≤ 8) = false := by simp; omega
          go_wp2_with fail
          go_ret
          exact ⟨by rw [HF.out]; rfl, rfl⟩
      · have HF := Lib.hid (show nmB s = false by unfold nmB; rw [ha]; simp [h1])
        clear ha
        go_wp2_with fail
        go_ret
        exact ⟨by rw [HF.out]; rfl, rfl⟩
end Go.Proofs.YtgonnnnhibhekaaDoor
