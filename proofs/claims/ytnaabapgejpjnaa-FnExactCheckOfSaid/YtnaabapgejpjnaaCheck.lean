/-
  The check number of a text: what the loops of both functions compute. (Only where the seat holds them.)
-/
import Derived.Test.YtnaabapgejpjnaaProg
import Derived.WalkKit
namespace Go.Proofs.Ytnaabapgejpjnaa
set_option linter.unusedVariables false
set_option linter.unusedSimpArgs false
open Go.RowKit
def chk (n : Int) (l : List UInt8) : Int := l.foldl (fun n c => (829 * n + (c.toNat : Int) + 131) % 65003) n
theorem chk_bd (n : Int) (l : List UInt8) (h0 : 0 ≤ n) (h1 : n ≤ 65002) : 0 ≤ chk n l ∧ chk n l ≤ 65002 := by
  unfold chk
  induction l generalizing n with
  | nil => exact ⟨h0, h1⟩
  | cons c l ih =>
    rw [List.foldl_cons]
    exact ih _ (by omega) (by omega)
theorem chk_snoc (n : Int) (l : List UInt8) (c : UInt8) : chk n (l ++ [c]) = (829 * chk n l + (c.toNat : Int) + 131) % 65003 := by
  unfold chk
  rw [List.foldl_append]
  rfl
theorem take_snoc (s : ByteArray) (k : Nat) (h : k < s.size) : s.data.toList.take (k + 1) = s.data.toList.take k ++ [s[k]] := by
  rw [List.take_succ_eq_append_getElem (by simpa using h)]; rfl

theorem l00In_chk (n lo hi : Int) (w : World) : Calls Try.prog 30 #[.int .i64 n, .int .i64 lo, .int .i64 hi] w fun e w' => e = .returned (.bool (decide (lo ≤ n) && decide (n ≤ hi))) ∧ w' = w := by
  by_cases h : lo ≤ n
  · go_enter Try.func30, Try.ntmps30
    go_wp2
    go_ret
    refine ⟨?_, rfl⟩
    simp [h]
  · have h' : decide (lo ≤ n) = false := by simpa using h
    go_enter Try.func30, Try.ntmps30
    go_wp2
    go_ret
    refine ⟨?_, rfl⟩
    simp [h']
theorem ret_int {k : IntKind} {a b : Int} (h : a = b) : Ending.returned (.int k a) = .returned (.int k b) := by rw [h]

set_option maxHeartbeats 400000 in
theorem l01Check_any (n : Int) (s : ByteArray) (w : World) (h0 : 0 ≤ n) (h1 : n ≤ 65002) (hs : s.size ≤ 1048576) :
    Calls Try.prog 31 #[.int .i64 n, .string s] w fun e w' => e = .returned (.int .i64 (chk n s.data.toList)) ∧ w' = w := by
  go_enter Try.func31, Try.ntmps31
  go_wp2
  go_loop [0, 5] (fun m i => ∃ k : Nat, k ≤ s.size ∧ i = .int .i64 k ∧ m = .int .i64 (chk n (s.data.toList.take k))) (fun _ i => s.size - (intOf i).toNat)
  case atStart => exact ⟨0, Nat.zero_le _, rfl, rfl⟩
  case round =>
    obtain ⟨k, hk, rfl, rfl⟩ := hrel
    obtain ⟨hb0, hb1⟩ := chk_bd n (s.data.toList.take k) h0 h1
    by_cases hlt : k < s.size
    · have hc : s[k].toNat < 256 := s[k].toNat_lt
      have HS : Hid (chk n (s.data.toList.take (k + 1)) = (829 * chk n (s.data.toList.take k) + (s[k].toNat : Int) + 131) % 65003) := by rw [take_snoc s k hlt]; exact chk_snoc n _ _
      go_wp2
      all_goals
        go_round
        case rel => exact ⟨k + 1, by omega, by go_num, by rw [HS.out]⟩
        case measure => simp [intOf]; omega
    · go_wp2
      go_ret
      exact ⟨ret_int (by rw [List.take_of_length_le (by simp; omega)]), rfl⟩
theorem sCheckOf_yes (n : Int) (s : ByteArray) (w : World) (h0 : 0 ≤ n) (h1 : n ≤ 65002) (hs : s.size ≤ 1048576) :
    Calls Try.prog 21 #[.int .i64 n, .string s] w fun e w' => e = .returned (.tuple #[.int .i64 (chk n s.data.toList), .bool true]) ∧ w' = w := by
  go_enter Try.func21, Try.ntmps21
  go_wp2_with (first | (go_at_call 30; refine (l00In_chk _ _ _ _).mono ?_; rintro e w' ⟨rfl, rfl⟩) | (go_at_call 31; refine (l01Check_any _ _ _ h0 h1 hs).mono ?_; rintro e w' ⟨rfl, rfl⟩))
  go_ret2
  exact ⟨rfl, rfl⟩
theorem sCheckOf_no (n : Int) (s : ByteArray) (w : World) (h : n < 0 ∨ 65002 < n) :
    Calls Try.prog 21 #[.int .i64 n, .string s] w fun e w' => e = .returned (.tuple #[.int .i64 0, .bool false]) ∧ w' = w := by
  have hb : (decide (0 ≤ n) && decide (n ≤ 65002)) = false := by
    rcases h with h | h
    · simp; omega
    · simp; omega
  go_enter Try.func21, Try.ntmps21
  go_wp2_with (first | (go_at_call 30; refine (l00In_chk _ _ _ _).mono ?_; rintro e w' ⟨rfl, rfl⟩; rw [hb]))
  go_ret2
  exact ⟨rfl, rfl⟩
theorem within_chk (n lo hi : Int) (w : World) : Calls Try.prog 32 #[.int .i64 n, .int .i64 lo, .int .i64 hi] w fun e w' => e = .returned (.bool (decide (lo ≤ n) && decide (n ≤ hi))) ∧ w' = w := by
  by_cases h : lo ≤ n
  · go_enter Try.func32, Try.ntmps32
    go_wp2
    go_ret
    refine ⟨?_, rfl⟩
    simp [h]
  · have h' : decide (lo ≤ n) = false := by simpa using h
    go_enter Try.func32, Try.ntmps32
    go_wp2
    go_ret
    refine ⟨?_, rfl⟩
    simp [h']
theorem iCheckOf_no (n : Int) (s : ByteArray) (w : World) (h : n < 0 ∨ 65002 < n) :
    Calls Try.prog 22 #[.int .i64 n, .string s] w fun e w' => e = .returned (.tuple #[.int .i64 0, .bool false]) ∧ w' = w := by
  have hb : (decide (0 ≤ n) && decide (n ≤ 65002)) = false := by
    rcases h with h | h
    · simp; omega
    · simp; omega
  go_enter Try.func22, Try.ntmps22
  go_wp2_with (first | (go_at_call 32; refine (within_chk _ _ _ _).mono ?_; rintro e w' ⟨rfl, rfl⟩; rw [hb]))
  go_ret2
  exact ⟨rfl, rfl⟩
set_option maxHeartbeats 400000 in
theorem iCheckOf_yes (n : Int) (s : ByteArray) (w : World) (h0 : 0 ≤ n) (h1 : n ≤ 65002) (hs : s.size ≤ 1048576) :
    Calls Try.prog 22 #[.int .i64 n, .string s] w fun e w' => e = .returned (.tuple #[.int .i64 (chk n s.data.toList), .bool true]) ∧ w' = w := by
  go_enter Try.func22, Try.ntmps22
  go_wp2_with (first | (go_at_call 32; refine (within_chk _ _ _ _).mono ?_; rintro e w' ⟨rfl, rfl⟩))
  go_loop [0, 12] (fun m i => ∃ k : Nat, k ≤ s.size ∧ i = .int .i64 k ∧ m = .int .i64 (chk n (s.data.toList.take k))) (fun _ i => s.size - (intOf i).toNat)
  case atStart => exact ⟨0, Nat.zero_le _, rfl, rfl⟩
  case round =>
    obtain ⟨k, hk, rfl, rfl⟩ := hrel
    obtain ⟨hb0, hb1⟩ := chk_bd n (s.data.toList.take k) h0 h1
    by_cases hlt : k < s.size
    · have hc : s[k].toNat < 256 := s[k].toNat_lt
      have HS : Hid (chk n (s.data.toList.take (k + 1)) = (829 * chk n (s.data.toList.take k) + (s[k].toNat : Int) + 131) % 65003) := by rw [take_snoc s k hlt]; exact chk_snoc n _ _
      go_wp2
      all_goals
        go_round
        case rel => exact ⟨k + 1, by omega, by go_num, by rw [HS.out]⟩
        case measure => simp [intOf]; omega
    · go_wp2
      go_ret2
      exact ⟨congrArg (fun x => Ending.returned (.tuple #[.int .i64 x, .bool true])) (by rw [List.take_of_length_le (by simp; omega)]), rfl⟩
end Go.Proofs.Ytnaabapgejpjnaa
