/-
  ReadDecimal at both sides.
-/
import Derived.Test.YtgonnnnhibhekaaDoorDecw
import Derived.Lib.SlicesS
import Derived.Stop.LaidErr
namespace Go.Proofs.YtgonnnnhibhekaaDoor
set_option linter.unusedVariables false
set_option linter.unusedSimpArgs false
open Go.RowKit

theorem ba_eq (s : ByteArray) (l : List UInt8) : ((⟨l.toArray⟩ : ByteArray) = s) ↔ l = s.data.toList := by
  constructor
  · rintro rfl; simp
  · rintro rfl; cases s; simp
theorem below_ok {w w1 : World} {e : TypeId} (h : w1 = w ∨ ∃ t, w1 = Lib.bytesWorld w e t) : Below w.heap.size w w1 := by
  rcases h with h | ⟨t, h⟩
  · rw [h]; exact Below.refl _ _
  · rw [h]; exact Lib.bytesWorld_below _ _ _
set_option maxHeartbeats 1000000 in
theorem iReadDecimal_any (s : ByteArray) (hs : s.size ≤ 281474976710656) (w : World) (ht : Lib.TabIs Tryd.prog w "internal/strconv.uint64pow10" .u64 Lib.pow10Tab) (tp : TypeId) (p : Value) (h1 : w.var? Tryd.prog "strconv.ErrSyntax" = some #[.iface tp p]) (tq : TypeId) (q : Value) (h2 : w.var? Tryd.prog "strconv.ErrRange" = some #[.iface tq q]) :
    Calls Tryd.prog 11 #[.string s] w fun e w' => e = .returned (rdo s.data.toList) ∧ Below w.heap.size w w' := by
  rcases hp : Lib.parseIntB 64 s.data.toList with n | _ | _
  rotate_left 1
  · skip
    have HP : Hid (Calls Tryd.prog 25 #[.string s, .int .i64 10, .int .i64 64] w fun e w' => ∃ N, e = .returned (.tuple #[.int .i64 (0), .iface 70 (.pointer (some ⟨N, 0, none⟩))]) ∧ w.heap.size ≤ N ∧ w'.heap[N]? = some (.cells #[.string ⟨#[80, 97, 114, 115, 101, 73, 110, 116]⟩, .string s, .iface tp p] 95 (0, 0)) ∧ Below w.heap.size w w') := Lib.hid (Any.strconv_ParseInt_10_at64_syntax_var Tryd.laysC174 s hs hp tp p w h1)
    have hk : rdo s.data.toList = .tuple #[.int .i64 0, .bool false] := by unfold rdo; rw [rdk_bad _ (fun n h => by rw [hp] at h; cases h)]; rfl
    rw [hk]
    clear hp h1 h2 hk ht
    go_enter Tryd.func11, Tryd.ntmps11
    go_wp2_with fail
    refine HP.out.mono ?_
    rintro e w1 ⟨N, rfl, hN, hN2, hb⟩
    clear hN2
    go_wp2_with fail
    go_ret2
    exact ⟨rfl, hb⟩
  · skip
    have HP := Lib.hid (Tryd.strconv_ParseInt_10_at64_range_var s hs hp tq q w h2)
    have hk : rdo s.data.toList = .tuple #[.int .i64 0, .bool false] := by unfold rdo; rw [rdk_bad _ (fun n h => by rw [hp] at h; cases h)]; rfl
    rw [hk]
    clear hp h1 h2 hk ht
    generalize Lib.intSat 64 s.data.toList = x at *
    go_enter Tryd.func11, Tryd.ntmps11
    go_wp2_with fail
    refine HP.out.mono ?_
    rintro e w1 ⟨N, rfl, hN, hN2, hb⟩
    clear hN2
    go_wp2_with fail
    go_ret2
    exact ⟨rfl, hb⟩
  · skip
    have HP := Lib.hid (Tryd.strconv_ParseInt_10_at64_ok s (by omega) n hp w)
    have hbd := Lib.parseIntB_bounds hp
    have HS := Lib.hid (fun w' htab => iDecimal_any n (by have := hbd.1; simpa using this) (by have := hbd.2; simp at this; omega) w' htab)
    have HT := Lib.hid ht
    clear hbd h1 h2 ht
    cases hsm : small n with
    | false =>
      have hk : rdo s.data.toList = .tuple #[.int .i64 0, .bool false] := by unfold rdo; rw [rdk_no n _ hp (.inl hsm)]; rfl
      rw [hk]
      clear hp hk
      have HV := Lib.hid (fun w' => isValue_any n w')
      rw [hsm] at HV
      clear hsm
      go_enter Tryd.func11, Tryd.ntmps11
      go_wp2_with fail
      refine HP.out.mono ?_
      rintro e w1 ⟨rfl, hw1⟩
      have hb : Below w.heap.size w w1 := below_ok hw1
      clear hw1
      go_wp2_with fail
      refine (HV.out _).mono ?_
      rintro e w2 ⟨rfl, hw2⟩
      obtain rfl := hw2.symm
      go_wp2_with fail
      go_ret2
      exact ⟨rfl, hb⟩
    | true =>
      have HV := Lib.hid (fun w' => isValue_any n w')
      rw [hsm] at HV
      by_cases he : Lib.itoa n = s.data.toList
      · have hk : rdo s.data.toList = .tuple #[.int .i64 n, .bool true] := by
          obtain ⟨k1, k2⟩ := rdk_of n hsm _ he
          unfold rdo; rw [k1, k2]; rfl
        rw [hk]
        have he2 := (ba_eq s _).2 he
        rw [he2] at HS
        clear hp hk hsm he he2
        go_enter Tryd.func11, Tryd.ntmps11
        go_wp2_with fail
        refine HP.out.mono ?_
        rintro e w1 ⟨rfl, hw1⟩
        have hb : Below w.heap.size w w1 := below_ok hw1
        clear hw1
        go_wp2_with fail
        refine (HV.out _).mono ?_
        rintro e w2 ⟨rfl, hw2⟩
        obtain rfl := hw2.symm
        go_wp2_with fail
        refine (HS.out _ (tab_below HT.out hb)).mono ?_
        rintro e w3 ⟨rfl, hb3⟩
        have D := B_trans hb hb3
        clear hb hb3
        go_wp2_with fail
        go_ret2
        exact ⟨rfl, D⟩
      · have hk : rdo s.data.toList = .tuple #[.int .i64 0, .bool false] := by unfold rdo; rw [rdk_no n _ hp (.inr he)]; rfl
        rw [hk]
        have he2 : ¬ (⟨(Lib.itoa n).toArray⟩ : ByteArray) = s := fun h => he ((ba_eq s _).1 h)
        generalize (⟨(Lib.itoa n).toArray⟩ : ByteArray) = u at *
        have he3 : (u.toList == s.toList) = false := (Lib.bytes_beq_false_iff _ _).2 he2
        clear hp hk hsm he he2
        go_enter Tryd.func11, Tryd.ntmps11
        go_wp2_with fail
        refine HP.out.mono ?_
        rintro e w1 ⟨rfl, hw1⟩
        have hb : Below w.heap.size w w1 := below_ok hw1
        clear hw1
        go_wp2_with fail
        refine (HV.out _).mono ?_
        rintro e w2 ⟨rfl, hw2⟩
        obtain rfl := hw2.symm
        go_wp2_with fail
        refine (HS.out _ (tab_below HT.out hb)).mono ?_
        rintro e w3 ⟨rfl, hb3⟩
        have D := B_trans hb hb3
        clear hb hb3
        go_wp2_with fail
        go_ret2
        exact ⟨rfl, D⟩
theorem fold10_lt (l : List UInt8) : ∀ acc, fold10 acc l < (acc + 1) * 10 ^ l.length := by
  induction l with
  | nil => intro acc; simp [fold10]
  | cons c r ih =>
    intro acc
    show fold10 (if isD c then acc * 10 + (c.toNat - 48) else acc) r < _
    rw [List.length_cons, Nat.pow_succ]
    have hp : 0 < 10 ^ r.length := Nat.pow_pos (by decide)
    generalize 10 ^ r.length = P at *
    split
    · rename_i hc
      unfold isD at hc
      simp only [Bool.and_eq_true, decide_eq_true_eq] at hc
      refine Nat.lt_of_lt_of_le (ih _) ?_
      rw [show (acc + 1) * (P * 10) = (acc * 10 + 10) * P by rw [Nat.mul_comm P 10, ← Nat.mul_assoc, Nat.add_mul]]
      exact Nat.mul_le_mul_right _ (by omega)
    · refine Nat.lt_of_lt_of_le (ih _) ?_
      exact Nat.mul_le_mul_left _ (by omega)
theorem fold10_bd (l : List UInt8) (h : l.length ≤ 17) : fold10 0 l ≤ 100000000000000000 := by
  have := fold10_lt l 0
  have h2 : 10 ^ l.length ≤ 10 ^ 17 := Nat.pow_le_pow_right (by decide) h
  have h3 : (10 : Nat) ^ 17 = 100000000000000000 := by decide
  omega
theorem take_snoc' (s : ByteArray) (k : Nat) (h : k < s.size) : s.data.toList.take (k + 1) = s.data.toList.take k ++ [s[k]] := by
  rw [List.take_succ_eq_append_getElem (by simpa using h)]; rfl
theorem fold10_snoc (s : ByteArray) (k : Nat) (h : k < s.size) : fold10 0 (s.data.toList.take (k + 1)) = if isD s[k] then fold10 0 (s.data.toList.take k) * 10 + (s[k].toNat - 48) else fold10 0 (s.data.toList.take k) := by
  rw [take_snoc' s k h, fold10_append]; rfl
set_option maxHeartbeats 1000000 in
theorem sValue_far (s : ByteArray) (hs : s.size ≤ 281474976710656) (h : s.size < 1 ∨ 17 < s.size) (w : World) : Calls Tryd.prog 24 #[.string s] w fun e w' => e = .returned (rdo s.data.toList) ∧ Below w.heap.size w w' := by
  have hk : rdo s.data.toList = .tuple #[.int .i64 0, .bool false] := by unfold rdo; rw [rdk_len _ (by simpa using h)]; rfl
  rw [hk]
  clear hk
  rcases h with h | h
  · have h0 : decide ((s.size : Int) < 1) = true := by simp; omega
    go_enter Tryd.func24, Tryd.ntmps24
    go_wp2_with fail
    go_ret2
    exact ⟨rfl, Below.refl _ _⟩
  · have h0 : decide ((s.size : Int) < 1) = false := by simp; omega
    have h1 : decide ((s.size : Int) > 17) = true := by simp; omega
    go_enter Tryd.func24, Tryd.ntmps24
    go_wp2_with fail
    go_ret2
    exact ⟨rfl, Below.refl _ _⟩
theorem rd_cases (s : ByteArray) (V : Int) (hV : rdv s.data.toList = V) :
    (small V = false ∧ rdo s.data.toList = .tuple #[.int .i64 0, .bool false]) ∨
    (small V = true ∧ ((⟨(Lib.itoa V).toArray⟩ : ByteArray).toList == s.toList) = false ∧ rdo s.data.toList = .tuple #[.int .i64 0, .bool false]) ∨
    (small V = true ∧ (⟨(Lib.itoa V).toArray⟩ : ByteArray) = s ∧ rdo s.data.toList = .tuple #[.int .i64 V, .bool true]) := by
  subst hV
  cases hsm : small (rdv s.data.toList) with
  | false => exact .inl ⟨rfl, by unfold rdo rdk; rw [hsm]; rfl⟩
  | true =>
    by_cases he : Lib.itoa (rdv s.data.toList) = s.data.toList
    · exact .inr (.inr ⟨rfl, (ba_eq s _).2 he, by unfold rdo rdk; rw [hsm, he]; simp⟩)
    · exact .inr (.inl ⟨rfl, (Lib.bytes_beq_false_iff _ _).2 fun h => he ((ba_eq s _).1 h), by unfold rdo rdk; rw [hsm]; simp [he]⟩)
/-- Behind the loop: the number is told; what remains is a test. -/
def valHead (s : ByteArray) : Bool := decide (s.data.toList.head? = some 45)
set_option maxHeartbeats 2000000 in
theorem sValue_near (s : ByteArray) (h1 : 1 ≤ s.size) (h17 : s.size ≤ 17) (w : World) : Calls Tryd.prog 24 #[.string s] w fun e w' => e = .returned (rdo s.data.toList) ∧ Below w.heap.size w w' := by
  have hd0 : decide ((s.size : Int) < 1) = false := by simp; omega
  have hd1 : decide ((s.size : Int) > 17) = false := by simp; omega
  go_enter Tryd.func24, Tryd.ntmps24
  go_wp2_with fail
  clear hd0 hd1
  go_loop [4, 5] (fun m i => ∃ k : Nat, k ≤ s.size ∧ i = .int .i64 (k : Int) ∧ m = .int .i64 (fold10 0 (s.data.toList.take k) : Nat)) (fun _ i => s.size - (intOf i).toNat)
  case atStart => exact ⟨0, Nat.zero_le _, rfl, rfl⟩
  case round =>
    obtain ⟨k, hk, rfl, rfl⟩ := hrel
    by_cases hlt : k < s.size
    · have hbd := fold10_bd (s.data.toList.take k) (by simp; omega)
      have hs1 := fold10_snoc s k hlt
      have hc : s[k].toNat < 256 := s[k].toNat_lt
      generalize fold10 0 (s.data.toList.take k) = F at *
      cases hD : isD s[k]
      · rw [hD] at hs1
        have HS := Lib.hid (show fold10 0 (s.data.toList.take (k + 1)) = F from hs1)
        have hd : (s[k].toNat : Int) < 48 ∨ (48 ≤ (s[k].toNat : Int) ∧ 57 < (s[k].toNat : Int)) := by
          unfold isD at hD
          simp at hD
          omega
        clear hs1 hD hbd
        rcases hd with hd | ⟨hd, hd2⟩
        all_goals
          go_wp2_with fail
          go_round
          case rel => exact ⟨k + 1, by omega, by go_num, by rw [HS.out]⟩
          case measure => simp [intOf]; omega
      · rw [hD] at hs1
        have HS := Lib.hid (show fold10 0 (s.data.toList.take (k + 1)) = F * 10 + (s[k].toNat - 48) from hs1)
        have hd : 48 ≤ (s[k].toNat : Int) ∧ (s[k].toNat : Int) ≤ 57 := by
          unfold isD at hD
          simp at hD
          omega
        obtain ⟨hd1, hd2⟩ := hd
        clear hs1 hD
        go_wp2_with fail
        go_round
        case rel => exact ⟨k + 1, by omega, by go_num, by rw [HS.out]; go_num⟩
        case measure => simp [intOf]; omega
    · obtain rfl : k = s.size := by omega
      have hbd := fold10_bd s.data.toList (by simpa using h17)
      rw [List.take_of_length_le (by simp)]
      have hhd : s.data.toList.head? = some s[0] := by
        rw [List.head?_eq_getElem?, List.getElem?_eq_getElem (by simp; omega)]; rfl
      have hV : rdv s.data.toList = if s[0] = 45 then -(fold10 0 s.data.toList : Int) else (fold10 0 s.data.toList : Int) := by
        unfold rdv; rw [hhd]; simp
      clear hhd hk hlt
      generalize hF : fold10 0 s.data.toList = F at *
      by_cases h45 : s[0] = 45
      · rw [if_pos h45] at hV
        have h45i : (s[0].toNat : Int) = 45 := by rw [h45]; rfl
        have hb1 : -9223372036854775808 ≤ -(F : Int) := by omega
        have hb2 : -(F : Int) ≤ 9223372036854775807 := by omega
        have HL := Lib.hid (fun w' => l00In_any (-(F : Int)) (-1000000000000000) 1000000000000000 w')
        have HS := Lib.hid (fun w' => l01Dec_any (-(F : Int)) hb1 hb2 w')
        rcases rd_cases s _ hV with ⟨hsm, hk⟩ | ⟨hsm, he, hk⟩ | ⟨hsm, he, hk⟩
        · have HK := Lib.hid hk
          unfold small at hsm
          rw [hsm] at HL
          clear hsm hk hV hb1 hb2 hF HS h45
          go_wp2_with fail
          refine (HL.out _).mono ?_
          rintro e w1 ⟨rfl, rfl⟩
          go_wp2_with fail
          go_ret2
          exact ⟨by rw [HK.out]; rfl, Below.refl _ _⟩
        · have HK := Lib.hid hk
          unfold small at hsm
          rw [hsm] at HL
          generalize (⟨(Lib.itoa (-(F : Int))).toArray⟩ : ByteArray) = u at *
          clear hsm hk hV hb1 hb2 hF h45
          go_wp2_with fail
          refine (HL.out _).mono ?_
          rintro e w1 ⟨rfl, rfl⟩
          go_wp2_with fail
          refine (HS.out _).mono ?_
          rintro e w2 ⟨rfl, hb2⟩
          go_wp2_with fail
          go_ret2
          exact ⟨by rw [HK.out]; rfl, hb2⟩
        · have HK := Lib.hid hk
          unfold small at hsm
          rw [hsm] at HL
          rw [he] at HS
          clear hsm hk hV hb1 hb2 hF he h45
          go_wp2_with fail
          refine (HL.out _).mono ?_
          rintro e w1 ⟨rfl, rfl⟩
          go_wp2_with fail
          refine (HS.out _).mono ?_
          rintro e w2 ⟨rfl, hb2⟩
          go_wp2_with fail
          go_ret2
          exact ⟨by rw [HK.out]; rfl, hb2⟩
      · rw [if_neg h45] at hV
        have h45i : ¬ (s[0].toNat : Int) = 45 := fun h => h45 (UInt8.toNat_inj.1 (by omega : s[0].toNat = 45))
        have hb1 : -9223372036854775808 ≤ (F : Int) := by omega
        have hb2 : (F : Int) ≤ 9223372036854775807 := by omega
        have HL := Lib.hid (fun w' => l00In_any ((F : Int)) (-1000000000000000) 1000000000000000 w')
        have HS := Lib.hid (fun w' => l01Dec_any ((F : Int)) hb1 hb2 w')
        rcases rd_cases s _ hV with ⟨hsm, hk⟩ | ⟨hsm, he, hk⟩ | ⟨hsm, he, hk⟩
        · have HK := Lib.hid hk
          unfold small at hsm
          rw [hsm] at HL
          clear hsm hk hV hb1 hb2 hF HS h45
          go_wp2_with fail
          refine (HL.out _).mono ?_
          rintro e w1 ⟨rfl, rfl⟩
          go_wp2_with fail
          go_ret2
          exact ⟨by rw [HK.out]; rfl, Below.refl _ _⟩
        · have HK := Lib.hid hk
          unfold small at hsm
          rw [hsm] at HL
          generalize (⟨(Lib.itoa ((F : Int))).toArray⟩ : ByteArray) = u at *
          clear hsm hk hV hb1 hb2 hF h45
          go_wp2_with fail
          refine (HL.out _).mono ?_
          rintro e w1 ⟨rfl, rfl⟩
          go_wp2_with fail
          refine (HS.out _).mono ?_
          rintro e w2 ⟨rfl, hb2⟩
          go_wp2_with fail
          go_ret2
          exact ⟨by rw [HK.out]; rfl, hb2⟩
        · have HK := Lib.hid hk
          unfold small at hsm
          rw [hsm] at HL
          rw [he] at HS
          clear hsm hk hV hb1 hb2 hF he h45
          go_wp2_with fail
          refine (HL.out _).mono ?_
          rintro e w1 ⟨rfl, rfl⟩
          go_wp2_with fail
          refine (HS.out _).mono ?_
          rintro e w2 ⟨rfl, hb2⟩
          go_wp2_with fail
          go_ret2
          exact ⟨by rw [HK.out]; rfl, hb2⟩
theorem sValue_any (s : ByteArray) (hs : s.size ≤ 281474976710656) (w : World) : Calls Tryd.prog 24 #[.string s] w fun e w' => e = .returned (rdo s.data.toList) ∧ Below w.heap.size w w' := by
  by_cases h : 1 ≤ s.size ∧ s.size ≤ 17
  · exact sValue_near s h.1 h.2 w
  · exact sValue_far s hs (by omega) w
theorem sReadDecimal_any (s : ByteArray) (hs : s.size ≤ 281474976710656) (w : World) : Calls Tryd.prog 10 #[.string s] w fun e w' => e = .returned (rdo s.data.toList) ∧ Below w.heap.size w w' := by
  have HS := Lib.hid (sValue_any s hs w)
  unfold rdo at *
  generalize (if rdk s.data.toList then rdv s.data.toList else 0) = a at *
  generalize rdk s.data.toList = b at *
  go_enter Tryd.func10, Tryd.ntmps10
  go_wp2_with fail
  refine HS.out.mono ?_
  rintro e w1 ⟨rfl, hb⟩
  go_wp2_with fail
  go_ret2
  exact ⟨rfl, hb⟩
end Go.Proofs.YtgonnnnhibhekaaDoor
