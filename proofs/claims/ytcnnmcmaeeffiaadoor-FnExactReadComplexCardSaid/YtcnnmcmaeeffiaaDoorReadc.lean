/-
  ReadComplex at both sides: the digits, the marks, two slices compared.
-/
import Derived.Test.YtcnnmcmaeeffiaaDoorReadn
import Derived.Test.YtcnnmcmaeeffiaaDoorCx
import Derived.Deep.RegionWith
namespace Go.Proofs.YtcnnmcmaeeffiaaDoor
set_option linter.unusedVariables false
set_option linter.unusedSimpArgs false
open Go.RowKit Fl
attribute [local go_sem] run_store_complex

set_option maxRecDepth 100000 in
set_option maxHeartbeats 4000000 in
theorem l01Digits_any (t : ByteArray) (h8 : t.size = 8) (w : World) : Calls Tryd.prog 40 #[.string t] w (RHex w t.data.toList) := by
  have H8 := Lib.hid (show t.data.toList.length = 8 by simpa using h8)
  have h8a : t.size ≤ 8 := by omega
  have h8b : 8 ≤ t.size := by omega
  clear h8
  go_enter Tryd.func40, Tryd.ntmps40
  go_wp2_with fail
  go_loop [4, 5] (fun n i => ∃ (j m : Nat), j ≤ 8 ∧ i = .int .i64 (j : Int) ∧ n = .int .i64 (m : Int) ∧ Hid (HxI t.data.toList j m)) (fun _ i => 8 - (intOf i).toNat)
  case atStart => exact ⟨0, 0, Nat.zero_le _, rfl, rfl, Lib.hid (HxI.start _)⟩
  case round =>
    obtain ⟨j, m, hj, rfl, rfl, hI⟩ := hrel
    have hm := hI.out.lt hj
    by_cases hj8 : j < 8
    · have hlj : j < t.size := by omega
      have hcx : t.data.toList[j]? = some t[j] := by
        rw [List.getElem?_eq_getElem (by simpa using hlj)]; rfl
      have hc256 : t[j].toNat < 256 := t[j].toNat_lt
      by_cases hdig : 48 ≤ t[j].toNat ∧ t[j].toNat ≤ 57
      · have hh : isH t[j] = true := by unfold isH; simp; omega
        have hv : hdv t[j] = t[j].toNat - 48 := by unfold hdv; rw [if_pos hdig.2]
        have HN := Lib.hid (hI.out.next hcx hh)
        have HV := Lib.hid (show 16 * (m : Int) + ((t[j].toNat : Int) - 48) = ((16 * m + hdv t[j] : Nat) : Int) by rw [hv]; omega)
        obtain ⟨hd1, hd2⟩ := hdig
        have hdi1 : 48 ≤ (t[j].toNat : Int) := by omega
        have hdi2 : (t[j].toNat : Int) ≤ 57 := by omega
        clear hh hv hcx
        go_wp2_with fail
        go_round
        case rel => exact ⟨j + 1, _, by omega, by go_num, by rw [← HV.out], HN⟩
        case measure => simp [intOf]; omega
      · by_cases hlet : 97 ≤ t[j].toNat ∧ t[j].toNat ≤ 102
        · have hh : isH t[j] = true := by unfold isH; simp; omega
          have hv : hdv t[j] = t[j].toNat - 87 := by unfold hdv; rw [if_neg (by omega)]
          have HN := Lib.hid (hI.out.next hcx hh)
          have HV := Lib.hid (show 16 * (m : Int) + ((t[j].toNat : Int) - 97 + 10) = ((16 * m + hdv t[j] : Nat) : Int) by rw [hv]; omega)
          obtain ⟨hd1, hd2⟩ := hlet
          have hdi1 : 97 ≤ (t[j].toNat : Int) := by omega
          have hdi2 : (t[j].toNat : Int) ≤ 102 := by omega
          clear hh hv hcx hdig
          go_wp2_with fail
          go_round
          case rel => exact ⟨j + 1, _, by omega, by go_num, by rw [← HV.out], HN⟩
          case measure => simp [intOf]; omega
        · have hh : isH t[j] = false := by unfold isH; simp; omega
          have HN := Lib.hid (fun x => rhex_no (w := w) (x := x) (HxI.bad hcx hh) (Below.refl _ _))
          have hdi : (t[j].toNat : Int) < 48 ∨ (57 < (t[j].toNat : Int) ∧ (t[j].toNat : Int) < 97) ∨ 102 < (t[j].toNat : Int) := by omega
          clear hh hcx hdig hlet
          rcases hdi with hdi | ⟨hdi, hdi2⟩ | hdi
          all_goals
            go_wp2_with fail
            go_ret2
            exact HN.out _
    · obtain rfl : j = 8 := by omega
      obtain ⟨hmv, hrk⟩ := hI.out.done H8.out
      have HF := Lib.hid (fun w' => rl01From_any m hm w')
      have HBt := Lib.hid (fun w' => l01Bits_any m _ (isF_small (by omega)) w')
      rw [bitsI_N] at HBt
      by_cases hbm : bitsN (cl .f32 m) = m
      · rw [decide_eq_true hbm] at hrk
        rw [hbm] at HBt
        have HY := Lib.hid (rhex_yes (w := w) hrk hmv (Below.refl _ _))
        clear hrk hmv hbm
        go_wp2_with fail
        refine (HF.out _).mono ?_
        rintro e w' ⟨rfl, hw'⟩
        obtain rfl := hw'.symm
        clear hw'
        go_wp2_with fail
        refine (HBt.out _).mono ?_
        rintro e w' ⟨rfl, hw'⟩
        obtain rfl := hw'.symm
        clear hw'
        go_wp2_with fail
        go_ret2
        exact HY.out
      · rw [decide_eq_false hbm] at hrk
        have HN := Lib.hid (fun x => rhex_no (w := w) (x := x) hrk (Below.refl _ _))
        have hne : (((bitsN (cl .f32 m) : Nat) : Int) != (m : Int)) = true := by rw [bne_iff_ne]; omega
        clear hrk hmv hbm
        generalize bitsN (cl .f32 m) = bm at *
        go_wp2_with fail
        refine (HF.out _).mono ?_
        rintro e w' ⟨rfl, hw'⟩
        obtain rfl := hw'.symm
        clear hw'
        go_wp2_with fail
        refine (HBt.out _).mono ?_
        rintro e w' ⟨rfl, hw'⟩
        obtain rfl := hw'.symm
        clear hw'
        go_wp2_with fail
        go_ret2
        exact HN.out _
/-- A list of complex numbers. -/
def CxF (n : Nat) (f : Nat → Value) : Prop := ∀ i, i < n → ∃ a b, f i = .complex .f32 a b ∧ a < 4294967296 ∧ b < 4294967296
set_option maxHeartbeats 2000000 in
theorem eqC_any (v1 v2 : Value) (n : Nat) (f : Nat → Value) (hf : CxF n f) (w : World) (B1 N1 B2 N2 : Nat) (h1 : OV w B1 N1 v1 n f) (h2 : OV w B2 N2 v2 n f) :
    Calls Tryd.prog 16 #[v1, v2] w (Ret w (.bool true)) := by
  rcases Nat.eq_zero_or_pos n with h0 | h0
  · subst h0
    obtain ⟨ao1, cap1, rfl, _⟩ := h1.len
    obtain ⟨ao2, cap2, rfl, _⟩ := h2.len
    clear h1 h2 hf
    go_enter Tryd.func16, Tryd.ntmps16
    go_wp2
    refine wp_loop_rounds 1 ?_
    rw [rounds_succ]
    go_wp2
    go_ret
    exact ret_mk0 rfl
  · obtain ⟨_, ⟨rfl, rfl⟩ | ⟨g1, cap1, rfl, k1, k2, k3, k4, k5, k6⟩⟩ := h1
    · cases h0
    obtain ⟨_, ⟨rfl, rfl⟩ | ⟨g2, cap2, rfl, l1, l2, l3, l4, l5, l6⟩⟩ := h2
    · cases h0
    have HC1 := Lib.hid k6
    have HC2 := Lib.hid l6
    have HF := Lib.hid hf
    unfold maxLen at k2
    clear k6 l6 hf k5 l5 k3 l3 k4 l4 l1 l2
    go_enter Tryd.func16, Tryd.ntmps16
    go_wp2
    go_loopw [5] (fun i wr => ∃ k : Nat, k ≤ n ∧ i = .int .i64 k ∧ ∃ m, wr = w.drewN m) (fun i _ => n - (intOf i).toNat)
    case atStart => exact ⟨0, Nat.zero_le _, rfl, 0, rfl⟩
    case round =>
      obtain ⟨k, hk, rfl, m, rfl⟩ := hrel
      by_cases hlt : k < n
      · obtain ⟨a, b, hab, ha, hb⟩ := HF.out k hlt
        have s1 := HC1.out k hlt
        have s2 := HC2.out k hlt
        rw [hab] at s1 s2
        obtain ⟨ca, cb, na, hca, hia, hib⟩ := cwid_fn (P := Tryd.prog) (src := 47) (dst := 49) (congrArg Option.isSome Tryd.underlying47) Tryd.underlying49 (IsF.of (k := .f32) (show a < 4294967296 from ha)) (IsF.of (k := .f32) (show b < 4294967296 from hb))
        generalize cl .f32 a = u at *
        generalize cl .f32 b = v at *
        clear hab ha hb
        go_wp2
        go_region_with (go_at_call 28; refine (sameComplex_any _ _ _ _ _ _ (hia _) (hib _) (hia _) (hib _) _).mono ?_; rintro e w' ⟨q, rfl, rfl⟩)
        all_goals go_wp2
        all_goals
          go_roundw
          case rel => exact ⟨k + 1, by omega, by go_num, _, rfl⟩
          case measure => simp [intOf]; omega
      · go_wp2
        go_ret
        exact ret_mk rfl
/-- The marks k, k + 1, .. -/
def cmark (k : Int) (i : Nat) : Value := .complex .f32 (floatOfInt .f32 (k + (i : Int))) 1065353216
theorem one32 : IsF .f32 1065353216 (some 1065353216) := IsF.lit (by decide +kernel)
theorem eql_self (k : Int) : cmpF .eql .f32 (ofInt .f32 k) (ofInt .f32 k) = true := by
  have := ord_refl (show IsF .f32 (floatOfInt .f32 k) (some (floatOfInt .f32 k)) from isF_ofInt .f32 k)
  simp [cmpF, ofInt, this]
theorem eql_one : cmpF .eql .f32 (some 1065353216) (some 1065353216) = true := by
  have := ord_refl one32
  simp [cmpF, this]
theorem narB_marks {j : Nat} (h : j < 300) : narB (floatOfInt .f64 (1 + (j : Int))) (floatOfInt .f32 (1 + (j : Int))) = true := by
  have : (List.range 300).all (fun j => narB (floatOfInt .f64 (1 + (j : Int))) (floatOfInt .f32 (1 + (j : Int)))) = true := by decide +kernel
  rw [List.all_eq_true] at this
  exact this j (by simpa using h)
theorem narB_one : narB 4607182418800017408 1065353216 = true := by decide +kernel
set_option maxHeartbeats 2000000 in
theorem markC_any (B N : Nat) (v : Value) (n : Nat) (f : Nat → Value) (hfl : CxF n f) (hn : n ≤ 256) (w : World) (h : OV w B N v n f) :
    Calls Tryd.prog 17 #[v, .int .i64 1] w fun e w' => e = .returned (.int .i64 (1 + n)) ∧ OV w' B N v n (cmark 1) ∧ Fr B N w w' := by
  obtain ⟨h2, ⟨rfl, rfl⟩ | ⟨g, cap, rfl, h5, h6, h7, h8, h9, h10⟩⟩ := h
  · clear hn hfl
    go_enter Tryd.func17, Tryd.ntmps17
    go_wp2
    refine wp_loop_rounds 1 ?_
    rw [rounds_succ]
    go_wp2
    go_ret
    exact ⟨by simp, OV.nil h2, Fr.refl _ _ _⟩
  · have H10 := Lib.hid h10
    have H9 := Lib.hid h9
    unfold maxLen at h6
    have HFL := Lib.hid hfl
    clear h10 h9 hfl
    go_enter Tryd.func17, Tryd.ntmps17
    go_wp2
    go_loopw [1, 5] (fun kv i wr => ∃ j : Nat, j ≤ n ∧ i = .int .i64 (j : Int) ∧ kv = .int .i64 (1 + (j : Int)) ∧ Hid (∀ i, i < n → wr.cell? ⟨g, i, none⟩ = some (if i < j then cmark 1 i else f i)) ∧ Hid (∀ o, wr.frozen? ⟨g, o, none⟩ = false) ∧ Fr B N w wr) (fun _ i _ => n - (intOf i).toNat)
    case atStart => exact ⟨0, Nat.zero_le _, rfl, by simp, Lib.hid (fun i hi => by simpa using H10.out i hi), H9, Fr.refl _ _ _⟩
    case round =>
      obtain ⟨j, hj, rfl, rfl, hc, hz, hF⟩ := hrel
      by_cases hlt : j < n
      · obtain ⟨a0, b0, hb0, _, _⟩ := HFL.out j hlt
        have c0 : wr.cell? ⟨g, j, none⟩ = some (.complex .f32 a0 b0) := by rw [← hb0]; simpa using hc.out j hlt
        clear hb0
        have z0 : wr.frozen? ⟨g, j, none⟩ = false := hz.out j
        have hcn := run_convert_cn (P := Tryd.prog) (src := 49) (dst := 47) (congrArg Option.isSome Tryd.underlying49) Tryd.underlying47 (narB_marks (show j < 300 by omega)) narB_one
        go_wp2
        all_goals
          go_roundw
          case rel =>
            refine ⟨j + 1, by omega, by go_num, by go_num, Lib.hid (fun i hi => ?_), Lib.hid (fun o => by rw [World.frozen?_setCell]; exact hz.out o), hF.set h7 h8 _⟩
            by_cases hij : i = j
            · subst hij
              rw [if_pos (by omega)]
              exact World.cell?_setCell_same _ _ _ c0
            · rw [World.cell?_setCell_other _ _ _ _ (by intro e; cases e; exact hij rfl), hc.out i hi]
              by_cases h5 : i < j
              · rw [if_pos h5, if_pos (by omega)]
              · rw [if_neg h5, if_neg (by omega)]
          case measure => simp [intOf]; omega
      · obtain rfl : j = n := by omega
        go_wp2
        go_ret
        refine ⟨rfl, ⟨Nat.le_trans h2 hF.size, .inr ⟨g, cap, rfl, h5, by unfold maxLen; omega, h7, h8, hz.out, fun i hi => ?_⟩⟩, hF⟩
        have := hc.out i hi
        rw [if_pos hi] at this
        exact this
set_option maxHeartbeats 2000000 in
theorem heldC_any (B N : Nat) (v : Value) (n : Nat) (hn : n ≤ 256) (w : World) (h : OV w B N v n (cmark 1)) :
    Calls Tryd.prog 18 #[v, .int .i64 1] w fun e w' => e = .returned (.int .i64 (1 + n)) ∧ w' = w := by
  obtain ⟨h2, ⟨rfl, rfl⟩ | ⟨g, cap, rfl, h5, h6, h7, h8, h9, h10⟩⟩ := h
  · clear hn
    go_enter Tryd.func18, Tryd.ntmps18
    go_wp2
    refine wp_loop_rounds 1 ?_
    rw [rounds_succ]
    go_wp2
    go_ret
    exact ⟨by simp, rfl⟩
  · have H10 := Lib.hid h10
    unfold maxLen at h6
    clear h10 h9 h2 h7 h8
    go_enter Tryd.func18, Tryd.ntmps18
    go_wp2
    go_loop [1, 5] (fun kv i => ∃ j : Nat, j ≤ n ∧ i = .int .i64 (j : Int) ∧ kv = .int .i64 (1 + (j : Int))) (fun _ i => n - (intOf i).toNat)
    case atStart => exact ⟨0, Nat.zero_le _, rfl, by simp⟩
    case round =>
      obtain ⟨j, hj, rfl, rfl⟩ := hrel
      by_cases hlt : j < n
      · have c0 := H10.out j hlt
        unfold cmark at c0
        have i0 := isF_ofInt .f32 (1 + (j : Int))
        have i1 := one32
        have q0 : (!(cmpF .eql .f32 (ofInt .f32 (1 + (j : Int))) (ofInt .f32 (1 + (j : Int))) && cmpF .eql .f32 (some 1065353216) (some 1065353216))) = false := by rw [eql_self, eql_one]; rfl
        have hcn := run_convert_cn (P := Tryd.prog) (src := 49) (dst := 47) (congrArg Option.isSome Tryd.underlying49) Tryd.underlying47 (narB_marks (show j < 300 by omega)) narB_one
        go_wp2_with (refine wpList_cneq rfl rfl rfl rfl i0 i1 i0 i1 q0 ?_)
        all_goals
          go_round
          case rel => exact ⟨j + 1, by omega, by go_num, by go_num⟩
          case measure => simp [intOf]; omega
      · obtain rfl : j = n := by omega
        go_wp2
        go_ret
        exact ⟨rfl, rfl⟩
end Go.Proofs.YtcnnmcmaeeffiaaDoor
