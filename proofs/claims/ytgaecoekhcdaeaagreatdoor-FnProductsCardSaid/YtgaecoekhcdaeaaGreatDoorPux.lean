/-
  Reading hexadecimal digits: the library's ParseUint at base 16 and 32 bits.
-/
import Derived.Test.YtgaecoekhcdaeaaGreatDoorHexs
import Derived.Test.YtgaecoekhcdaeaaGreatDoorSh6
import Derived.Lib.ConvBytes
import Derived.Lib.AtoiAllMem
import Derived.Laws.Strings3
import Derived.Laws.Closers25
import Derived.Laws.Closers25b
import Derived.BigCall
import Derived.BigGuard
namespace Go.Proofs.YtgaecoekhcdaeaaGreatDoor
set_option linter.unusedVariables false
set_option linter.unusedSimpArgs false
set_option maxRecDepth 20000
open Go.RowKit Fl

theorem or32 (c : UInt8) : bits .or .u8 (c.toNat : Int) 32 = ((c ||| 32).toNat : Int) := by
  have : (List.range 256).all (fun n => decide (bits .or .u8 ((UInt8.ofNat n).toNat : Int) 32 = ((UInt8.ofNat n ||| 32).toNat : Int))) = true := by decide +kernel
  rw [List.all_eq_true] at this
  have h := this c.toNat (by simp; exact c.toNat_lt)
  simpa using h
/-- The whole reader. -/
def puS (l : List UInt8) : PuR := if l = [] then .bad else pu 0 l
def puV : PuR → Value
  | .ok n => .tuple #[.int .u64 n, .nilIface]
  | .bad => .tuple #[.int .u64 0, .iface 132 (.int .i64 2)]
  | .far => .tuple #[.int .u64 4294967295, .iface 132 (.int .i64 1)]
theorem lower_any (c : UInt8) (w : World) : Calls Tryz.prog 112 #[.int .u8 (c.toNat : Int)] w fun e w' => e = .returned (.int .u8 ((c ||| 32).toNat : Int)) ∧ w' = w := by
  have HO := Lib.hid (or32 c)
  go_enter Tryz.func112, Tryz.ntmps112
  go_wp2_with fail
  go_ret
  exact ⟨by rw [← HO.out]; rfl, rfl⟩
set_option maxHeartbeats 32000000 in
set_option maxRecDepth 100000 in
theorem iPu_any (t : ByteArray) (hmax : t.size ≤ 281474976710656) (w : World) :
    Calls Tryz.prog 96 #[.string t, .int .i64 16, .int .i64 32] w fun e w' => e = .returned (puV (puS t.data.toList)) ∧ Below w.heap.size w w' := by
  by_cases hne : t.data.toList = []
  · have HZ := Lib.hid (show puV (puS t.data.toList) = .tuple #[.int .u64 0, .iface 132 (.int .i64 2)] by rw [hne]; rfl)
    rw [HZ.out]
    obtain rfl : t = ⟨#[]⟩ := by cases t; simp at hne; simp [hne]
    clear hne hmax
    go_enter Tryz.func96, Tryz.ntmps96
    go_wp2
    go_ret2
    exact ⟨rfl, Below.refl _ _⟩
  · have hemp : t.toList.isEmpty = false := by
      rw [Lib.toList_data]
      cases h : t.data.toList with
      | nil => exact absurd h hne
      | cons a b => rfl
    have hS : puS t.data.toList = pu 0 t.data.toList := by unfold puS; rw [if_neg hne]
    rw [hS]
    have hcv := Lib.run_convert_string_bytes (P := Tryz.prog) w 9 22 5 t (u := .string) Tryz.underlying9 Tryz.underlying22 Tryz.underlying5
    have hB : ∀ j, j < t.size → (Lib.bytesWorld w 5 t).cell? ⟨w.heap.size, j, none⟩ = some (.int .u8 (t.data.toList.getD j 0).toNat) := fun j hj => Lib.bytesWorld_cell w 5 t j hj
    have hbel := Lib.bytesWorld_below w 5 t
    obtain ⟨W1, hW1⟩ : ∃ W1, W1 = Lib.bytesWorld w 5 t := ⟨_, rfl⟩
    rw [← hW1] at hcv hB hbel
    clear hW1
    obtain ⟨bs, hL⟩ : ∃ bs, bs = t.data.toList := ⟨_, rfl⟩
    have hLn : bs.length = t.size := by rw [hL, Lib.size_eq]
    rw [← hL] at hB ⊢
    clear hL hS hne
    have hmv : IntKind.u64.wrap (IntKind.u64.wrap 4294967296 - 1) = 4294967295 := by
      rw [IntKind.wrap_u64, IntKind.wrap_u64]
      decide
    go_enter Tryz.func96, Tryz.ntmps96
    go_wp2
    go_loop [12, 13, 101] (fun vu vn vi => ∃ (k acc : Nat) (a : Int), vu = .bool false ∧ vn = .int .u64 a ∧ vi = .int .i64 k ∧ k ≤ t.size ∧ Hid (a = (acc : Int) ∧ acc ≤ 4294967295 ∧ pu 0 bs = pu acc (bs.drop k)))
      (fun _ _ vi => t.size - (intOf vi).toNat)
    case atStart => exact ⟨0, 0, 0, rfl, rfl, rfl, by omega, Lib.hid ⟨rfl, by omega, rfl⟩⟩
    case round =>
      obtain ⟨k, acc, a, rfl, rfl, rfl, hk, hh⟩ := hrel
      obtain ⟨ha, hacc, hdec⟩ := hh.out
      clear hh
      have a0 : 0 ≤ a := by omega
      have a1 : a ≤ 4294967295 := by omega
      by_cases hkn : k < t.size
      · have hc := hB k hkn
        have hdrop : bs.drop k = bs[k]'(by omega) :: bs.drop (k + 1) := List.drop_eq_getElem_cons (by omega)
        have hget : bs.getD k 0 = bs[k]'(by omega) := by simp [List.getD, List.getElem?_eq_getElem (show k < bs.length by omega)]
        rw [hdrop] at hdec
        rw [hget] at hc
        generalize bs[k]'(by omega) = c at hc hdec
        have hc256 : c.toNat < 256 := c.toNat_lt
        have HLW := Lib.hid (fun w' => lower_any c w')
        have hl256 : (c ||| 32).toNat < 256 := (c ||| 32).toNat_lt
        clear hB hdrop hget
        by_cases hdig : 48 ≤ c.toNat ∧ c.toNat ≤ 57
        · have hud : udig c = c.toNat - 48 := by unfold udig; rw [if_pos hdig]
          obtain ⟨hd0, hd1⟩ := hdig
          generalize (c ||| 32).toNat = lw at *
          by_cases hov : 4294967295 < acc * 16 + (c.toNat - 48)
          · have HF := Lib.hid (show pu 0 bs = .far by rw [hdec, pu, hud, if_neg (by omega), if_pos hov])
            have iov : 4294967295 < a * 16 + ((c.toNat : Int) - 48) := by omega
            clear hacc hov ha hdec hud
            go_wp2
            go_ret2
            exact ⟨by rw [HF.out]; rfl, hbel⟩
          · have HN : Hid (a * 16 + ((c.toNat : Int) - 48) = ((acc * 16 + (c.toNat - 48) : Nat) : Int) ∧ acc * 16 + (c.toNat - 48) ≤ 4294967295 ∧ pu 0 bs = pu (acc * 16 + (c.toNat - 48)) (bs.drop (k + 1))) := Lib.hid ⟨by omega, by omega, by rw [hdec, pu, hud, if_neg (by omega), if_neg hov]⟩
            have iov : a * 16 + ((c.toNat : Int) - 48) ≤ 4294967295 := by omega
            clear hacc hov hdec ha hud
            go_wp2
            refine ⟨⟨k + 1, acc * 16 + (c.toNat - 48), a * 16 + ((c.toNat : Int) - 48), rfl, (by first | rfl | (congr 1; omega)), (by first | rfl | (congr 1; omega)), by omega, HN⟩, by simp [intOf]; omega⟩
        · have c95 : c.toNat = 95 → (c ||| 32).toNat = 127 := fun h => by
            have : c = 95 := UInt8.toNat_inj.1 (by rw [h]; rfl)
            subst this; rfl
          have hdi : (c.toNat : Int) < 48 ∨ 57 < (c.toNat : Int) := by omega
          by_cases hlet : 97 ≤ (c ||| 32).toNat ∧ (c ||| 32).toNat ≤ 122
          · have hud : udig c = (c ||| 32).toNat - 97 + 10 := by unfold udig; rw [if_neg hdig, if_pos hlet]
            have h95 : ((c.toNat : Int) == 95) = false := beq_eq_false_iff_ne.2 (fun h => by have := c95 (by omega); omega)
            obtain ⟨hl0, hl1⟩ := hlet
            generalize (c ||| 32).toNat = lw at *
            by_cases hbig : 16 ≤ lw - 97 + 10
            · have HF := Lib.hid (show pu 0 bs = .bad by rw [hdec, pu, hud, if_pos hbig])
              have hb1 : 103 ≤ lw := by omega
              clear hacc ha hdec hud hdig c95 hbig
              rcases hdi with hdi | hdi
              all_goals
                go_wp2_with (go_at_call 112; refine (HLW.out _).mono ?_; rintro e w' ⟨rfl, rfl⟩)
                go_ret2
                exact ⟨by rw [HF.out]; rfl, hbel⟩
            · have hb1 : lw ≤ 102 := by omega
              by_cases hov : 4294967295 < acc * 16 + (lw - 97 + 10)
              · have HF := Lib.hid (show pu 0 bs = .far by rw [hdec, pu, hud, if_neg hbig, if_pos hov])
                have iov : 4294967295 < a * 16 + ((lw : Int) - 97 + 10) := by omega
                clear hacc hov ha hdec hud hdig c95 hbig
                rcases hdi with hdi | hdi
                all_goals
                  go_wp2_with (go_at_call 112; refine (HLW.out _).mono ?_; rintro e w' ⟨rfl, rfl⟩)
                  go_ret2
                  exact ⟨by rw [HF.out]; rfl, hbel⟩
              · have HN : Hid (a * 16 + ((lw : Int) - 97 + 10) = ((acc * 16 + (lw - 97 + 10) : Nat) : Int) ∧ acc * 16 + (lw - 97 + 10) ≤ 4294967295 ∧ pu 0 bs = pu (acc * 16 + (lw - 97 + 10)) (bs.drop (k + 1))) := Lib.hid ⟨by omega, by omega, by rw [hdec, pu, hud, if_neg hbig, if_neg hov]⟩
                have iov : a * 16 + ((lw : Int) - 97 + 10) ≤ 4294967295 := by omega
                clear hacc hov ha hdec hud hdig c95 hbig
                rcases hdi with hdi | hdi
                all_goals
                  go_wp2_with (go_at_call 112; refine (HLW.out _).mono ?_; rintro e w' ⟨rfl, rfl⟩)
                  refine ⟨⟨k + 1, acc * 16 + (lw - 97 + 10), a * 16 + ((lw : Int) - 97 + 10), rfl, (by first | rfl | (congr 1; omega)), (by first | rfl | (congr 1; omega)), by omega, HN⟩, by simp [intOf]; omega⟩
          · have hud : udig c = 99 := by unfold udig; rw [if_neg hdig, if_neg hlet]
            have HF := Lib.hid (show pu 0 bs = .bad by rw [hdec, pu, hud, if_pos (by omega)])
            by_cases h95 : c.toNat = 95
            · have hc2 : W1.cell? ⟨w.heap.size, k, none⟩ = some (.int .u8 95) := by rw [hc, h95]; rfl
              have HL2 := Lib.hid (fun w' => show Calls Tryz.prog 112 #[.int .u8 95] w' fun e w'' => e = .returned (.int .u8 127) ∧ w'' = w' from lower_any 95 w')
              clear hacc ha hdec hud hdig c95 hc HLW h95 hlet hdi hl256 hc256
              go_wp2_with (go_at_call 112; refine (HL2.out _).mono ?_; rintro e w' ⟨rfl, rfl⟩)
              go_ret2
              exact ⟨by rw [HF.out]; rfl, hbel⟩
            · have hb95 : ((c.toNat : Int) == 95) = false := beq_eq_false_iff_ne.2 (by omega)
              have hlo : (((c ||| 32).toNat : Nat) : Int) < 97 ∨ 122 < (((c ||| 32).toNat : Nat) : Int) := by omega
              clear hlet
              generalize (c ||| 32).toNat = lw at *
              clear hacc ha hdec hud hdig c95 h95
              rcases hdi with hdi | hdi <;> rcases hlo with hlo | hlo
              all_goals
                go_wp2_with (go_at_call 112; refine (HLW.out _).mono ?_; rintro e w' ⟨rfl, rfl⟩)
                go_ret2
                exact ⟨by rw [HF.out]; rfl, hbel⟩
      · have HF := Lib.hid (show pu 0 bs = .ok acc by rw [hdec, List.drop_eq_nil_of_le (by omega)]; rfl)
        subst ha
        clear hacc hdec a0 a1 hB hLn
        go_wp2
        go_ret2
        exact ⟨by rw [HF.out]; rfl, hbel⟩
end Go.Proofs.YtgaecoekhcdaeaaGreatDoor
