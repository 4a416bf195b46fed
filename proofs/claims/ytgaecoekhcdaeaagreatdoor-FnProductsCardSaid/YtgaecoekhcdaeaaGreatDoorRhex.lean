/-
  Reading a hexadecimal number, the program's side.
-/
import Derived.Test.YtgaecoekhcdaeaaGreatDoorPux
import Derived.Test.YtgaecoekhcdaeaaGreatDoorCut
import Derived.Lib.SlicesS
namespace Go.Proofs.YtgaecoekhcdaeaaGreatDoor
set_option linter.unusedVariables false
set_option linter.unusedSimpArgs false
set_option maxRecDepth 20000
open Go.RowKit Fl

/-- Whether a text is the text of a number. -/
def rhk (l : List UInt8) : Bool := (decide (l.length = 8) && l.all isH) && decide (bitsN (cl .f32 (hval l)) = hval l)
theorem isF_small {n : Nat} (h : n ≤ 4294967295) : IsF .f32 n (cl .f32 n) := IsF.of (show n < 4294967296 by omega)
theorem rhk_ok {l : List UInt8} {n : Nat} (h : pu 0 l = .ok n) : rhk l = decide (hex8 (bitsN (cl .f32 n)) = l) ∧ (rhk l = true → n = hval l) := by
  have hn := pu_le l 0 n (by omega) h
  have key : rhk l = true → n = hval l := by
    intro hr
    unfold rhk at hr
    simp only [Bool.and_eq_true, decide_eq_true_eq] at hr
    have := pu_hex hr.1.2 hr.1.1
    rw [h] at this
    injection this
  refine ⟨?_, key⟩
  by_cases he : hex8 (bitsN (cl .f32 n)) = l
  · rw [decide_eq_true he]
    have h8 : l.length = 8 := by rw [← he]; exact hex8_len _
    have hall : l.all isH = true := by rw [← he]; exact hex8_all _
    have hv : hval l = n := by
      have := pu_hex hall h8
      rw [h] at this
      injection this with this
      exact this.symm
    have hb : hval l = bitsN (cl .f32 n) := by rw [← he]; exact hex8_val (bitsN_lt (isF_small hn))
    unfold rhk
    rw [decide_eq_true h8, hall, hv, ← hb, hv]
    simp
  · rw [decide_eq_false he]
    cases hr : rhk l
    · rfl
    · have hnv := key hr
      unfold rhk at hr
      simp only [Bool.and_eq_true, decide_eq_true_eq] at hr
      exact absurd (by rw [hnv, hr.2]; exact hex8_fold hr.1.2 hr.1.1) he
theorem rhk_no {l : List UInt8} (h : ∀ n, pu 0 l ≠ .ok n) : rhk l = false := by
  cases hr : rhk l
  · rfl
  · unfold rhk at hr
    simp only [Bool.and_eq_true, decide_eq_true_eq] at hr
    exact absurd (pu_hex hr.1.2 hr.1.1) (h _)
theorem rhk_len {l : List UInt8} (h : l.length ≠ 8) : rhk l = false := by unfold rhk; rw [decide_eq_false h]; rfl
/-- What is laid when the call begins. -/
structure RxF (w : World) : Prop where
  deb : Deb w
  syn : ∃ tp p, w.cell? ⟨2, 0, none⟩ = some (.iface tp p)
  ran : ∃ tp p, w.cell? ⟨3, 0, none⟩ = some (.iface tp p)
  mx : ∃ m : Int, w.cell? ⟨4, 0, none⟩ = some (.int .i64 m)
theorem RxF.below {w w' : World} (h : RxF w) (hb : Below w.heap.size w w') : RxF w' := by
  obtain ⟨h1, ⟨tp, p, h2⟩, ⟨tq, q, h3⟩, ⟨m, h4⟩⟩ := h
  exact ⟨h1.below hb, ⟨tp, p, by rw [hb.cell (World.block_lt_of_cell? w _ h2)]; exact h2⟩, ⟨tq, q, by rw [hb.cell (World.block_lt_of_cell? w _ h3)]; exact h3⟩, ⟨m, by rw [hb.cell (World.block_lt_of_cell? w _ h4)]; exact h4⟩⟩
def PuP : PuR → Value → Prop
  | .ok n, v => v = .tuple #[.int .u64 n, .nilIface]
  | .bad, v => ∃ N : Nat, v = .tuple #[.int .u64 0, .iface 135 (.pointer (some ⟨N, 0, none⟩))]
  | .far, v => ∃ N : Nat, v = .tuple #[.int .u64 4294967295, .iface 135 (.pointer (some ⟨N, 0, none⟩))]
set_option maxHeartbeats 1000000 in
theorem pPu_any (t : ByteArray) (hmax : t.size ≤ 281474976710656) (w : World) (h : RxF w) :
    Calls Tryz.prog 78 #[.string t, .int .i64 16, .int .i64 32] w fun e w' => ∃ v, e = .returned v ∧ PuP (puS t.data.toList) v ∧ Below w.heap.size w w' := by
  have HI := Lib.hid (iPu_any t hmax w)
  obtain ⟨_, ⟨tp, p, h2⟩, ⟨tq, q, h3⟩, _⟩ := h
  have HS := Lib.hid (fun w' (hb : Below w.heap.size w w') => Tryz.strconv_toError_syntax ⟨#[80, 97, 114, 115, 101, 85, 105, 110, 116]⟩ t 16 32 (.iface tp p) w' hmax (by rw [hb.cell (World.block_lt_of_cell? w _ h2)]; exact h2) (.inr ⟨tp, p, rfl⟩))
  have HR := Lib.hid (fun w' (hb : Below w.heap.size w w') => Tryz.strconv_toError_range ⟨#[80, 97, 114, 115, 101, 85, 105, 110, 116]⟩ t 16 32 (.iface tq q) w' hmax (by rw [hb.cell (World.block_lt_of_cell? w _ h3)]; exact h3) (.inr ⟨tq, q, rfl⟩))
  clear h2 h3 hmax
  generalize puS t.data.toList = r at *
  rcases r with n | _ | _
  · have HV := Lib.hid (show PuP (.ok n) (.tuple #[.int .u64 n, .nilIface]) from rfl)
    have HI2 : Hid (Calls Tryz.prog 96 #[.string t, .int .i64 16, .int .i64 32] w fun e w' => e = .returned (.tuple #[.int .u64 n, .nilIface]) ∧ Below w.heap.size w w') := HI
    clear HS HR HI
    go_enter Tryz.func78, Tryz.ntmps78
    go_wp2_with fail
    refine HI2.out.mono ?_
    rintro e w1 ⟨rfl, hb⟩
    go_wp2_with fail
    go_ret2
    exact ⟨_, rfl, HV.out, hb⟩
  · have HV := Lib.hid (fun N : Nat => show PuP .bad (.tuple #[.int .u64 0, .iface 135 (.pointer (some ⟨N, 0, none⟩))]) from ⟨N, rfl⟩)
    have HI2 : Hid (Calls Tryz.prog 96 #[.string t, .int .i64 16, .int .i64 32] w fun e w' => e = .returned (.tuple #[.int .u64 0, .iface 132 (.int .i64 2)]) ∧ Below w.heap.size w w') := HI
    clear HR HI
    go_enter Tryz.func78, Tryz.ntmps78
    go_wp2_with fail
    refine HI2.out.mono ?_
    rintro e w1 ⟨rfl, hb⟩
    go_wp2_with fail
    refine (HS.out _ hb).mono ?_
    rintro e w2 ⟨N, rfl, _, _, hb2⟩
    have D := B_trans hb hb2
    clear hb hb2
    go_wp2_with fail
    go_ret2
    exact ⟨_, rfl, HV.out N, D⟩
  · have HV := Lib.hid (fun N : Nat => show PuP .far (.tuple #[.int .u64 4294967295, .iface 135 (.pointer (some ⟨N, 0, none⟩))]) from ⟨N, rfl⟩)
    have HI2 : Hid (Calls Tryz.prog 96 #[.string t, .int .i64 16, .int .i64 32] w fun e w' => e = .returned (.tuple #[.int .u64 4294967295, .iface 132 (.int .i64 1)]) ∧ Below w.heap.size w w') := HI
    clear HS HI
    go_enter Tryz.func78, Tryz.ntmps78
    go_wp2_with fail
    refine HI2.out.mono ?_
    rintro e w1 ⟨rfl, hb⟩
    go_wp2_with fail
    refine (HR.out _ hb).mono ?_
    rintro e w2 ⟨N, rfl, _, _, hb2⟩
    have D := B_trans hb hb2
    clear hb hb2
    go_wp2_with fail
    go_ret2
    exact ⟨_, rfl, HV.out N, D⟩
/-- The call returns the number with a text, and whether there is one. -/
def RHex (w : World) (l : List UInt8) (e : Ending) (w' : World) : Prop := ∃ x, e = .returned (.tuple #[.float .f32 x, .bool (rhk l)]) ∧ (rhk l = true → x = hval l) ∧ Below w.heap.size w w'
theorem rhex_no {w w' : World} {l : List UInt8} {x : Nat} (h : rhk l = false) (hb : Below w.heap.size w w') : RHex w l (.returned (.tuple #[.float .f32 x, .bool false])) w' :=
  ⟨x, by rw [h], (fun e => by rw [h] at e; cases e), hb⟩
theorem rhex_yes {w w' : World} {l : List UInt8} {x : Nat} (h : rhk l = true) (hx : x = hval l) (hb : Below w.heap.size w w') : RHex w l (.returned (.tuple #[.float .f32 x, .bool true])) w' :=
  ⟨x, by rw [h], fun _ => hx, hb⟩
set_option maxRecDepth 100000 in
set_option maxHeartbeats 2000000 in
theorem readHex_any (t : ByteArray) (hmax : t.size ≤ 281474976710656) (w : World) (h : RxF w) : Calls Tryz.prog 49 #[.string t] w (RHex w t.data.toList) := by
  have HP := Lib.hid (pPu_any t hmax w h)
  have hx := fun (b : Nat) w => ext_f32from b w
  have hx0 := fun w => show (callFunc 54 #[.int .u32 0]).run Tryz.prog w = .ok (.value (.float .f32 0)) w from ext_f32from 0 w
  have hxm := fun w => show (callFunc 54 #[.int .u32 4294967295]).run Tryz.prog w = .ok (.value (.float .f32 4294967295)) w from ext_f32from 4294967295 w
  have HN : (∀ n, pu 0 t.data.toList ≠ .ok n) → Hid (∀ w' x, Below w.heap.size w w' → RHex w t.data.toList (.returned (.tuple #[.float .f32 x, .bool false])) w') := fun hp => Lib.hid (fun w' x hb => rhex_no (rhk_no hp) hb)
  by_cases h0 : t.data.toList = []
  · have hr : puS t.data.toList = .bad := by rw [h0]; rfl
    have HN2 : Hid (∀ w' x, Below w.heap.size w w' → RHex w t.data.toList (.returned (.tuple #[.float .f32 x, .bool false])) w') := Lib.hid (fun w' x hb => rhex_no (rhk_len (by rw [h0]; decide)) hb)
    rw [hr] at HP
    clear hr HN h h0 hmax
    go_enter Tryz.func49, Tryz.ntmps49
    go_wp2_with fail
    refine HP.out.mono ?_
    rintro e w1 ⟨v, rfl, ⟨N, rfl⟩, hb⟩
    go_wp2_with fail
    go_ret2
    exact HN2.out _ _ hb
  · have hr : puS t.data.toList = pu 0 t.data.toList := by unfold puS; rw [if_neg h0]
    rw [hr] at HP
    cases hp : pu 0 t.data.toList with
    | bad =>
      have HN2 := HN (fun n e => by rw [hp] at e; cases e)
      rw [hp] at HP
      clear hr HN h h0 hmax hp
      go_enter Tryz.func49, Tryz.ntmps49
      go_wp2_with fail
      refine HP.out.mono ?_
      rintro e w1 ⟨v, rfl, ⟨N, rfl⟩, hb⟩
      go_wp2_with fail
      go_ret2
      exact HN2.out _ _ hb
    | far =>
      have HN2 := HN (fun n e => by rw [hp] at e; cases e)
      rw [hp] at HP
      clear hr HN h h0 hmax hp
      go_enter Tryz.func49, Tryz.ntmps49
      go_wp2_with fail
      refine HP.out.mono ?_
      rintro e w1 ⟨v, rfl, ⟨N, rfl⟩, hb⟩
      go_wp2_with fail
      go_ret2
      exact HN2.out _ _ hb
    | ok n =>
      have hn := pu_le _ 0 n (by omega) hp
      obtain ⟨k1, k2⟩ := rhk_ok hp
      rw [hp] at HP
      have HH := Lib.hid (fun w' (hb : Below w.heap.size w w') => hexOf_any n _ (isF_small hn) w' (h.deb.below hb))
      clear hr HN h h0 hmax hp
      by_cases he : hex8 (bitsN (cl .f32 n)) = t.data.toList
      · rw [decide_eq_true he] at k1
        have HY := Lib.hid (fun w' (hb : Below w.heap.size w w') => rhex_yes (w := w) k1 (k2 k1) hb)
        have he2 : (⟨(hex8 (bitsN (cl .f32 n))).toArray⟩ : ByteArray) = t := (bs_none he.symm).symm
        rw [he2] at HH
        clear k1 k2 he he2
        go_enter Tryz.func49, Tryz.ntmps49
        go_wp2_with fail
        refine HP.out.mono ?_
        rintro e w1 ⟨v, rfl, rfl, hb⟩
        go_wp2_with fail
        refine (HH.out _ hb).mono ?_
        rintro e w2 ⟨rfl, hb2⟩
        have D := B_trans hb hb2
        clear hb hb2
        go_wp2_with fail
        go_ret2
        exact HY.out _ D
      · rw [decide_eq_false he] at k1
        have HY := Lib.hid (fun w' (hb : Below w.heap.size w w') => rhex_no (w := w) (x := n) k1 hb)
        have he2 : ¬ (⟨(hex8 (bitsN (cl .f32 n))).toArray⟩ : ByteArray) = t := fun e => he (by rw [← e])
        generalize (⟨(hex8 (bitsN (cl .f32 n))).toArray⟩ : ByteArray) = u at *
        have he3 : (u.toList == t.toList) = false := (Lib.bytes_beq_false_iff _ _).2 he2
        clear k1 k2 he he2
        go_enter Tryz.func49, Tryz.ntmps49
        go_wp2_with fail
        refine HP.out.mono ?_
        rintro e w1 ⟨v, rfl, rfl, hb⟩
        go_wp2_with fail
        refine (HH.out _ hb).mono ?_
        rintro e w2 ⟨rfl, hb2⟩
        have D := B_trans hb hb2
        clear hb hb2
        go_wp2_with fail
        go_ret2
        exact HY.out _ D
end Go.Proofs.YtgaecoekhcdaeaaGreatDoor
