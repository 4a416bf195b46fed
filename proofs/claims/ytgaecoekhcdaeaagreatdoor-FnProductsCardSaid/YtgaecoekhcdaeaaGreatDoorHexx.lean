/-
  Hexadecimal texts: the library's formatBits at base 16.
-/
import Derived.Test.YtgaecoekhcdaeaaGreatDoorHexw
namespace Go.Proofs.YtgaecoekhcdaeaaGreatDoor
set_option linter.unusedVariables false
set_option linter.unusedSimpArgs false
set_option maxRecDepth 20000
open Go.RowKit Fl

def ucell (x : UInt8) : Value := .int .u8 (x.toNat : Int)
/-- How far the library's loop is. -/
def HexI (n z : Nat) (L : List UInt8) (j : Nat) : Prop := L.length = j ∧ j ≤ 7 ∧ z < 16 ^ (8 - j) ∧ hexL n = hexL z ++ L
theorem HexI.start {n : Nat} (h : n < 4294967296) : HexI n n [] 0 := ⟨rfl, by decide, by simpa using h, by simp⟩
theorem HexI.next {n z : Nat} {L : List UInt8} {j : Nat} (h : HexI n z L j) (hz : ¬ z < 16) : HexI n (z / 16) (hxd (z % 16) :: L) (j + 1) := by
  obtain ⟨h1, h2, h3, h4⟩ := h
  have h5 : j + 1 ≤ 7 := by
    rcases Nat.lt_or_ge j 7 with h5 | h5
    · exact h5
    · rw [show 8 - j = 1 by omega] at h3; omega
  refine ⟨by simp [h1], h5, ?_, ?_⟩
  · rw [show 8 - j = 8 - (j + 1) + 1 by omega, Nat.pow_succ] at h3
    exact Nat.div_lt_of_lt_mul (by omega)
  · rw [h4, hexL_high hz, List.append_assoc]; rfl
theorem HexI.last {n z : Nat} {L : List UInt8} {j : Nat} (h : HexI n z L j) (hz : z < 16) : hexL n = hxd z :: L := by
  rw [h.2.2.2, hexL_low hz]; rfl
/-- What the array holds. -/
structure HexM (w : World) (g : Nat) (L : List UInt8) (j : Nat) : Prop where
  cell : ∀ {o}, o < 65 - j → w.cell? ⟨g, o, none⟩ = some (.int .u8 0)
  dig : ∀ i x, L[i]? = some x → w.cell? ⟨g, 65 - j + i, none⟩ = some (ucell x)
  frozen : ∀ o, w.frozen? ⟨g, o, none⟩ = false
theorem HexM.next {w : World} {g : Nat} {L : List UInt8} {j : Nat} (h : HexM w g L j) (hj : j ≤ 64) (x : UInt8) : HexM (w.setCell ⟨g, 64 - j, none⟩ (ucell x)) g (x :: L) (j + 1) := by
  refine ⟨fun {o} ho => ?_, fun i y hy => ?_, fun o => by rw [World.frozen?_setCell]; exact h.frozen o⟩
  · rw [World.cell?_setCell_other _ _ _ _ (by intro e; injection e with _ e _; omega)]
    exact h.cell (by omega)
  · cases i with
    | zero =>
      obtain rfl : x = y := by simpa using hy
      rw [show 65 - (j + 1) + 0 = 64 - j by omega]
      exact World.cell?_setCell_same _ _ _ (h.cell (by omega))
    | succ i =>
      rw [World.cell?_setCell_other _ _ _ _ (by intro e; injection e with _ e _; omega)]
      have := h.dig i y (by simpa using hy)
      rw [show 65 - (j + 1) + (i + 1) = 65 - j + i by omega]
      exact this
theorem and15 (z : Nat) (h : z < 4294967296) : bits .and .u64 (z : Int) 15 = ((z % 16 : Nat) : Int) := by
  have e := u64_and_nat z 15 (by omega) (by decide)
  have e2 : z &&& 15 = z % 16 := Nat.and_two_pow_sub_one_eq_mod z 4
  rw [e2] at e
  exact e
def digs36 : ByteArray := ⟨#[48, 49, 50, 51, 52, 53, 54, 55, 56, 57, 97, 98, 99, 100, 101, 102, 103, 104, 105, 106, 107, 108, 109, 110, 111, 112, 113, 114, 115, 116, 117, 118, 119, 120, 121, 122]⟩
theorem dig36 {d : Nat} (h : d < 16) (p : d < digs36.size) : digs36[d]'p = hxd d := by
  have : (List.range 16).all (fun d => digs36.data.toList[d]? == some (hxd d)) = true := by decide +kernel
  rw [List.all_eq_true] at this
  have h2 := this d (by simpa using h)
  have h3 : digs36.data.toList[d]? = some (hxd d) := by simpa using h2
  rw [List.getElem?_eq_getElem (by simpa using p)] at h3
  exact Option.some.inj h3
theorem HexM.start (w : World) : HexM (w.alloc (.cells Tryz.zeroCells141 141)) w.heap.size [] 0 := by
  have e : Tryz.zeroCells141 = Array.replicate 65 (.int .u8 0) := by kernel_rfl
  rw [e]
  refine ⟨fun {o} ho => ?_, fun i x hi => by simp at hi, fun o => World.frozen?_alloc_new _ _ _ _⟩
  rw [World.cell?_alloc_new, Array.getElem?_replicate, if_pos (by omega)]
theorem slice_tail (g j : Nat) (hj : j ≤ 64) (w : World) : (Instr.sliceAt 141 (.pointer (some ⟨g, 0, none⟩)) (some (.int .i64 ((64 - j : Nat) : Int))) none none).run Tryz.prog w = .ok (.slice (some ⟨g, 64 - j, none⟩) (j + 1) (j + 1)) w := by
  have hl : Tryz.prog.arrayLen 141 = 65 := by kernel_rfl
  have ht : Tryz.prog.underlying 141 = some (.array (Tryz.prog.arrayLen 141) (Tryz.prog.elem 141)) := by kernel_rfl
  have hs : ∀ w, (sizeOf (Tryz.prog.elem 141)).run Tryz.prog w = .ok 1 w := fun w => by
    have e : Tryz.prog.elem 141 = 5 := by kernel_rfl
    rw [e]
    exact Tryz.sizeOf5 w
  rw [run_sliceAt_array_l w 141 ⟨g, 0, none⟩ ht .i64 _ (by omega) (by rw [hl]; omega), hs, hl]
  simp only [Result.andThen_ok, slicedAt, Int.toNat_natCast]
  rw [if_neg (by omega), show 65 - (64 - j) = j + 1 by omega]
  simp [Addr.add]
  try omega
set_option maxRecDepth 100000 in
set_option maxHeartbeats 2000000 in
theorem formatBits16_any (n : Nat) (h : n < 4294967296) (w : World) (ht : Deb w) :
    Calls Tryz.prog 103 #[.slice none 0 0, .int .u64 n, .int .i64 16, .bool false, .bool false] w fun e w' => e = .returned (.tuple #[.slice none 0 0, .string ⟨(hexL n).toArray⟩]) ∧ Below w.heap.size w w' := by
  have HT := Lib.hid (fun w' (hb : Below w.heap.size w w') => tz_16 w' (ht.below hb))
  have HP := Lib.hid (fun w' => isPow16 w')
  clear ht
  go_enter Tryz.func103, Tryz.ntmps103
  go_wp2_with fail
  refine (HP.out _).mono ?_
  rintro e w1 ⟨rfl, hw1⟩
  obtain rfl := hw1.symm
  go_wp2_with fail
  refine (HT.out _ (by (repeat' first | assumption | exact Below.refl _ _ | refine B_drew ?_ _ | refine Below.drew ?_ | refine Below.alloc ?_ (by first | exact Nat.le_refl _ | (simp; done) | (simp; omega)) _))).mono ?_
  rintro e w1 ⟨rfl, hw1⟩
  obtain rfl := hw1.symm
  go_wp2_with fail
  clear HT HP
  go_loopw [1, 13] (fun u i wr => ∃ (z j : Nat) (L : List UInt8), j ≤ 7 ∧ u = .int .u64 (z : Int) ∧ i = .int .i64 ((65 - j : Nat) : Int) ∧ Hid (HexI n z L j) ∧ z < 4294967296 ∧ Hid (HexM wr w.heap.size L j) ∧ Below w.heap.size w wr) (fun u _ _ => (intOf u).toNat)
  case atStart => exact ⟨n, 0, [], Nat.zero_le _, rfl, rfl, Lib.hid (HexI.start h), h, Lib.hid (HexM.start _), by (repeat' first | assumption | exact Below.refl _ _ | refine B_drew ?_ _ | refine Below.drew ?_ | refine Below.alloc ?_ (by first | exact Nat.le_refl _ | (simp; done) | (simp; omega)) _)⟩
  case round =>
    obtain ⟨z, j, L, hj, rfl, rfl, hI, hz, hM, hW⟩ := hrel
    by_cases hlt : z < 16
    · have c0 := hM.out.cell (o := 64 - j) (by omega)
      have z0 := hM.out.frozen (64 - j)
      have e3 : ((65 - j : Nat) : Int) - 1 = ((64 - j : Nat) : Int) := by omega
      have e4 : 64 - j < 65 := by omega
      have hm : z < 16 := hlt
      have HV := fun p => show Value.int .u8 (((⟨#[48, 49, 50, 51, 52, 53, 54, 55, 56, 57, 97, 98, 99, 100, 101, 102, 103, 104, 105, 106, 107, 108, 109, 110, 111, 112, 113, 114, 115, 116, 117, 118, 119, 120, 121, 122]⟩ : ByteArray)[z]'p).toNat : Int) = ucell (hxd z) from congrArg (fun x : UInt8 => Value.int .u8 (x.toNat : Int)) (dig36 hlt p)
      have hsl := slice_tail w.heap.size j (by omega)
      have hN := hM.out.next (by omega) (hxd z)
      have hlen : (hxd z :: L).length = j + 1 := by simp [hI.out.1]
      have HC := Lib.hid (show (convert 22 9 (.slice (some ⟨w.heap.size, 64 - j, none⟩) (j + 1) (j + 1))).run Tryz.prog (wr.setCell ⟨w.heap.size, 64 - j, none⟩ (ucell (hxd z))) = .ok (.string ⟨(hexL n).toArray⟩) (wr.setCell ⟨w.heap.size, 64 - j, none⟩ (ucell (hxd z))) by
        have := run_convert_bytes_back (P := Tryz.prog) (wr.setCell ⟨w.heap.size, 64 - j, none⟩ (ucell (hxd z))) 22 9 5 ⟨w.heap.size, 64 - j, none⟩ (j + 1) (hxd z :: L) Tryz.underlying22 Tryz.underlying5 Tryz.underlying9 (fun i hi => by
          rw [Addr.add_lit]
          have := hN.dig i _ (List.getElem?_eq_getElem hi)
          rw [show 65 - (j + 1) + i = 64 - j + i by omega] at this
          exact this)
        rw [hlen, ← hI.out.last hlt] at this
        exact this)
      have hW2 : Below w.heap.size w (wr.setCell ⟨w.heap.size, 64 - j, none⟩ (ucell (hxd z))) := hW.setCell (Nat.le_refl _) _
      clear hN hlen hM hI hW
      unfold ucell at HV HC hW2
      generalize ((hxd z).toNat : Int) = uc at *
      have HC2 := HC.out
      clear HC
      go_wp2_with fail
      go_ret2
      exact ⟨rfl, hW2⟩
    · have e1 := Lib.hid (and15 z hz)
      have hm : z % 16 < 16 := Nat.mod_lt _ (by decide)
      have c0 := hM.out.cell (o := 64 - j) (by omega)
      have z0 := hM.out.frozen (64 - j)
      have e2 : bits .and .u64 (z : Int) 15 = ((z % 16 : Nat) : Int) := e1.out
      have e3 : ((65 - j : Nat) : Int) - 1 = ((64 - j : Nat) : Int) := by omega
      have e4 : 64 - j < 65 := by omega
      go_wp2_with fail
      rw [show (∀ p, Value.int .u8 (((⟨#[48, 49, 50, 51, 52, 53, 54, 55, 56, 57, 97, 98, 99, 100, 101, 102, 103, 104, 105, 106, 107, 108, 109, 110, 111, 112, 113, 114, 115, 116, 117, 118, 119, 120, 121, 122]⟩ : ByteArray)[z % 16]'p).toNat : Int) = ucell (hxd (z % 16))) from fun p => congrArg (fun x : UInt8 => Value.int .u8 (x.toNat : Int)) (dig36 hm p)]
      refine ⟨⟨z / 16, j + 1, _, ?_, by simp, ?_, Lib.hid (hI.out.next hlt), by omega, Lib.hid (hM.out.next (by omega) _), hW.setCell (Nat.le_refl _) _⟩, ?_⟩
      · exact (hI.out.next hlt).2.1
      · rw [show 65 - (j + 1) = 64 - j by omega]
      · simp only [intOf]; omega
theorem ifmt16_any (n : Nat) (h : n < 4294967296) (w : World) (ht : Deb w) : Calls Tryz.prog 88 #[.int .i64 n, .int .i64 16] w fun e w' => e = .returned (.string ⟨(hexL n).toArray⟩) ∧ Below w.heap.size w w' := by
  have HF := Lib.hid (formatBits16_any n h w ht)
  clear ht
  go_enter Tryz.func88, Tryz.ntmps88
  go_wp2_with fail
  refine HF.out.mono ?_
  rintro e w1 ⟨rfl, hb⟩
  go_wp2_with fail
  go_ret
  exact ⟨rfl, hb⟩
theorem fmt16_any (n : Nat) (h : n < 4294967296) (w : World) (ht : Deb w) : Calls Tryz.prog 74 #[.int .i64 n, .int .i64 16] w fun e w' => e = .returned (.string ⟨(hexL n).toArray⟩) ∧ Below w.heap.size w w' := by
  have HF := Lib.hid (ifmt16_any n h w ht)
  clear ht
  go_enter Tryz.func74, Tryz.ntmps74
  go_wp2_with fail
  refine HF.out.mono ?_
  rintro e w1 ⟨rfl, hb⟩
  go_wp2_with fail
  go_ret
  exact ⟨rfl, hb⟩
/-- The bits of a number, the one NaN's for each NaN. -/
def bitsN (v : Option Nat) : Nat := match v with | none => 2143289344 | some b => b
theorem bitsI_N (v : Option Nat) : bitsI v = (bitsN v : Int) := by cases v <;> rfl
theorem bitsN_lt {b : Nat} {v : Option Nat} (h : IsF .f32 b v) : bitsN v < 4294967296 := by
  cases v with
  | none => decide
  | some x => obtain ⟨rfl, _⟩ := h.num; exact h.2
theorem repeat_zero (k : Nat) : Lib.repeatL [48] k = List.replicate k 48 := by
  induction k with
  | zero => rfl
  | succ k ih => rw [Lib.repeatL, ih]; rfl
theorem ba_app2 (a b : List UInt8) : (⟨a.toArray⟩ : ByteArray) ++ (⟨b.toArray⟩ : ByteArray) = ⟨(a ++ b).toArray⟩ := by
  apply ByteArray.ext
  simp [ByteArray.data_append]
set_option maxHeartbeats 1000000 in
theorem hexOf_any (b : Nat) (v : Option Nat) (h : IsF .f32 b v) (w : World) (ht : Deb w) : Calls Tryz.prog 46 #[.float .f32 b] w fun e w' => e = .returned (.string ⟨(hex8 (bitsN v)).toArray⟩) ∧ Below w.heap.size w w' := by
  have hn := bitsN_lt h
  have HB := Lib.hid (fun w' => iBitsOf_any b v h w')
  rw [bitsI_N] at HB
  generalize bitsN v = n at *
  have HF := Lib.hid (fun w' (hb : Below w.heap.size w w') => fmt16_any n hn w' (ht.below hb))
  obtain ⟨hlen, hpad⟩ := hex8_pad hn
  have HR := Lib.hid (fun w' => Tryz.strings_Repeat ⟨#[48]⟩ (8 - (hexL n).length) w' (by omega) (by show 1 * _ ≤ _; omega))
  have HA := Lib.hid (show (⟨(Lib.repeatL [48] (8 - (hexL n).length)).toArray⟩ : ByteArray) ++ ⟨(hexL n).toArray⟩ = ⟨(hex8 n).toArray⟩ by rw [repeat_zero, ba_app2, hpad])
  have hrl : (Lib.repeatL [48] (8 - (hexL n).length)).length ≤ 8 := by rw [repeat_zero, List.length_replicate]; omega
  have e8 : (8 : Int) - ((hexL n).length : Int) = ((8 - (hexL n).length : Nat) : Int) := by omega
  clear h ht hpad
  have HA2 := HA.out
  generalize hexL n = L at *
  generalize (Lib.repeatL [48] (8 - L.length)) = R at *
  clear HA2
  go_enter Tryz.func46, Tryz.ntmps46
  go_wp2_with fail
  refine (HB.out _).mono ?_
  rintro e w1 ⟨rfl, hw1⟩
  obtain rfl := hw1.symm
  clear hw1
  go_wp2_with fail
  refine (HF.out _ (Below.refl _ _)).mono ?_
  rintro e w2 ⟨rfl, hb2⟩
  go_wp2_with fail
  refine (HR.out _).mono ?_
  rintro e w3 ⟨rfl, hb3⟩
  have D := B_trans hb2 hb3
  clear hb2 hb3
  go_wp2_with fail
  go_ret
  exact ⟨by rw [← HA.out]; rfl, D⟩
end Go.Proofs.YtgaecoekhcdaeaaGreatDoor
