/-
  Hexadecimal texts: the reference's side.
-/
import Derived.Test.YtcnnmcmaeeffiaaDoorHexx
namespace Go.Proofs.YtcnnmcmaeeffiaaDoor
set_option linter.unusedVariables false
set_option linter.unusedSimpArgs false
open Go.RowKit Fl

theorem hexW_get (k n : Nat) : ∀ j, j < k → (hexW k n)[j]? = some (hxd (n / 16 ^ (k - 1 - j) % 16)) := by
  induction k with
  | zero => intro j h; exact absurd h (Nat.not_lt_zero _)
  | succ k ih =>
    intro j h
    rw [hexW_left]
    cases j with
    | zero => simp
    | succ j =>
      rw [List.getElem?_cons_succ, ih j (by omega)]
      rw [show k + 1 - 1 - (j + 1) = k - 1 - j by omega]
theorem hex8_take {n j : Nat} (h : j < 8) : (hex8 n).take (j + 1) = (hex8 n).take j ++ [hxd (n / 16 ^ (7 - j) % 16)] := by
  have hl := hex8_len n
  rw [List.take_succ_eq_append_getElem (by rw [hl]; exact h)]
  have := hexW_get 8 n j h
  rw [List.getElem?_eq_getElem (by rw [hexW_len]; exact h)] at this
  rw [show (hex8 n)[j]'(by rw [hl]; exact h) = hxd (n / 16 ^ (7 - j) % 16) from Option.some.inj this]
def digs16 : ByteArray := ⟨#[48, 49, 50, 51, 52, 53, 54, 55, 56, 57, 97, 98, 99, 100, 101, 102]⟩
theorem dig16 {d : Nat} (h : d < 16) (p : d < digs16.size) : digs16[d]'p = hxd d := by
  have : (List.range 16).all (fun d => digs16.data.toList[d]? == some (hxd d)) = true := by decide +kernel
  rw [List.all_eq_true] at this
  have h2 := this d (by simpa using h)
  have h3 : digs16.data.toList[d]? = some (hxd d) := by simpa using h2
  rw [List.getElem?_eq_getElem (by simpa using p)] at h3
  exact Option.some.inj h3
theorem and15i (z : Nat) (h : z < 4294967296) : bits .and .i64 (z : Int) 15 = ((z % 16 : Nat) : Int) := by
  have e := i64_and_nat z 15 (by omega) (by decide)
  have e2 : z &&& 15 = z % 16 := Nat.and_two_pow_sub_one_eq_mod z 4
  rw [e2] at e
  exact e
theorem shr_hex (n j : Nat) (k : Int) (hj : j < 8) (hk : k = 28 - 4 * (j : Int)) : (n : Int) / 2 ^ k.toNat = ((n / 16 ^ (7 - j) : Nat) : Int) := by
  have e : k.toNat = 4 * (7 - j) := by omega
  rw [e, Int.natCast_ediv]
  congr 1
  rw [Int.pow_mul]
  simp
theorem info_u8 : (Tryd.prog.info? 5).map (fun i => (i.zero, i.size, i.bytes)) = some (some (.int .u8 0), 1, 1) := by kernel_rfl
theorem hxo_slice {w : World} {B : Nat} {e : TypeId} {s : Nat} {v : Value} {n : Nat} {xs : List Value} (h : w.ownsRow B e s v (n + 1) xs) : ∃ g cap, v = .slice (some ⟨g, 0, none⟩) (n + 1) cap := by
  obtain ⟨_, ⟨_, h0⟩ | ⟨g, cap, _, h1, _⟩⟩ := h
  · cases h0
  · exact ⟨g, cap, h1⟩
theorem hx_run (w : World) {B : Nat} (g cap : Nat) {k : Nat} (L : List UInt8) (hl : L.length = k) (h : w.ownsRow B 5 1 (.slice (some ⟨g, 0, none⟩) k cap) k (L.map ucell)) :
    (convert 64 9 (.slice (some ⟨g, 0, none⟩) k cap)).run Tryd.prog w = .ok (.string ⟨L.toArray⟩) w := by
  have hc : ∀ j (hj : j < L.length), w.cell? ((⟨g, 0, none⟩ : Addr).add j) = some (.int .u8 (L[j].toNat : Int)) := by
    intro j hj
    have := h.cells (g := g) rfl j (ucell L[j]) (by simp [hj])
    exact this
  have := run_convert_bytes_back (P := Tryd.prog) w 64 9 5 ⟨g, 0, none⟩ cap L Tryd.underlying64 Tryd.underlying5 Tryd.underlying9 hc
  rw [hl] at this
  exact this
set_option maxRecDepth 100000 in
set_option maxHeartbeats 2000000 in
theorem l01Hex_any (b : Nat) (v : Option Nat) (h : IsF .f32 b v) (w : World) : Calls Tryd.prog 29 #[.float .f32 b] w fun e w' => e = .returned (.string ⟨(hex8 (bitsN v)).toArray⟩) ∧ Below w.heap.size w w' := by
  have hn := bitsN_lt h
  have HB := Lib.hid (fun w' => l01Bits_any b v h w')
  rw [bitsI_N] at HB
  generalize bitsN v = n at *
  obtain ⟨i0, hi, hz0, hz1, hz2⟩ := info_parts info_u8
  clear h
  go_enter Tryd.func29, Tryd.ntmps29
  go_wp2_with fail
  refine (HB.out _).mono ?_
  rintro e w1 ⟨rfl, hw1⟩
  obtain rfl := hw1.symm
  clear hw1 HB
  go_wp2_with fail
  have hown0 : (w.alloc (.cells #[] 5)).ownsRow w.heap.size 5 1 (.slice (some ⟨w.heap.size, 0, none⟩) 0 0) 0 [] :=
    World.ownsRow_made (base := w.heap.size) (e := 5) (size := 1) w #[] 0 (Nat.le_refl _) (Nat.zero_le _) rfl
  go_loopw [4, 5] (fun o i wr => ∃ (j : Nat) (k : Int), j ≤ 8 ∧ i = .int .i64 k ∧ k = 28 - 4 * (j : Int) ∧ wr.ownsRow w.heap.size 5 1 o j (((hex8 n).take j).map ucell) ∧ Below w.heap.size w wr) (fun _ i _ => (intOf i + 4).toNat)
  case atStart => exact ⟨0, 28, Nat.zero_le _, rfl, rfl, hown0, by (repeat' first | assumption | exact Below.refl _ _ | refine B_drew ?_ _ | refine Below.drew ?_ | refine Below.alloc ?_ (by first | exact Nat.le_refl _ | (simp; done) | (simp; omega)) _)⟩
  case round =>
    clear hown0
    obtain ⟨j, k, hj, rfl, hk, hown, hW⟩ := hrel
    have hk1 : k ≤ 28 := by omega
    have HK := Lib.hid hk
    clear hk
    by_cases hlt : j < 8
    · have hk0 : 0 ≤ k := by have := HK.out; omega
      have HX := Lib.hid (hex8_take (n := n) hlt)
      have HOWN := Lib.hid hown
      have hsz := hW.size
      have e1 := shr_hex n j k hlt HK.out
      have hm : n / 16 ^ (7 - j) < 4294967296 := Nat.lt_of_le_of_lt (Nat.div_le_self _ _) hn
      clear hown
      generalize n / 16 ^ (7 - j) = m at *
      have e2 := and15i m hm
      have hm2 : m % 16 < 16 := Nat.mod_lt _ (by decide)
      have HV := fun p => show Value.int .u8 (((⟨#[48, 49, 50, 51, 52, 53, 54, 55, 56, 57, 97, 98, 99, 100, 101, 102]⟩ : ByteArray)[m % 16]'p).toNat : Int) = ucell (hxd (m % 16)) from congrArg (fun x : UInt8 => Value.int .u8 (x.toNat : Int)) (dig16 hm2 p)
      have HC := Lib.hid (show ucell (hxd (m % 16)) = .int .u8 ((hxd (m % 16)).toNat : Int) from rfl)
      unfold ucell at HV
      generalize hc : ((hxd (m % 16)).toNat : Int) = c at *
      clear hc
      go_wp2_with (at_builtin; refine wpList_append_own _ rfl _ _ 64 rfl w.heap.size 5 i0 (.int .u8 0) 1 1 Tryd.underlying64 hi hz0 hz1 hz2 rfl (by decide) _ _ _ rfl (own_hp (HOWN.out.alloc (.cells #[.int .u8 c] 5)) rfl) _ 1 _ [.int .u8 c] rfl rfl ?c1 ?c2 ?c3 ?c4 ?c5 ?_)
      case c1 =>
        intro j u hj
        match j, hj with
        | 0, hj => simp at hj; subst hj; exact cell_nw rfl
      case c2 => intro u hu; simp at hu; subst hu; rfl
      case c3 => unfold maxLen; omega
      case c4 => omega
      case c5 => simp; omega
      intro v' w1 hown' hgrow _
      have hown3 : w1.ownsRow w.heap.size 5 1 v' (j + 1) (((hex8 n).take (j + 1)).map ucell) := by rw [HX.out, List.map_append, List.map_singleton, HC.out]; first | exact hown' | (rw [List.map_take]; exact hown')
      have D2 : Below w.heap.size w w1 := Below.grown (hW.alloc hsz _) hgrow (by simp; omega) (fun g hg => (HOWN.out.lt g hg).1)
      clear hown' hgrow HOWN HV e1 e2
      go_wp2_with fail
      go_roundw
      case rel => exact ⟨j + 1, k - 4, by omega, rfl, by have := HK.out; omega, own_hp hown3 rfl, D2⟩
      case measure => simp [intOf]; omega
    · have hk0 : k < 0 := by have := HK.out; omega
      obtain rfl : j = 8 := by omega
      rw [List.take_of_length_le (by rw [hex8_len]; exact Nat.le_refl _)] at hown
      obtain ⟨g, cap, rfl⟩ := hxo_slice hown
      have hcv := hx_run wr g cap (hex8 n) (hex8_len n) hown
      clear hown
      go_wp2_with fail
      go_ret
      exact ⟨rfl, hW⟩
end Go.Proofs.YtcnnmcmaeeffiaaDoor
