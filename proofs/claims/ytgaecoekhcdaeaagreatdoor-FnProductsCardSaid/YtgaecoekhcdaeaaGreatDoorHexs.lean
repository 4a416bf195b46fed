/-
  Hexadecimal texts: the reference's side.
-/
import Derived.Test.YtgaecoekhcdaeaaGreatDoorHexx
namespace Go.Proofs.YtgaecoekhcdaeaaGreatDoor
set_option linter.unusedVariables false
set_option linter.unusedSimpArgs false
set_option maxRecDepth 20000
open Go.RowKit Fl

theorem hexW_get (k n : Nat) : ∀ j, j < k → (hexW k n)[j]? = some (hxd (n / 16 ^ (k - 1 - j) % 16)) := by
  induction k with
  | zero => intro j h; exact absurd h (Nat.not_lt_zero _)
  | succ k ih =>
    intro j h
    rw [hexW_left]
    cases j with
    | zero => simp
    | succ j =>
      rw [List.getElem?_cons_succ, ih j (by omega)]
      rw [show k + 1 - 1 - (j + 1) = k - 1 - j by omega]
theorem hex8_take {n j : Nat} (h : j < 8) : (hex8 n).take (j + 1) = (hex8 n).take j ++ [hxd (n / 16 ^ (7 - j) % 16)] := by
  have hl := hex8_len n
  rw [List.take_succ_eq_append_getElem (by rw [hl]; exact h)]
  have := hexW_get 8 n j h
  rw [List.getElem?_eq_getElem (by rw [hexW_len]; exact h)] at this
  rw [show (hex8 n)[j]'(by rw [hl]; exact h) = hxd (n / 16 ^ (7 - j) % 16) from Option.some.inj this]
def digs16 : ByteArray := ⟨#[48, 49, 50, 51, 52, 53, 54, 55, 56, 57, 97, 98, 99, 100, 101, 102]⟩
theorem dig16 {d : Nat} (h : d < 16) (p : d < digs16.size) : digs16[d]'p = hxd d := by
  have : (List.range 16).all (fun d => digs16.data.toList[d]? == some (hxd d)) = true := by decide +kernel
  rw [List.all_eq_true] at this
  have h2 := this d (by simpa using h)
  have h3 : digs16.data.toList[d]? = some (hxd d) := by simpa using h2
  rw [List.getElem?_eq_getElem (by simpa using p)] at h3
  exact Option.some.inj h3
theorem and15i (z : Nat) (h : z < 4294967296) : bits .and .i64 (z : Int) 15 = ((z % 16 : Nat) : Int) := by
  have e := i64_and_nat z 15 (by omega) (by decide)
  have e2 : z &&& 15 = z % 16 := Nat.and_two_pow_sub_one_eq_mod z 4
  rw [e2] at e
  exact e
theorem shr_hex (n j : Nat) (k : Int) (hj : j < 8) (hk : k = 28 - 4 * (j : Int)) : (n : Int) / 2 ^ k.toNat = ((n / 16 ^ (7 - j) : Nat) : Int) := by
  have e : k.toNat = 4 * (7 - j) := by omega
  rw [e, Int.natCast_ediv]
  congr 1
  rw [Int.pow_mul]
  simp
theorem info_u8 : (Tryz.prog.info? 5).map (fun i => (i.zero, i.size, i.bytes)) = some (some (.int .u8 0), 1, 1) := by kernel_rfl
theorem hxo_slice {w : World} {B : Nat} {e : TypeId} {s : Nat} {v : Value} {n : Nat} {xs : List Value} (h : w.ownsRow B e s v (n + 1) xs) : ∃ g cap, v = .slice (some ⟨g, 0, none⟩) (n + 1) cap := by
  obtain ⟨_, ⟨_, h0⟩ | ⟨g, cap, _, h1, _⟩⟩ := h
  · cases h0
  · exact ⟨g, cap, h1⟩
theorem hx_run (w : World) {B : Nat} (g cap : Nat) {k : Nat} (L : List UInt8) (hl : L.length = k) (h : w.ownsRow B 5 1 (.slice (some ⟨g, 0, none⟩) k cap) k (L.map ucell)) :
    (convert 22 9 (.slice (some ⟨g, 0, none⟩) k cap)).run Tryz.prog w = .ok (.string ⟨L.toArray⟩) w := by
  have hc : ∀ j (hj : j < L.length), w.cell? ((⟨g, 0, none⟩ : Addr).add j) = some (.int .u8 (L[j].toNat : Int)) := by
    intro j hj
    have := h.cells (g := g) rfl j (ucell L[j]) (by simp [hj])
    exact this
  have := run_convert_bytes_back (P := Tryz.prog) w 22 9 5 ⟨g, 0, none⟩ cap L Tryz.underlying22 Tryz.underlying5 Tryz.underlying9 hc
  rw [hl] at this
  exact this
end Go.Proofs.YtgaecoekhcdaeaaGreatDoor
