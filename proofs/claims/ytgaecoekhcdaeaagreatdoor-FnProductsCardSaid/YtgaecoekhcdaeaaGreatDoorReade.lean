/-
  ReadComplex at both sides: the whole.
-/
import Derived.Test.YtgaecoekhcdaeaaGreatDoorReadc
import Derived.Stop.LaidErr
namespace Go.Proofs.YtgaecoekhcdaeaaGreatDoor
set_option linter.unusedVariables false
set_option linter.unusedSimpArgs false
set_option maxRecDepth 20000
open Go.RowKit Fl

def rck (x : List UInt8) : Bool := (decide (x.length = 16) && rhk (x.take 8)) && rhk (x.drop 8)
def ccell (x : List UInt8) : Value := .complex .f32 (hval (x.take 8)) (hval (x.drop 8))
theorem rck_len {x : List UInt8} (h : x.length ≠ 16) : rck x = false := by unfold rck; rw [decide_eq_false h]; rfl
theorem ext_lo (t : ByteArray) : (t.extract 0 8).data.toList = t.data.toList.take 8 := by rw [Lib.extract_data]; simp
theorem ext_hi (t : ByteArray) : (t.extract 8 t.size).data.toList = t.data.toList.drop 8 := by
  rw [Lib.extract_data, List.take_of_length_le (by simp)]
theorem rck_16 {x : List UInt8} {t : ByteArray} (h : x = t.data.toList) (h16 : x.length = 16) : rck x = (rhk (t.extract 0 8).data.toList && rhk (t.extract 8 t.size).data.toList) := by
  unfold rck
  rw [decide_eq_true h16, Bool.true_and, ext_lo, ext_hi, h]
theorem ccell_16 {x : List UInt8} {t : ByteArray} (h : x = t.data.toList) (h16 : x.length = 16) : ccell x = .complex .f32 (hval (t.extract 0 8).data.toList) (hval (t.extract 8 t.size).data.toList) := by
  unfold ccell
  rw [ext_lo, ext_hi, h]
theorem lcG_cx (P : List (List UInt8)) : CxF (lcG rck 256 ccell P).length (vget (lcG rck 256 ccell P)) := by
  intro i hi
  cases h : lokG rck 256 P
  · rw [lcG_no h] at hi; cases hi
  · rw [lcG_yes h] at hi ⊢
    have hi' : i < P.length := by simpa using hi
    have hr : rck P[i] = true := by
      unfold lokG at h
      simp only [Bool.and_eq_true, List.all_eq_true] at h
      exact h.2 _ (List.getElem_mem hi')
    have hb : ∀ {l : List UInt8}, rhk l = true → hval l < 4294967296 := fun {l} hl => by
      unfold rhk at hl
      simp only [Bool.and_eq_true, decide_eq_true_eq] at hl
      exact hval_lt hl.1.2 hl.1.1
    unfold rck at hr
    simp only [Bool.and_eq_true, decide_eq_true_eq] at hr
    refine ⟨_, _, ?_, hb hr.1.2, hb hr.2⟩
    unfold vget ccell
    simp [List.getD, hi']
theorem info_c64t : (Tryz.prog.info? 24).map (fun i => (i.zero, i.size, i.bytes)) = some (some (.complex .f32 0 0), 1, 8) := by kernel_rfl
theorem nec_str : (24 : TypeId) ≠ 9 := by decide
end Go.Proofs.YtgaecoekhcdaeaaGreatDoor
