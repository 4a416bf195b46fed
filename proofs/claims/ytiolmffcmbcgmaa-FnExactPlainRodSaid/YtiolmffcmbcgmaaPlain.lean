/-
  Plain rods, at both sides.
-/
import Derived.Test.YtiolmffcmbcgmaaWarms
import Derived.Deep.RegionLaw
import Derived.Laws.CopyOwn
namespace Go.Proofs.Ytiolmffcmbcgmaa
set_option linter.unusedVariables false
set_option linter.unusedSimpArgs false
open Go.RowKit Fl
attribute [local go_sem] run_store_float

theorem and48 : ∀ n : Nat, n < 49 → bits BinOp.and IntKind.u64 (n : Int) 4294967295 = (n : Int) := by decide +kernel
theorem wrap48 : ∀ n : Nat, n < 49 → IntKind.u64.wrap (n : Int) = (n : Int) := by decide +kernel
theorem wrap48i : ∀ n : Nat, n < 97 → IntKind.i64.wrap (n : Int) = (n : Int) := by decide +kernel
theorem div48 : ∀ n : Nat, n < 49 → (n : Int) / 4294967296 = 0 := fun n h => by omega
set_option maxHeartbeats 4000000 in
theorem mul64_one (n : Nat) (h : n ≤ 48) (w : World) : Calls Try.prog 49 #[.int .u64 1, .int .u64 (n : Int)] w fun e w' => e = .returned (.tuple #[.int .u64 0, .int .u64 (n : Int)]) ∧ w' = w := by
  have h1 : bits BinOp.and IntKind.u64 1 4294967295 = 1 := by decide +kernel
  have h2 := and48 n (by omega)
  have h3 := wrap48 n (by omega)
  have h4 := div48 n (by omega)
  have h5 : IntKind.u64.wrap 0 = 0 := by decide +kernel
  have h6 : bits BinOp.and IntKind.u64 0 4294967295 = 0 := by decide +kernel
  go_enter Try.func49, Try.ntmps49
  go_wp2_with fail
  go_ret2
  exact ⟨rfl, rfl⟩
theorem mul_one (n : Nat) (h : n ≤ 48) (w : World) : Calls Try.prog 43 #[.int .u64 1, .int .u64 (n : Int)] w fun e w' => e = .returned (.tuple #[.int .u64 0, .int .u64 (n : Int)]) ∧ w' = w := by
  have h3 := wrap48 n (by omega)
  go_enter Try.func43, Try.ntmps43
  go_wp2_with fail
  refine (mul64_one n h _).mono ?_
  rintro e w' ⟨rfl, rfl⟩
  go_wp2_with fail
  go_ret2
  exact ⟨rfl, rfl⟩
/-- The first m of the n cells hold a. -/
def REP (a m n : Nat) (cur : List Value) : Prop := cur.length = n ∧ ∀ i, i < m → cur[i]? = some (.float .f32 a)
theorem REP.first {a n : Nat} (h : 1 ≤ n) : REP a 1 n (splice (madeCells #[Value.float .f32 0] n).toList 0 [.float .f32 a]) := by
  refine ⟨?_, fun i hi => ?_⟩
  · simp [splice, madeCells]; omega
  · obtain rfl : i = 0 := by omega
    simp [splice]
theorem REP.next {a m n : Nat} {cur : List Value} (h : REP a m n cur) (hm : m ≤ n) : REP a (m + min m (n - m)) n (splice cur m (List.replicate (min m (n - m)) (.float .f32 a))) := by
  obtain ⟨h1, h2⟩ := h
  refine ⟨?_, fun i hi => ?_⟩
  · rw [length_splice _ _ _ (by simp; omega)]; exact h1
  · unfold splice
    by_cases him : i < m
    · rw [List.getElem?_append_left (by simp; omega), List.getElem?_take]
      rw [if_pos him]
      exact h2 i him
    · rw [List.getElem?_append_right (by simp; omega), List.getElem?_append_left (by simp; omega)]
      have e : (List.take m cur).length = m := by simp; omega
      rw [e]
      exact List.getElem?_replicate_of_lt (by omega)
set_option maxHeartbeats 1000000 in
theorem repeat_any (a : Nat) (ha : a < 2 ^ FloatKind.f32.format.width) (n : Nat) (h1 : 1 ≤ n) (h : n ≤ 48) (w : World) (g0 : Nat) (hg0 : g0 < w.heap.size) (hc : w.cell? ⟨g0, 0, none⟩ = some (.float .f32 a)) :
    Calls Try.prog 31 #[.slice (some ⟨g0, 0, none⟩) 1 1, .int .i64 (n : Int)] w (ROwn w (List.replicate n a)) := by
  have h3 := wrap48 n (by omega)
  have hmk := fun W => run_make_row' (P := Try.prog) 22 33 (.float .f32 0) 4 Try.underlying22 info_f32 rfl .i64 .i64 n (by omega) (by omega) W
  have h9 : ¬ (n : Int) < 0 := by omega
  have hsz : (Try.prog.info? 33).map (·.size) = some 1 := by kernel_rfl
  have hg1 : (w.alloc (.cells (madeCells #[Value.float .f32 0] n) 33)).heap[w.heap.size]? = some (.cells (madeCells #[Value.float .f32 0] n).toList.toArray 33 (0, 0)) := by
    show (w.heap.push (.cells (madeCells #[Value.float .f32 0] n) 33))[w.heap.size]? = _
    rw [Array.getElem?_push_size]
  have hc1 : (w.alloc (.cells (madeCells #[Value.float .f32 0] n) 33)).cell? ⟨g0, 0, none⟩ = some (.float .f32 a) := (((Below.refl w.heap.size w).alloc (Nat.le_refl _) _).cell (p := ⟨g0, 0, none⟩) hg0).trans hc
  go_enter Try.func31, Try.ntmps31
  go_upto_region 7 with (first | (go_at_call 43; refine (mul_one n h _).mono ?_; rintro e w' ⟨rfl, hw⟩; obtain rfl := hw.symm))
  go_wp2_with (refine wpList_copy_splice rfl (.tmp 31) (.tmp 32) 22 22 rfl 33 Try.underlying22 hsz _ _ _ _ _ _ rfl rfl w.heap.size 0 _ 33 hg1 [.float .f32 a] ?c1 ?c2 ?c3 ?c4 w.heap.size w ?c5 (Nat.le_refl _) ?_)
  case c1 => show 1 = min 1 n; omega
  case c2 =>
    intro j v hj
    match j, hj with
    | 0, hj => simp at hj; subst hj; first | exact hc1 | exact hc
  case c3 => simp [madeCells]; omega
  case c4 => intro v hv; simp at hv; subst hv; rfl
  case c5 => (repeat' first | assumption | exact Below.refl _ _ | refine B_drew ?_ _ | refine Below.drew ?_ | refine Below.alloc ?_ (by first | exact Nat.le_refl _ | (simp; done) | (simp; omega)) _)
  intro w1 hg2 hb1
  have L0 : REP a 1 n (splice (madeCells #[Value.float .f32 0] n).toList 0 [.float .f32 a]) := REP.first h1
  generalize splice (madeCells #[Value.float .f32 0] n).toList 0 [.float .f32 a] = cur0 at *
  generalize hgg : w.heap.size = g at *
  have HG := Lib.hid hg2.out
  clear hg2 hg1 hc1 hc hmk
  go_wp2_with fail
  go_loopw [8] (fun i wr => ∃ (m : Nat) (cur : List Value), 1 ≤ m ∧ m ≤ n ∧ i = .int .i64 (m : Int) ∧ Hid (REP a m n cur) ∧ Hid (wr.heap[g]? = some (.cells cur.toArray 33 (0, 0))) ∧ Below g w wr) (fun i _ => n - (intOf i).toNat)
  case atStart => exact ⟨1, cur0, Nat.le_refl _, h1, rfl, Lib.hid L0, HG, hb1⟩
  case round =>
    obtain ⟨m, cur, hm1, hm2, rfl, hR, hH, hB⟩ := hrel
    by_cases hlt : m < n
    · have hi1 : (m : Int) < (n : Int) := by omega
      have hi2 : (0 : Int) ≤ (m : Int) := by omega
      have hi3 : (m : Int) ≤ (n : Int) := by omega
      have hne1 : ¬ n = m := by omega
      go_wp2_with fail
      obtain ⟨k, hk⟩ : ∃ k, k = min m (n - m) := ⟨_, rfl⟩
      have hk1 : 1 ≤ k := by omega
      have hk2 : m + k ≤ n := by omega
      have hcl : (List.replicate k (Value.float .f32 a)).length = Nat.min m (n - m) := by rw [List.length_replicate, hk]
      have hgd : wr.drew.heap[g]? = some (.cells cur.toArray 33 (0, 0)) := hH.out
      have hsrc : ∀ j v, (List.replicate k (Value.float .f32 a))[j]? = some v → wr.drew.cell? ((⟨g, 0, none⟩ : Addr).add j) = some v := by
        intro j v hj
        have hjk : j < k := by
          have := (List.getElem?_eq_some_iff.1 hj).1
          simpa using this
        have hv : v = .float .f32 a := by
          rw [List.getElem?_replicate_of_lt hjk] at hj
          cases hj
          rfl
        have hcur := hR.out.2 j (by omega)
        rw [Addr.add_lit, hv]
        show wr.cell? ⟨g, 0 + j, none⟩ = _
        unfold World.cell?
        rw [hH.out]
        simpa using hcur
      have hfit : m + (List.replicate k (Value.float .f32 a)).length ≤ cur.length := by rw [List.length_replicate, hR.out.1]; exact hk2
      have hone : ∀ v ∈ List.replicate k (Value.float .f32 a), v.oneCell' = true := by
        intro v hv
        rw [List.eq_of_mem_replicate hv]
        rfl
      have hbd : Below g w wr.drew := hB.drew
      have hwr : IntKind.i64.wrap ((m : Int) + (k : Int)) = (m : Int) + (k : Int) := by have := wrap48i (m + k) (by omega); simpa using this
      have HN := Lib.hid (show REP a (m + k) n (splice cur m (List.replicate k (.float .f32 a))) by rw [hk]; exact REP.next hR.out hm2)
      have HCL := Lib.hid hcl
      have HGD := Lib.hid hgd
      have HSRC := Lib.hid hsrc
      have HFIT := Lib.hid hfit
      have HONE := Lib.hid hone
      have hlk := List.length_replicate (n := k) (a := Value.float .f32 a)
      clear hk hcl hgd hsrc hfit hone hR hH hB
      go_region_held3 (fun _ => True) (trivial) ((refine step_copy_splice (by rfl) (.tmp 41) (.tmp 44) 22 22 (by rfl) 33 Try.underlying22 hsz (some ⟨g, m, none⟩) (some ⟨g, 0, none⟩) (n - m) (n - m) m n (by rfl) (by rfl) g m cur 33 HGD.out (List.replicate k (.float .f32 a)) HCL.out (fun _ => ⟨rfl, ⟨g, 0, none⟩, rfl, HSRC.out⟩) HFIT.out HONE.out g w hbd (Nat.le_refl _) ?_; intro w4 hg4 hb4; rw [hlk]))
      rename_i hHeld
      clear hHeld
      go_wp2_with fail
      refine ⟨⟨m + k, _, by omega, hk2, by go_num, HN, hg4, hb4⟩, by simp [intOf]; omega⟩
    · obtain rfl : m = n := by omega
      have hO : OSl wr g wr.heap.size (.slice (some ⟨g, 0, none⟩) m m) (List.replicate m a) := by
        have hgs : g < wr.heap.size := (Array.getElem?_eq_some_iff.1 hH.out).1
        have hl : (List.replicate m a).length = m := List.length_replicate
        refine osl_of (n := m) ⟨fun i hi => ?_, Nat.le_refl _, .inr ⟨g, m, rfl, Nat.le_refl _, by unfold maxLen; omega, Nat.le_refl _, hgs, fun o => ?_, fun i hi => ?_⟩⟩ hl
        · have : fget (List.replicate m a) i = a := by simp [fget, List.getD, hi]
          rw [this]
          exact ha
        · unfold World.frozen?
          rw [hH.out]
          simp
        · have e : fget (List.replicate m a) i = a := by simp [fget, List.getD, hi]
          have hcur := hR.out.2 i hi
          rw [e]
          unfold World.cell?
          rw [hH.out]
          simpa using hcur
      have hHR := hR
      clear hR hH hHR
      go_wp2_with fail
      go_ret
      subst hgg
      exact ⟨_, rfl, hO, hB⟩
def plainR (n : Nat) (a b c d : Nat) : Rl := ⟨List.replicate n a, List.replicate n b, List.replicate n c, List.replicate n d⟩
set_option maxHeartbeats 4000000 in
theorem plain1_any (a : Nat) (ha : a < 2 ^ FloatKind.f32.format.width) (n : Nat) (h1 : 1 ≤ n) (h : n ≤ 48) (p : Nat) (w : World) (hp : p < w.heap.size) (hc : w.cell? ⟨p, 0, none⟩ = some (.int .i64 (n : Int))) :
    Calls Try.prog 30 #[.float .f32 a, .pointer (some ⟨p, 0, none⟩)] w (ROwn w (List.replicate n a)) := by
  have D : Below w.heap.size w (w.alloc (.cells #[.float .f32 a] 33)) := (Below.refl _ _).alloc (Nat.le_refl _) _
  have hc1 := (D.cell (p := ⟨p, 0, none⟩) hp).trans hc
  go_enter Try.func30, Try.ntmps30
  go_wp2_with fail
  refine (repeat_any a ha n h1 h _ w.heap.size (by simp) (by simp)).mono ?_
  rintro e w1 ⟨v', rfl, ho, hb⟩
  have ho2 := OSl.up ho (B' := w.heap.size) (by simp) (Nat.le_refl _) (Nat.le_refl _)
  have D1 := B_trans D hb
  clear ho hb
  go_wp2_with fail
  go_ret
  exact ⟨_, rfl, ho2, D1⟩
/-! ### The functions -/
theorem osl_rep {w : World} {B N n a c : Nat} {ao : Option Addr} (h : OSl w B N (.slice ao (List.replicate n a).length c) (List.replicate n a)) : OSl w B N (.slice ao n c) (List.replicate n a) := by
  rw [List.length_replicate] at h
  exact h
theorem plain_lens {n : Nat} (h1 : 1 ≤ n) (h2 : n ≤ 48) (a b c d : Nat) : (plainR n a b c d).lens := by
  refine ⟨?_, ?_, ?_, ?_, ?_⟩ <;> simp [plainR] <;> omega
def inR (c : Int) : Bool := decide (1 ≤ c) && decide (c ≤ 48)
theorem inR_true {c : Int} (h : inR c = true) : ∃ n : Nat, c = (n : Int) ∧ 1 ≤ n ∧ n ≤ 48 := by
  unfold inR at h
  simp only [Bool.and_eq_true, decide_eq_true_eq] at h
  exact ⟨c.toNat, by omega, by omega, by omega⟩
theorem l00In_pl (c : Int) (w : World) : Calls Try.prog 26 #[.int .i64 c, .int .i64 1, .int .i64 48] w fun e w' => e = .returned (.bool (inR c)) ∧ w = w' := by
  unfold inR
  by_cases h1 : 1 ≤ c
  · by_cases h2 : c ≤ 48
    all_goals
      go_enter Try.func26, Try.ntmps26
      go_wp2_with fail
      go_ret
      exact ⟨by simp [h1, h2], rfl⟩
  · go_enter Try.func26, Try.ntmps26
    go_wp2_with fail
    go_ret
    exact ⟨by simp [h1]; omega, rfl⟩
theorem within_pl (c : Int) (w : World) : Calls Try.prog 29 #[.int .i64 c, .int .i64 1, .int .i64 48] w fun e w' => e = .returned (.bool (inR c)) ∧ w = w' := by
  unfold inR
  by_cases h1 : 1 ≤ c
  · by_cases h2 : c ≤ 48
    all_goals
      go_enter Try.func29, Try.ntmps29
      go_wp2_with fail
      go_ret
      exact ⟨by simp [h1, h2], rfl⟩
  · go_enter Try.func29, Try.ntmps29
    go_wp2_with fail
    go_ret
    exact ⟨by simp [h1]; omega, rfl⟩
set_option maxHeartbeats 8000000 in
theorem iPlainRod_any (c : Int) (a1 a2 a3 a4 : Nat) (h1 : a1 < 2 ^ FloatKind.f32.format.width) (h2 : a2 < 2 ^ FloatKind.f32.format.width) (h3 : a3 < 2 ^ FloatKind.f32.format.width) (h4 : a4 < 2 ^ FloatKind.f32.format.width) (w : World) :
    Calls Try.prog 14 #[.int .i64 c, .float .f32 a1, .float .f32 a2, .float .f32 a3, .float .f32 a4] w (RRod w (inR c && okRod (plainR c.toNat a1 a2 a3 a4)) (if inR c && okRod (plainR c.toNat a1 a2 a3 a4) then plainR c.toNat a1 a2 a3 a4 else zeroR)) := by
  have D1 : Below w.heap.size w ((w.alloc (.cells #[.int .i64 c] 2)).alloc (.cells #[.slice none 0 0, .slice none 0 0, .slice none 0 0, .slice none 0 0] 26)) := by (repeat' first | assumption | exact Below.refl _ _ | refine B_drew ?_ _ | refine Below.drew ?_ | refine Below.alloc ?_ (by first | exact Nat.le_refl _ | (simp; done) | (simp; omega)) _)
  cases hin : inR c
  · have HW := Lib.hid (fun w' => show Calls Try.prog 29 #[.int .i64 c, .int .i64 1, .int .i64 48] w' fun e w'' => e = .returned (.bool false) ∧ w' = w'' from by have := within_pl c w'; rw [hin] at this; exact this)
    simp only [Bool.false_and, Bool.false_eq_true, if_false]
    clear hin
    go_enter Try.func14, Try.ntmps14
    go_wp2_with fail
    refine (HW.out _).mono ?_
    rintro e w1 ⟨rfl, rfl⟩
    go_wp2_with fail
    refine bodyPost_ret (v := .tuple #[.agg #[.slice none 0 0, .slice none 0 0, .slice none 0 0, .slice none 0 0], .bool false]) (by simp [results, Try.results14, go_sem, *]) rfl ?_
    refine ⟨_, _, _, _, _, _, _, _, _, rfl, own4_zero (B := w.heap.size) ?_, Nat.le_refl _, ?_⟩
    · simp [World.setCell]; omega
    · repeat (refine Below.setCell ?_ (by first | (simp; done) | (simp; omega)) _)
      exact D1
  · have HW := Lib.hid (fun w' => show Calls Try.prog 29 #[.int .i64 c, .int .i64 1, .int .i64 48] w' fun e w'' => e = .returned (.bool true) ∧ w' = w'' from by have := within_pl c w'; rw [hin] at this; exact this)
    obtain ⟨n, rfl, n1, n2⟩ := inR_true hin
    simp only [Bool.true_and, Int.toNat_natCast]
    clear hin
    have bC : ((w.alloc (.cells #[.int .i64 (n : Int)] 2)).alloc (.cells #[.slice none 0 0, .slice none 0 0, .slice none 0 0, .slice none 0 0] 26)).cell? ⟨w.heap.size, 0, none⟩ = some (.int .i64 (n : Int)) := by simp
    have bZ := box4_alloc (w.alloc (.cells #[.int .i64 (n : Int)] 2)) 26 (.slice none 0 0) (.slice none 0 0) (.slice none 0 0) (.slice none 0 0)
    rw [show (w.alloc (.cells #[.int .i64 (n : Int)] 2)).heap.size = w.heap.size + 1 by simp] at bZ
    have PL := Lib.hid (fun a ha w' hp hc => plain1_any a ha n n1 n2 w.heap.size w' hp hc)
    have hg := fun v1 v2 v3 v4 w h => checkedRod_any v1 v2 v3 v4 (plainR n a1 a2 a3 a4) w h
    unfold RGive giveV at hg
    have hn0 : (0 : Int) ≤ (n : Int) := by omega
    generalize okRod (plainR n a1 a2 a3 a4) = q at *
    cases q
    all_goals
      simp only [Bool.false_eq_true, if_false, if_true] at hg ⊢
      have HG := Lib.hid hg
      clear hg
      go_enter Try.func14, Try.ntmps14
      go_wp2_with fail
      refine (HW.out _).mono ?_
      rintro e w1 ⟨rfl, rfl⟩
      go_wp2_with fail
      have hp : w.heap.size < ((w.alloc (.cells #[.int .i64 (n : Int)] 2)).alloc (.cells #[.slice none 0 0, .slice none 0 0, .slice none 0 0, .slice none 0 0] 26)).heap.size := by simp; omega
      have hB0 : w.heap.size + 1 < ((w.alloc (.cells #[.int .i64 (n : Int)] 2)).alloc (.cells #[.slice none 0 0, .slice none 0 0, .slice none 0 0, .slice none 0 0] 26)).heap.size := bZ.2.2
      generalize (w.alloc (.cells #[.int .i64 (n : Int)] 2)).alloc (.cells #[.slice none 0 0, .slice none 0 0, .slice none 0 0, .slice none 0 0] 26) = W at *
      refine (PL.out a1 h1 _ hp bC).mono ?_
      rintro e x1 ⟨u1, rfl, o1, k1⟩
      obtain ⟨b1', c1', rfl, m1⟩ := OSf.len o1
      rw [List.length_replicate] at m1 ⊢
      replace o1 := osl_rep o1
      replace bC := (k1.cell (p := ⟨w.heap.size, 0, none⟩) hp).trans bC
      replace hp := Nat.lt_of_lt_of_le hp k1.size
      replace bZ := bZ.below k1
      replace D1 := B_trans D1 k1
      go_wp2_with fail
      refine (PL.out a2 h2 _ hp bC).mono ?_
      rintro e x2 ⟨u2, rfl, o2, k2⟩
      obtain ⟨b2', c2', rfl, m2⟩ := OSf.len o2
      rw [List.length_replicate] at m2 ⊢
      replace o2 := osl_rep o2
      replace bC := (k2.cell (p := ⟨w.heap.size, 0, none⟩) hp).trans bC
      replace hp := Nat.lt_of_lt_of_le hp k2.size
      replace bZ := bZ.below k2
      replace D1 := B_trans D1 k2
      go_wp2_with fail
      refine (PL.out a3 h3 _ hp bC).mono ?_
      rintro e x3 ⟨u3, rfl, o3, k3⟩
      obtain ⟨b3', c3', rfl, m3⟩ := OSf.len o3
      rw [List.length_replicate] at m3 ⊢
      replace o3 := osl_rep o3
      replace bC := (k3.cell (p := ⟨w.heap.size, 0, none⟩) hp).trans bC
      replace hp := Nat.lt_of_lt_of_le hp k3.size
      replace bZ := bZ.below k3
      replace D1 := B_trans D1 k3
      go_wp2_with fail
      refine (PL.out a4 h4 _ hp bC).mono ?_
      rintro e x4 ⟨u4, rfl, o4, k4⟩
      obtain ⟨b4', c4', rfl, m4⟩ := OSf.len o4
      rw [List.length_replicate] at m4 ⊢
      replace o4 := osl_rep o4
      replace bC := (k4.cell (p := ⟨w.heap.size, 0, none⟩) hp).trans bC
      replace hp := Nat.lt_of_lt_of_le hp k4.size
      replace bZ := bZ.below k4
      replace D1 := B_trans D1 k4
      go_wp2_with fail
      replace o1 := ((o1.below k2).below k3).below k4
      replace o2 := (o2.below k3).below k4
      replace o3 := o3.below k4
      refine (HG.out _ _ _ _ x4 ⟨OSl.fsl o1, OSl.fsl o2, OSl.fsl o3, OSl.fsl o4⟩).mono ?_
      rintro e x5 ⟨rfl, k5⟩
      have O1 := o1.below k5
      have O2 := o2.below k5
      have O3 := o3.below k5
      have O4 := o4.below k5
      replace bZ := bZ.below k5
      replace D1 := B_trans D1 k5
      have s1 := k1.size
      have s2 := k2.size
      have s3 := k3.size
      have s4 := k4.size
      have s5 := k5.size
      clear o1 o2 o3 o4 k1 k2 k3 k4 k5 PL HG bC
      obtain ⟨⟨z0, z1, z2, z3⟩, zf, zl⟩ := bZ
      go_wp2_with fail
    · have z1' := D1.size
      refine bodyPost_ret (v := .tuple #[.agg #[.slice none 0 0, .slice none 0 0, .slice none 0 0, .slice none 0 0], .bool false]) (by simp [results, Try.results14, go_sem, z0, z1, z2, z3, zf, zl]) rfl ?_
      refine ⟨_, _, _, _, _, _, _, _, _, rfl, own4_zero (B := w.heap.size) ?_, Nat.le_refl _, ?_⟩
      · simp [World.setCell]; omega
      · repeat (refine Below.setCell ?_ (by first | (simp; done) | (simp; omega)) _)
        exact D1
    · refine bodyPost_ret (v := .tuple #[.agg #[.slice b1' n c1', .slice b2' n c2', .slice b3' n c3', .slice b4' n c4'], .bool true]) (by simp [results, Try.results14, go_sem, z0, z1, z2, z3, zf, zl]) rfl ?_
      have FF := ((((Frm.refl (w.heap.size + 1) (w.heap.size + 1 + 1) x5).set (a := ⟨w.heap.size + 1, 0, none⟩) (Nat.le_refl _) (Nat.lt_succ_self _) (.slice b1' n c1')).set (a := ⟨w.heap.size + 1, 1, none⟩) (Nat.le_refl _) (Nat.lt_succ_self _) (.slice b2' n c2')).set (a := ⟨w.heap.size + 1, 2, none⟩) (Nat.le_refl _) (Nat.lt_succ_self _) (.slice b3' n c3')).set (a := ⟨w.heap.size + 1, 3, none⟩) (Nat.le_refl _) (Nat.lt_succ_self _) (.slice b4' n c4')
      refine ⟨_, _, _, _, W.heap.size, x1.heap.size, x2.heap.size, x3.heap.size, x4.heap.size, rfl, ⟨⟨s1, s2, s3, s4, Nat.le_trans s5 FF.size⟩, ?_, ?_, ?_, ?_⟩, by omega, ?_⟩
      · exact OSf.frame O1 FF (by omega)
      · exact OSf.frame O2 FF (by omega)
      · exact OSf.frame O3 FF (by omega)
      · exact OSf.frame O4 FF (by omega)
      · exact D1.trans (FF.below (by omega) |>.mono (by omega))
end Go.Proofs.Ytiolmffcmbcgmaa
