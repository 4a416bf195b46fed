/-
  A text cut at commas, at both sides.
-/
import Derived.Test.YtgaecoekhcdaeaaGreatDoorStr
import Derived.Test.YtgaecoekhcdaeaaGreatDoorSh5
import Derived.Lib.SplitLaws
namespace Go.Proofs.YtgaecoekhcdaeaaGreatDoor
set_option linter.unusedVariables false
set_option linter.unusedSimpArgs false
set_option maxRecDepth 20000
open Go.RowKit

/-- The parts of a text between marks. -/
def cutL (c : UInt8) : List UInt8 → List (List UInt8)
  | [] => [[]]
  | b :: l => if b = c then [] :: cutL c l else match cutL c l with
    | [] => [[b]]
    | p :: ps => (b :: p) :: ps
theorem cutL_ne (c : UInt8) (l : List UInt8) : cutL c l ≠ [] := by
  cases l with
  | nil => simp [cutL]
  | cons b l =>
    unfold cutL
    split
    · simp
    · split <;> simp
theorem cut_miss (c : UInt8) : ∀ l : List UInt8, (∀ j, j < l.length → l[j]? ≠ some c) → cutL c l = [l]
  | [], _ => rfl
  | b :: l, h => by
    have hb : b ≠ c := fun e => h 0 (by simp) (by simp [e])
    have ih := cut_miss c l (fun j hj => by have := h (j + 1) (by simpa using hj); simpa using this)
    unfold cutL
    rw [if_neg hb, ih]
theorem cut_hit (c : UInt8) : ∀ (n : Nat) (l : List UInt8), (∀ j, j < n → l[j]? ≠ some c) → l[n]? = some c → cutL c l = l.take n :: cutL c (l.drop (n + 1))
  | n, [], _, h => by simp at h
  | 0, b :: l, _, h => by
    obtain rfl : b = c := by simpa using h
    rw [cutL, if_pos rfl]
    rfl
  | n + 1, b :: l, h, hn => by
    have hb : b ≠ c := fun e => h 0 (by omega) (by simp [e])
    have ih := cut_hit c n l (fun j hj => by have := h (j + 1) (by omega); simpa using this) (by simpa using hn)
    rw [cutL, if_neg hb, ih]
    rfl
theorem index_one_ne (b c : UInt8) (l : List UInt8) (h : b ≠ c) : Lib.index (b :: l) [c] = if Lib.index l [c] == -1 then -1 else Lib.index l [c] + 1 := by
  have hp : ([c] : List UInt8).isPrefixOf (b :: l) = false := by simp [List.isPrefixOf, Ne.symm h]
  rw [Lib.index, hp]; simp
theorem index_one_eq (c : UInt8) (l : List UInt8) : Lib.index (c :: l) [c] = 0 := by rw [Lib.index]; simp [List.isPrefixOf]
theorem split_cut (c : UInt8) : ∀ s : List UInt8, Lib.splitK [c] 0 (Lib.count s [c]) s = cutL c s
  | [] => by rw [Lib.count_miss (by simp [Lib.index])]; rfl
  | b :: l => by
    have ih := split_cut c l
    by_cases h : b = c
    · subst h
      rw [Lib.count_cons_eq, Nat.add_comm, Lib.splitK, index_one_eq]
      rw [cutL, if_pos rfl, ← ih]
      rfl
    · rw [Lib.count_cons_ne b c l h, cutL, if_neg h, ← ih]
      by_cases hm : Lib.index l [c] = -1
      · rw [Lib.count_miss hm]
        rfl
      · have hge := Lib.index_ge l [c]
        obtain ⟨j, hj⟩ : ∃ j : Nat, Lib.index l [c] = j := ⟨(Lib.index l [c]).toNat, by omega⟩
        have hix : Lib.index (b :: l) [c] = ((j + 1 : Nat) : Int) := by rw [index_one_ne b c l h, if_neg (fun e => hm (beq_iff_eq.1 e)), hj]; omega
        rw [Lib.count_hit (by simp) hj]
        generalize hk : Lib.count (List.drop (j + [c].length) l) [c] = k
        rw [Nat.add_comm 1 k, Lib.splitK, Lib.splitK, hix, hj]
        have n1 : ¬ (((j + 1 : Nat) : Int) == -1) = true := fun e => by have := beq_iff_eq.1 e; omega
        have n2 : ¬ ((j : Int) == -1) = true := fun e => by have := beq_iff_eq.1 e; omega
        rw [if_neg n1, if_neg n2]
        simp only [Int.toNat_natCast, Nat.add_zero, List.length_singleton, List.take_succ_cons]
        rfl
/-- strings.Split at one byte. -/
theorem splitB_cut (s : ByteArray) (c : UInt8) : (Lib.splitB ⟨#[c]⟩ 0 (Lib.countB s ⟨#[c]⟩) s).map (·.data.toList) = cutL c s.data.toList := by
  rw [Lib.splitB_data]
  exact split_cut c s.data.toList
theorem cut_length (c : UInt8) : ∀ l : List UInt8, (cutL c l).length ≤ l.length + 1
  | [] => by simp [cutL]
  | b :: l => by
    have ih := cut_length c l
    unfold cutL
    split
    · simp only [List.length_cons]; omega
    · split
      · simp
      · rename_i p ps he
        rw [he] at ih
        simp only [List.length_cons] at ih ⊢
        omega
theorem cut_piece (c : UInt8) : ∀ (l : List UInt8) x, x ∈ cutL c l → x.length ≤ l.length
  | [], x, h => by simp [cutL] at h; simp [h]
  | b :: l, x, h => by
    have ih := cut_piece c l
    unfold cutL at h
    split at h
    · rcases List.mem_cons.1 h with rfl | h
      · simp
      · have := ih x h; simp only [List.length_cons]; omega
    · split at h
      · simp at h; subst h; simp
      · rename_i p ps he
        rcases List.mem_cons.1 h with rfl | h
        · have := ih p (by rw [he]; exact List.mem_cons_self ..)
          simp only [List.length_cons]; omega
        · have := ih x (by rw [he]; exact List.mem_cons_of_mem _ h)
          simp only [List.length_cons]; omega
/-- How far the reference's loop is: done are the parts ahead of 'a'; from a to i there is no mark. -/
def CutI (c : UInt8) (s : List UInt8) (a i : Nat) (done : List (List UInt8)) : Prop :=
  a ≤ i ∧ done.length ≤ i ∧ (∀ j, a ≤ j → j < i → s[j]? ≠ some c) ∧ ((i ≤ s.length ∧ cutL c s = done ++ cutL c (s.drop a)) ∨ (i = s.length + 1 ∧ a = i ∧ done = cutL c s))
theorem CutI.start (c : UInt8) (s : List UInt8) : CutI c s 0 0 [] := ⟨Nat.le_refl _, Nat.le_refl _, fun j _ h => absurd h (Nat.not_lt_zero _), .inl ⟨Nat.zero_le _, rfl⟩⟩
theorem CutI.next {c : UInt8} {s : List UInt8} {a i : Nat} {done : List (List UInt8)} (h : CutI c s a i done) (hi : i < s.length) (hc : s[i]? ≠ some c) : CutI c s a (i + 1) done := by
  obtain ⟨h1, h2, h3, h4⟩ := h
  refine ⟨by omega, by omega, fun j h5 h6 => ?_, .inl ⟨by omega, ?_⟩⟩
  · by_cases e : j = i
    · subst e; exact hc
    · exact h3 j h5 (by omega)
  · rcases h4 with h4 | h4
    · exact h4.2
    · omega
theorem CutI.mark {c : UInt8} {s : List UInt8} {a i : Nat} {done : List (List UInt8)} (h : CutI c s a i done) (hi : i < s.length) (hc : s[i]? = some c) : CutI c s (i + 1) (i + 1) (done ++ [(s.drop a).take (i - a)]) := by
  obtain ⟨h1, h2, h3, h4⟩ := h
  refine ⟨Nat.le_refl _, by simp; omega, fun j h5 h6 => absurd h5 (by omega), .inl ⟨by omega, ?_⟩⟩
  rcases h4 with h4 | h4
  · rw [h4.2, cut_hit c (i - a) (s.drop a) (fun j hj => by rw [List.getElem?_drop]; exact h3 _ (by omega) (by omega)) (by rw [List.getElem?_drop, show a + (i - a) = i by omega]; exact hc)]
    rw [List.drop_drop, show a + (i - a + 1) = i + 1 by omega]
    simp
  · omega
theorem CutI.last {c : UInt8} {s : List UInt8} {a : Nat} {done : List (List UInt8)} (h : CutI c s a s.length done) : CutI c s (s.length + 1) (s.length + 1) (done ++ [(s.drop a).take (s.length - a)]) := by
  obtain ⟨h1, h2, h3, h4⟩ := h
  refine ⟨Nat.le_refl _, by simp; omega, fun j h5 h6 => absurd h5 (by omega), .inr ⟨rfl, rfl, ?_⟩⟩
  rcases h4 with h4 | h4
  · rw [h4.2, cut_miss c (s.drop a) (fun j hj => by rw [List.getElem?_drop]; exact h3 _ (by omega) (by simp at hj; omega))]
    rw [List.take_of_length_le (by simp)]
  · omega
theorem CutI.done {c : UInt8} {s : List UInt8} {a : Nat} {done : List (List UInt8)} (h : CutI c s a (s.length + 1) done) : done = cutL c s := by
  obtain ⟨_, _, _, h4⟩ := h
  rcases h4 with h4 | h4
  · omega
  · exact h4.2.2
theorem extract_cell (s : ByteArray) (a i : Nat) : Value.string (s.extract a i) = scell ((s.data.toList.drop a).take (i - a)) := by
  unfold scell
  congr 1
  apply ByteArray.ext
  apply Array.ext'
  simp [ByteArray.data_extract]
/-- The texts between commas, none for none. -/
def partsL (l : List UInt8) : List (List UInt8) := if l = noneL then [] else cutL 44 l
theorem partsL_cut {l : List UInt8} (h : l ≠ noneL) : partsL l = cutL 44 l := by unfold partsL; rw [if_neg h]
theorem partsL_len (l : List UInt8) : (partsL l).length ≤ l.length + 1 := by
  unfold partsL
  split
  · simp
  · exact cut_length 44 l
theorem parts_piece {l x : List UInt8} (h : x ∈ partsL l) : x.length ≤ l.length := by
  unfold partsL at h
  split at h
  · cases h
  · exact cut_piece 44 l x h
def pget (l : List (List UInt8)) (i : Nat) : List UInt8 := l.getD i []
theorem pget_get {l : List (List UInt8)} {i : Nat} (h : i < l.length) : l[i]? = some (pget l i) := by unfold pget; simp [List.getD, h]
theorem pget_mem {l : List (List UInt8)} {i : Nat} (h : i < l.length) : pget l i ∈ l := by unfold pget; simp [List.getD, h]
theorem ptake {l : List (List UInt8)} {k : Nat} (h : k < l.length) : l.take (k + 1) = l.take k ++ [pget l k] := by
  rw [List.take_succ_eq_append_getElem h]; unfold pget; simp [List.getD, h]
theorem pall {p : List UInt8 → Bool} {l : List (List UInt8)} (h : ∀ j, j < l.length → p (pget l j) = true) : l.all p = true := by
  rw [List.all_eq_true]
  intro x hx
  obtain ⟨i, hi, rfl⟩ := List.getElem_of_mem hx
  have := h i hi
  unfold pget at this
  simpa [List.getD, hi] using this
theorem pany {p : List UInt8 → Bool} {l : List (List UInt8)} {j : Nat} (hj : j < l.length) (h : p (pget l j) = false) : l.all p = false := by
  rw [List.all_eq_false]
  exact ⟨_, pget_mem hj, by simp [h]⟩
/-- A row of its own of another kind than texts lies in another block. -/
theorem own_ne {w : World} {B : Nat} {e : TypeId} {s : Nat} {v : Value} {n : Nat} {xs : List Value} (h : w.ownsRow B e s v n xs) (he : e ≠ 9) {b : Nat} (hb : ∃ cs fz, w.heap[b]? = some (.cells cs 9 fz)) : v.ownBlock ≠ some b := by
  obtain ⟨cs, fz, hb⟩ := hb
  rintro hv
  obtain ⟨_, ⟨rfl, _⟩ | ⟨g, cap, cur, rfl, _, h3, _⟩⟩ := h
  · cases hv
  · obtain rfl : g = b := Option.some.inj hv
    rw [hb] at h3
    injection h3 with h3
    injection h3 with _ h3 _
    exact he h3.symm
theorem bs_none {l : List UInt8} {s : ByteArray} (h : s.data.toList = l) : s = ⟨l.toArray⟩ := by
  cases s; subst h; simp
theorem parts_cells {w : World} (s : ByteArray) (xs : List (List UInt8)) (hx : (Lib.splitB ⟨#[44]⟩ 0 (Lib.countB s ⟨#[44]⟩) s).map (·.data.toList) = xs) :
    SSl (w.alloc (.cells ((Lib.splitB ⟨#[44]⟩ 0 (Lib.countB s ⟨#[44]⟩) s).map Value.string).toArray 9)) (.slice (some ⟨w.heap.size, 0, none⟩) (Lib.countB s ⟨#[44]⟩ + 1) (Lib.countB s ⟨#[44]⟩ + 1)) xs := by
  have hl := Lib.splitB_all ⟨#[44]⟩ (by decide) 0 _ s rfl
  generalize Lib.splitB ⟨#[44]⟩ 0 (Lib.countB s ⟨#[44]⟩) s = ys at *
  subst hx
  refine ⟨_, _, by rw [List.length_map, hl], by rw [List.length_map, hl]; exact Nat.le_refl _, .inr ⟨w.heap.size, 0, rfl, ⟨by simp, _, _, heap_alloc_new w _⟩, fun i x hi => ?_⟩⟩
  rw [List.getElem?_map] at hi
  cases hy : ys[i]? with
  | none => rw [hy] at hi; cases hi
  | some y =>
    rw [hy] at hi
    obtain rfl := Option.some.inj hi
    simp only [Nat.zero_add]
    rw [show scell y.data.toList = Value.string y by unfold scell; cases y; simp]
    simp [hy]
set_option maxHeartbeats 1000000 in
theorem partsOrNone_any (s : ByteArray) (hs : s.size ≤ 1048576) (w : World) (hsh : ∃ m : Int, w.cell? ⟨4, 0, none⟩ = some (.int .i64 m)) : Calls Tryz.prog 48 #[.string s] w fun e w' => ∃ v, e = .returned v ∧ SSl w' v (partsL s.data.toList) ∧ Below w.heap.size w w' := by
  by_cases hn : s.data.toList = noneL
  · have HP := Lib.hid (show partsL s.data.toList = [] by unfold partsL; rw [if_pos hn])
    rw [HP.out]
    obtain rfl := bs_none hn
    clear hn hsh hs
    go_enter Tryz.func48, Tryz.ntmps48
    go_wp2_with fail
    go_ret
    exact ⟨_, rfl, ⟨none, 0, rfl, Nat.le_refl _, .inl rfl⟩, Below.refl _ _⟩
  · have hx : partsL s.data.toList = cutL 44 s.data.toList := by unfold partsL; rw [if_neg hn]
    rw [hx]
    obtain ⟨m, hm⟩ := hsh
    have HS := Tryz.strings_Split s ⟨#[44]⟩ m w (by omega) hm (by decide)
    have HS2 : Calls Tryz.prog 77 #[.string s, .string ⟨#[44]⟩] w fun e w' => ∃ v, e = .returned v ∧ SSl w' v (cutL 44 s.data.toList) ∧ Below w.heap.size w w' := HS.mono (by
      rintro e w' ⟨rfl, rfl⟩
      exact ⟨_, rfl, parts_cells s _ (splitB_cut s 44), (Below.refl _ _).alloc (Nat.le_refl _) _⟩)
    have H2 := Lib.hid HS2
    have hb : (s.toList == [110, 111, 110, 101]) = false := by
      rw [beq_eq_false_iff_ne]
      intro e
      exact hn (by rw [← Lib.toList_data, e]; rfl)
    clear HS HS2 hm hx hn hs
    generalize cutL 44 s.data.toList = xs at *
    go_enter Tryz.func48, Tryz.ntmps48
    go_wp2_with fail
    refine H2.out.mono ?_
    rintro e w1 ⟨v, rfl, hv, hb1⟩
    go_wp2_with fail
    go_ret
    exact ⟨v, rfl, hv, hb1⟩
end Go.Proofs.YtgaecoekhcdaeaaGreatDoor
