/-
  Contracts: what passes at an end of a rod, at both sides.
-/
import Derived.Test.YtndfpgcaooldkaaPass
namespace Go.Proofs.Ytndfpgcaooldkaa
set_option linter.unusedVariables false
set_option linter.unusedSimpArgs false
open Go.RowKit Fl
attribute [local go_sem] run_store_float

/-- A box with an end. -/
def Box3 (w : World) (b : Nat) (k : Int) (a c : Nat) : Prop :=
  (w.cell? ⟨b, 0, none⟩ = some (.int .i64 k) ∧ w.cell? ⟨b, 1, none⟩ = some (.float .f32 a) ∧ w.cell? ⟨b, 2, none⟩ = some (.float .f32 c)) ∧ b < w.heap.size
theorem Box3.below {w w' : World} {b : Nat} {k : Int} {a c : Nat} (h : Box3 w b k a c) (hb : Below w.heap.size w w') : Box3 w' b k a c := by
  obtain ⟨⟨h0, h1, h2⟩, hl⟩ := h
  have e : ∀ o, w'.cell? ⟨b, o, none⟩ = w.cell? ⟨b, o, none⟩ := fun o => hb.cell (p := ⟨b, o, none⟩) hl
  exact ⟨⟨by rw [e]; exact h0, by rw [e]; exact h1, by rw [e]; exact h2⟩, Nat.lt_of_lt_of_le hl hb.size⟩
theorem box3_alloc (w : World) (t : TypeId) (k : Int) (a c : Nat) : Box3 (w.alloc (.cells #[.int .i64 k, .float .f32 a, .float .f32 c] t)) w.heap.size k a c := by
  have h := World.rowIs_alloc w #[.int .i64 k, .float .f32 a, .float .f32 c] t (fun i => #[.int .i64 k, .float .f32 a, .float .f32 c].getD i (.int .i64 k)) (fun i hi => by
    have : i < 3 := hi
    match i, this with
    | 0, _ => rfl
    | 1, _ => rfl
    | 2, _ => rfl)
  exact ⟨⟨h.cell (by show 0 < 3; omega), h.cell (by show 1 < 3; omega), h.cell (by show 2 < 3; omega)⟩, h.lt⟩
def atV (R : Rl) (i : Nat) (k : Int) (v : Option Nat) : Option Nat :=
  if k = 0 then ar .quo .f32 (some 1065353216) (halfV R i) else if k = 1 then some 0 else ar .quo .f32 (some 1065353216) (ar .add .f32 (halfV R i) (ar .quo .f32 (some 1065353216) v))
/-- The cell at the end. -/
def endI (R : Rl) (last : Bool) : Nat := if last then R.a.length - 1 else 0
theorem endI_lt {R : Rl} (h : R.lens) (last : Bool) : endI R last < R.a.length := by
  have := h.1
  unfold endI
  split <;> omega
set_option maxHeartbeats 4000000 in
theorem l02AtEnd_any (p q : Nat) (v1 v2 v3 v4 : Value) (R : Rl) (hL : R.lens) (last : Bool) (k : Int) (a c : Nat) (u v : Option Nat) (ha : IsF .f32 a u) (hc : IsF .f32 c v) (w : World) (hB : Box4 w p v1 v2 v3 v4) (hE : Box3 w q k a c) (h : Rod4 w v1 v2 v3 v4 R) :
    Calls Try.prog 46 #[.pointer (some ⟨p, 0, none⟩), .bool last, .pointer (some ⟨q, 0, none⟩)] w (RetF w .f32 (atV R (endI R last) k v)) := by
  obtain ⟨ao1, cap1, rfl, m1⟩ := h.1.len
  have hz := isF_zero
  have h1 := isF_one
  have hh := fun w' (h' : Below w.heap.size w w') => l02Half_any p _ v2 v3 v4 R hL (endI R last) (endI_lt hL last) w' (hB.below h') (h.below h')
  have HH := Lib.hid hh
  have hn := hL.1
  obtain ⟨⟨p0, p1, p2, p3⟩, pf, pl⟩ := hB
  obtain ⟨⟨q0, q1, q2⟩, ql⟩ := hE
  unfold atV
  generalize halfV R (endI R last) = x at *
  clear hh hL h pf
  have he : (last = true → ((endI R last : Nat) : Int) = (R.a.length : Int) - 1) ∧ (last = false → ((endI R last : Nat) : Int) = 0) := by
    unfold endI
    constructor <;> intro hh <;> subst hh <;> simp <;> omega
  have HE := Lib.hid he
  clear he
  cases last
  all_goals
    have HE2 := HE
    first
      | rw [show ((endI R true : Nat) : Int) = (R.a.length : Int) - 1 from HE.out.1 rfl] at HH
      | rw [show ((endI R false : Nat) : Int) = 0 from HE.out.2 rfl] at HH
    clear HE HE2
    by_cases k0 : k = 0
    · subst k0
      simp only [if_true]
      go_enter Try.func46, Try.ntmps46
      go_wp2_with fail
      refine (HH.out _ (Below.refl _ _)).mono ?_
      rintro e w1 ⟨r1, n1, rfl, hr1, rfl⟩
      go_wp2_with (first | (refine wpList_far rfl rfl (by first | exact .inl rfl | exact .inr (.inl rfl) | exact .inr (.inr (.inl rfl)) | exact .inr (.inr (.inr rfl))) rfl rfl (by first | assumption | exact isF_ofInt _ _ | exact IsF.lit (by decide +kernel)) (by first | assumption | exact isF_ofInt _ _ | exact IsF.lit (by decide +kernel)) ?_; intro r n hr) | (refine wpList_fcmp rfl rfl (by first | exact .inl rfl | exact .inr (.inl rfl) | exact .inr (.inr (.inl rfl)) | exact .inr (.inr (.inr (.inl rfl))) | exact .inr (.inr (.inr (.inr (.inl rfl)))) | exact .inr (.inr (.inr (.inr (.inr rfl))))) rfl rfl (by first | assumption | exact isF_ofInt _ _ | exact IsF.lit (by decide +kernel)) (by first | assumption | exact isF_ofInt _ _ | exact IsF.lit (by decide +kernel)) (by first | assumption | exact rfl) ?_) | (first | (refine wpList_fsame rfl rfl rfl (congrArg Option.isSome Try.underlying26) Try.underlying26 ?_) | (refine wpList_fsame rfl rfl rfl (congrArg Option.isSome Try.underlying32) Try.underlying32 ?_)) | (refine wpList_fwid rfl rfl rfl (congrArg Option.isSome Try.underlying26) Try.underlying32 (by assumption) ?_; intro r n hr) | (refine wpList_fnar rfl rfl rfl (congrArg Option.isSome Try.underlying32) Try.underlying26 (by assumption) (by assumption) ?_; intro r n hr) | (refine wpList_fneg rfl rfl rfl (by assumption) ?_; intro r hr))
      go_ret
      exact ⟨_, _, rfl, by assumption, rfl⟩
    · rw [if_neg k0]
      by_cases k1 : k = 1
      · subst k1
        simp only [if_true]
        go_enter Try.func46, Try.ntmps46
        go_wp2_with fail
        refine (HH.out _ (Below.refl _ _)).mono ?_
        rintro e w1 ⟨r1, n1, rfl, hr1, rfl⟩
        go_wp2_with (first | (refine wpList_far rfl rfl (by first | exact .inl rfl | exact .inr (.inl rfl) | exact .inr (.inr (.inl rfl)) | exact .inr (.inr (.inr rfl))) rfl rfl (by first | assumption | exact isF_ofInt _ _ | exact IsF.lit (by decide +kernel)) (by first | assumption | exact isF_ofInt _ _ | exact IsF.lit (by decide +kernel)) ?_; intro r n hr) | (refine wpList_fcmp rfl rfl (by first | exact .inl rfl | exact .inr (.inl rfl) | exact .inr (.inr (.inl rfl)) | exact .inr (.inr (.inr (.inl rfl))) | exact .inr (.inr (.inr (.inr (.inl rfl)))) | exact .inr (.inr (.inr (.inr (.inr rfl))))) rfl rfl (by first | assumption | exact isF_ofInt _ _ | exact IsF.lit (by decide +kernel)) (by first | assumption | exact isF_ofInt _ _ | exact IsF.lit (by decide +kernel)) (by first | assumption | exact rfl) ?_) | (first | (refine wpList_fsame rfl rfl rfl (congrArg Option.isSome Try.underlying26) Try.underlying26 ?_) | (refine wpList_fsame rfl rfl rfl (congrArg Option.isSome Try.underlying32) Try.underlying32 ?_)) | (refine wpList_fwid rfl rfl rfl (congrArg Option.isSome Try.underlying26) Try.underlying32 (by assumption) ?_; intro r n hr) | (refine wpList_fnar rfl rfl rfl (congrArg Option.isSome Try.underlying32) Try.underlying26 (by assumption) (by assumption) ?_; intro r n hr) | (refine wpList_fneg rfl rfl rfl (by assumption) ?_; intro r hr))
        go_ret
        exact ⟨_, _, rfl, by assumption, rfl⟩
      · rw [if_neg k1]
        have b0 : (k == 0) = false := by simpa using k0
        have b1 : (k == 1) = false := by simpa using k1
        clear k0 k1
        go_enter Try.func46, Try.ntmps46
        go_wp2_with fail
        refine (HH.out _ (Below.refl _ _)).mono ?_
        rintro e w1 ⟨r1, n1, rfl, hr1, rfl⟩
        go_wp2_with (first | (refine wpList_far rfl rfl (by first | exact .inl rfl | exact .inr (.inl rfl) | exact .inr (.inr (.inl rfl)) | exact .inr (.inr (.inr rfl))) rfl rfl (by first | assumption | exact isF_ofInt _ _ | exact IsF.lit (by decide +kernel)) (by first | assumption | exact isF_ofInt _ _ | exact IsF.lit (by decide +kernel)) ?_; intro r n hr) | (refine wpList_fcmp rfl rfl (by first | exact .inl rfl | exact .inr (.inl rfl) | exact .inr (.inr (.inl rfl)) | exact .inr (.inr (.inr (.inl rfl))) | exact .inr (.inr (.inr (.inr (.inl rfl)))) | exact .inr (.inr (.inr (.inr (.inr rfl))))) rfl rfl (by first | assumption | exact isF_ofInt _ _ | exact IsF.lit (by decide +kernel)) (by first | assumption | exact isF_ofInt _ _ | exact IsF.lit (by decide +kernel)) (by first | assumption | exact rfl) ?_) | (first | (refine wpList_fsame rfl rfl rfl (congrArg Option.isSome Try.underlying26) Try.underlying26 ?_) | (refine wpList_fsame rfl rfl rfl (congrArg Option.isSome Try.underlying32) Try.underlying32 ?_)) | (refine wpList_fwid rfl rfl rfl (congrArg Option.isSome Try.underlying26) Try.underlying32 (by assumption) ?_; intro r n hr) | (refine wpList_fnar rfl rfl rfl (congrArg Option.isSome Try.underlying32) Try.underlying26 (by assumption) (by assumption) ?_; intro r n hr) | (refine wpList_fneg rfl rfl rfl (by assumption) ?_; intro r hr))
        go_ret
        exact ⟨_, _, rfl, by assumption, rfl⟩
set_option maxHeartbeats 4000000 in
theorem passAt_any (v1 v2 v3 v4 : Value) (R : Rl) (hL : R.lens) (i : Nat) (hi : i < R.a.length) (k : Int) (a c : Nat) (u v : Option Nat) (ha : IsF .f32 a u) (hc : IsF .f32 c v) (w : World) (h : Rod4 w v1 v2 v3 v4 R) :
    Calls Try.prog 48 #[.agg #[v1, v2, v3, v4], .int .i64 i, .agg #[.int .i64 k, .float .f32 a, .float .f32 c]] w (RetFb w (atV R i k v)) := by
  have hz := isF_zero
  have h1 := isF_one
  have hh := fun w' (h' : Below w.heap.size w w') => halfOf_any v1 v2 v3 v4 R hL i hi w' (h.below h')
  have HH := Lib.hid hh
  have D0 : Below w.heap.size w ((w.alloc (.cells #[v1, v2, v3, v4] 29)).alloc (.cells #[.int .i64 k, .float .f32 a, .float .f32 c] 40)) := by (repeat' first | assumption | exact Below.refl _ _ | refine B_drew ?_ _ | refine Below.drew ?_ | refine Below.alloc ?_ (by first | exact Nat.le_refl _ | (simp; done) | (simp; omega)) _)
  have bE := box3_alloc (w.alloc (.cells #[v1, v2, v3, v4] 29)) 40 k a c
  rw [show (w.alloc (.cells #[v1, v2, v3, v4] 29)).heap.size = w.heap.size + 1 by simp] at bE
  unfold atV
  generalize halfV R i = x at *
  clear hh hL h hi
  by_cases k0 : k = 0
  · subst k0
    simp only [if_true]
    go_enter Try.func48, Try.ntmps48
    go_wp2_with fail
    refine (HH.out _ D0).mono ?_
    rintro e w1 ⟨r1, rfl, hr1, hb1⟩
    have D1 := B_trans D0 hb1
    obtain ⟨⟨q0, q1, q2⟩, ql⟩ := bE.below hb1
    clear hb1 bE D0
    go_wp2_with (first | (refine wpList_far rfl rfl (by first | exact .inl rfl | exact .inr (.inl rfl) | exact .inr (.inr (.inl rfl)) | exact .inr (.inr (.inr rfl))) rfl rfl (by first | assumption | exact isF_ofInt _ _ | exact IsF.lit (by decide +kernel)) (by first | assumption | exact isF_ofInt _ _ | exact IsF.lit (by decide +kernel)) ?_; intro r n hr) | (refine wpList_fcmp rfl rfl (by first | exact .inl rfl | exact .inr (.inl rfl) | exact .inr (.inr (.inl rfl)) | exact .inr (.inr (.inr (.inl rfl))) | exact .inr (.inr (.inr (.inr (.inl rfl)))) | exact .inr (.inr (.inr (.inr (.inr rfl))))) rfl rfl (by first | assumption | exact isF_ofInt _ _ | exact IsF.lit (by decide +kernel)) (by first | assumption | exact isF_ofInt _ _ | exact IsF.lit (by decide +kernel)) (by first | assumption | exact rfl) ?_) | (first | (refine wpList_fsame rfl rfl rfl (congrArg Option.isSome Try.underlying26) Try.underlying26 ?_) | (refine wpList_fsame rfl rfl rfl (congrArg Option.isSome Try.underlying32) Try.underlying32 ?_)) | (refine wpList_fwid rfl rfl rfl (congrArg Option.isSome Try.underlying26) Try.underlying32 (by assumption) ?_; intro r n hr) | (refine wpList_fnar rfl rfl rfl (congrArg Option.isSome Try.underlying32) Try.underlying26 (by assumption) (by assumption) ?_; intro r n hr) | (refine wpList_fneg rfl rfl rfl (by assumption) ?_; intro r hr))
    go_ret
    exact ⟨_, rfl, by assumption, by (repeat' first | assumption | exact Below.refl _ _ | refine B_drew ?_ _ | refine Below.drew ?_ | refine Below.alloc ?_ (by first | exact Nat.le_refl _ | (simp; done) | (simp; omega)) _)⟩
  · rw [if_neg k0]
    by_cases k1 : k = 1
    · subst k1
      simp only [if_true]
      go_enter Try.func48, Try.ntmps48
      go_wp2_with fail
      refine (HH.out _ D0).mono ?_
      rintro e w1 ⟨r1, rfl, hr1, hb1⟩
      have D1 := B_trans D0 hb1
      obtain ⟨⟨q0, q1, q2⟩, ql⟩ := bE.below hb1
      clear hb1 bE D0
      go_wp2_with (first | (refine wpList_far rfl rfl (by first | exact .inl rfl | exact .inr (.inl rfl) | exact .inr (.inr (.inl rfl)) | exact .inr (.inr (.inr rfl))) rfl rfl (by first | assumption | exact isF_ofInt _ _ | exact IsF.lit (by decide +kernel)) (by first | assumption | exact isF_ofInt _ _ | exact IsF.lit (by decide +kernel)) ?_; intro r n hr) | (refine wpList_fcmp rfl rfl (by first | exact .inl rfl | exact .inr (.inl rfl) | exact .inr (.inr (.inl rfl)) | exact .inr (.inr (.inr (.inl rfl))) | exact .inr (.inr (.inr (.inr (.inl rfl)))) | exact .inr (.inr (.inr (.inr (.inr rfl))))) rfl rfl (by first | assumption | exact isF_ofInt _ _ | exact IsF.lit (by decide +kernel)) (by first | assumption | exact isF_ofInt _ _ | exact IsF.lit (by decide +kernel)) (by first | assumption | exact rfl) ?_) | (first | (refine wpList_fsame rfl rfl rfl (congrArg Option.isSome Try.underlying26) Try.underlying26 ?_) | (refine wpList_fsame rfl rfl rfl (congrArg Option.isSome Try.underlying32) Try.underlying32 ?_)) | (refine wpList_fwid rfl rfl rfl (congrArg Option.isSome Try.underlying26) Try.underlying32 (by assumption) ?_; intro r n hr) | (refine wpList_fnar rfl rfl rfl (congrArg Option.isSome Try.underlying32) Try.underlying26 (by assumption) (by assumption) ?_; intro r n hr) | (refine wpList_fneg rfl rfl rfl (by assumption) ?_; intro r hr))
      go_ret
      exact ⟨_, rfl, by assumption, by (repeat' first | assumption | exact Below.refl _ _ | refine B_drew ?_ _ | refine Below.drew ?_ | refine Below.alloc ?_ (by first | exact Nat.le_refl _ | (simp; done) | (simp; omega)) _)⟩
    · rw [if_neg k1]
      have b0 : (k == 0) = false := by simpa using k0
      have b1 : (k == 1) = false := by simpa using k1
      clear k0 k1
      go_enter Try.func48, Try.ntmps48
      go_wp2_with fail
      refine (HH.out _ D0).mono ?_
      rintro e w1 ⟨r1, rfl, hr1, hb1⟩
      have D1 := B_trans D0 hb1
      obtain ⟨⟨q0, q1, q2⟩, ql⟩ := bE.below hb1
      clear hb1 bE D0
      go_wp2_with (first | (refine wpList_far rfl rfl (by first | exact .inl rfl | exact .inr (.inl rfl) | exact .inr (.inr (.inl rfl)) | exact .inr (.inr (.inr rfl))) rfl rfl (by first | assumption | exact isF_ofInt _ _ | exact IsF.lit (by decide +kernel)) (by first | assumption | exact isF_ofInt _ _ | exact IsF.lit (by decide +kernel)) ?_; intro r n hr) | (refine wpList_fcmp rfl rfl (by first | exact .inl rfl | exact .inr (.inl rfl) | exact .inr (.inr (.inl rfl)) | exact .inr (.inr (.inr (.inl rfl))) | exact .inr (.inr (.inr (.inr (.inl rfl)))) | exact .inr (.inr (.inr (.inr (.inr rfl))))) rfl rfl (by first | assumption | exact isF_ofInt _ _ | exact IsF.lit (by decide +kernel)) (by first | assumption | exact isF_ofInt _ _ | exact IsF.lit (by decide +kernel)) (by first | assumption | exact rfl) ?_) | (first | (refine wpList_fsame rfl rfl rfl (congrArg Option.isSome Try.underlying26) Try.underlying26 ?_) | (refine wpList_fsame rfl rfl rfl (congrArg Option.isSome Try.underlying32) Try.underlying32 ?_)) | (refine wpList_fwid rfl rfl rfl (congrArg Option.isSome Try.underlying26) Try.underlying32 (by assumption) ?_; intro r n hr) | (refine wpList_fnar rfl rfl rfl (congrArg Option.isSome Try.underlying32) Try.underlying26 (by assumption) (by assumption) ?_; intro r n hr) | (refine wpList_fneg rfl rfl rfl (by assumption) ?_; intro r hr))
      go_ret
      exact ⟨_, rfl, by assumption, by (repeat' first | assumption | exact Below.refl _ _ | refine B_drew ?_ _ | refine Below.drew ?_ | refine Below.alloc ?_ (by first | exact Nat.le_refl _ | (simp; done) | (simp; omega)) _)⟩
def atOk (R : Rl) (k : Int) (u v : Option Nat) : Bool := okRod R && validEndB k u v
set_option maxHeartbeats 4000000 in
theorem sPassAtEnd_any (v1 v2 v3 v4 : Value) (R : Rl) (last : Bool) (k : Int) (a c : Nat) (u v : Option Nat) (ha : IsF .f32 a u) (hc : IsF .f32 c v) (w : World) (h : Rod4 w v1 v2 v3 v4 R) :
    Calls Try.prog 24 #[.agg #[v1, v2, v3, v4], .bool last, .agg #[.int .i64 k, .float .f32 a, .float .f32 c]] w (RetFBb w (if atOk R k u v then chkF (atV R (endI R last) k v) else some 0) (atOk R k u v && finF (atV R (endI R last) k v))) := by
  have bB := (box4_alloc w 29 v1 v2 v3 v4).alloc (.cells #[.int .i64 k, .float .f32 a, .float .f32 c] 40)
  have bE := box3_alloc (w.alloc (.cells #[v1, v2, v3, v4] 29)) 40 k a c
  rw [show (w.alloc (.cells #[v1, v2, v3, v4] 29)).heap.size = w.heap.size + 1 by simp] at bE
  have D0 : Below w.heap.size w ((w.alloc (.cells #[v1, v2, v3, v4] 29)).alloc (.cells #[.int .i64 k, .float .f32 a, .float .f32 c] 40)) := by (repeat' first | assumption | exact Below.refl _ _ | refine B_drew ?_ _ | refine Below.drew ?_ | refine Below.alloc ?_ (by first | exact Nat.le_refl _ | (simp; done) | (simp; omega)) _)
  have h0 := h.below D0
  have hi := l02Is_any _ _ _ _ _ R _ bB h0
  have HEN := Lib.hid (fun w' (h' : Below _ _ w') => l02End_any _ k a c u v ha hc w' (bE.below h').1.1 (bE.below h').1.2.1 (bE.below h').1.2.2)
  have HAT := Lib.hid (fun (hL : R.lens) w' (h' : Below _ _ w') => l02AtEnd_any _ _ v1 v2 v3 v4 R hL last k a c u v ha hc w' (bB.below h') (bE.below h') (h0.below h'))
  unfold atOk
  cases hok : okRod R
  · rw [hok] at hi
    have HI := Lib.hid hi
    clear hi bB bE h0
    simp only [Bool.false_and, Bool.false_eq_true, if_false]
    go_enter Try.func24, Try.ntmps24
    go_wp2_with fail
    refine HI.out.mono ?_
    rintro e w1 ⟨n, rfl, rfl⟩
    go_wp2_with fail
    go_ret2
    exact ⟨_, rfl, isF_zero, by (repeat' first | assumption | exact Below.refl _ _ | refine B_drew ?_ _ | refine Below.drew ?_ | refine Below.alloc ?_ (by first | exact Nat.le_refl _ | (simp; done) | (simp; omega)) _)⟩
  · rw [hok] at hi
    have HI := Lib.hid hi
    have HL := Lib.hid (okRod_iff hok).1
    clear hi bB bE h0
    simp only [Bool.true_and]
    cases hv : validEndB k u v
    · rw [hv] at HEN
      simp only [Bool.false_and, Bool.false_eq_true, if_false]
      go_enter Try.func24, Try.ntmps24
      go_wp2_with fail
      refine HI.out.mono ?_
      rintro e w1 ⟨n, rfl, rfl⟩
      go_wp2_with fail
      refine (HEN.out _ (below_draws _ _)).mono ?_
      rintro e w2 ⟨n2, rfl, rfl⟩
      go_wp2_with fail
      go_ret2
      exact ⟨_, rfl, isF_zero, by (repeat' first | assumption | exact Below.refl _ _ | refine B_drew ?_ _ | refine Below.drew ?_ | refine Below.alloc ?_ (by first | exact Nat.le_refl _ | (simp; done) | (simp; omega)) _)⟩
    · rw [hv] at HEN
      simp only [Bool.true_and, if_true]
      go_enter Try.func24, Try.ntmps24
      go_wp2_with fail
      refine HI.out.mono ?_
      rintro e w1 ⟨n, rfl, rfl⟩
      go_wp2_with fail
      refine (HEN.out _ (below_draws _ _)).mono ?_
      rintro e w2 ⟨n2, rfl, rfl⟩
      go_wp2_with fail
      refine (HAT.out HL.out _ (by (repeat' first | assumption | exact Below.refl _ _ | refine B_drew ?_ _ | refine Below.drew ?_ | refine Below.alloc ?_ (by first | exact Nat.le_refl _ | (simp; done) | (simp; omega)) _))).mono ?_
      rintro e w3 ⟨r, n3, rfl, hr, rfl⟩
      go_wp2_with fail
      refine (l02Number_any _ _ hr _).mono ?_
      rintro e w4 ⟨r4, n4, rfl, hr4, rfl⟩
      go_wp2_with fail
      go_ret2
      exact ⟨_, rfl, hr4, by (repeat' first | assumption | exact Below.refl _ _ | refine B_drew ?_ _ | refine Below.drew ?_ | refine Below.alloc ?_ (by first | exact Nat.le_refl _ | (simp; done) | (simp; omega)) _)⟩
set_option maxHeartbeats 4000000 in
theorem iPassAtEnd_any (v1 v2 v3 v4 : Value) (R : Rl) (last : Bool) (k : Int) (a c : Nat) (u v : Option Nat) (ha : IsF .f32 a u) (hc : IsF .f32 c v) (w : World) (h : Rod4 w v1 v2 v3 v4 R) :
    Calls Try.prog 26 #[.agg #[v1, v2, v3, v4], .bool last, .agg #[.int .i64 k, .float .f32 a, .float .f32 c]] w (RetFBb w (if atOk R k u v then chkF (atV R (endI R last) k v) else some 0) (atOk R k u v && finF (atV R (endI R last) k v))) := by
  obtain ⟨ao1, cap1, rfl, m1⟩ := h.1.len
  have bB := (box4_alloc w 29 (.slice ao1 R.a.length cap1) v2 v3 v4).alloc (.cells #[.int .i64 k, .float .f32 a, .float .f32 c] 40)
  have bE := box3_alloc (w.alloc (.cells #[.slice ao1 R.a.length cap1, v2, v3, v4] 29)) 40 k a c
  rw [show (w.alloc (.cells #[.slice ao1 R.a.length cap1, v2, v3, v4] 29)).heap.size = w.heap.size + 1 by simp] at bE
  have D0 : Below w.heap.size w ((w.alloc (.cells #[.slice ao1 R.a.length cap1, v2, v3, v4] 29)).alloc (.cells #[.int .i64 k, .float .f32 a, .float .f32 c] 40)) := by (repeat' first | assumption | exact Below.refl _ _ | refine B_drew ?_ _ | refine Below.drew ?_ | refine Below.alloc ?_ (by first | exact Nat.le_refl _ | (simp; done) | (simp; omega)) _)
  have h0 := h.below D0
  have hi := iValidRod_any _ _ _ _ R _ h0
  have HEN := Lib.hid (fun w' => iValidEnd_any k a c u v ha hc w')
  have HAT := Lib.hid (fun (hL : R.lens) w' (h' : Below w.heap.size w w') => passAt_any _ v2 v3 v4 R hL (endI R last) (endI_lt hL last) k a c u v ha hc w' (h.below h'))
  unfold atOk
  cases hok : okRod R
  · rw [hok] at hi
    have HI := Lib.hid hi
    clear hi h0
    simp only [Bool.false_and, Bool.false_eq_true, if_false]
    go_enter Try.func26, Try.ntmps26
    go_wp2_with fail
    refine HI.out.mono ?_
    rintro e w1 ⟨rfl, hb1⟩
    have D1 := B_trans D0 hb1
    go_wp2_with fail
    go_ret2
    exact ⟨_, rfl, isF_zero, by (repeat' first | assumption | exact Below.refl _ _ | refine B_drew ?_ _ | refine Below.drew ?_ | refine Below.alloc ?_ (by first | exact Nat.le_refl _ | (simp; done) | (simp; omega)) _)⟩
  · rw [hok] at hi
    have HI := Lib.hid hi
    have HL := Lib.hid (okRod_iff hok).1
    have hn := (okRod_iff hok).1.1
    clear hi h0
    simp only [Bool.true_and]
    cases hv : validEndB k u v
    · rw [hv] at HEN
      simp only [Bool.false_and, Bool.false_eq_true, if_false]
      go_enter Try.func26, Try.ntmps26
      go_wp2_with fail
      refine HI.out.mono ?_
      rintro e w1 ⟨rfl, hb1⟩
      have D1 := B_trans D0 hb1
      have bE1 := bE.below hb1
      obtain ⟨⟨q0, q1, q2⟩, ql⟩ := bE1
      clear hb1 bE bB
      go_wp2_with fail
      refine (HEN.out _).mono ?_
      rintro e w2 ⟨rfl, hb2⟩
      have D2 := B_trans D1 hb2
      go_wp2_with fail
      go_ret2
      exact ⟨_, rfl, isF_zero, by (repeat' first | assumption | exact Below.refl _ _ | refine B_drew ?_ _ | refine Below.drew ?_ | refine Below.alloc ?_ (by first | exact Nat.le_refl _ | (simp; done) | (simp; omega)) _)⟩
    · rw [hv] at HEN
      simp only [Bool.true_and, if_true]
      have hat := HAT.out HL.out
      have he : (last = true → ((endI R last : Nat) : Int) = (R.a.length : Int) - 1) ∧ (last = false → ((endI R last : Nat) : Int) = 0) := by
        unfold endI
        constructor <;> intro hh <;> subst hh <;> simp <;> omega
      generalize atV R (endI R last) k v = x at *
      cases last
      all_goals
        first
          | rw [show ((endI R true : Nat) : Int) = (R.a.length : Int) - 1 from he.1 rfl] at hat
          | rw [show ((endI R false : Nat) : Int) = 0 from he.2 rfl] at hat
        have HA := Lib.hid hat
        clear hat he
        go_enter Try.func26, Try.ntmps26
        go_wp2_with fail
        refine HI.out.mono ?_
        rintro e w1 ⟨rfl, hb1⟩
        have D1 := B_trans D0 hb1
        have bE1 := bE.below hb1
        have bB1 := bB.below hb1
        have E1 := bE1
        obtain ⟨⟨q0, q1, q2⟩, ql⟩ := E1
        clear hb1 bE bB
        go_wp2_with fail
        refine (HEN.out _).mono ?_
        rintro e w2 ⟨rfl, hb2⟩
        have D2 := B_trans D1 hb2
        clear q0 q1 q2 ql
        have bE2 := bE1.below hb2
        have bB2 := bB1.below hb2
        obtain ⟨⟨q0, q1, q2⟩, ql⟩ := bE2
        obtain ⟨⟨p0, p1, p2, p3⟩, pf, pl⟩ := bB2
        clear hb2 bE1 bB1
        go_wp2_with fail
        refine (HA.out _ D2).mono ?_
        rintro e w3 ⟨r, rfl, hr, hb3⟩
        have D3 := B_trans D2 hb3
        clear q0 q1 q2 ql p0 p1 p2 p3 pf pl
        go_wp2_with fail
        refine (checked_any _ _ hr _).mono ?_
        rintro e w4 ⟨r4, n4, rfl, hr4, rfl⟩
        go_wp2_with fail
        go_ret2
        exact ⟨_, rfl, hr4, by (repeat' first | assumption | exact Below.refl _ _ | refine B_drew ?_ _ | refine Below.drew ?_ | refine Below.alloc ?_ (by first | exact Nat.le_refl _ | (simp; done) | (simp; omega)) _)⟩
end Go.Proofs.Ytndfpgcaooldkaa
