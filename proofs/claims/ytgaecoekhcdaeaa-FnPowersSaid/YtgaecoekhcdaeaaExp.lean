/-
  Contracts: the exponential function at both sides; FinShare.
-/
import Derived.Test.YtgaecoekhcdaeaaLogn
import Derived.Test.YtgaecoekhcdaeaaAngp
import Derived.Test.YtgaecoekhcdaeaaWave
namespace Go.Proofs.Ytgaecoekhcdaeaa
set_option linter.unusedVariables false
set_option linter.unusedSimpArgs false
open Go.RowKit Fl
attribute [local go_sem] run_store_float

def kE (j : Nat) : Option Nat := ofInt .f64 (12 - j)
theorem kE_ge : ∀ j : Nat, j ≤ 12 → cmpF .geq .f64 (kE j) (some 4607182418800017408) = decide (j < 12) := by decide +kernel
theorem kE_sub : ∀ j : Nat, j < 12 → ar .sub .f64 (kE j) (some 4607182418800017408) = kE (j + 1) := by decide +kernel
theorem kE_down : ∀ j : Nat, j < 12 → posN (.float .f64 (floatOfInt .f64 (12 - ((j + 1 : Nat) : Int)))) < posN (.float .f64 (floatOfInt .f64 (12 - (j : Int)))) := by decide +kernel
theorem kE_zero : IsF .f64 4622945017495814144 (kE 0) := by
  have e : kE 0 = some 4622945017495814144 := by decide +kernel
  rw [e]
  exact IsF.lit (by decide +kernel)
set_option maxHeartbeats 4000000 in
theorem exponential_any (b : Nat) (v : Option Nat) (h : IsF .f64 b v) (w : World) : Calls Try.prog 36 #[.float .f64 b] w (RetF w .f64 (expV v)) := by
  have ho := isF_oneD
  have hk0 := kE_zero
  unfold expV
  cases c1 : cmpF .gtr .f64 v (some 4641240890982006784)
  · cases c2 : cmpF .lss .f64 v (some 13864612927836782592)
    · simp only [Bool.false_eq_true, if_false]
      have Hv := Lib.hid (show expB v = expS (expP (ar .quo .f64 v (some 4643211215818981376)) 12) 8 from rfl)
      rw [Hv.out]
      go_enter Try.func36, Try.ntmps36
      go_wp2_with (first | (refine wpList_far rfl rfl (by first | exact .inl rfl | exact .inr (.inl rfl) | exact .inr (.inr (.inl rfl)) | exact .inr (.inr (.inr rfl))) rfl rfl (by first | assumption | exact isF_ofInt _ _ | exact IsF.lit (by decide +kernel)) (by first | assumption | exact isF_ofInt _ _ | exact IsF.lit (by decide +kernel)) ?_; intro r n hr) | (refine wpList_fcmp rfl rfl (by first | exact .inl rfl | exact .inr (.inl rfl) | exact .inr (.inr (.inl rfl)) | exact .inr (.inr (.inr (.inl rfl))) | exact .inr (.inr (.inr (.inr (.inl rfl)))) | exact .inr (.inr (.inr (.inr (.inr rfl))))) rfl rfl (by first | assumption | exact isF_ofInt _ _ | exact IsF.lit (by decide +kernel)) (by first | assumption | exact isF_ofInt _ _ | exact IsF.lit (by decide +kernel)) (by first | assumption | exact rfl) ?_) | (first | (refine wpList_fsame rfl rfl rfl (congrArg Option.isSome Try.underlying34) Try.underlying34 ?_) | (refine wpList_fsame rfl rfl rfl (congrArg Option.isSome Try.underlying39) Try.underlying39 ?_)) | (refine wpList_fwid rfl rfl rfl (congrArg Option.isSome Try.underlying34) Try.underlying39 (by assumption) ?_; intro r n hr) | (refine wpList_fnar rfl rfl rfl (congrArg Option.isSome Try.underlying39) Try.underlying34 (by assumption) (by assumption) ?_; intro r n hr) | (refine wpList_fneg rfl rfl rfl (by assumption) ?_; intro r hr))
      go_simp
      generalize ar .quo .f64 v (some 4643211215818981376) = t at *
      go_loopw [4, 5] (fun q k wr => ∃ (j rq rk m : Nat), j ≤ 12 ∧ q = .float .f64 rq ∧ k = .float .f64 rk ∧ wr = w.drewN m ∧ IsF .f64 rq (expP t j) ∧ IsF .f64 rk (kE j)) (fun _ k _ => posN k)
      case atStart => exact ⟨0, _, _, _, by omega, rfl, rfl, rfl, ho, hk0⟩
      case round =>
        obtain ⟨j, rq, rk, m, hj, rfl, rfl, rfl, hq, hk⟩ := hrel
        by_cases hlt : j < 12
        · have ht : cmpF .geq .f64 (kE j) (some 4607182418800017408) = true := by rw [kE_ge j hj]; simpa using hlt
          have Hs := Lib.hid (kE_sub j hlt)
          go_wp2_with (first | (refine wpList_far rfl rfl (by first | exact .inl rfl | exact .inr (.inl rfl) | exact .inr (.inr (.inl rfl)) | exact .inr (.inr (.inr rfl))) rfl rfl (by first | assumption | exact isF_ofInt _ _ | exact IsF.lit (by decide +kernel)) (by first | assumption | exact isF_ofInt _ _ | exact IsF.lit (by decide +kernel)) ?_; intro r n hr) | (refine wpList_fcmp rfl rfl (by first | exact .inl rfl | exact .inr (.inl rfl) | exact .inr (.inr (.inl rfl)) | exact .inr (.inr (.inr (.inl rfl))) | exact .inr (.inr (.inr (.inr (.inl rfl)))) | exact .inr (.inr (.inr (.inr (.inr rfl))))) rfl rfl (by first | assumption | exact isF_ofInt _ _ | exact IsF.lit (by decide +kernel)) (by first | assumption | exact isF_ofInt _ _ | exact IsF.lit (by decide +kernel)) (by first | assumption | exact rfl) ?_) | (first | (refine wpList_fsame rfl rfl rfl (congrArg Option.isSome Try.underlying34) Try.underlying34 ?_) | (refine wpList_fsame rfl rfl rfl (congrArg Option.isSome Try.underlying39) Try.underlying39 ?_)) | (refine wpList_fwid rfl rfl rfl (congrArg Option.isSome Try.underlying34) Try.underlying39 (by assumption) ?_; intro r n hr) | (refine wpList_fnar rfl rfl rfl (congrArg Option.isSome Try.underlying39) Try.underlying34 (by assumption) (by assumption) ?_; intro r n hr) | (refine wpList_fneg rfl rfl rfl (by assumption) ?_; intro r hr))
          all_goals
            go_roundw
            case rel => exact ⟨j + 1, _, _, _, by omega, rfl, rfl, rfl, by assumption, by rw [← Hs.out]; assumption⟩
            case measure =>
              have e1 := isF_eq (by assumption) Hs.out
              have e2 := isF_eq hk rfl
              have e3 := kE_down j hlt
              rw [← e1, ← e2] at e3
              exact e3
        · have ht : cmpF .geq .f64 (kE j) (some 4607182418800017408) = false := by rw [kE_ge j hj]; simpa using hlt
          obtain rfl : j = 12 := by omega
          go_wp2_with (first | (refine wpList_far rfl rfl (by first | exact .inl rfl | exact .inr (.inl rfl) | exact .inr (.inr (.inl rfl)) | exact .inr (.inr (.inr rfl))) rfl rfl (by first | assumption | exact isF_ofInt _ _ | exact IsF.lit (by decide +kernel)) (by first | assumption | exact isF_ofInt _ _ | exact IsF.lit (by decide +kernel)) ?_; intro r n hr) | (refine wpList_fcmp rfl rfl (by first | exact .inl rfl | exact .inr (.inl rfl) | exact .inr (.inr (.inl rfl)) | exact .inr (.inr (.inr (.inl rfl))) | exact .inr (.inr (.inr (.inr (.inl rfl)))) | exact .inr (.inr (.inr (.inr (.inr rfl))))) rfl rfl (by first | assumption | exact isF_ofInt _ _ | exact IsF.lit (by decide +kernel)) (by first | assumption | exact isF_ofInt _ _ | exact IsF.lit (by decide +kernel)) (by first | assumption | exact rfl) ?_) | (first | (refine wpList_fsame rfl rfl rfl (congrArg Option.isSome Try.underlying34) Try.underlying34 ?_) | (refine wpList_fsame rfl rfl rfl (congrArg Option.isSome Try.underlying39) Try.underlying39 ?_)) | (refine wpList_fwid rfl rfl rfl (congrArg Option.isSome Try.underlying34) Try.underlying39 (by assumption) ?_; intro r n hr) | (refine wpList_fnar rfl rfl rfl (congrArg Option.isSome Try.underlying39) Try.underlying34 (by assumption) (by assumption) ?_; intro r n hr) | (refine wpList_fneg rfl rfl rfl (by assumption) ?_; intro r hr))
          go_simp
          generalize expP t 12 = p at *
          go_loopw [4, 25] (fun q i wr => ∃ (j rq m : Nat), j ≤ 8 ∧ q = .float .f64 rq ∧ i = .int .i64 (j : Int) ∧ wr = w.drewN m ∧ IsF .f64 rq (expS p j)) (fun _ i _ => (8 - intOf i).toNat)
          case atStart => exact ⟨0, _, _, by omega, rfl, rfl, rfl, hq⟩
          case round =>
            obtain ⟨j, r2, m2, hj2, rfl, rfl, rfl, hq2⟩ := hrel
            by_cases hlt2 : j < 8
            · go_wp2_with (first | (refine wpList_far rfl rfl (by first | exact .inl rfl | exact .inr (.inl rfl) | exact .inr (.inr (.inl rfl)) | exact .inr (.inr (.inr rfl))) rfl rfl (by first | assumption | exact isF_ofInt _ _ | exact IsF.lit (by decide +kernel)) (by first | assumption | exact isF_ofInt _ _ | exact IsF.lit (by decide +kernel)) ?_; intro r n hr) | (refine wpList_fcmp rfl rfl (by first | exact .inl rfl | exact .inr (.inl rfl) | exact .inr (.inr (.inl rfl)) | exact .inr (.inr (.inr (.inl rfl))) | exact .inr (.inr (.inr (.inr (.inl rfl)))) | exact .inr (.inr (.inr (.inr (.inr rfl))))) rfl rfl (by first | assumption | exact isF_ofInt _ _ | exact IsF.lit (by decide +kernel)) (by first | assumption | exact isF_ofInt _ _ | exact IsF.lit (by decide +kernel)) (by first | assumption | exact rfl) ?_) | (first | (refine wpList_fsame rfl rfl rfl (congrArg Option.isSome Try.underlying34) Try.underlying34 ?_) | (refine wpList_fsame rfl rfl rfl (congrArg Option.isSome Try.underlying39) Try.underlying39 ?_)) | (refine wpList_fwid rfl rfl rfl (congrArg Option.isSome Try.underlying34) Try.underlying39 (by assumption) ?_; intro r n hr) | (refine wpList_fnar rfl rfl rfl (congrArg Option.isSome Try.underlying39) Try.underlying34 (by assumption) (by assumption) ?_; intro r n hr) | (refine wpList_fneg rfl rfl rfl (by assumption) ?_; intro r hr))
              all_goals
                go_roundw
                case rel => exact ⟨j + 1, _, _, by omega, rfl, by go_num, rfl, by assumption⟩
                case measure => simp [intOf]; omega
            · obtain rfl : j = 8 := by omega
              go_wp2_with (first | (refine wpList_far rfl rfl (by first | exact .inl rfl | exact .inr (.inl rfl) | exact .inr (.inr (.inl rfl)) | exact .inr (.inr (.inr rfl))) rfl rfl (by first | assumption | exact isF_ofInt _ _ | exact IsF.lit (by decide +kernel)) (by first | assumption | exact isF_ofInt _ _ | exact IsF.lit (by decide +kernel)) ?_; intro r n hr) | (refine wpList_fcmp rfl rfl (by first | exact .inl rfl | exact .inr (.inl rfl) | exact .inr (.inr (.inl rfl)) | exact .inr (.inr (.inr (.inl rfl))) | exact .inr (.inr (.inr (.inr (.inl rfl)))) | exact .inr (.inr (.inr (.inr (.inr rfl))))) rfl rfl (by first | assumption | exact isF_ofInt _ _ | exact IsF.lit (by decide +kernel)) (by first | assumption | exact isF_ofInt _ _ | exact IsF.lit (by decide +kernel)) (by first | assumption | exact rfl) ?_) | (first | (refine wpList_fsame rfl rfl rfl (congrArg Option.isSome Try.underlying34) Try.underlying34 ?_) | (refine wpList_fsame rfl rfl rfl (congrArg Option.isSome Try.underlying39) Try.underlying39 ?_)) | (refine wpList_fwid rfl rfl rfl (congrArg Option.isSome Try.underlying34) Try.underlying39 (by assumption) ?_; intro r n hr) | (refine wpList_fnar rfl rfl rfl (congrArg Option.isSome Try.underlying39) Try.underlying34 (by assumption) (by assumption) ?_; intro r n hr) | (refine wpList_fneg rfl rfl rfl (by assumption) ?_; intro r hr))
              go_ret
              exact ⟨_, _, rfl, by assumption, rfl⟩
    · simp only [Bool.false_eq_true, if_false, if_true]
      go_enter Try.func36, Try.ntmps36
      go_wp2_with (first | (refine wpList_far rfl rfl (by first | exact .inl rfl | exact .inr (.inl rfl) | exact .inr (.inr (.inl rfl)) | exact .inr (.inr (.inr rfl))) rfl rfl (by first | assumption | exact isF_ofInt _ _ | exact IsF.lit (by decide +kernel)) (by first | assumption | exact isF_ofInt _ _ | exact IsF.lit (by decide +kernel)) ?_; intro r n hr) | (refine wpList_fcmp rfl rfl (by first | exact .inl rfl | exact .inr (.inl rfl) | exact .inr (.inr (.inl rfl)) | exact .inr (.inr (.inr (.inl rfl))) | exact .inr (.inr (.inr (.inr (.inl rfl)))) | exact .inr (.inr (.inr (.inr (.inr rfl))))) rfl rfl (by first | assumption | exact isF_ofInt _ _ | exact IsF.lit (by decide +kernel)) (by first | assumption | exact isF_ofInt _ _ | exact IsF.lit (by decide +kernel)) (by first | assumption | exact rfl) ?_) | (first | (refine wpList_fsame rfl rfl rfl (congrArg Option.isSome Try.underlying34) Try.underlying34 ?_) | (refine wpList_fsame rfl rfl rfl (congrArg Option.isSome Try.underlying39) Try.underlying39 ?_)) | (refine wpList_fwid rfl rfl rfl (congrArg Option.isSome Try.underlying34) Try.underlying39 (by assumption) ?_; intro r n hr) | (refine wpList_fnar rfl rfl rfl (congrArg Option.isSome Try.underlying39) Try.underlying34 (by assumption) (by assumption) ?_; intro r n hr) | (refine wpList_fneg rfl rfl rfl (by assumption) ?_; intro r hr))
      go_ret
      exact ⟨_, 0, rfl, isF_zeroD, rfl⟩
  · simp only [if_true]
    go_enter Try.func36, Try.ntmps36
    go_wp2_with (first | (refine wpList_far rfl rfl (by first | exact .inl rfl | exact .inr (.inl rfl) | exact .inr (.inr (.inl rfl)) | exact .inr (.inr (.inr rfl))) rfl rfl (by first | assumption | exact isF_ofInt _ _ | exact IsF.lit (by decide +kernel)) (by first | assumption | exact isF_ofInt _ _ | exact IsF.lit (by decide +kernel)) ?_; intro r n hr) | (refine wpList_fcmp rfl rfl (by first | exact .inl rfl | exact .inr (.inl rfl) | exact .inr (.inr (.inl rfl)) | exact .inr (.inr (.inr (.inl rfl))) | exact .inr (.inr (.inr (.inr (.inl rfl)))) | exact .inr (.inr (.inr (.inr (.inr rfl))))) rfl rfl (by first | assumption | exact isF_ofInt _ _ | exact IsF.lit (by decide +kernel)) (by first | assumption | exact isF_ofInt _ _ | exact IsF.lit (by decide +kernel)) (by first | assumption | exact rfl) ?_) | (first | (refine wpList_fsame rfl rfl rfl (congrArg Option.isSome Try.underlying34) Try.underlying34 ?_) | (refine wpList_fsame rfl rfl rfl (congrArg Option.isSome Try.underlying39) Try.underlying39 ?_)) | (refine wpList_fwid rfl rfl rfl (congrArg Option.isSome Try.underlying34) Try.underlying39 (by assumption) ?_; intro r n hr) | (refine wpList_fnar rfl rfl rfl (congrArg Option.isSome Try.underlying39) Try.underlying34 (by assumption) (by assumption) ?_; intro r n hr) | (refine wpList_fneg rfl rfl rfl (by assumption) ?_; intro r hr) | (go_at_call 37; refine (inf_pos _).mono ?_; rintro e w' ⟨rfl, hw'⟩; obtain rfl := hw'.symm))
    go_ret
    exact ⟨_, 0, rfl, isF_pinf, rfl⟩
theorem iExp_any (b : Nat) (v : Option Nat) (h : IsF .f32 b v) (hn : NarOk (expV (wid v))) (w : World) : Calls Try.prog 17 #[.float .f32 b] w (RetF w .f32 (nar (expV (wid v)))) := by
  go_enter Try.func17, Try.ntmps17
  go_wp2_with (first | (refine wpList_far rfl rfl (by first | exact .inl rfl | exact .inr (.inl rfl) | exact .inr (.inr (.inl rfl)) | exact .inr (.inr (.inr rfl))) rfl rfl (by first | assumption | exact isF_ofInt _ _ | exact IsF.lit (by decide +kernel)) (by first | assumption | exact isF_ofInt _ _ | exact IsF.lit (by decide +kernel)) ?_; intro r n hr) | (refine wpList_fcmp rfl rfl (by first | exact .inl rfl | exact .inr (.inl rfl) | exact .inr (.inr (.inl rfl)) | exact .inr (.inr (.inr (.inl rfl))) | exact .inr (.inr (.inr (.inr (.inl rfl)))) | exact .inr (.inr (.inr (.inr (.inr rfl))))) rfl rfl (by first | assumption | exact isF_ofInt _ _ | exact IsF.lit (by decide +kernel)) (by first | assumption | exact isF_ofInt _ _ | exact IsF.lit (by decide +kernel)) (by first | assumption | exact rfl) ?_) | (first | (refine wpList_fsame rfl rfl rfl (congrArg Option.isSome Try.underlying34) Try.underlying34 ?_) | (refine wpList_fsame rfl rfl rfl (congrArg Option.isSome Try.underlying39) Try.underlying39 ?_)) | (refine wpList_fwid rfl rfl rfl (congrArg Option.isSome Try.underlying34) Try.underlying39 (by assumption) ?_; intro r n hr) | (refine wpList_fnar rfl rfl rfl (congrArg Option.isSome Try.underlying39) Try.underlying34 (by assumption) (by assumption) ?_; intro r n hr) | (refine wpList_fneg rfl rfl rfl (by assumption) ?_; intro r hr) | (go_at_call 36; refine (exponential_any _ _ (by assumption) _).mono ?_; rintro e w' ⟨r, n, rfl, hr, rfl⟩))
  go_ret
  exact ⟨_, _, rfl, by assumption, rfl⟩

/-! ### Signs -/
/-- A NaN, or of the sign s. -/
def Sn (k : FloatKind) (s : Bool) (v : Option Nat) : Prop := ∀ b, v = some b → sg k.format b = s
theorem sg_write {f : Ieee.Format} {d : Ieee.Datum} (h : d.isNaN = false) : sg f (f.write d) = d.neg := by
  cases d with
  | number s m p => exact sg_nearest f s m p
  | infinity s => exact sg_word f s f.infRung_lt
  | nan s t => cases h
theorem neg_read {f : Ieee.Format} {b : Nat} : (f.read b).neg = sg f b := by
  unfold Ieee.Format.read sg
  dsimp only
  split
  · rfl
  · split
    · rfl
    · split <;> rfl
theorem product_neg {x y d : Ieee.Datum} (h : x.product y = some d) : d.neg = (x.neg ^^ y.neg) := by
  cases x <;> cases y <;> simp [Ieee.Datum.product] at h <;> first | (subst h; rfl) | (obtain ⟨_, rfl⟩ := h; first | rfl | exact Bool.xor_comm _ _)
theorem quotient_neg {n : Nat} {x y d : Ieee.Datum} (h : x.quotient n y = some d) : d.neg = (x.neg ^^ y.neg) := by
  cases x with
  | nan => simp [Ieee.Datum.quotient] at h
  | infinity s => cases y <;> simp [Ieee.Datum.quotient] at h <;> (subst h; rfl)
  | number s m i =>
    cases y with
    | nan => simp [Ieee.Datum.quotient] at h
    | infinity t => simp [Ieee.Datum.quotient] at h; subst h; rfl
    | number t n' j =>
      simp only [Ieee.Datum.quotient] at h
      split at h
      · split at h
        · cases h
        · cases h; rfl
      · cases h; rfl
theorem sn_mul {k : FloatKind} {s t : Bool} {u v : Option Nat} (hu : Sn k s u) (hv : Sn k t v) : Sn k (s ^^ t) (ar .mul k u v) := by
  intro c hc
  cases u with
  | none => cases hc
  | some a =>
    cases v with
    | none => cases hc
    | some b =>
      change ((k.format.read a).product (k.format.read b)).map k.format.write = some c at hc
      obtain ⟨d, hd, rfl⟩ := Option.map_eq_some_iff.1 hc
      rw [sg_write (product_num _ _ _ hd), product_neg hd, neg_read, neg_read, hu a rfl, hv b rfl]
theorem sn_quo {k : FloatKind} {s t : Bool} {u v : Option Nat} (hu : Sn k s u) (hv : Sn k t v) : Sn k (s ^^ t) (ar .quo k u v) := by
  intro c hc
  cases u with
  | none => cases hc
  | some a =>
    cases v with
    | none => cases hc
    | some b =>
      change ((k.format.read a).quotient _ (k.format.read b)).map k.format.write = some c at hc
      obtain ⟨d, hd, rfl⟩ := Option.map_eq_some_iff.1 hc
      rw [sg_write (quotient_num _ _ _ _ hd), quotient_neg hd, neg_read, neg_read, hu a rfl, hv b rfl]
theorem sn_wid {b : Nat} {s : Bool} {v : Option Nat} (h : IsF .f32 b v) (hv : Sn .f32 s v) : Sn .f64 s (wid v) := by
  intro c hc
  cases v with
  | none => cases hc
  | some a =>
    obtain ⟨rfl, hn⟩ := h.num
    change some _ = some c at hc
    cases hc
    rw [sg_write hn, neg_read]
    exact hv b rfl
theorem sn_nar {b : Nat} {s : Bool} {v : Option Nat} (h : IsF .f64 b v) (hv : Sn .f64 s v) : Sn .f32 s (nar v) := by
  intro c hc
  cases v with
  | none => cases hc
  | some a =>
    obtain ⟨rfl, hn⟩ := h.num
    change some _ = some c at hc
    cases hc
    rw [sg_write hn, neg_read]
    exact hv b rfl
theorem sn_sqrt {v : Option Nat} (hv : Sn .f64 false v) : Sn .f64 false (sqrt v) := by
  intro c hc
  cases v with
  | none => cases hc
  | some a =>
    change ((D.read a).root _).map D.write = some c at hc
    obtain ⟨d, hd, rfl⟩ := Option.map_eq_some_iff.1 hc
    change sg D (D.write d) = false
    rw [sg_write (root_num _ _ _ hd)]
    have ha := neg_read (f := D) (b := a)
    rw [show sg D a = false from hv a rfl] at ha
    cases hr : D.read a with
    | nan s t => rw [hr] at hd; cases hd
    | infinity s =>
      rw [hr] at hd ha
      change s = false at ha
      subst ha
      cases hd; rfl
    | number s m i =>
      rw [hr] at hd ha
      change s = false at ha
      subst ha
      simp only [Ieee.Datum.root] at hd
      split at hd
      · cases hd; rfl
      · simp only [Bool.false_eq_true, if_false] at hd; cases hd; rfl
theorem sn_neg {b : Nat} {v : Option Nat} (h : IsF .f32 b v) (hv : Sn .f32 false v) : Sn .f32 true (neg .f32 v) := by
  intro c hc
  cases v with
  | none => cases hc
  | some a =>
    obtain ⟨rfl, hn⟩ := h.num
    change some _ = some c at hc
    cases hc
    have hs := hv b rfl
    have hlt : b < 4294967296 := h.lt
    unfold sg at hs ⊢
    rw [S_eq, S_sw] at hs
    rw [negFloat_at .f32 hlt, S_eq, S_sw]
    simp at hs ⊢
    split <;> omega
theorem sn_pos {b : Nat} (hs : sg S b = false) : Sn .f32 false (some b) := by
  rintro c ⟨⟩
  exact hs
theorem narOk_expneg {b : Nat} {v : Option Nat} (h : IsF .f64 b v) (hs : Sn .f64 true v) : NarOk (expV v) := by
  rcases fin_cases h with rfl | ⟨rfl, hf⟩ | ⟨rfl, hi⟩
  · rw [expV_none]; exact narOk_none
  · unfold expV
    split
    · exact narOk_inf (s := false) (by decide +kernel)
    · cases c2 : cmpF .lss .f64 (some b) (some 13864612927836782592)
      · exact narOk_exp hf (hs b rfl) c2
      · exact narOk_fin (by unfold Fl.Fin; decide +kernel) (by decide +kernel)
  · have hb : sg D b = true := hs b rfl
    have hi' : D.read b = .infinity true := by rw [← hb]; exact hi
    have hl : Fl.Fin D 13864612927836782592 := by unfold Fl.Fin; decide +kernel
    obtain ⟨m, k, hr, _⟩ := read_fin hl
    have c2 : cmpF .lss .f64 (some b) (some 13864612927836782592) = true := by
      have e : ord .f64 (some b) (some 13864612927836782592) = some .lt := by
        show (D.read b).order (D.read 13864612927836782592) = _
        rw [hi', hr]; rfl
      unfold cmpF
      simp only [e]; rfl
    have hl2 : Fl.Fin D 4641240890982006784 := by unfold Fl.Fin; decide +kernel
    obtain ⟨m2, k2, hr2, _⟩ := read_fin hl2
    have c1 : cmpF .gtr .f64 (some b) (some 4641240890982006784) = false := by
      have e : ord .f64 (some b) (some 4641240890982006784) = some .lt := by
        show (D.read b).order (D.read 4641240890982006784) = _
        rw [hi', hr2]; rfl
      unfold cmpF
      simp only [e]; rfl
    unfold expV
    rw [c1, c2]
    exact narOk_fin (by unfold Fl.Fin; decide +kernel) (by decide +kernel)
theorem isF_ex {k : FloatKind} {v : Option Nat} (h : ∀ b, v = some b → IsF k b (some b)) : ∃ r, IsF k r v := by
  cases v with
  | some b => exact ⟨b, h b rfl⟩
  | none =>
    cases k
    · exact ⟨2143289344, IsF.lit_nan (by decide +kernel)⟩
    · exact ⟨9221120237041090561, IsF.lit_nan (by decide +kernel)⟩
/-- The exponential of minus twice a number that is not negative is not too great. -/
theorem narOk_fin_arg {M : Option Nat} (h : Sn .f32 false M) : NarOk (expV (wid (neg .f32 (ar .mul .f32 (some 1073741824) M)))) := by
  obtain ⟨r, hr⟩ := isF_ex (k := .f32) (v := ar .mul .f32 (some 1073741824) M) (fun b hb => ar_num hb)
  have h1 : Sn .f32 (false ^^ false) (ar .mul .f32 (some 1073741824) M) := sn_mul (sn_pos (by decide +kernel)) h
  have h2 := sn_neg hr h1
  have h3 := isF_neg hr
  have h4 := sn_wid h3 h2
  obtain ⟨q, hq⟩ := isF_ex (k := .f64) (v := wid (neg .f32 (ar .mul .f32 (some 1073741824) M))) (fun b hb => by
    cases hv : neg .f32 (ar .mul .f32 (some 1073741824) M) with
    | none => rw [hv] at hb; cases hb
    | some x =>
      rw [hv] at hb h3
      change some _ = some b at hb
      cases hb
      obtain ⟨_, hn⟩ := h3.num
      exact isF_write .f64 _ hn)
  exact narOk_expneg hq h4
def finM (u v x y : Option Nat) : Option Nat := ar .mul .f32 u (nar (sqrt (wid (ar .quo .f32 (ar .mul .f32 (some 1073741824) y) (ar .mul .f32 v x)))))
def finE (m : Option Nat) : Option Nat := nar (expV (wid (neg .f32 (ar .mul .f32 (some 1073741824) m))))
def finV (m : Option Nat) : Option Nat := ar .quo .f32 (ar .quo .f32 (ar .sub .f32 (some 1065353216) (finE m)) (ar .add .f32 (some 1065353216) (finE m))) m
theorem sn_finM {u v x y : Option Nat} (hu : Sn .f32 false u) (hv : Sn .f32 false v) (hx : Sn .f32 false x) (hy : Sn .f32 false y) : Sn .f32 false (finM u v x y) := by
  have h1 : Sn .f32 (false ^^ false ^^ (false ^^ false)) (ar .quo .f32 (ar .mul .f32 (some 1073741824) y) (ar .mul .f32 v x)) := sn_quo (sn_mul (sn_pos (by decide +kernel)) hy) (sn_mul hv hx)
  obtain ⟨r, hr⟩ := isF_ex (k := .f32) (v := ar .quo .f32 (ar .mul .f32 (some 1073741824) y) (ar .mul .f32 v x)) (fun b hb => ar_num hb)
  have h2 := sn_sqrt (sn_wid hr h1)
  obtain ⟨q, hq⟩ := isF_ex (k := .f64) (v := sqrt (wid (ar .quo .f32 (ar .mul .f32 (some 1073741824) y) (ar .mul .f32 v x)))) (fun b hb => sqrt_num hb)
  exact sn_mul hu (sn_nar hq h2)
theorem sn_posF {b : Nat} {v : Option Nat} (h : IsF .f32 b v) (hp : posF v = true) : Sn .f32 false v := by
  rcases posF_cases h with ⟨_, rfl, _, hs, _⟩ | h1
  · exact sn_pos hs
  · rw [hp] at h1; cases h1
theorem not_any4 {a b c d : Nat} {u v x y : Option Nat} (ha : IsF .f32 a u) (hb : IsF .f32 b v) (hc : IsF .f32 c x) (hd : IsF .f32 d y) : (!anyF nposF [a, b, c, d]) = (posF u && posF v && posF x && posF y) := by
  rw [anyF_cons, anyF_cons, anyF_cons, anyF_cons, anyF_nil, ha.eq, hb.eq, hc.eq, hd.eq, nposF_eq u a ha, nposF_eq v b hb, nposF_eq x c hc, nposF_eq y d hd]
  cases posF u <;> cases posF v <;> cases posF x <;> cases posF y <;> rfl
theorem isF_two32 : IsF .f32 1073741824 (some 1073741824) := IsF.lit (by decide +kernel)
end Go.Proofs.Ytgaecoekhcdaeaa
