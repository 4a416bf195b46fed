/-
  Contracts: AngleTurns at both sides.
-/
import Derived.Test.YtaannebjpmdhjaaSin
import Derived.Test.YtaannebjpmdhjaaWave
import Derived.Deep.DeepCutAuto
namespace Go.Proofs.Ytaannebjpmdhjaa
set_option linter.unusedVariables false
set_option linter.unusedSimpArgs false
set_option maxRecDepth 20000
open Go.RowKit Fl

def kA (j : Nat) : Option Nat := ofInt .f64 (15 - 2 * j)
theorem kA_ge : ∀ j : Nat, j ≤ 8 → cmpF .geq .f64 (kA j) (some 4607182418800017408) = decide (j < 8) := by decide +kernel
theorem kA_sub : ∀ j : Nat, j < 8 → ar .sub .f64 (kA j) (some 4611686018427387904) = kA (j + 1) := by decide +kernel
theorem kA_down : ∀ j : Nat, j < 8 → posN (.float .f64 (floatOfInt .f64 (15 - 2 * ((j + 1 : Nat) : Int)))) < posN (.float .f64 (floatOfInt .f64 (15 - 2 * (j : Int)))) := by decide +kernel
theorem kA_zero : IsF .f64 4624633867356078080 (kA 0) := by
  have e : kA 0 = some 4624633867356078080 := by decide +kernel
  rw [e]
  exact IsF.lit (by decide +kernel)
/-- The angle's value, the tests given. -/
def angW (t : Option Nat) (over xn yn : Bool) : Option Nat :=
  let a := angB (angIt t 3)
  let a := if over then ar .sub .f64 (some 4598175219545276416) a else a
  let a := if xn then ar .sub .f64 (some 4602678819172646912) a else a
  if yn then neg .f64 a else a
theorem angV_eq (y x : Option Nat) : angV y x = angW (angT (absF y) (absF x)) (cmpF .gtr .f64 (absF y) (absF x)) (cmpF .lss .f64 x (some 0)) (cmpF .lss .f64 y (some 0)) := rfl
theorem bd_neg_of {e : Nat} {u : Option Nat} (hu : Bd e u) (hw : ∀ b, u = some b → IsF .f64 b (some b)) : Bd e (neg .f64 u) := by
  obtain ⟨s, b, hb, h⟩ := hu
  exact ⟨_, bs_neg ⟨b, hb, h⟩ (by rw [hb]; exact hw b hb)⟩
theorem narOk_angW {t : Option Nat} (h : Bs false 1074 t) (over xn yn : Bool) : NarOk (angW t over xn yn) := by
  have h1 : Bd 1086 (angB (angIt t 3)) := bd_angB (bs_angIt h 3)
  have w1 : ∀ b, angB (angIt t 3) = some b → IsF .f64 b (some b) := fun b hb => ar_num (op := .quo) (u := ar .mul .f64 (some 4620693217682128896) (ar .mul .f64 (angIt t 3) (angP (ar .mul .f64 (angIt t 3) (angIt t 3)) 8))) (v := some 4618760256179416344) hb
  have h2 : Bd 1087 (if over then ar .sub .f64 (some 4598175219545276416) (angB (angIt t 3)) else angB (angIt t 3)) := by
    cases over
    · exact h1.mono (by decide)
    · exact bd_sub (bs_lit (b := 4598175219545276416) (e := 1074) (by decide +kernel)).bd h1 (by decide) (by decide) (by decide)
  have w2 : ∀ b, (if over then ar .sub .f64 (some 4598175219545276416) (angB (angIt t 3)) else angB (angIt t 3)) = some b → IsF .f64 b (some b) := by
    cases over
    · exact w1
    · exact fun b hb => ar_num hb
  unfold angW
  dsimp only
  generalize (if over = true then ar .sub .f64 (some 4598175219545276416) (angB (angIt t 3)) else angB (angIt t 3)) = a at *
  have h3 : Bd 1088 (if xn then ar .sub .f64 (some 4602678819172646912) a else a) := by
    cases xn
    · exact h2.mono (by decide)
    · exact bd_sub (bs_lit (b := 4602678819172646912) (e := 1074) (by decide +kernel)).bd h2 (by decide) (by decide) (by decide)
  have w3 : ∀ b, (if xn then ar .sub .f64 (some 4602678819172646912) a else a) = some b → IsF .f64 b (some b) := by
    cases xn
    · exact w2
    · exact fun b hb => ar_num hb
  cases yn
  · exact h3.narOk (by decide)
  · exact (bd_neg_of h3 w3).narOk (by decide)
/-- The call returns a float, and leaves what was there. -/
def RetFw (w : World) (k : FloatKind) (v : Option Nat) (e : Ending) (w' : World) : Prop := ∃ r, e = .returned (.float k r) ∧ IsF k r v ∧ Below w.heap.size w w'
theorem any_fin2 {a b : Nat} {u v : Option Nat} (ha : IsF .f32 a u) (hb : IsF .f32 b v) : (!anyF (fun v => !finF v) [a, b]) = (finF u && finF v) := by
  rw [anyF_cons, anyF_cons, anyF_nil, ha.eq, hb.eq]
  cases finF u <;> cases finF v <;> rfl
theorem areFinite2 {a b : Nat} {u v : Option Nat} (ha : IsF .f32 a u) (hb : IsF .f32 b v) (w : World) (q : Bool) (hq : (finF u && finF v) = q) : ∀ w', Below (w.alloc (.cells #[.float .f32 a, .float .f32 b] 28)).heap.size (w.alloc (.cells #[.float .f32 a, .float .f32 b] 28)) w' → Calls Try.prog 28 #[.slice (some ⟨w.heap.size, 0, none⟩) 2 2] w' (Ret w' (.bool q)) := by
  have hsl := FSl_lit w [a, b] 28 (by simp; exact ⟨ha.2, hb.2⟩) (by simp)
  intro w' hw'
  have := areFinite_any _ _ w' (hsl.below hw')
  rw [any_fin2 ha hb, hq] at this
  exact this
set_option maxRecDepth 100000 in
set_option maxHeartbeats 8000000 in
theorem iAngle_fin (a b : Nat) (ha : IsF .f32 a (some a)) (hb : IsF .f32 b (some b)) (fa : Fl.Fin S a) (fb : Fl.Fin S b) (h0 : cmpF .eql .f32 (some b) (some 0) = false ∨ cmpF .eql .f32 (some b) (some 0) = true ∧ cmpF .eql .f32 (some a) (some 0) = false)
    (t : Option Nat) (over xn yn : Bool) (hov : cmpF .gtr .f64 (absF (wid (some a))) (absF (wid (some b))) = over) (hxn : cmpF .lss .f32 (some b) (some 0) = xn) (hyn : cmpF .lss .f32 (some a) (some 0) = yn) (ht : Bs false 1074 t)
    (h1 : over = true → t = ar .quo .f64 (absF (wid (some b))) (absF (wid (some a)))) (h2 : over = false → t = ar .quo .f64 (absF (wid (some a))) (absF (wid (some b)))) (w : World) :
    Calls Try.prog 18 #[.float .f32 a, .float .f32 b] w (RetFw w .f32 (nar (angW t over xn yn))) := by
  have hz := isF_zeroD
  have hk0 := kA_zero
  have hok := narOk_angW ht over xn yn
  have HF := Lib.hid (areFinite2 hb ha w true (by rw [finF_fin fa, finF_fin fb]; rfl))
  have H1 := Lib.hid h1
  have H2 := Lib.hid h2
  clear h1 h2 ht
  go_enter Try.func18, Try.ntmps18
  go_upto_region 3 with (first | (refine wpList_far rfl rfl (by first | exact .inl rfl | exact .inr (.inl rfl) | exact .inr (.inr (.inl rfl)) | exact .inr (.inr (.inr rfl))) rfl rfl (by first | assumption | exact isF_ofInt _ _ | exact IsF.lit (by decide +kernel)) (by first | assumption | exact isF_ofInt _ _ | exact IsF.lit (by decide +kernel)) ?_; intro r n hr) | (refine wpList_fcmp rfl rfl (by first | exact .inl rfl | exact .inr (.inl rfl) | exact .inr (.inr (.inl rfl)) | exact .inr (.inr (.inr (.inl rfl))) | exact .inr (.inr (.inr (.inr (.inl rfl)))) | exact .inr (.inr (.inr (.inr (.inr rfl))))) rfl rfl (by first | assumption | exact isF_ofInt _ _ | exact IsF.lit (by decide +kernel)) (by first | assumption | exact isF_ofInt _ _ | exact IsF.lit (by decide +kernel)) (by first | assumption | exact rfl) ?_) | (first | (refine wpList_fsame rfl rfl rfl (congrArg Option.isSome Try.underlying28) Try.underlying28 ?_) | (refine wpList_fsame rfl rfl rfl (congrArg Option.isSome Try.underlying27) Try.underlying27 ?_)) | (refine wpList_fwid rfl rfl rfl (congrArg Option.isSome Try.underlying28) Try.underlying27 (by assumption) ?_; intro r n hr) | (refine wpList_fnar rfl rfl rfl (congrArg Option.isSome Try.underlying27) Try.underlying28 (by assumption) (by assumption) ?_; intro r n hr) | (refine wpList_fneg rfl rfl rfl (by assumption) ?_; intro r hr) | (go_at_call 28; refine (HF.out _ (Below.refl _ _)).mono ?_; rintro e w' ⟨n, rfl, rfl⟩))
  go_simp
  go_cut [20] (fun s20 wx => s20 = .bool false ∧ Below w.heap.size w wx)
  case first =>
    rcases h0 with h0 | ⟨h0, h0'⟩
    all_goals
      go_wp2_with (first | (refine wpList_far rfl rfl (by first | exact .inl rfl | exact .inr (.inl rfl) | exact .inr (.inr (.inl rfl)) | exact .inr (.inr (.inr rfl))) rfl rfl (by first | assumption | exact isF_ofInt _ _ | exact IsF.lit (by decide +kernel)) (by first | assumption | exact isF_ofInt _ _ | exact IsF.lit (by decide +kernel)) ?_; intro r n hr) | (refine wpList_fcmp rfl rfl (by first | exact .inl rfl | exact .inr (.inl rfl) | exact .inr (.inr (.inl rfl)) | exact .inr (.inr (.inr (.inl rfl))) | exact .inr (.inr (.inr (.inr (.inl rfl)))) | exact .inr (.inr (.inr (.inr (.inr rfl))))) rfl rfl (by first | assumption | exact isF_ofInt _ _ | exact IsF.lit (by decide +kernel)) (by first | assumption | exact isF_ofInt _ _ | exact IsF.lit (by decide +kernel)) (by first | assumption | exact rfl) ?_) | (first | (refine wpList_fsame rfl rfl rfl (congrArg Option.isSome Try.underlying28) Try.underlying28 ?_) | (refine wpList_fsame rfl rfl rfl (congrArg Option.isSome Try.underlying27) Try.underlying27 ?_)) | (refine wpList_fwid rfl rfl rfl (congrArg Option.isSome Try.underlying28) Try.underlying27 (by assumption) ?_; intro r n hr) | (refine wpList_fnar rfl rfl rfl (congrArg Option.isSome Try.underlying27) Try.underlying28 (by assumption) (by assumption) ?_; intro r n hr) | (refine wpList_fneg rfl rfl rfl (by assumption) ?_; intro r hr))
      go_meet
      exact ⟨rfl, below_drewN ((Below.refl _ _).alloc (Nat.le_refl _) _) _⟩
  case rest =>
    obtain ⟨rfl, hW⟩ := hcut
    clear HF h0
    go_upto_if 38 with (first | (refine wpList_far rfl rfl (by first | exact .inl rfl | exact .inr (.inl rfl) | exact .inr (.inr (.inl rfl)) | exact .inr (.inr (.inr rfl))) rfl rfl (by first | assumption | exact isF_ofInt _ _ | exact IsF.lit (by decide +kernel)) (by first | assumption | exact isF_ofInt _ _ | exact IsF.lit (by decide +kernel)) ?_; intro r n hr) | (refine wpList_fcmp rfl rfl (by first | exact .inl rfl | exact .inr (.inl rfl) | exact .inr (.inr (.inl rfl)) | exact .inr (.inr (.inr (.inl rfl))) | exact .inr (.inr (.inr (.inr (.inl rfl)))) | exact .inr (.inr (.inr (.inr (.inr rfl))))) rfl rfl (by first | assumption | exact isF_ofInt _ _ | exact IsF.lit (by decide +kernel)) (by first | assumption | exact isF_ofInt _ _ | exact IsF.lit (by decide +kernel)) (by first | assumption | exact rfl) ?_) | (first | (refine wpList_fsame rfl rfl rfl (congrArg Option.isSome Try.underlying28) Try.underlying28 ?_) | (refine wpList_fsame rfl rfl rfl (congrArg Option.isSome Try.underlying27) Try.underlying27 ?_)) | (refine wpList_fwid rfl rfl rfl (congrArg Option.isSome Try.underlying28) Try.underlying27 (by assumption) ?_; intro r n hr) | (refine wpList_fnar rfl rfl rfl (congrArg Option.isSome Try.underlying27) Try.underlying28 (by assumption) (by assumption) ?_; intro r n hr) | (refine wpList_fneg rfl rfl rfl (by assumption) ?_; intro r hr) | (go_at_call 26; refine (abs_any _ _ (by assumption) _).mono ?_; rintro e w' ⟨rfl, hab, rfl⟩))
    go_simp
    go_cut [7] (fun s7 wx => ∃ r, s7 = .float .f64 r ∧ IsF .f64 r t ∧ Below w.heap.size w wx)
    case first =>
      cases over
      all_goals
        go_wp2_with (first | (refine wpList_far rfl rfl (by first | exact .inl rfl | exact .inr (.inl rfl) | exact .inr (.inr (.inl rfl)) | exact .inr (.inr (.inr rfl))) rfl rfl (by first | assumption | exact isF_ofInt _ _ | exact IsF.lit (by decide +kernel)) (by first | assumption | exact isF_ofInt _ _ | exact IsF.lit (by decide +kernel)) ?_; intro r n hr) | (refine wpList_fcmp rfl rfl (by first | exact .inl rfl | exact .inr (.inl rfl) | exact .inr (.inr (.inl rfl)) | exact .inr (.inr (.inr (.inl rfl))) | exact .inr (.inr (.inr (.inr (.inl rfl)))) | exact .inr (.inr (.inr (.inr (.inr rfl))))) rfl rfl (by first | assumption | exact isF_ofInt _ _ | exact IsF.lit (by decide +kernel)) (by first | assumption | exact isF_ofInt _ _ | exact IsF.lit (by decide +kernel)) (by first | assumption | exact rfl) ?_) | (first | (refine wpList_fsame rfl rfl rfl (congrArg Option.isSome Try.underlying28) Try.underlying28 ?_) | (refine wpList_fsame rfl rfl rfl (congrArg Option.isSome Try.underlying27) Try.underlying27 ?_)) | (refine wpList_fwid rfl rfl rfl (congrArg Option.isSome Try.underlying28) Try.underlying27 (by assumption) ?_; intro r n hr) | (refine wpList_fnar rfl rfl rfl (congrArg Option.isSome Try.underlying27) Try.underlying28 (by assumption) (by assumption) ?_; intro r n hr) | (refine wpList_fneg rfl rfl rfl (by assumption) ?_; intro r hr))
        go_meet
        first | exact ⟨_, rfl, by rw [H1.out (by first | rfl | trivial)]; assumption, by (repeat' first | assumption | exact Below.refl _ _ | refine B_drew ?_ _ | refine Below.drew ?_ | refine Below.alloc ?_ (by first | exact Nat.le_refl _ | (simp; done) | (simp; omega)) _)⟩ | exact ⟨_, rfl, by rw [H2.out (by first | rfl | trivial)]; assumption, by (repeat' first | assumption | exact Below.refl _ _ | refine B_drew ?_ _ | refine Below.drew ?_ | refine Below.alloc ?_ (by first | exact Nat.le_refl _ | (simp; done) | (simp; omega)) _)⟩
    case rest =>
      obtain ⟨r0, rfl, hr0, hW2⟩ := hcut
      clear H1 H2 hW
      go_wp2_with fail
      go_simp
      go_loopw [7, 42] (fun s i wr => ∃ (j r : Nat), j ≤ 3 ∧ s = .float .f64 r ∧ i = .int .i64 (j : Int) ∧ IsF .f64 r (angIt t j) ∧ Below w.heap.size w wr) (fun _ i _ => (3 - intOf i).toNat)
      case atStart => exact ⟨0, r0, by omega, rfl, rfl, hr0, by assumption⟩
      case round =>
        obtain ⟨j, r, hj, rfl, rfl, hr, hW3⟩ := hrel
        clear hr0 hW2
        by_cases hlt : j < 3
        · go_wp2_with (first | (refine wpList_far rfl rfl (by first | exact .inl rfl | exact .inr (.inl rfl) | exact .inr (.inr (.inl rfl)) | exact .inr (.inr (.inr rfl))) rfl rfl (by first | assumption | exact isF_ofInt _ _ | exact IsF.lit (by decide +kernel)) (by first | assumption | exact isF_ofInt _ _ | exact IsF.lit (by decide +kernel)) ?_; intro r n hr) | (refine wpList_fcmp rfl rfl (by first | exact .inl rfl | exact .inr (.inl rfl) | exact .inr (.inr (.inl rfl)) | exact .inr (.inr (.inr (.inl rfl))) | exact .inr (.inr (.inr (.inr (.inl rfl)))) | exact .inr (.inr (.inr (.inr (.inr rfl))))) rfl rfl (by first | assumption | exact isF_ofInt _ _ | exact IsF.lit (by decide +kernel)) (by first | assumption | exact isF_ofInt _ _ | exact IsF.lit (by decide +kernel)) (by first | assumption | exact rfl) ?_) | (first | (refine wpList_fsame rfl rfl rfl (congrArg Option.isSome Try.underlying28) Try.underlying28 ?_) | (refine wpList_fsame rfl rfl rfl (congrArg Option.isSome Try.underlying27) Try.underlying27 ?_)) | (refine wpList_fwid rfl rfl rfl (congrArg Option.isSome Try.underlying28) Try.underlying27 (by assumption) ?_; intro r n hr) | (refine wpList_fnar rfl rfl rfl (congrArg Option.isSome Try.underlying27) Try.underlying28 (by assumption) (by assumption) ?_; intro r n hr) | (refine wpList_fneg rfl rfl rfl (by assumption) ?_; intro r hr) | (go_at_call 29; refine (mathSqrt_any _ _ (by assumption) _).mono ?_; rintro e w' ⟨r, n, rfl, hr, rfl⟩))
          all_goals
            go_roundw
            case rel => exact ⟨j + 1, _, by omega, rfl, by go_num, by assumption, by (repeat' first | assumption | exact Below.refl _ _ | refine B_drew ?_ _ | refine Below.drew ?_ | refine Below.alloc ?_ (by first | exact Nat.le_refl _ | (simp; done) | (simp; omega)) _)⟩
            case measure => simp [intOf]; omega
        · obtain rfl : j = 3 := by omega
          go_wp2_with (first | (refine wpList_far rfl rfl (by first | exact .inl rfl | exact .inr (.inl rfl) | exact .inr (.inr (.inl rfl)) | exact .inr (.inr (.inr rfl))) rfl rfl (by first | assumption | exact isF_ofInt _ _ | exact IsF.lit (by decide +kernel)) (by first | assumption | exact isF_ofInt _ _ | exact IsF.lit (by decide +kernel)) ?_; intro r n hr) | (refine wpList_fcmp rfl rfl (by first | exact .inl rfl | exact .inr (.inl rfl) | exact .inr (.inr (.inl rfl)) | exact .inr (.inr (.inr (.inl rfl))) | exact .inr (.inr (.inr (.inr (.inl rfl)))) | exact .inr (.inr (.inr (.inr (.inr rfl))))) rfl rfl (by first | assumption | exact isF_ofInt _ _ | exact IsF.lit (by decide +kernel)) (by first | assumption | exact isF_ofInt _ _ | exact IsF.lit (by decide +kernel)) (by first | assumption | exact rfl) ?_) | (first | (refine wpList_fsame rfl rfl rfl (congrArg Option.isSome Try.underlying28) Try.underlying28 ?_) | (refine wpList_fsame rfl rfl rfl (congrArg Option.isSome Try.underlying27) Try.underlying27 ?_)) | (refine wpList_fwid rfl rfl rfl (congrArg Option.isSome Try.underlying28) Try.underlying27 (by assumption) ?_; intro r n hr) | (refine wpList_fnar rfl rfl rfl (congrArg Option.isSome Try.underlying27) Try.underlying28 (by assumption) (by assumption) ?_; intro r n hr) | (refine wpList_fneg rfl rfl rfl (by assumption) ?_; intro r hr))
          go_simp
          generalize hT : angIt t 3 = T at *
          have HT := Lib.hid hT
          clear hT
          go_loopw [9, 10] (fun q k wr => ∃ (j rq rk : Nat), j ≤ 8 ∧ q = .float .f64 rq ∧ k = .float .f64 rk ∧ IsF .f64 rq (angP (ar .mul .f64 T T) j) ∧ IsF .f64 rk (kA j) ∧ Below w.heap.size w wr) (fun _ k _ => posN k)
          case atStart => exact ⟨0, _, _, by omega, rfl, rfl, hz, hk0, by (repeat' first | assumption | exact Below.refl _ _ | refine B_drew ?_ _ | refine Below.drew ?_ | refine Below.alloc ?_ (by first | exact Nat.le_refl _ | (simp; done) | (simp; omega)) _)⟩
          case round =>
            obtain ⟨j, rq, rk, hj, rfl, rfl, hq, hk, hW4⟩ := hrel
            by_cases hlt2 : j < 8
            · have ht : cmpF .geq .f64 (kA j) (some 4607182418800017408) = true := by rw [kA_ge j hj]; simpa using hlt2
              have Hs := Lib.hid (kA_sub j hlt2)
              go_wp2_with (first | (refine wpList_far rfl rfl (by first | exact .inl rfl | exact .inr (.inl rfl) | exact .inr (.inr (.inl rfl)) | exact .inr (.inr (.inr rfl))) rfl rfl (by first | assumption | exact isF_ofInt _ _ | exact IsF.lit (by decide +kernel)) (by first | assumption | exact isF_ofInt _ _ | exact IsF.lit (by decide +kernel)) ?_; intro r n hr) | (refine wpList_fcmp rfl rfl (by first | exact .inl rfl | exact .inr (.inl rfl) | exact .inr (.inr (.inl rfl)) | exact .inr (.inr (.inr (.inl rfl))) | exact .inr (.inr (.inr (.inr (.inl rfl)))) | exact .inr (.inr (.inr (.inr (.inr rfl))))) rfl rfl (by first | assumption | exact isF_ofInt _ _ | exact IsF.lit (by decide +kernel)) (by first | assumption | exact isF_ofInt _ _ | exact IsF.lit (by decide +kernel)) (by first | assumption | exact rfl) ?_) | (first | (refine wpList_fsame rfl rfl rfl (congrArg Option.isSome Try.underlying28) Try.underlying28 ?_) | (refine wpList_fsame rfl rfl rfl (congrArg Option.isSome Try.underlying27) Try.underlying27 ?_)) | (refine wpList_fwid rfl rfl rfl (congrArg Option.isSome Try.underlying28) Try.underlying27 (by assumption) ?_; intro r n hr) | (refine wpList_fnar rfl rfl rfl (congrArg Option.isSome Try.underlying27) Try.underlying28 (by assumption) (by assumption) ?_; intro r n hr) | (refine wpList_fneg rfl rfl rfl (by assumption) ?_; intro r hr))
              all_goals
                go_roundw
                case rel => exact ⟨j + 1, _, _, by omega, rfl, rfl, by assumption, by rw [← Hs.out]; assumption, by (repeat' first | assumption | exact Below.refl _ _ | refine B_drew ?_ _ | refine Below.drew ?_ | refine Below.alloc ?_ (by first | exact Nat.le_refl _ | (simp; done) | (simp; omega)) _)⟩
                case measure =>
                  have e1 := isF_eq (by assumption) Hs.out
                  have e2 := isF_eq hk rfl
                  have e3 := kA_down j hlt2
                  rw [← e1, ← e2] at e3
                  exact e3
            · have ht : cmpF .geq .f64 (kA j) (some 4607182418800017408) = false := by rw [kA_ge j hj]; simpa using hlt2
              obtain rfl : j = 8 := by omega
              go_upto_if 73 with (first | (refine wpList_far rfl rfl (by first | exact .inl rfl | exact .inr (.inl rfl) | exact .inr (.inr (.inl rfl)) | exact .inr (.inr (.inr rfl))) rfl rfl (by first | assumption | exact isF_ofInt _ _ | exact IsF.lit (by decide +kernel)) (by first | assumption | exact isF_ofInt _ _ | exact IsF.lit (by decide +kernel)) ?_; intro r n hr) | (refine wpList_fcmp rfl rfl (by first | exact .inl rfl | exact .inr (.inl rfl) | exact .inr (.inr (.inl rfl)) | exact .inr (.inr (.inr (.inl rfl))) | exact .inr (.inr (.inr (.inr (.inl rfl)))) | exact .inr (.inr (.inr (.inr (.inr rfl))))) rfl rfl (by first | assumption | exact isF_ofInt _ _ | exact IsF.lit (by decide +kernel)) (by first | assumption | exact isF_ofInt _ _ | exact IsF.lit (by decide +kernel)) (by first | assumption | exact rfl) ?_) | (first | (refine wpList_fsame rfl rfl rfl (congrArg Option.isSome Try.underlying28) Try.underlying28 ?_) | (refine wpList_fsame rfl rfl rfl (congrArg Option.isSome Try.underlying27) Try.underlying27 ?_)) | (refine wpList_fwid rfl rfl rfl (congrArg Option.isSome Try.underlying28) Try.underlying27 (by assumption) ?_; intro r n hr) | (refine wpList_fnar rfl rfl rfl (congrArg Option.isSome Try.underlying27) Try.underlying28 (by assumption) (by assumption) ?_; intro r n hr) | (refine wpList_fneg rfl rfl rfl (by assumption) ?_; intro r hr))
              go_simp
              go_cut [11] (fun s11 wx => ∃ r, s11 = .float .f64 r ∧ IsF .f64 r (angW t over false false) ∧ Below w.heap.size w wx)
              case first =>
                cases over
                all_goals
                  go_wp2_with (first | (refine wpList_far rfl rfl (by first | exact .inl rfl | exact .inr (.inl rfl) | exact .inr (.inr (.inl rfl)) | exact .inr (.inr (.inr rfl))) rfl rfl (by first | assumption | exact isF_ofInt _ _ | exact IsF.lit (by decide +kernel)) (by first | assumption | exact isF_ofInt _ _ | exact IsF.lit (by decide +kernel)) ?_; intro r n hr) | (refine wpList_fcmp rfl rfl (by first | exact .inl rfl | exact .inr (.inl rfl) | exact .inr (.inr (.inl rfl)) | exact .inr (.inr (.inr (.inl rfl))) | exact .inr (.inr (.inr (.inr (.inl rfl)))) | exact .inr (.inr (.inr (.inr (.inr rfl))))) rfl rfl (by first | assumption | exact isF_ofInt _ _ | exact IsF.lit (by decide +kernel)) (by first | assumption | exact isF_ofInt _ _ | exact IsF.lit (by decide +kernel)) (by first | assumption | exact rfl) ?_) | (first | (refine wpList_fsame rfl rfl rfl (congrArg Option.isSome Try.underlying28) Try.underlying28 ?_) | (refine wpList_fsame rfl rfl rfl (congrArg Option.isSome Try.underlying27) Try.underlying27 ?_)) | (refine wpList_fwid rfl rfl rfl (congrArg Option.isSome Try.underlying28) Try.underlying27 (by assumption) ?_; intro r n hr) | (refine wpList_fnar rfl rfl rfl (congrArg Option.isSome Try.underlying27) Try.underlying28 (by assumption) (by assumption) ?_; intro r n hr) | (refine wpList_fneg rfl rfl rfl (by assumption) ?_; intro r hr))
                  go_meet
                  exact ⟨_, rfl, by unfold angW angB; rw [HT.out]; assumption, by (repeat' first | assumption | exact Below.refl _ _ | refine B_drew ?_ _ | refine Below.drew ?_ | refine Below.alloc ?_ (by first | exact Nat.le_refl _ | (simp; done) | (simp; omega)) _)⟩
              case rest =>
                obtain ⟨r5, rfl, hr5, hW5⟩ := hcut
                clear hq hk hW4 hW3 hr
                go_upto_if 77 with (first | (refine wpList_far rfl rfl (by first | exact .inl rfl | exact .inr (.inl rfl) | exact .inr (.inr (.inl rfl)) | exact .inr (.inr (.inr rfl))) rfl rfl (by first | assumption | exact isF_ofInt _ _ | exact IsF.lit (by decide +kernel)) (by first | assumption | exact isF_ofInt _ _ | exact IsF.lit (by decide +kernel)) ?_; intro r n hr) | (refine wpList_fcmp rfl rfl (by first | exact .inl rfl | exact .inr (.inl rfl) | exact .inr (.inr (.inl rfl)) | exact .inr (.inr (.inr (.inl rfl))) | exact .inr (.inr (.inr (.inr (.inl rfl)))) | exact .inr (.inr (.inr (.inr (.inr rfl))))) rfl rfl (by first | assumption | exact isF_ofInt _ _ | exact IsF.lit (by decide +kernel)) (by first | assumption | exact isF_ofInt _ _ | exact IsF.lit (by decide +kernel)) (by first | assumption | exact rfl) ?_) | (first | (refine wpList_fsame rfl rfl rfl (congrArg Option.isSome Try.underlying28) Try.underlying28 ?_) | (refine wpList_fsame rfl rfl rfl (congrArg Option.isSome Try.underlying27) Try.underlying27 ?_)) | (refine wpList_fwid rfl rfl rfl (congrArg Option.isSome Try.underlying28) Try.underlying27 (by assumption) ?_; intro r n hr) | (refine wpList_fnar rfl rfl rfl (congrArg Option.isSome Try.underlying27) Try.underlying28 (by assumption) (by assumption) ?_; intro r n hr) | (refine wpList_fneg rfl rfl rfl (by assumption) ?_; intro r hr))
                go_simp
                go_cut [11] (fun s11 wx => ∃ r, s11 = .float .f64 r ∧ IsF .f64 r (angW t over xn false) ∧ Below w.heap.size w wx)
                case first =>
                  have HX := Lib.hid (show angW t over true false = ar .sub .f64 (some 4602678819172646912) (angW t over false false) from rfl)
                  cases xn
                  all_goals
                    go_wp2_with (first | (refine wpList_far rfl rfl (by first | exact .inl rfl | exact .inr (.inl rfl) | exact .inr (.inr (.inl rfl)) | exact .inr (.inr (.inr rfl))) rfl rfl (by first | assumption | exact isF_ofInt _ _ | exact IsF.lit (by decide +kernel)) (by first | assumption | exact isF_ofInt _ _ | exact IsF.lit (by decide +kernel)) ?_; intro r n hr) | (refine wpList_fcmp rfl rfl (by first | exact .inl rfl | exact .inr (.inl rfl) | exact .inr (.inr (.inl rfl)) | exact .inr (.inr (.inr (.inl rfl))) | exact .inr (.inr (.inr (.inr (.inl rfl)))) | exact .inr (.inr (.inr (.inr (.inr rfl))))) rfl rfl (by first | assumption | exact isF_ofInt _ _ | exact IsF.lit (by decide +kernel)) (by first | assumption | exact isF_ofInt _ _ | exact IsF.lit (by decide +kernel)) (by first | assumption | exact rfl) ?_) | (first | (refine wpList_fsame rfl rfl rfl (congrArg Option.isSome Try.underlying28) Try.underlying28 ?_) | (refine wpList_fsame rfl rfl rfl (congrArg Option.isSome Try.underlying27) Try.underlying27 ?_)) | (refine wpList_fwid rfl rfl rfl (congrArg Option.isSome Try.underlying28) Try.underlying27 (by assumption) ?_; intro r n hr) | (refine wpList_fnar rfl rfl rfl (congrArg Option.isSome Try.underlying27) Try.underlying28 (by assumption) (by assumption) ?_; intro r n hr) | (refine wpList_fneg rfl rfl rfl (by assumption) ?_; intro r hr))
                    go_meet
                    first | exact ⟨_, rfl, hr5, by (repeat' first | assumption | exact Below.refl _ _ | refine B_drew ?_ _ | refine Below.drew ?_ | refine Below.alloc ?_ (by first | exact Nat.le_refl _ | (simp; done) | (simp; omega)) _)⟩ | exact ⟨_, rfl, by rw [HX.out]; assumption, by (repeat' first | assumption | exact Below.refl _ _ | refine B_drew ?_ _ | refine Below.drew ?_ | refine Below.alloc ?_ (by first | exact Nat.le_refl _ | (simp; done) | (simp; omega)) _)⟩
                case rest =>
                  obtain ⟨r6, rfl, hr6, hW6⟩ := hcut
                  clear hr5 hW5
                  go_upto_if 81 with (first | (refine wpList_far rfl rfl (by first | exact .inl rfl | exact .inr (.inl rfl) | exact .inr (.inr (.inl rfl)) | exact .inr (.inr (.inr rfl))) rfl rfl (by first | assumption | exact isF_ofInt _ _ | exact IsF.lit (by decide +kernel)) (by first | assumption | exact isF_ofInt _ _ | exact IsF.lit (by decide +kernel)) ?_; intro r n hr) | (refine wpList_fcmp rfl rfl (by first | exact .inl rfl | exact .inr (.inl rfl) | exact .inr (.inr (.inl rfl)) | exact .inr (.inr (.inr (.inl rfl))) | exact .inr (.inr (.inr (.inr (.inl rfl)))) | exact .inr (.inr (.inr (.inr (.inr rfl))))) rfl rfl (by first | assumption | exact isF_ofInt _ _ | exact IsF.lit (by decide +kernel)) (by first | assumption | exact isF_ofInt _ _ | exact IsF.lit (by decide +kernel)) (by first | assumption | exact rfl) ?_) | (first | (refine wpList_fsame rfl rfl rfl (congrArg Option.isSome Try.underlying28) Try.underlying28 ?_) | (refine wpList_fsame rfl rfl rfl (congrArg Option.isSome Try.underlying27) Try.underlying27 ?_)) | (refine wpList_fwid rfl rfl rfl (congrArg Option.isSome Try.underlying28) Try.underlying27 (by assumption) ?_; intro r n hr) | (refine wpList_fnar rfl rfl rfl (congrArg Option.isSome Try.underlying27) Try.underlying28 (by assumption) (by assumption) ?_; intro r n hr) | (refine wpList_fneg rfl rfl rfl (by assumption) ?_; intro r hr))
                  go_simp
                  go_cut [11] (fun s11 wx => ∃ r, s11 = .float .f64 r ∧ IsF .f64 r (angW t over xn yn) ∧ Below w.heap.size w wx)
                  case first =>
                    have HX := Lib.hid (show angW t over xn true = neg .f64 (angW t over xn false) from rfl)
                    cases yn
                    all_goals
                      go_wp2_with (first | (refine wpList_far rfl rfl (by first | exact .inl rfl | exact .inr (.inl rfl) | exact .inr (.inr (.inl rfl)) | exact .inr (.inr (.inr rfl))) rfl rfl (by first | assumption | exact isF_ofInt _ _ | exact IsF.lit (by decide +kernel)) (by first | assumption | exact isF_ofInt _ _ | exact IsF.lit (by decide +kernel)) ?_; intro r n hr) | (refine wpList_fcmp rfl rfl (by first | exact .inl rfl | exact .inr (.inl rfl) | exact .inr (.inr (.inl rfl)) | exact .inr (.inr (.inr (.inl rfl))) | exact .inr (.inr (.inr (.inr (.inl rfl)))) | exact .inr (.inr (.inr (.inr (.inr rfl))))) rfl rfl (by first | assumption | exact isF_ofInt _ _ | exact IsF.lit (by decide +kernel)) (by first | assumption | exact isF_ofInt _ _ | exact IsF.lit (by decide +kernel)) (by first | assumption | exact rfl) ?_) | (first | (refine wpList_fsame rfl rfl rfl (congrArg Option.isSome Try.underlying28) Try.underlying28 ?_) | (refine wpList_fsame rfl rfl rfl (congrArg Option.isSome Try.underlying27) Try.underlying27 ?_)) | (refine wpList_fwid rfl rfl rfl (congrArg Option.isSome Try.underlying28) Try.underlying27 (by assumption) ?_; intro r n hr) | (refine wpList_fnar rfl rfl rfl (congrArg Option.isSome Try.underlying27) Try.underlying28 (by assumption) (by assumption) ?_; intro r n hr) | (refine wpList_fneg rfl rfl rfl (by assumption) ?_; intro r hr))
                      go_meet
                      first | exact ⟨_, rfl, hr6, by (repeat' first | assumption | exact Below.refl _ _ | refine B_drew ?_ _ | refine Below.drew ?_ | refine Below.alloc ?_ (by first | exact Nat.le_refl _ | (simp; done) | (simp; omega)) _)⟩ | exact ⟨_, rfl, by rw [HX.out]; assumption, by (repeat' first | assumption | exact Below.refl _ _ | refine B_drew ?_ _ | refine Below.drew ?_ | refine Below.alloc ?_ (by first | exact Nat.le_refl _ | (simp; done) | (simp; omega)) _)⟩
                  case rest =>
                    obtain ⟨r7, rfl, hr7, hW7⟩ := hcut
                    clear hr6 hW6
                    go_wp2_with (first | (refine wpList_far rfl rfl (by first | exact .inl rfl | exact .inr (.inl rfl) | exact .inr (.inr (.inl rfl)) | exact .inr (.inr (.inr rfl))) rfl rfl (by first | assumption | exact isF_ofInt _ _ | exact IsF.lit (by decide +kernel)) (by first | assumption | exact isF_ofInt _ _ | exact IsF.lit (by decide +kernel)) ?_; intro r n hr) | (refine wpList_fcmp rfl rfl (by first | exact .inl rfl | exact .inr (.inl rfl) | exact .inr (.inr (.inl rfl)) | exact .inr (.inr (.inr (.inl rfl))) | exact .inr (.inr (.inr (.inr (.inl rfl)))) | exact .inr (.inr (.inr (.inr (.inr rfl))))) rfl rfl (by first | assumption | exact isF_ofInt _ _ | exact IsF.lit (by decide +kernel)) (by first | assumption | exact isF_ofInt _ _ | exact IsF.lit (by decide +kernel)) (by first | assumption | exact rfl) ?_) | (first | (refine wpList_fsame rfl rfl rfl (congrArg Option.isSome Try.underlying28) Try.underlying28 ?_) | (refine wpList_fsame rfl rfl rfl (congrArg Option.isSome Try.underlying27) Try.underlying27 ?_)) | (refine wpList_fwid rfl rfl rfl (congrArg Option.isSome Try.underlying28) Try.underlying27 (by assumption) ?_; intro r n hr) | (refine wpList_fnar rfl rfl rfl (congrArg Option.isSome Try.underlying27) Try.underlying28 (by assumption) (by assumption) ?_; intro r n hr) | (refine wpList_fneg rfl rfl rfl (by assumption) ?_; intro r hr))
                    go_ret
                    exact ⟨_, rfl, by assumption, by (repeat' first | assumption | exact Below.refl _ _ | refine B_drew ?_ _ | refine Below.drew ?_ | refine Below.alloc ?_ (by first | exact Nat.le_refl _ | (simp; done) | (simp; omega)) _)⟩
end Go.Proofs.Ytaannebjpmdhjaa
