/-
  Contracts: TenthsOf at both sides.
-/
import Derived.Test.YtbmgjgcimeidiaaTrig
import Derived.Test.YtbmgjgcimeidiaaWave
namespace Go.Proofs.Ytbmgjgcimeidiaa
set_option linter.unusedVariables false
set_option linter.unusedSimpArgs false
open Go.RowKit Fl
attribute [local go_sem] run_store_float

def floorD (b : Nat) : Nat := D.write ((D.read b).integral .down)
theorem floor_fin {b : Nat} (hf : Fl.Fin D b) (h : U D (rg D b) ≤ 2 ^ (1074 + 51)) : ∃ M, M < 2 ^ 53 ∧ M ≤ 2 ^ 51 + 1 ∧ floorD b = D.nearest (sg D b) M 0 := by
  obtain ⟨M0, _, _, h3, _⟩ := tz_fin hf
  obtain ⟨m, k, hr, hm⟩ := read_fin hf
  have hM0 : M0 ≤ 2 ^ 51 := by
    obtain ⟨c, hc⟩ : ∃ c : Nat, c = 1074 := ⟨_, rfl⟩
    rw [← hc] at h h3
    have h5 := Nat.le_trans h3 h
    rw [Nat.add_comm, Nat.pow_add] at h5
    exact Nat.le_of_mul_le_mul_right h5 (Nat.two_pow_pos c)
  obtain ⟨n, hn⟩ : ∃ n, n = m <<< (D.leastPlace + (k : Int)).toNat := ⟨_, rfl⟩
  obtain ⟨d, hd⟩ : ∃ d, d = (-(D.leastPlace + (k : Int))).toNat := ⟨_, rfl⟩
  have hz := (tz_fin hf).choose_spec.2.2.2.2
  have e1 : floorD b = D.nearest (sg D b) (Ieee.Toward.down.cut (sg D b) n d) 0 := by
    unfold floorD
    rw [hr]
    simp only [Ieee.Datum.integral]
    rw [← hn, ← hd]
    rfl
  have e2 : Ieee.Toward.down.cut (sg D b) n d ≤ Ieee.Toward.zero.cut (sg D b) n d + 1 := by
    have a1 : Ieee.Toward.zero.cut (sg D b) n d = n / (1 <<< min d (n.log2 + 2)) := rfl
    rw [a1]
    unfold Ieee.Toward.cut
    dsimp only
    have : ∀ c : Bool, c.toNat ≤ 1 := by decide
    have := this (sg D b && n % (1 <<< min d (n.log2 + 2)) != 0)
    omega
  obtain ⟨Z, hZ⟩ : ∃ Z, Z = Ieee.Toward.zero.cut (sg D b) n d := ⟨_, rfl⟩
  rw [← hZ] at e2
  have e3 : Z ≤ 2 ^ 51 := by
    obtain ⟨c, hc⟩ : ∃ c : Nat, c = 1074 := ⟨_, rfl⟩
    have h1 := (cut_zero_le (sg D b) n d).1
    have hl : D.leastPlace = -(c : Int) := by rw [D_least, hc]; rfl
    rw [← hZ, hn, Nat.shiftLeft_eq, hd, hl] at h1
    have e4 : Z * 2 ^ ((-(-(c : Int) + (k : Int))).toNat + min k c) ≤ m * 2 ^ ((-(c : Int) + (k : Int)).toNat + min k c) := pow_cancel.2 h1
    rw [show (-(-(c : Int) + (k : Int))).toNat + min k c = c by omega, show (-(c : Int) + (k : Int)).toNat + min k c = k by omega, hm] at e4
    have h5 := Nat.le_trans e4 h
    rw [← hc, Nat.add_comm, Nat.pow_add] at h5
    exact Nat.le_of_mul_le_mul_right h5 (Nat.two_pow_pos c)
  have e5 : (2 : Nat) ^ 51 + 1 < 2 ^ 53 := by decide
  exact ⟨_, by omega, by omega, e1⟩
theorem floor_int {b : Nat} (hf : Fl.Fin D b) (h : U D (rg D b) ≤ 2 ^ (1074 + 51)) : (D.read (floorD b)).toInt .zero = some (tz (floorD b)) ∧ -9223372036854775808 ≤ tz (floorD b) ∧ tz (floorD b) ≤ 9223372036854775807 := by
  obtain ⟨M, h1, h2, h3⟩ := floor_fin hf h
  obtain ⟨n1, n2, n3⟩ := near_int (sg D b) h1
  rw [← h3] at n1 n2 n3
  obtain ⟨M2, t1, t2, t3, _, _⟩ := tz_fin n1
  refine ⟨t1, ?_⟩
  have hM : M2 ≤ M := by
    rw [n3] at t3
    obtain ⟨c, hc⟩ : ∃ c : Nat, c = 1074 := ⟨_, rfl⟩
    rw [← hc] at t3
    exact Nat.le_of_mul_le_mul_right t3 (Nat.two_pow_pos c)
  have e5 : (2 : Nat) ^ 51 = 2251799813685248 := by decide
  rw [t2]
  split <;> omega
theorem isF_floor {b : Nat} (h : Fl.Fin D b) : IsF .f64 (floorD b) (some (floorD b)) := by
  obtain ⟨m, k, hr, _⟩ := read_fin h
  unfold floorD
  rw [hr]
  exact isF_write .f64 _ rfl
theorem ext_floor {b : Nat} (h : Fl.Fin D b) (w : World) : (callFunc 50 #[.float .f64 b]).run Try.prog w = .ok (.value (.float .f64 (floorD b))) w := by
  obtain ⟨m, k, hr, _⟩ := read_fin h
  have hr' : FloatKind.decode .f64 b = .number (sg D b) m (D.leastPlace + k) := hr
  rw [run_callFunc_extern (fn := Try.f50) (e := Extern.MathFloor.toIntegral "math.archFloor" .down) Try.func50 (by kernel_rfl) (by kernel_rfl) (by kernel_rfl) (by kernel_rfl)]
  have e : (Extern.MathFloor.toIntegral "math.archFloor" .down #[.float .f64 b]).run Try.prog w = .ok (.float .f64 (floorD b)) w := by
    show Sem.run Try.prog (match FloatKind.decode .f64 b with
      | .nan s t => _
      | d => (pure (Value.float .f64 (FloatKind.encode .f64 (d.integral .down))) : Sem Value)) w = _
    rw [hr']
    unfold floorD
    rw [hr]
    rfl
  rw [e]
  rfl
theorem floor_any (b : Nat) (h : Fl.Fin D b) (w : World) : Calls Try.prog 37 #[.float .f64 b] w fun e w' => e = .returned (.float .f64 (floorD b)) ∧ w' = w := by
  have hy := ext_floor h
  go_enter Try.func37, Try.ntmps37
  go_wp2_with fail
  go_ret
  exact ⟨rfl, rfl⟩

/-- The tenths of decibels ahead of the rounding down. -/
def tenX (b : Nat) : Option Nat := ar .add .f64 (ar .mul .f64 (logV (wb b)) (some 4631308968768463603)) (some 4602678819172646912)
def tenV (v : Option Nat) : Int := match v with | none => 0 | some b => if posF (some b) then tz (floorD ((tenX b).getD 0)) else 0
theorem tenX_fin {b : Nat} (h1 : 3936146074321813504 ≤ wb b) (h2 : wb b < 5188146770730811392) : ∃ c, tenX b = some c ∧ Fl.Fin D c ∧ U D (rg D c) ≤ 2 ^ (1074 + 51) := by
  have hl := bd_logV h1 h2
  have hm : Bd 1124 (ar .mul .f64 (logV (wb b)) (some 4631308968768463603)) := bd_mul hl (bs_lit (b := 4631308968768463603) (e := 1080) (by decide +kernel)).bd (by decide) (by decide)
  obtain ⟨e, he⟩ : ∃ e : Nat, e = 1074 + 51 := ⟨_, rfl⟩
  have ha : Bd e (tenX b) := bd_add hm (bs_lit (b := 4602678819172646912) (e := 1074) (by decide +kernel)).bd (by omega) (by omega) (by omega)
  obtain ⟨s, c, hc, hf, _, hU⟩ := ha
  exact ⟨c, hc, hf, by rw [← he]; exact hU⟩
theorem posF_cases {b : Nat} {v : Option Nat} (h : IsF .f32 b v) : (posF v = true ∧ v = some b ∧ Fl.Fin S b ∧ sg S b = false ∧ 0 < rg S b) ∨ posF v = false := by
  cases hp : posF v
  · exact .inr rfl
  · left
    unfold posF at hp
    rw [Bool.and_eq_true] at hp
    obtain ⟨h1, h2⟩ := hp
    rcases fin_cases h with rfl | ⟨rfl, hf⟩ | ⟨rfl, hi⟩
    · cases h1
    · refine ⟨rfl, rfl, hf, ?_⟩
      unfold cmpF at h2
      simp only [cmp_zero hf] at h2
      have hI : 0 < I S b := by
        change (some (compare (I S b) 0) == some .gt) = true at h2
        rcases Int.lt_trichotomy (I S b) 0 with h | h | h
        · rw [Int.compare_eq_lt.2 h] at h2; cases h2
        · rw [h] at h2; cases h2
        · exact h
      have h0 : 0 < rg S b := by
        rcases Nat.eq_zero_or_pos (rg S b) with h | h
        · rw [I_eq_zero.2 h] at hI; omega
        · exact h
      refine ⟨?_, h0⟩
      cases hs : sg S b
      · rfl
      · have := (I_neg_iff h0).2 hs; omega
    · rw [finF_inf hi] at h1; cases h1
/-- The call returns a whole number and a bool, and leaves what was there. -/
def RetIB (w : World) (n : Int) (b : Bool) (e : Ending) (w' : World) : Prop := e = .returned (.tuple #[.int .i64 n, .bool b]) ∧ Below w.heap.size w w'
theorem arePos1 {a : Nat} {u : Option Nat} (ha : IsF .f32 a u) (w : World) (q : Bool) (hq : posF u = q) : ∀ w', Below (w.alloc (.cells #[.float .f32 a] 22)).heap.size (w.alloc (.cells #[.float .f32 a] 22)) w' → Calls Try.prog 36 #[.slice (some ⟨w.heap.size, 0, none⟩) 1 1] w' (Ret w' (.bool q)) := by
  have hsl := FSl_lit w [a] 22 (by simp; exact ha.2) (by simp)
  intro w' hw'
  have := arePositive_any _ _ w' (hsl.below hw')
  rw [show (!anyF nposF [a]) = posF u by rw [anyF_cons, anyF_nil, ha.eq, nposF_eq u a ha]; cases posF u <;> rfl, hq] at this
  exact this
set_option maxHeartbeats 1000000 in
theorem iTenthsOf_any (b : Nat) (v : Option Nat) (h : IsF .f32 b v) (w : World) : Calls Try.prog 19 #[.float .f32 b] w (RetIB w (tenV v) (posF v)) := by
  rcases posF_cases h with ⟨hp, rfl, hf, hs, h0⟩ | hp
  · obtain ⟨k1, k2⟩ := wb_pos hf hs h0
    obtain ⟨c, hc, fc, uc⟩ := tenX_fin k1 k2
    obtain ⟨t1, t2, t3⟩ := floor_int fc uc
    have HP := Lib.hid (arePos1 h w true hp)
    have Hv := Lib.hid (show tenV (some b) = tz (floorD c) by unfold tenV; simp only [hp, if_true, hc, Option.getD_some])
    have HT := Lib.hid t1
    have Hc := Lib.hid (show ar .add .f64 (ar .mul .f64 (logV (wb b)) (some 4631308968768463603)) (some 4602678819172646912) = some c from hc)
    rw [Hv.out, hp]
    clear hp hc t1 uc hs h0 hf
    go_enter Try.func19, Try.ntmps19
    go_wp2_with (first | (refine wpList_far rfl rfl (by first | exact .inl rfl | exact .inr (.inl rfl) | exact .inr (.inr (.inl rfl)) | exact .inr (.inr (.inr rfl))) rfl rfl (by first | assumption | exact isF_ofInt _ _ | exact IsF.lit (by decide +kernel)) (by first | assumption | exact isF_ofInt _ _ | exact IsF.lit (by decide +kernel)) ?_; intro r n hr) | (refine wpList_fcmp rfl rfl (by first | exact .inl rfl | exact .inr (.inl rfl) | exact .inr (.inr (.inl rfl)) | exact .inr (.inr (.inr (.inl rfl))) | exact .inr (.inr (.inr (.inr (.inl rfl)))) | exact .inr (.inr (.inr (.inr (.inr rfl))))) rfl rfl (by first | assumption | exact isF_ofInt _ _ | exact IsF.lit (by decide +kernel)) (by first | assumption | exact isF_ofInt _ _ | exact IsF.lit (by decide +kernel)) (by first | assumption | exact rfl) ?_) | (first | (refine wpList_fsame rfl rfl rfl (congrArg Option.isSome Try.underlying22) Try.underlying22 ?_) | (refine wpList_fsame rfl rfl rfl (congrArg Option.isSome Try.underlying25) Try.underlying25 ?_)) | (refine wpList_fwid rfl rfl rfl (congrArg Option.isSome Try.underlying22) Try.underlying25 (by assumption) ?_; intro r n hr) | (refine wpList_fnar rfl rfl rfl (congrArg Option.isSome Try.underlying25) Try.underlying22 (by assumption) (by assumption) ?_; intro r n hr) | (refine wpList_fneg rfl rfl rfl (by assumption) ?_; intro r hr) | (go_at_call 36; refine (HP.out _ (Below.refl _ _)).mono ?_; rintro e w' ⟨n, rfl, rfl⟩) | (go_at_call 24; obtain rfl := isF_wb (by assumption); refine (logarithm_any _ k1 k2 _).mono ?_; rintro e w' ⟨r, n, rfl, hr, rfl⟩) | (go_at_call 37; obtain rfl := isF_eq (by assumption) Hc.out; refine (floor_any _ fc _).mono ?_; rintro e w' ⟨rfl, rfl⟩) | (refine wpList_toInt rfl rfl rfl (congrArg Option.isSome Try.underlying25) Try.underlying2 HT.out t2 t3 ?_))
    go_ret2
    exact ⟨rfl, by (repeat' first | assumption | exact Below.refl _ _ | refine B_drew ?_ _ | refine Below.drew ?_ | refine Below.alloc ?_ (by first | exact Nat.le_refl _ | (simp; done) | (simp; omega)) _)⟩
  · have HP := Lib.hid (arePos1 h w false hp)
    have Hv := Lib.hid (show tenV v = 0 by unfold tenV; cases v with
      | none => rfl
      | some x => simp only [hp]; rfl)
    rw [Hv.out, hp]
    clear hp
    go_enter Try.func19, Try.ntmps19
    go_wp2_with (first | (go_at_call 36; refine (HP.out _ (Below.refl _ _)).mono ?_; rintro e w' ⟨n, rfl, rfl⟩))
    go_ret2
    exact ⟨rfl, by (repeat' first | assumption | exact Below.refl _ _ | refine B_drew ?_ _ | refine Below.drew ?_ | refine Below.alloc ?_ (by first | exact Nat.le_refl _ | (simp; done) | (simp; omega)) _)⟩
set_option maxHeartbeats 1000000 in
theorem l01Tenths_any (b : Nat) (h : IsF .f32 b (some b)) (hf : Fl.Fin S b) (hs : sg S b = false) (h0 : 0 < rg S b) (hp : posF (some b) = true) (w : World) : Calls Try.prog 35 #[.float .f32 b] w (Ret w (.int .i64 (tenV (some b)))) := by
  obtain ⟨k1, k2⟩ := wb_pos hf hs h0
  obtain ⟨c, hc, fc, uc⟩ := tenX_fin k1 k2
  obtain ⟨t1, t2, t3⟩ := floor_int fc uc
  have Hv := Lib.hid (show tenV (some b) = tz (floorD c) by unfold tenV; simp only [hp, if_true, hc, Option.getD_some])
  have HT := Lib.hid t1
  have Hc := Lib.hid (show ar .add .f64 (ar .mul .f64 (logV (wb b)) (some 4631308968768463603)) (some 4602678819172646912) = some c from hc)
  rw [Hv.out]
  clear hp hc t1 uc hs h0 hf
  go_enter Try.func35, Try.ntmps35
  go_wp2_with (first | (refine wpList_far rfl rfl (by first | exact .inl rfl | exact .inr (.inl rfl) | exact .inr (.inr (.inl rfl)) | exact .inr (.inr (.inr rfl))) rfl rfl (by first | assumption | exact isF_ofInt _ _ | exact IsF.lit (by decide +kernel)) (by first | assumption | exact isF_ofInt _ _ | exact IsF.lit (by decide +kernel)) ?_; intro r n hr) | (refine wpList_fcmp rfl rfl (by first | exact .inl rfl | exact .inr (.inl rfl) | exact .inr (.inr (.inl rfl)) | exact .inr (.inr (.inr (.inl rfl))) | exact .inr (.inr (.inr (.inr (.inl rfl)))) | exact .inr (.inr (.inr (.inr (.inr rfl))))) rfl rfl (by first | assumption | exact isF_ofInt _ _ | exact IsF.lit (by decide +kernel)) (by first | assumption | exact isF_ofInt _ _ | exact IsF.lit (by decide +kernel)) (by first | assumption | exact rfl) ?_) | (first | (refine wpList_fsame rfl rfl rfl (congrArg Option.isSome Try.underlying22) Try.underlying22 ?_) | (refine wpList_fsame rfl rfl rfl (congrArg Option.isSome Try.underlying25) Try.underlying25 ?_)) | (refine wpList_fwid rfl rfl rfl (congrArg Option.isSome Try.underlying22) Try.underlying25 (by assumption) ?_; intro r n hr) | (refine wpList_fnar rfl rfl rfl (congrArg Option.isSome Try.underlying25) Try.underlying22 (by assumption) (by assumption) ?_; intro r n hr) | (refine wpList_fneg rfl rfl rfl (by assumption) ?_; intro r hr) | (go_at_call 39; obtain rfl := isF_wb (by assumption); refine (l01LogWide_any _ k1 k2 _).mono ?_; rintro e w' ⟨r, n, rfl, hr, rfl⟩) | (go_at_call 37; obtain rfl := isF_eq (by assumption) Hc.out; refine (floor_any _ fc _).mono ?_; rintro e w' ⟨rfl, rfl⟩) | (refine wpList_toInt rfl rfl rfl (congrArg Option.isSome Try.underlying25) Try.underlying2 HT.out t2 t3 ?_))
  go_ret
  exact ret_mk rfl
theorem sTenthsOf_any (b : Nat) (v : Option Nat) (h : IsF .f32 b v) (w : World) : Calls Try.prog 18 #[.float .f32 b] w (Ret w (.tuple #[.int .i64 (tenV v), .bool (posF v)])) := by
  have hn := nposF_eq v b h
  unfold nposF at hn
  rcases posF_cases h with ⟨hp, rfl, hf, hs, h0⟩ | hp
  · have c1 := finF_fin hf
    have c2 : cmpF .leq .f32 (some b) (some 0) = false := by rw [hp, c1] at hn; simpa using hn
    have HC := Lib.hid (fun w' => l01Tenths_any b h hf hs h0 hp w')
    rw [hp]
    clear hn hp
    go_enter Try.func18, Try.ntmps18
    go_wp2_with (first | (refine wpList_far rfl rfl (by first | exact .inl rfl | exact .inr (.inl rfl) | exact .inr (.inr (.inl rfl)) | exact .inr (.inr (.inr rfl))) rfl rfl (by first | assumption | exact isF_ofInt _ _ | exact IsF.lit (by decide +kernel)) (by first | assumption | exact isF_ofInt _ _ | exact IsF.lit (by decide +kernel)) ?_; intro r n hr) | (refine wpList_fcmp rfl rfl (by first | exact .inl rfl | exact .inr (.inl rfl) | exact .inr (.inr (.inl rfl)) | exact .inr (.inr (.inr (.inl rfl))) | exact .inr (.inr (.inr (.inr (.inl rfl)))) | exact .inr (.inr (.inr (.inr (.inr rfl))))) rfl rfl (by first | assumption | exact isF_ofInt _ _ | exact IsF.lit (by decide +kernel)) (by first | assumption | exact isF_ofInt _ _ | exact IsF.lit (by decide +kernel)) (by first | assumption | exact rfl) ?_) | (first | (refine wpList_fsame rfl rfl rfl (congrArg Option.isSome Try.underlying22) Try.underlying22 ?_) | (refine wpList_fsame rfl rfl rfl (congrArg Option.isSome Try.underlying25) Try.underlying25 ?_)) | (refine wpList_fwid rfl rfl rfl (congrArg Option.isSome Try.underlying22) Try.underlying25 (by assumption) ?_; intro r n hr) | (refine wpList_fnar rfl rfl rfl (congrArg Option.isSome Try.underlying25) Try.underlying22 (by assumption) (by assumption) ?_; intro r n hr) | (refine wpList_fneg rfl rfl rfl (by assumption) ?_; intro r hr) | (go_at_call 34; refine (l01Finite_any _ _ h _).mono ?_; rintro e w' ⟨n, rfl, rfl⟩; rw [c1]) | (go_at_call 35; refine (HC.out _).mono ?_; rintro e w' ⟨n, rfl, rfl⟩))
    go_ret2
    exact ret_mk rfl
  · have Hv := Lib.hid (show tenV v = 0 by unfold tenV; cases v with
      | none => rfl
      | some x => simp only [hp]; rfl)
    rw [Hv.out, hp]
    cases c1 : finF v
    · clear hn hp
      go_enter Try.func18, Try.ntmps18
      go_wp2_with (first | (refine wpList_far rfl rfl (by first | exact .inl rfl | exact .inr (.inl rfl) | exact .inr (.inr (.inl rfl)) | exact .inr (.inr (.inr rfl))) rfl rfl (by first | assumption | exact isF_ofInt _ _ | exact IsF.lit (by decide +kernel)) (by first | assumption | exact isF_ofInt _ _ | exact IsF.lit (by decide +kernel)) ?_; intro r n hr) | (refine wpList_fcmp rfl rfl (by first | exact .inl rfl | exact .inr (.inl rfl) | exact .inr (.inr (.inl rfl)) | exact .inr (.inr (.inr (.inl rfl))) | exact .inr (.inr (.inr (.inr (.inl rfl)))) | exact .inr (.inr (.inr (.inr (.inr rfl))))) rfl rfl (by first | assumption | exact isF_ofInt _ _ | exact IsF.lit (by decide +kernel)) (by first | assumption | exact isF_ofInt _ _ | exact IsF.lit (by decide +kernel)) (by first | assumption | exact rfl) ?_) | (first | (refine wpList_fsame rfl rfl rfl (congrArg Option.isSome Try.underlying22) Try.underlying22 ?_) | (refine wpList_fsame rfl rfl rfl (congrArg Option.isSome Try.underlying25) Try.underlying25 ?_)) | (refine wpList_fwid rfl rfl rfl (congrArg Option.isSome Try.underlying22) Try.underlying25 (by assumption) ?_; intro r n hr) | (refine wpList_fnar rfl rfl rfl (congrArg Option.isSome Try.underlying25) Try.underlying22 (by assumption) (by assumption) ?_; intro r n hr) | (refine wpList_fneg rfl rfl rfl (by assumption) ?_; intro r hr) | (go_at_call 34; refine (l01Finite_any _ _ h _).mono ?_; rintro e w' ⟨n, rfl, rfl⟩; rw [c1]))
      go_ret2
      exact ret_mk rfl
    · have c2 : cmpF .leq .f32 v (some 0) = true := by rw [hp, c1] at hn; simpa using hn
      clear hn hp
      go_enter Try.func18, Try.ntmps18
      go_wp2_with (first | (refine wpList_far rfl rfl (by first | exact .inl rfl | exact .inr (.inl rfl) | exact .inr (.inr (.inl rfl)) | exact .inr (.inr (.inr rfl))) rfl rfl (by first | assumption | exact isF_ofInt _ _ | exact IsF.lit (by decide +kernel)) (by first | assumption | exact isF_ofInt _ _ | exact IsF.lit (by decide +kernel)) ?_; intro r n hr) | (refine wpList_fcmp rfl rfl (by first | exact .inl rfl | exact .inr (.inl rfl) | exact .inr (.inr (.inl rfl)) | exact .inr (.inr (.inr (.inl rfl))) | exact .inr (.inr (.inr (.inr (.inl rfl)))) | exact .inr (.inr (.inr (.inr (.inr rfl))))) rfl rfl (by first | assumption | exact isF_ofInt _ _ | exact IsF.lit (by decide +kernel)) (by first | assumption | exact isF_ofInt _ _ | exact IsF.lit (by decide +kernel)) (by first | assumption | exact rfl) ?_) | (first | (refine wpList_fsame rfl rfl rfl (congrArg Option.isSome Try.underlying22) Try.underlying22 ?_) | (refine wpList_fsame rfl rfl rfl (congrArg Option.isSome Try.underlying25) Try.underlying25 ?_)) | (refine wpList_fwid rfl rfl rfl (congrArg Option.isSome Try.underlying22) Try.underlying25 (by assumption) ?_; intro r n hr) | (refine wpList_fnar rfl rfl rfl (congrArg Option.isSome Try.underlying25) Try.underlying22 (by assumption) (by assumption) ?_; intro r n hr) | (refine wpList_fneg rfl rfl rfl (by assumption) ?_; intro r hr) | (go_at_call 34; refine (l01Finite_any _ _ h _).mono ?_; rintro e w' ⟨n, rfl, rfl⟩; rw [c1]))
      go_ret2
      exact ret_mk rfl
end Go.Proofs.Ytbmgjgcimeidiaa
