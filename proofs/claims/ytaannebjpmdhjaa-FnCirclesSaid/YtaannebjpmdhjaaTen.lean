/-
  Contracts: TenthsOf at both sides.
-/
import Derived.Test.YtaannebjpmdhjaaTrig
import Derived.Test.YtaannebjpmdhjaaWave
namespace Go.Proofs.Ytaannebjpmdhjaa
set_option linter.unusedVariables false
set_option linter.unusedSimpArgs false
set_option maxRecDepth 20000
open Go.RowKit Fl
attribute [local go_sem] run_store_float

def floorD (b : Nat) : Nat := D.write ((D.read b).integral .down)
theorem floor_fin {b : Nat} (hf : Fl.Fin D b) (h : U D (rg D b) ≤ 2 ^ (1074 + 51)) : ∃ M, M < 2 ^ 53 ∧ M ≤ 2 ^ 51 + 1 ∧ floorD b = D.nearest (sg D b) M 0 := by
  obtain ⟨M0, _, _, h3, _⟩ := tz_fin hf
  obtain ⟨m, k, hr, hm⟩ := read_fin hf
  have hM0 : M0 ≤ 2 ^ 51 := by
    obtain ⟨c, hc⟩ : ∃ c : Nat, c = 1074 := ⟨_, rfl⟩
    rw [← hc] at h h3
    have h5 := Nat.le_trans h3 h
    rw [Nat.add_comm, Nat.pow_add] at h5
    exact Nat.le_of_mul_le_mul_right h5 (Nat.two_pow_pos c)
  obtain ⟨n, hn⟩ : ∃ n, n = m <<< (D.leastPlace + (k : Int)).toNat := ⟨_, rfl⟩
  obtain ⟨d, hd⟩ : ∃ d, d = (-(D.leastPlace + (k : Int))).toNat := ⟨_, rfl⟩
  have hz := (tz_fin hf).choose_spec.2.2.2.2
  have e1 : floorD b = D.nearest (sg D b) (Ieee.Toward.down.cut (sg D b) n d) 0 := by
    unfold floorD
    rw [hr]
    simp only [Ieee.Datum.integral]
    rw [← hn, ← hd]
    rfl
  have e2 : Ieee.Toward.down.cut (sg D b) n d ≤ Ieee.Toward.zero.cut (sg D b) n d + 1 := by
    have a1 : Ieee.Toward.zero.cut (sg D b) n d = n / (1 <<< min d (n.log2 + 2)) := rfl
    rw [a1]
    unfold Ieee.Toward.cut
    dsimp only
    have : ∀ c : Bool, c.toNat ≤ 1 := by decide
    have := this (sg D b && n % (1 <<< min d (n.log2 + 2)) != 0)
    omega
  obtain ⟨Z, hZ⟩ : ∃ Z, Z = Ieee.Toward.zero.cut (sg D b) n d := ⟨_, rfl⟩
  rw [← hZ] at e2
  have e3 : Z ≤ 2 ^ 51 := by
    obtain ⟨c, hc⟩ : ∃ c : Nat, c = 1074 := ⟨_, rfl⟩
    have h1 := (cut_zero_le (sg D b) n d).1
    have hl : D.leastPlace = -(c : Int) := by rw [D_least, hc]; rfl
    rw [← hZ, hn, Nat.shiftLeft_eq, hd, hl] at h1
    have e4 : Z * 2 ^ ((-(-(c : Int) + (k : Int))).toNat + min k c) ≤ m * 2 ^ ((-(c : Int) + (k : Int)).toNat + min k c) := pow_cancel.2 h1
    rw [show (-(-(c : Int) + (k : Int))).toNat + min k c = c by omega, show (-(c : Int) + (k : Int)).toNat + min k c = k by omega, hm] at e4
    have h5 := Nat.le_trans e4 h
    rw [← hc, Nat.add_comm, Nat.pow_add] at h5
    exact Nat.le_of_mul_le_mul_right h5 (Nat.two_pow_pos c)
  have e5 : (2 : Nat) ^ 51 + 1 < 2 ^ 53 := by decide
  exact ⟨_, by omega, by omega, e1⟩
theorem floor_int {b : Nat} (hf : Fl.Fin D b) (h : U D (rg D b) ≤ 2 ^ (1074 + 51)) : (D.read (floorD b)).toInt .zero = some (tz (floorD b)) ∧ -9223372036854775808 ≤ tz (floorD b) ∧ tz (floorD b) ≤ 9223372036854775807 := by
  obtain ⟨M, h1, h2, h3⟩ := floor_fin hf h
  obtain ⟨n1, n2, n3⟩ := near_int (sg D b) h1
  rw [← h3] at n1 n2 n3
  obtain ⟨M2, t1, t2, t3, _, _⟩ := tz_fin n1
  refine ⟨t1, ?_⟩
  have hM : M2 ≤ M := by
    rw [n3] at t3
    obtain ⟨c, hc⟩ : ∃ c : Nat, c = 1074 := ⟨_, rfl⟩
    rw [← hc] at t3
    exact Nat.le_of_mul_le_mul_right t3 (Nat.two_pow_pos c)
  have e5 : (2 : Nat) ^ 51 = 2251799813685248 := by decide
  rw [t2]
  split <;> omega
theorem isF_floor {b : Nat} (h : Fl.Fin D b) : IsF .f64 (floorD b) (some (floorD b)) := by
  obtain ⟨m, k, hr, _⟩ := read_fin h
  unfold floorD
  rw [hr]
  exact isF_write .f64 _ rfl
theorem ext_floor {b : Nat} (h : Fl.Fin D b) (w : World) : (callFunc 33 #[.float .f64 b]).run Try.prog w = .ok (.value (.float .f64 (floorD b))) w := by
  obtain ⟨m, k, hr, _⟩ := read_fin h
  have hr' : FloatKind.decode .f64 b = .number (sg D b) m (D.leastPlace + k) := hr
  rw [run_callFunc_extern (fn := Try.f33) (e := Extern.MathFloor.toIntegral "math.archFloor" .down) Try.func33 (by kernel_rfl) (by kernel_rfl) (by kernel_rfl) (by kernel_rfl)]
  have e : (Extern.MathFloor.toIntegral "math.archFloor" .down #[.float .f64 b]).run Try.prog w = .ok (.float .f64 (floorD b)) w := by
    show Sem.run Try.prog (match FloatKind.decode .f64 b with
      | .nan s t => _
      | d => (pure (Value.float .f64 (FloatKind.encode .f64 (d.integral .down))) : Sem Value)) w = _
    rw [hr']
    unfold floorD
    rw [hr]
    rfl
  rw [e]
  rfl
theorem floor_any (b : Nat) (h : Fl.Fin D b) (w : World) : Calls Try.prog 22 #[.float .f64 b] w fun e w' => e = .returned (.float .f64 (floorD b)) ∧ w' = w := by
  have hy := ext_floor h
  go_enter Try.func22, Try.ntmps22
  go_wp2_with fail
  go_ret
  exact ⟨rfl, rfl⟩

/-- The tenths of decibels ahead of the rounding down. -/
def tenX (b : Nat) : Option Nat := ar .add .f64 (ar .mul .f64 (logV (wb b)) (some 4631308968768463603)) (some 4602678819172646912)
def tenV (v : Option Nat) : Int := match v with | none => 0 | some b => if posF (some b) then tz (floorD ((tenX b).getD 0)) else 0
theorem tenX_fin {b : Nat} (h1 : 3936146074321813504 ≤ wb b) (h2 : wb b < 5188146770730811392) : ∃ c, tenX b = some c ∧ Fl.Fin D c ∧ U D (rg D c) ≤ 2 ^ (1074 + 51) := by
  have hl := bd_logV h1 h2
  have hm : Bd 1124 (ar .mul .f64 (logV (wb b)) (some 4631308968768463603)) := bd_mul hl (bs_lit (b := 4631308968768463603) (e := 1080) (by decide +kernel)).bd (by decide) (by decide)
  obtain ⟨e, he⟩ : ∃ e : Nat, e = 1074 + 51 := ⟨_, rfl⟩
  have ha : Bd e (tenX b) := bd_add hm (bs_lit (b := 4602678819172646912) (e := 1074) (by decide +kernel)).bd (by omega) (by omega) (by omega)
  obtain ⟨s, c, hc, hf, _, hU⟩ := ha
  exact ⟨c, hc, hf, by rw [← he]; exact hU⟩
/-- The call returns a whole number and a bool, and leaves what was there. -/
def RetIB (w : World) (n : Int) (b : Bool) (e : Ending) (w' : World) : Prop := e = .returned (.tuple #[.int .i64 n, .bool b]) ∧ Below w.heap.size w w'
theorem arePos1 {a : Nat} {u : Option Nat} (ha : IsF .f32 a u) (w : World) (q : Bool) (hq : posF u = q) : ∀ w', Below (w.alloc (.cells #[.float .f32 a] 28)).heap.size (w.alloc (.cells #[.float .f32 a] 28)) w' → Calls Try.prog 21 #[.slice (some ⟨w.heap.size, 0, none⟩) 1 1] w' (Ret w' (.bool q)) := by
  have hsl := FSl_lit w [a] 28 (by simp; exact ha.2) (by simp)
  intro w' hw'
  have := arePositive_any _ _ w' (hsl.below hw')
  rw [show (!anyF nposF [a]) = posF u by rw [anyF_cons, anyF_nil, ha.eq, nposF_eq u a ha]; cases posF u <;> rfl, hq] at this
  exact this
set_option maxHeartbeats 1000000 in
theorem iTenthsOf_any (b : Nat) (v : Option Nat) (h : IsF .f32 b v) (w : World) : Calls Try.prog 12 #[.float .f32 b] w (RetIB w (tenV v) (posF v)) := by
  rcases posF_cases h with ⟨hp, rfl, hf, hs, h0⟩ | hp
  · obtain ⟨k1, k2⟩ := wb_pos hf hs h0
    obtain ⟨c, hc, fc, uc⟩ := tenX_fin k1 k2
    obtain ⟨t1, t2, t3⟩ := floor_int fc uc
    have HP := Lib.hid (arePos1 h w true hp)
    have Hv := Lib.hid (show tenV (some b) = tz (floorD c) by unfold tenV; simp only [hp, if_true, hc, Option.getD_some])
    have HT := Lib.hid t1
    have Hc := Lib.hid (show ar .add .f64 (ar .mul .f64 (logV (wb b)) (some 4631308968768463603)) (some 4602678819172646912) = some c from hc)
    rw [Hv.out, hp]
    clear hp hc t1 uc hs h0 hf
    go_enter Try.func12, Try.ntmps12
    go_wp2_with (first | (refine wpList_far rfl rfl (by first | exact .inl rfl | exact .inr (.inl rfl) | exact .inr (.inr (.inl rfl)) | exact .inr (.inr (.inr rfl))) rfl rfl (by first | assumption | exact isF_ofInt _ _ | exact IsF.lit (by decide +kernel)) (by first | assumption | exact isF_ofInt _ _ | exact IsF.lit (by decide +kernel)) ?_; intro r n hr) | (refine wpList_fcmp rfl rfl (by first | exact .inl rfl | exact .inr (.inl rfl) | exact .inr (.inr (.inl rfl)) | exact .inr (.inr (.inr (.inl rfl))) | exact .inr (.inr (.inr (.inr (.inl rfl)))) | exact .inr (.inr (.inr (.inr (.inr rfl))))) rfl rfl (by first | assumption | exact isF_ofInt _ _ | exact IsF.lit (by decide +kernel)) (by first | assumption | exact isF_ofInt _ _ | exact IsF.lit (by decide +kernel)) (by first | assumption | exact rfl) ?_) | (first | (refine wpList_fsame rfl rfl rfl (congrArg Option.isSome Try.underlying28) Try.underlying28 ?_) | (refine wpList_fsame rfl rfl rfl (congrArg Option.isSome Try.underlying27) Try.underlying27 ?_)) | (refine wpList_fwid rfl rfl rfl (congrArg Option.isSome Try.underlying28) Try.underlying27 (by assumption) ?_; intro r n hr) | (refine wpList_fnar rfl rfl rfl (congrArg Option.isSome Try.underlying27) Try.underlying28 (by assumption) (by assumption) ?_; intro r n hr) | (refine wpList_fneg rfl rfl rfl (by assumption) ?_; intro r hr) | (go_at_call 21; refine (HP.out _ (Below.refl _ _)).mono ?_; rintro e w' ⟨n, rfl, rfl⟩) | (go_at_call 23; obtain rfl := isF_wb (by assumption); refine (logarithm_any _ k1 k2 _).mono ?_; rintro e w' ⟨r, n, rfl, hr, rfl⟩) | (go_at_call 22; obtain rfl := isF_eq (by assumption) Hc.out; refine (floor_any _ fc _).mono ?_; rintro e w' ⟨rfl, rfl⟩) | (refine wpList_toInt rfl rfl rfl (congrArg Option.isSome Try.underlying27) Try.underlying2 HT.out t2 t3 ?_))
    go_ret2
    exact ⟨rfl, by (repeat' first | assumption | exact Below.refl _ _ | refine B_drew ?_ _ | refine Below.drew ?_ | refine Below.alloc ?_ (by first | exact Nat.le_refl _ | (simp; done) | (simp; omega)) _)⟩
  · have HP := Lib.hid (arePos1 h w false hp)
    have Hv := Lib.hid (show tenV v = 0 by unfold tenV; cases v with
      | none => rfl
      | some x => simp only [hp]; rfl)
    rw [Hv.out, hp]
    clear hp
    go_enter Try.func12, Try.ntmps12
    go_wp2_with (first | (go_at_call 21; refine (HP.out _ (Below.refl _ _)).mono ?_; rintro e w' ⟨n, rfl, rfl⟩))
    go_ret2
    exact ⟨rfl, by (repeat' first | assumption | exact Below.refl _ _ | refine B_drew ?_ _ | refine Below.drew ?_ | refine Below.alloc ?_ (by first | exact Nat.le_refl _ | (simp; done) | (simp; omega)) _)⟩
end Go.Proofs.Ytaannebjpmdhjaa
