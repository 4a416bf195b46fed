/-
  Contracts: the place where a rod has a warmth, at both sides.
-/
import Derived.Test.YtndfpgcaooldkaaMid
import Derived.Test.YtndfpgcaooldkaaRq
import Derived.Deep.QuietTactic
import Derived.BigQuiet
namespace Go.Proofs.Ytndfpgcaooldkaa
set_option linter.unusedVariables false
set_option linter.unusedSimpArgs false
open Go.RowKit Fl
attribute [local go_sem] run_store_float

/-- The first of the numbers from k on, at most f of them, of which p holds. -/
def fnd (p : Nat → Bool) : Nat → Nat → Option Nat
  | 0, _ => none
  | f + 1, k => if p k then some k else fnd p f (k + 1)
def midOk (R : Rl) : Bool := (List.range R.a.length).all fun i => finF (midV R i)
theorem mid_ok {R : Rl} {xs : List Nat} (h : Mid R R.a.length xs) : (!anyF (fun v => !finF v) xs) = midOk R := by
  cases ha : anyF (fun v => !finF v) xs
  · have h2 : ∀ j, j < R.a.length → finF (midV R j) = true := by
      intro j hj
      cases hf : finF (midV R j)
      · exfalso
        have := anyF_true (p := fun v => !finF v) (bs := xs) (j := j) (by rw [h.1]; exact hj) (by rw [(h.2 j hj).eq]; simp [hf])
        rw [ha] at this
        cases this
      · rfl
    symm
    show midOk R = true
    unfold midOk
    rw [List.all_eq_true]
    intro j hj
    exact h2 j (by simpa using hj)
  · obtain ⟨j, hj, hp⟩ := (anyF_iff _ _).1 ha
    rw [(h.2 j (by rw [← h.1]; exact hj)).eq] at hp
    symm
    show midOk R = false
    unfold midOk
    rw [List.all_eq_false]
    exact ⟨j, by simpa using (by rw [← h.1]; exact hj), by simpa using hp⟩
theorem midOk_iff {R : Rl} (h : midOk R = true) : ∀ j, j < R.a.length → finF (midV R j) = true := by
  unfold midOk at h
  rw [List.all_eq_true] at h
  intro j hj
  exact h j (by simpa using hj)
def crossB (R : Rl) (z : Option Nat) (k : Nat) : Bool := cmpF .lss .f32 (cl .f32 (fget R.d (k - 1))) z != cmpF .lss .f32 (cl .f32 (fget R.d k)) z
def placeV (R : Rl) (z : Option Nat) (k : Nat) : Option Nat :=
  ar .add .f32 (midV R (k - 1)) (ar .mul .f32 (ar .sub .f32 (midV R k) (midV R (k - 1))) (ar .quo .f32 (ar .sub .f32 z (cl .f32 (fget R.d (k - 1)))) (ar .sub .f32 (cl .f32 (fget R.d k)) (cl .f32 (fget R.d (k - 1))))))
def plcF (R : Rl) (z : Option Nat) (o : Option Nat) : Option Nat × Bool := match o with | none => (some 0, false) | some k => (chkF (placeV R z k), finF (placeV R z k))
def plc (R : Rl) (z : Option Nat) : Option Nat × Bool := if okRod R && finF z && midOk R then plcF R z (fnd (crossB R z) (R.a.length - 1) 1) else (some 0, false)
theorem chk_ex {r : Nat} {v : Option Nat} (h : IsF .f32 r v) : ∃ r', IsF .f32 r' (chkF v) := by
  unfold chkF
  split
  · exact ⟨r, h⟩
  · exact ⟨0, isF_zero⟩
theorem wrap_small {j : Nat} (h : j < 48) : IntKind.i64.wrap (j : Int) = (j : Int) := by
  first | (rw [IntKind.wrap_of_range] <;> omega) | (unfold IntKind.wrap; simp [IntKind.bits, IntKind.signed]; omega) | (simp [IntKind.wrap]; omega)
set_option maxHeartbeats 16000000 in
theorem sPlaceOf_any (v1 v2 v3 v4 : Value) (R : Rl) (z : Nat) (t : Option Nat) (hz : IsF .f32 z t) (w : World) (h : Rod4 w v1 v2 v3 v4 R) :
    Calls Try.prog 27 #[.agg #[v1, v2, v3, v4], .float .f32 z] w (RetFBb w (plc R t).1 (plc R t).2) := by
  obtain ⟨ao4, cap4, rfl, m4⟩ := h.2.2.2.len
  have bB := box4_alloc w 29 v1 v2 v3 (.slice ao4 R.d.length cap4)
  have D0 : Below w.heap.size w (w.alloc (.cells #[v1, v2, v3, .slice ao4 R.d.length cap4] 29)) := by (repeat' first | assumption | exact Below.refl _ _ | refine B_drew ?_ _ | refine Below.drew ?_ | refine Below.alloc ?_ (by first | exact Nat.le_refl _ | (simp; done) | (simp; omega)) _)
  have h0 := h.below D0
  have hi := l02Is_any _ _ _ _ _ R _ bB h0
  cases hok : okRod R
  · have HV := Lib.hid (show plc R t = (some 0, false) by unfold plc; rw [hok]; rfl)
    rw [HV.out]
    rw [hok] at hi
    have HI := Lib.hid hi
    clear hi bB h0
    go_enter Try.func27, Try.ntmps27
    go_wp2_with fail
    refine HI.out.mono ?_
    rintro e w1 ⟨n, rfl, rfl⟩
    go_wp2_with fail
    go_ret2
    exact ⟨_, rfl, isF_zero, by (repeat' first | assumption | exact Below.refl _ _ | refine B_drew ?_ _ | refine Below.drew ?_ | refine Below.alloc ?_ (by first | exact Nat.le_refl _ | (simp; done) | (simp; omega)) _)⟩
  · rw [hok] at hi
    have HI := Lib.hid hi
    have hL := (okRod_iff hok).1
    have HL := Lib.hid hL
    clear hi
    cases hfz : finF t
    · have HV := Lib.hid (show plc R t = (some 0, false) by unfold plc; rw [hok, hfz]; rfl)
      rw [HV.out]
      clear bB h0 hL
      go_enter Try.func27, Try.ntmps27
      go_wp2_with fail
      refine HI.out.mono ?_
      rintro e w1 ⟨n, rfl, rfl⟩
      go_wp2_with (first | (go_at_call 49; refine (l01Finite_any _ _ hz _).mono ?_; rintro e w' ⟨n, rfl, rfl⟩; rw [hfz]))
      go_ret2
      exact ⟨_, rfl, isF_zero, by (repeat' first | assumption | exact Below.refl _ _ | refine B_drew ?_ _ | refine Below.drew ?_ | refine Below.alloc ?_ (by first | exact Nat.le_refl _ | (simp; done) | (simp; omega)) _)⟩
    · have MID := Lib.hid (fun w' (h' : Below _ _ w') => l02Middles_any w.heap.size v1 v2 v3 _ R HL.out w' (bB.below h') (h0.below h'))
      cases hmo : midOk R
      · have HV := Lib.hid (show plc R t = (some 0, false) by unfold plc; rw [hok, hfz, hmo]; rfl)
        rw [HV.out]
        clear bB h0 hL
        go_enter Try.func27, Try.ntmps27
        go_wp2_with fail
        refine HI.out.mono ?_
        rintro e w1 ⟨n, rfl, rfl⟩
        go_wp2_with (first | (go_at_call 49; refine (l01Finite_any _ _ hz _).mono ?_; rintro e w' ⟨n, rfl, rfl⟩; rw [hfz]))
        refine (MID.out _ (by (repeat' first | assumption | exact Below.refl _ _ | refine B_drew ?_ _ | refine Below.drew ?_ | refine Below.alloc ?_ (by first | exact Nat.le_refl _ | (simp; done) | (simp; omega)) _))).mono ?_
        rintro e w2 ⟨v, q, xs, rfl, hm, hf, hq, hb2⟩
        have hq2 : q = false := by rw [hq, mid_ok hm]; exact hmo
        subst hq2
        have D2 := B_trans (w := w) (by (repeat' first | assumption | exact Below.refl _ _ | refine B_drew ?_ _ | refine Below.drew ?_ | refine Below.alloc ?_ (by first | exact Nat.le_refl _ | (simp; done) | (simp; omega)) _)) hb2
        clear hq hf hm
        go_wp2_with fail
        go_ret2
        exact ⟨_, rfl, isF_zero, D2⟩
      · have HV := Lib.hid (show plc R t = plcF R t (fnd (crossB R t) (R.a.length - 1) 1) by unfold plc; rw [hok, hfz, hmo]; rfl)
        rw [HV.out]
        have HMO := Lib.hid (midOk_iff hmo)
        have hd1 : R.d.length ≤ R.a.length := Nat.le_of_eq hL.2.2.2.2
        have hd2 : R.a.length ≤ R.d.length := Nat.le_of_eq hL.2.2.2.2.symm
        have hn1 := hL.1
        have hn2 := hL.2.1
        obtain ⟨ao5, cap5, hv5, e1, e2, e3, e4⟩ := h.2.2.2
        cases hv5
        have hcd : ∃ b4 o4, ao4 = some ⟨b4, o4, none⟩ ∧ b4 < w.heap.size ∧ ∀ i, i < R.d.length → w.cell? ⟨b4, o4 + i, none⟩ = some (.float .f32 (fget R.d i)) := by
          rcases e4 with e4 | e4
          · rw [e4] at hd2; have : R.a.length ≤ 0 := hd2; omega
          · exact e4
        obtain ⟨b4, o4, rfl, hb4, hc4⟩ := hcd
        have HC4 := Lib.hid hc4
        have HE3 := Lib.hid e3
        have HD := Lib.hid (fun k (hk : k < R.a.length) => (show finF (cl .f32 (fget R.d k)) = true from by
          have := (okRod_iff hok).2 k hk
          unfold cellOk at this
          simp only [Bool.and_eq_true] at this
          exact this.2))
        unfold maxLen at e2
        clear hc4 e3 e4 h0 hL hmo HV
        have BX := Lib.hid bB
        clear bB
        go_enter Try.func27, Try.ntmps27
        go_wp2_with fail
        refine HI.out.mono ?_
        rintro e w1 ⟨n, rfl, rfl⟩
        go_wp2_with (first | (go_at_call 49; refine (l01Finite_any _ _ hz _).mono ?_; rintro e w' ⟨n, rfl, rfl⟩; rw [hfz]))
        refine (MID.out _ (by (repeat' first | assumption | exact Below.refl _ _ | refine B_drew ?_ _ | refine Below.drew ?_ | refine Below.alloc ?_ (by first | exact Nat.le_refl _ | (simp; done) | (simp; omega)) _))).mono ?_
        rintro e w2 ⟨v, q, xs, rfl, hm, hf, hq, hb2⟩
        have hq2 : q = true := by rw [hq, mid_ok hm]; exact (by unfold midOk; rw [List.all_eq_true]; intro j hj; exact HMO.out j (by simpa using hj))
        subst hq2
        have D2 := B_trans (w := w) (by (repeat' first | assumption | exact Below.refl _ _ | refine B_drew ?_ _ | refine Below.drew ?_ | refine Below.alloc ?_ (by first | exact Nat.le_refl _ | (simp; done) | (simp; omega)) _)) hb2
        have BX2 := Lib.hid (BX.out.below (w' := w2) (((below_drewN (Below.refl _ _) _)).trans (hb2.mono (by simp))))
        have hf2 := hf rfl
        obtain ⟨aom, capm, rfl, m1, m2, m3, m5⟩ := hf2
        have hx1 : xs.length ≤ R.a.length := Nat.le_of_eq hm.1
        have hx2 : R.a.length ≤ xs.length := Nat.le_of_eq hm.1.symm
        have hcm : ∃ bm om, aom = some ⟨bm, om, none⟩ ∧ ∀ i, i < xs.length → w2.cell? ⟨bm, om + i, none⟩ = some (.float .f32 (fget xs i)) := by
          rcases m5 with m5 | ⟨bm, om, m6, _, m7⟩
          · rw [m5] at hx2; have : R.a.length ≤ 0 := hx2; omega
          · exact ⟨bm, om, m6, m7⟩
        obtain ⟨bm, om, rfl, hcm⟩ := hcm
        have HCM := Lib.hid hcm
        have HMX := Lib.hid hm.2
        unfold maxLen at m2
        clear hcm hm hq hf m3 m5 hb2 MID HI
        go_wp2_with fail
        go_simp
        go_loopw [8] (fun i wr => ∃ (k m : Nat), 1 ≤ k ∧ k ≤ R.a.length ∧ i = .int .i64 (k : Int) ∧ Hid (fnd (crossB R t) (R.a.length - 1) 1 = fnd (crossB R t) (R.a.length - k) k) ∧ wr = w2.drewN m) (fun i _ => R.a.length - (intOf i).toNat)
        case atStart => exact ⟨1, 0, by omega, by omega, rfl, Lib.hid rfl, rfl⟩
        case round =>
          obtain ⟨k, m, hk1, hk2, rfl, hfn, rfl⟩ := hrel
          obtain ⟨j, rfl⟩ : ∃ j, k = j + 1 := ⟨k - 1, by omega⟩
          obtain ⟨⟨b0, b1, b2, b3⟩, _, _⟩ := BX2.out
          by_cases hlt : j + 1 < R.a.length
          · have d0 : w2.cell? ⟨b4, o4 + j, none⟩ = some (.float .f32 (fget R.d j)) := (D2.cell (p := ⟨b4, o4 + j, none⟩) hb4).trans (HC4.out j (by omega))
            have d1 : w2.cell? ⟨b4, o4 + (j + 1), none⟩ = some (.float .f32 (fget R.d (j + 1))) := (D2.cell (p := ⟨b4, o4 + (j + 1), none⟩) hb4).trans (HC4.out (j + 1) (by omega))
            have x0 := HCM.out j (by omega)
            have x1 := HCM.out (j + 1) (by omega)
            have id0 : IsF .f32 (fget R.d j) (cl .f32 (fget R.d j)) := IsF.of (HE3.out _ (fget_mem (by omega)))
            have id1 : IsF .f32 (fget R.d (j + 1)) (cl .f32 (fget R.d (j + 1))) := IsF.of (HE3.out _ (fget_mem (by omega)))
            have ix0 := HMX.out j (by omega)
            have ix1 := HMX.out (j + 1) (by omega)
            have fd0 := HD.out j (by omega)
            have fd1 := HD.out (j + 1) (by omega)
            have fx0 := HMO.out j (by omega)
            have fx1 := HMO.out (j + 1) (by omega)
            have HCR := Lib.hid (show crossB R t (j + 1) = (cmpF .lss .f32 (cl .f32 (fget R.d j)) t != cmpF .lss .f32 (cl .f32 (fget R.d (j + 1))) t) from rfl)
            have HPV := Lib.hid (show placeV R t (j + 1) = ar .add .f32 (midV R j) (ar .mul .f32 (ar .sub .f32 (midV R (j + 1)) (midV R j)) (ar .quo .f32 (ar .sub .f32 t (cl .f32 (fget R.d j))) (ar .sub .f32 (cl .f32 (fget R.d (j + 1))) (cl .f32 (fget R.d j))))) from rfl)
            have HF1 := Lib.hid (show fnd (crossB R t) (R.a.length - (j + 1)) (j + 1) = if crossB R t (j + 1) then some (j + 1) else fnd (crossB R t) (R.a.length - (j + 2)) (j + 2) by
              rw [show R.a.length - (j + 1) = (R.a.length - (j + 2)) + 1 by omega]; rfl)
            generalize cl .f32 (fget R.d j) = u0 at *
            generalize cl .f32 (fget R.d (j + 1)) = u1 at *
            generalize fget R.d j = e0 at *
            generalize fget R.d (j + 1) = e1' at *
            generalize midV R j = y0 at *
            generalize midV R (j + 1) = y1 at *
            generalize fget xs j = g0 at *
            generalize fget xs (j + 1) = g1 at *
            have HNN := Lib.hid (And.intro hn1 hn2)
            clear fd0 fd1 fx0 fx1
            clear hfz
            go_upto_region 11 with fail
            have hw0 : IntKind.i64.wrap ((j : Nat) : Int) = (j : Int) := wrap_small (by omega)
            have hw1 : IntKind.i64.wrap (((j + 1 : Nat) : Int) - 1) = (j : Int) := by rw [show (((j + 1 : Nat) : Int) - 1) = (j : Int) by omega]; exact hw0
            have hw2 : IntKind.i64.wrap (((j : Nat) : Int) + 1 - 1) = (j : Int) := by rw [show (((j : Nat) : Int) + 1 - 1) = (j : Int) by omega]; exact hw0
            have hj0 : (j : Int) < (xs.length : Int) := by omega
            have hj1 : (j : Int) + 1 < (xs.length : Int) := by omega
            go_cut [9, 10, 47] from 24 to 74 (fun ax bx vx wx => ax = .float .f32 e0 ∧ bx = .float .f32 e1' ∧ vx = .bool (crossB R t (j + 1)) ∧ wx = w2.drewN m)
            case first =>
              cases c1 : cmpF .lss .f32 u0 t
              all_goals
                cases c2 : cmpF .lss .f32 u1 t
              all_goals
                rw [c1, c2] at HCR
                go_wp2_with (refine wpList_fcmp rfl rfl (by first | exact .inl rfl | exact .inr (.inl rfl) | exact .inr (.inr (.inl rfl)) | exact .inr (.inr (.inr (.inl rfl))) | exact .inr (.inr (.inr (.inr (.inl rfl)))) | exact .inr (.inr (.inr (.inr (.inr rfl))))) rfl rfl (by first | assumption | exact isF_ofInt _ _ | exact IsF.lit (by decide +kernel)) (by first | assumption | exact isF_ofInt _ _ | exact IsF.lit (by decide +kernel)) (by first | assumption | exact rfl) ?_)
                go_meet
                exact ⟨rfl, rfl, by rw [HCR.out]; rfl, rfl⟩
            case rest =>
              obtain ⟨rfl, rfl, rfl, rfl⟩ := hcut
              clear HCR b0 b1 b2 b3 d0 d1
              cases hcr : crossB R t (j + 1)
              · rw [hcr] at HF1
                go_wp2_with fail
                go_roundw
                case rel => exact ⟨j + 2, m, by omega, by omega, by go_num, Lib.hid (hfn.out.trans HF1.out), rfl⟩
                case measure => simp [intOf]; omega
              · rw [hcr] at HF1
                have HFN := Lib.hid (hfn.out.trans HF1.out)
                clear hfn HF1
                go_upto_region 12 with fail
                refine Rq.region (fun _ v => ∃ r, v = .tuple #[.float .f32 r, .bool (finF (placeV R t (j + 1)))] ∧ IsF .f32 r (chkF (placeV R t (j + 1)))) (by kernel_rfl) (by kernel_rfl) ?_
                repeat (first | (refine Rq.far rfl rfl (by first | exact .inl rfl | exact .inr (.inl rfl) | exact .inr (.inr (.inl rfl)) | exact .inr (.inr (.inr rfl))) rfl rfl (by first | assumption | exact isF_ofInt _ _ | exact IsF.lit (by decide +kernel)) (by first | assumption | exact isF_ofInt _ _ | exact IsF.lit (by decide +kernel)) ?_; intro r hr; simp only [Act.put, List.setIfInBounds_toArray, List.set_cons_succ, List.set_cons_zero]) | (refine Rq.fcmp rfl rfl (by first | exact .inl rfl | exact .inr (.inl rfl) | exact .inr (.inr (.inl rfl)) | exact .inr (.inr (.inr (.inl rfl))) | exact .inr (.inr (.inr (.inr (.inl rfl)))) | exact .inr (.inr (.inr (.inr (.inr rfl))))) rfl rfl (by first | assumption | exact isF_ofInt _ _ | exact IsF.lit (by decide +kernel)) (by first | assumption | exact isF_ofInt _ _ | exact IsF.lit (by decide +kernel)) (by first | assumption | exact rfl) ?_; simp only [Act.put, List.setIfInBounds_toArray, List.set_cons_succ, List.set_cons_zero]) | (refine Rq.quiet rfl rfl (fun K hK => ?_); go_big_quiet_op; refine hK _ ?_; clear hK K))
                rw [← HPV.out] at hr
                refine Rq.call (f := 31) (args := #[.float .f32 r]) rfl (by obtain ⟨r', h'⟩ := chk_ex hr; exact ⟨_, r', rfl, h'⟩) (fun w => by go_simp) ?_ ?_
                · rintro w' ⟨n, rfl⟩
                  refine (l02Number_any _ _ hr _).mono ?_
                  rintro e w1 ⟨r1, n1, rfl, hr1, rfl⟩
                  exact ⟨_, rfl, ⟨_, rfl, hr1⟩, _, by rw [World.drewN_drewN]⟩
                · rintro v ⟨r1, rfl, hr1⟩
                  (simp only [Act.put, List.setIfInBounds_toArray, List.set_cons_succ, List.set_cons_zero])
                  repeat (first | (refine Rq.far rfl rfl (by first | exact .inl rfl | exact .inr (.inl rfl) | exact .inr (.inr (.inl rfl)) | exact .inr (.inr (.inr rfl))) rfl rfl (by first | assumption | exact isF_ofInt _ _ | exact IsF.lit (by decide +kernel)) (by first | assumption | exact isF_ofInt _ _ | exact IsF.lit (by decide +kernel)) ?_; intro r hr; simp only [Act.put, List.setIfInBounds_toArray, List.set_cons_succ, List.set_cons_zero]) | (refine Rq.fcmp rfl rfl (by first | exact .inl rfl | exact .inr (.inl rfl) | exact .inr (.inr (.inl rfl)) | exact .inr (.inr (.inr (.inl rfl))) | exact .inr (.inr (.inr (.inr (.inl rfl)))) | exact .inr (.inr (.inr (.inr (.inr rfl))))) rfl rfl (by first | assumption | exact isF_ofInt _ _ | exact IsF.lit (by decide +kernel)) (by first | assumption | exact isF_ofInt _ _ | exact IsF.lit (by decide +kernel)) (by first | assumption | exact rfl) ?_; simp only [Act.put, List.setIfInBounds_toArray, List.set_cons_succ, List.set_cons_zero]) | (refine Rq.quiet rfl rfl (fun K hK => ?_); go_big_quiet_op; refine hK _ ?_; clear hK K))
                  refine Rq.done ?_
                  intro nq
                  go_wp2_with fail
                  go_ret2
                  rw [HFN.out]
                  exact ⟨_, rfl, hr1, by first | exact B_drew D2 _ | exact below_drewN D2 _⟩
          · have hjn : j + 1 = R.a.length := by omega
            have HF0 := Lib.hid (show fnd (crossB R t) (R.a.length - (j + 1)) (j + 1) = none by rw [show R.a.length - (j + 1) = 0 by omega]; rfl)
            go_wp2_with fail
            go_ret2
            rw [hfn.out, HF0.out]
            exact ⟨_, rfl, isF_zero, by first | exact B_drew D2 _ | exact below_drewN D2 _⟩
set_option maxHeartbeats 16000000 in
theorem iPlaceOf_any (v1 v2 v3 v4 : Value) (R : Rl) (z : Nat) (t : Option Nat) (hz : IsF .f32 z t) (w : World) (h : Rod4 w v1 v2 v3 v4 R) :
    Calls Try.prog 28 #[.agg #[v1, v2, v3, v4], .float .f32 z] w (RetFBb w (plc R t).1 (plc R t).2) := by
  obtain ⟨ao4, cap4, rfl, m4⟩ := h.2.2.2.len
  have bB := box4_alloc w 29 v1 v2 v3 (.slice ao4 R.d.length cap4)
  have D0 : Below w.heap.size w (w.alloc (.cells #[v1, v2, v3, .slice ao4 R.d.length cap4] 29)) := by (repeat' first | assumption | exact Below.refl _ _ | refine B_drew ?_ _ | refine Below.drew ?_ | refine Below.alloc ?_ (by first | exact Nat.le_refl _ | (simp; done) | (simp; omega)) _)
  have h0 := h.below D0
  have hi := iValidRod_any _ _ _ _ R _ h0
  cases hok : okRod R
  · have HV := Lib.hid (show plc R t = (some 0, false) by unfold plc; rw [hok]; rfl)
    rw [HV.out]
    rw [hok] at hi
    have HI := Lib.hid hi
    clear hi bB h0
    go_enter Try.func28, Try.ntmps28
    go_wp2_with fail
    refine HI.out.mono ?_
    rintro e w1 ⟨rfl, hb1⟩
    go_wp2_with fail
    go_ret2
    exact ⟨_, rfl, isF_zero, B_trans D0 hb1⟩
  · rw [hok] at hi
    have HI := Lib.hid hi
    have hL := (okRod_iff hok).1
    have HL := Lib.hid hL
    clear hi
    have HFIN := Lib.hid (fun w' => iIsFinite_any z t hz w')
    cases hfz : finF t
    · have HV := Lib.hid (show plc R t = (some 0, false) by unfold plc; rw [hok, hfz]; rfl)
      rw [HV.out]
      clear bB h0 hL
      go_enter Try.func28, Try.ntmps28
      go_wp2_with fail
      refine HI.out.mono ?_
      rintro e w1 ⟨rfl, hb1⟩
      have D1 := B_trans D0 hb1
      clear hb1
      go_wp2_with (first | (go_at_call 51; refine (HFIN.out _).mono ?_; rintro e w' ⟨n, rfl, rfl⟩; rw [hfz]))
      go_ret2
      exact ⟨_, rfl, isF_zero, by (repeat' first | assumption | exact Below.refl _ _ | refine B_drew ?_ _ | refine Below.drew ?_ | refine Below.alloc ?_ (by first | exact Nat.le_refl _ | (simp; done) | (simp; omega)) _)⟩
    · have MID := Lib.hid (fun w' (h' : Below w.heap.size w w') => middles_any v1 v2 v3 _ R HL.out w' (h.below h'))
      cases hmo : midOk R
      · have HV := Lib.hid (show plc R t = (some 0, false) by unfold plc; rw [hok, hfz, hmo]; rfl)
        rw [HV.out]
        clear h0 hL
        go_enter Try.func28, Try.ntmps28
        go_wp2_with fail
        refine HI.out.mono ?_
        rintro e w1 ⟨rfl, hb1⟩
        have D1 := B_trans D0 hb1
        obtain ⟨⟨p0, p1, p2, p3⟩, pf, pl⟩ := bB.below hb1
        clear hb1 bB pf
        go_wp2_with (first | (go_at_call 51; refine (HFIN.out _).mono ?_; rintro e w' ⟨n, rfl, rfl⟩; rw [hfz]))
        refine (MID.out _ (by (repeat' first | assumption | exact Below.refl _ _ | refine B_drew ?_ _ | refine Below.drew ?_ | refine Below.alloc ?_ (by first | exact Nat.le_refl _ | (simp; done) | (simp; omega)) _))).mono ?_
        rintro e w2 ⟨v, q, xs, rfl, hm, hf, hq, hb2⟩
        have hq2 : q = false := by rw [hq, mid_ok hm]; exact hmo
        subst hq2
        have D2 := B_trans (w := w) (by (repeat' first | assumption | exact Below.refl _ _ | refine B_drew ?_ _ | refine Below.drew ?_ | refine Below.alloc ?_ (by first | exact Nat.le_refl _ | (simp; done) | (simp; omega)) _)) hb2
        clear hq hf hm
        go_wp2_with fail
        go_ret2
        exact ⟨_, rfl, isF_zero, D2⟩
      · have HV := Lib.hid (show plc R t = plcF R t (fnd (crossB R t) (R.a.length - 1) 1) by unfold plc; rw [hok, hfz, hmo]; rfl)
        rw [HV.out]
        have HMO := Lib.hid (midOk_iff hmo)
        have hd1 : R.d.length ≤ R.a.length := Nat.le_of_eq hL.2.2.2.2
        have hd2 : R.a.length ≤ R.d.length := Nat.le_of_eq hL.2.2.2.2.symm
        have hn1 := hL.1
        have hn2 := hL.2.1
        obtain ⟨ao5, cap5, hv5, e1, e2, e3, e4⟩ := h.2.2.2
        cases hv5
        have hcd : ∃ b4 o4, ao4 = some ⟨b4, o4, none⟩ ∧ b4 < w.heap.size ∧ ∀ i, i < R.d.length → w.cell? ⟨b4, o4 + i, none⟩ = some (.float .f32 (fget R.d i)) := by
          rcases e4 with e4 | e4
          · rw [e4] at hd2; have : R.a.length ≤ 0 := hd2; omega
          · exact e4
        obtain ⟨b4, o4, rfl, hb4, hc4⟩ := hcd
        have HC4 := Lib.hid hc4
        have HE3 := Lib.hid e3
        unfold maxLen at e2
        clear hc4 e3 e4 h0 hL hmo HV
        have BX := Lib.hid bB
        go_enter Try.func28, Try.ntmps28
        go_wp2_with fail
        refine HI.out.mono ?_
        rintro e w1 ⟨rfl, hb1⟩
        have D1 := B_trans D0 hb1
        have BX1 := Lib.hid (bB.below hb1)
        obtain ⟨⟨p0, p1, p2, p3⟩, pf, pl⟩ := bB.below hb1
        clear hb1 bB BX pf
        go_wp2_with (first | (go_at_call 51; refine (HFIN.out _).mono ?_; rintro e w' ⟨n, rfl, rfl⟩; rw [hfz]))
        refine (MID.out _ (by (repeat' first | assumption | exact Below.refl _ _ | refine B_drew ?_ _ | refine Below.drew ?_ | refine Below.alloc ?_ (by first | exact Nat.le_refl _ | (simp; done) | (simp; omega)) _))).mono ?_
        rintro e w2 ⟨v, q, xs, rfl, hm, hf2, hq, hb2⟩
        have hq2 : q = true := by rw [hq, mid_ok hm]; exact (by unfold midOk; rw [List.all_eq_true]; intro j hj; exact HMO.out j (by simpa using hj))
        subst hq2
        have D2 := B_trans (w := w) (by (repeat' first | assumption | exact Below.refl _ _ | refine B_drew ?_ _ | refine Below.drew ?_ | refine Below.alloc ?_ (by first | exact Nat.le_refl _ | (simp; done) | (simp; omega)) _)) hb2
        have BX2 := Lib.hid (BX1.out.below (w' := w2) ((below_drewN (Below.refl _ _) _).trans (hb2.mono (by simp))))
        obtain ⟨aom, capm, rfl, m1, m2, m3, m5⟩ := hf2
        have hx1 : xs.length ≤ R.a.length := Nat.le_of_eq hm.1
        have hx2 : R.a.length ≤ xs.length := Nat.le_of_eq hm.1.symm
        have hcm : ∃ bm om, aom = some ⟨bm, om, none⟩ ∧ ∀ i, i < xs.length → w2.cell? ⟨bm, om + i, none⟩ = some (.float .f32 (fget xs i)) := by
          rcases m5 with m5 | ⟨bm, om, m6, _, m7⟩
          · rw [m5] at hx2; have : R.a.length ≤ 0 := hx2; omega
          · exact ⟨bm, om, m6, m7⟩
        obtain ⟨bm, om, rfl, hcm⟩ := hcm
        have HCM := Lib.hid hcm
        have HMX := Lib.hid hm.2
        unfold maxLen at m2
        clear hcm hm hq m3 m5 hb2 MID HI BX1 p0 p1 p2 p3 pl
        go_wp2_with fail
        go_simp
        go_loopw [8] (fun i wr => ∃ (k m : Nat), 1 ≤ k ∧ k ≤ R.a.length ∧ i = .int .i64 (k : Int) ∧ Hid (fnd (crossB R t) (R.a.length - 1) 1 = fnd (crossB R t) (R.a.length - k) k) ∧ wr = w2.drewN m) (fun i _ => R.a.length - (intOf i).toNat)
        case atStart => exact ⟨1, 0, by omega, by omega, rfl, Lib.hid rfl, rfl⟩
        case round =>
          obtain ⟨k, m, hk1, hk2, rfl, hfn, rfl⟩ := hrel
          obtain ⟨j, rfl⟩ : ∃ j, k = j + 1 := ⟨k - 1, by omega⟩
          obtain ⟨⟨b0, b1, b2, b3⟩, _, _⟩ := BX2.out
          by_cases hlt : j + 1 < R.a.length
          · have d0 : w2.cell? ⟨b4, o4 + j, none⟩ = some (.float .f32 (fget R.d j)) := (D2.cell (p := ⟨b4, o4 + j, none⟩) hb4).trans (HC4.out j (by omega))
            have d1 : w2.cell? ⟨b4, o4 + (j + 1), none⟩ = some (.float .f32 (fget R.d (j + 1))) := (D2.cell (p := ⟨b4, o4 + (j + 1), none⟩) hb4).trans (HC4.out (j + 1) (by omega))
            have x0 := HCM.out j (by omega)
            have x1 := HCM.out (j + 1) (by omega)
            have id0 : IsF .f32 (fget R.d j) (cl .f32 (fget R.d j)) := IsF.of (HE3.out _ (fget_mem (by omega)))
            have id1 : IsF .f32 (fget R.d (j + 1)) (cl .f32 (fget R.d (j + 1))) := IsF.of (HE3.out _ (fget_mem (by omega)))
            have ix0 := HMX.out j (by omega)
            have ix1 := HMX.out (j + 1) (by omega)
            have HCR := Lib.hid (show crossB R t (j + 1) = (cmpF .lss .f32 (cl .f32 (fget R.d j)) t != cmpF .lss .f32 (cl .f32 (fget R.d (j + 1))) t) from rfl)
            have HPV := Lib.hid (show placeV R t (j + 1) = ar .add .f32 (midV R j) (ar .mul .f32 (ar .sub .f32 (midV R (j + 1)) (midV R j)) (ar .quo .f32 (ar .sub .f32 t (cl .f32 (fget R.d j))) (ar .sub .f32 (cl .f32 (fget R.d (j + 1))) (cl .f32 (fget R.d j))))) from rfl)
            have HF1 := Lib.hid (show fnd (crossB R t) (R.a.length - (j + 1)) (j + 1) = if crossB R t (j + 1) then some (j + 1) else fnd (crossB R t) (R.a.length - (j + 2)) (j + 2) by
              rw [show R.a.length - (j + 1) = (R.a.length - (j + 2)) + 1 by omega]; rfl)
            generalize cl .f32 (fget R.d j) = u0 at *
            generalize cl .f32 (fget R.d (j + 1)) = u1 at *
            generalize fget R.d j = e0 at *
            generalize fget R.d (j + 1) = e1' at *
            generalize midV R j = y0 at *
            generalize midV R (j + 1) = y1 at *
            generalize fget xs j = g0 at *
            generalize fget xs (j + 1) = g1 at *
            have HNN := Lib.hid (And.intro hn1 hn2)
            clear hfz
            have hj0 : (j : Int) < (xs.length : Int) := by omega
            have hj1 : (j : Int) + 1 < (xs.length : Int) := by omega
            have hw0 : IntKind.i64.wrap ((j : Nat) : Int) = (j : Int) := wrap_small (by omega)
            have hw1 : IntKind.i64.wrap (((j + 1 : Nat) : Int) - 1) = (j : Int) := by rw [show (((j + 1 : Nat) : Int) - 1) = (j : Int) by omega]; exact hw0
            have hw2 : IntKind.i64.wrap (((j : Nat) : Int) + 1 - 1) = (j : Int) := by rw [show (((j : Nat) : Int) + 1 - 1) = (j : Int) by omega]; exact hw0
            go_upto_region 9 with fail
            refine Rq.region (fun _ _ => False) (by kernel_rfl) (by kernel_rfl) ?_
            repeat (first | (refine Rq.far rfl rfl (by first | exact .inl rfl | exact .inr (.inl rfl) | exact .inr (.inr (.inl rfl)) | exact .inr (.inr (.inr rfl))) rfl rfl (by first | assumption | exact isF_ofInt _ _ | exact IsF.lit (by decide +kernel)) (by first | assumption | exact isF_ofInt _ _ | exact IsF.lit (by decide +kernel)) ?_; intro r hr; simp only [Act.put, List.setIfInBounds_toArray, List.set_cons_succ, List.set_cons_zero]) | (refine Rq.fcmp rfl rfl (by first | exact .inl rfl | exact .inr (.inl rfl) | exact .inr (.inr (.inl rfl)) | exact .inr (.inr (.inr (.inl rfl))) | exact .inr (.inr (.inr (.inr (.inl rfl)))) | exact .inr (.inr (.inr (.inr (.inr rfl))))) rfl rfl (by first | assumption | exact isF_ofInt _ _ | exact IsF.lit (by decide +kernel)) (by first | assumption | exact isF_ofInt _ _ | exact IsF.lit (by decide +kernel)) (by first | assumption | exact rfl) ?_; simp only [Act.put, List.setIfInBounds_toArray, List.set_cons_succ, List.set_cons_zero]) | (refine Rq.quiet rfl rfl (fun K hK => ?_); go_big_quiet_op; refine hK _ ?_; clear hK K))
            refine Rq.done ?_
            intro nq
            go_upto_region 10 with fail
            go_cut [9, 10, 50] from 27 to 78 (fun ax bx vx wx => ax = .float .f32 e0 ∧ bx = .float .f32 e1' ∧ vx = .bool (!crossB R t (j + 1)) ∧ ∃ q, wx = w2.drewN q)
            case first =>
              cases c1 : cmpF .lss .f32 u0 t
              all_goals
                cases c2 : cmpF .lss .f32 u1 t
              all_goals
                rw [c1, c2] at HCR
                go_wp2_with (refine wpList_fcmp rfl rfl (by first | exact .inl rfl | exact .inr (.inl rfl) | exact .inr (.inr (.inl rfl)) | exact .inr (.inr (.inr (.inl rfl))) | exact .inr (.inr (.inr (.inr (.inl rfl)))) | exact .inr (.inr (.inr (.inr (.inr rfl))))) rfl rfl (by first | assumption | exact isF_ofInt _ _ | exact IsF.lit (by decide +kernel)) (by first | assumption | exact isF_ofInt _ _ | exact IsF.lit (by decide +kernel)) (by first | assumption | exact rfl) ?_)
                go_meet
                exact ⟨rfl, rfl, by rw [HCR.out]; rfl, _, rfl⟩
            case rest =>
              obtain ⟨rfl, rfl, rfl, q, rfl⟩ := hcut
              clear HCR b0 b1 b2 b3 d0 d1
              cases hcr : crossB R t (j + 1)
              · rw [hcr] at HF1
                simp only [Bool.not_false]
                go_wp2_with fail
                go_roundw
                case rel => exact ⟨j + 2, _, by omega, by omega, by go_num, Lib.hid (hfn.out.trans HF1.out), rfl⟩
                case measure => simp [intOf]; omega
              · rw [hcr] at HF1
                have HFN := Lib.hid (hfn.out.trans HF1.out)
                clear hfn HF1
                simp only [Bool.not_true]
                go_upto_region 12 with (first | (refine wpList_far rfl rfl (by first | exact .inl rfl | exact .inr (.inl rfl) | exact .inr (.inr (.inl rfl)) | exact .inr (.inr (.inr rfl))) rfl rfl (by first | assumption | exact isF_ofInt _ _ | exact IsF.lit (by decide +kernel)) (by first | assumption | exact isF_ofInt _ _ | exact IsF.lit (by decide +kernel)) ?_; intro r n hr) | (refine wpList_fcmp rfl rfl (by first | exact .inl rfl | exact .inr (.inl rfl) | exact .inr (.inr (.inl rfl)) | exact .inr (.inr (.inr (.inl rfl))) | exact .inr (.inr (.inr (.inr (.inl rfl)))) | exact .inr (.inr (.inr (.inr (.inr rfl))))) rfl rfl (by first | assumption | exact isF_ofInt _ _ | exact IsF.lit (by decide +kernel)) (by first | assumption | exact isF_ofInt _ _ | exact IsF.lit (by decide +kernel)) (by first | assumption | exact rfl) ?_) | (first | (refine wpList_fsame rfl rfl rfl (congrArg Option.isSome Try.underlying26) Try.underlying26 ?_) | (refine wpList_fsame rfl rfl rfl (congrArg Option.isSome Try.underlying32) Try.underlying32 ?_)) | (refine wpList_fwid rfl rfl rfl (congrArg Option.isSome Try.underlying26) Try.underlying32 (by assumption) ?_; intro r n hr) | (refine wpList_fnar rfl rfl rfl (congrArg Option.isSome Try.underlying32) Try.underlying26 (by assumption) (by assumption) ?_; intro r n hr) | (refine wpList_fneg rfl rfl rfl (by assumption) ?_; intro r hr))
                refine Rq.region (fun _ v => ∃ r, v = .tuple #[.float .f32 r, .bool (finF (placeV R t (j + 1)))] ∧ IsF .f32 r (chkF (placeV R t (j + 1)))) (by kernel_rfl) (by kernel_rfl) ?_
                repeat (first | (refine Rq.far rfl rfl (by first | exact .inl rfl | exact .inr (.inl rfl) | exact .inr (.inr (.inl rfl)) | exact .inr (.inr (.inr rfl))) rfl rfl (by first | assumption | exact isF_ofInt _ _ | exact IsF.lit (by decide +kernel)) (by first | assumption | exact isF_ofInt _ _ | exact IsF.lit (by decide +kernel)) ?_; intro r hr; simp only [Act.put, List.setIfInBounds_toArray, List.set_cons_succ, List.set_cons_zero]) | (refine Rq.fcmp rfl rfl (by first | exact .inl rfl | exact .inr (.inl rfl) | exact .inr (.inr (.inl rfl)) | exact .inr (.inr (.inr (.inl rfl))) | exact .inr (.inr (.inr (.inr (.inl rfl)))) | exact .inr (.inr (.inr (.inr (.inr rfl))))) rfl rfl (by first | assumption | exact isF_ofInt _ _ | exact IsF.lit (by decide +kernel)) (by first | assumption | exact isF_ofInt _ _ | exact IsF.lit (by decide +kernel)) (by first | assumption | exact rfl) ?_; simp only [Act.put, List.setIfInBounds_toArray, List.set_cons_succ, List.set_cons_zero]) | (refine Rq.quiet rfl rfl (fun K hK => ?_); go_big_quiet_op; refine hK _ ?_; clear hK K))
                rw [← HPV.out] at hr
                refine Rq.call (f := 35) (args := #[.float .f32 r]) rfl (by obtain ⟨r', h'⟩ := chk_ex hr; exact ⟨_, r', rfl, h'⟩) (fun w => by go_simp) ?_ ?_
                · rintro w' ⟨n, rfl⟩
                  refine (checked_any _ _ hr _).mono ?_
                  rintro e w1 ⟨r1, n1, rfl, hr1, rfl⟩
                  exact ⟨_, rfl, ⟨_, rfl, hr1⟩, _, by rw [World.drewN_drewN]⟩
                · rintro v ⟨r1, rfl, hr1⟩
                  (simp only [Act.put, List.setIfInBounds_toArray, List.set_cons_succ, List.set_cons_zero])
                  repeat (first | (refine Rq.far rfl rfl (by first | exact .inl rfl | exact .inr (.inl rfl) | exact .inr (.inr (.inl rfl)) | exact .inr (.inr (.inr rfl))) rfl rfl (by first | assumption | exact isF_ofInt _ _ | exact IsF.lit (by decide +kernel)) (by first | assumption | exact isF_ofInt _ _ | exact IsF.lit (by decide +kernel)) ?_; intro r hr; simp only [Act.put, List.setIfInBounds_toArray, List.set_cons_succ, List.set_cons_zero]) | (refine Rq.fcmp rfl rfl (by first | exact .inl rfl | exact .inr (.inl rfl) | exact .inr (.inr (.inl rfl)) | exact .inr (.inr (.inr (.inl rfl))) | exact .inr (.inr (.inr (.inr (.inl rfl)))) | exact .inr (.inr (.inr (.inr (.inr rfl))))) rfl rfl (by first | assumption | exact isF_ofInt _ _ | exact IsF.lit (by decide +kernel)) (by first | assumption | exact isF_ofInt _ _ | exact IsF.lit (by decide +kernel)) (by first | assumption | exact rfl) ?_; simp only [Act.put, List.setIfInBounds_toArray, List.set_cons_succ, List.set_cons_zero]) | (refine Rq.quiet rfl rfl (fun K hK => ?_); go_big_quiet_op; refine hK _ ?_; clear hK K))
                  refine Rq.done ?_
                  intro nq
                  go_wp2_with fail
                  go_ret2
                  rw [HFN.out]
                  exact ⟨_, rfl, hr1, by first | exact B_drew D2 _ | exact below_drewN D2 _⟩
          · have hjn : j + 1 = R.a.length := by omega
            have HF0 := Lib.hid (show fnd (crossB R t) (R.a.length - (j + 1)) (j + 1) = none by rw [show R.a.length - (j + 1) = 0 by omega]; rfl)
            go_wp2_with fail
            go_ret2
            rw [hfn.out, HF0.out]
            exact ⟨_, rfl, isF_zero, by first | exact B_drew D2 _ | exact below_drewN D2 _⟩
end Go.Proofs.Ytndfpgcaooldkaa
