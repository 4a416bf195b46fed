/-
  Powers and logarithms lead to one another, nearly, and products are powers of sums, nearly. No condition.
-/
import Derived.Test.YtgaecoekhcdaeaaRows
import Derived.Test.YtgaecoekhcdaeaaPost
import Derived.Test.YtgaecoekhcdaeaaPow
namespace Go.Proofs.Ytgaecoekhcdaeaa
set_option linter.unusedVariables false
set_option linter.unusedSimpArgs false
open Go.ChangeShapes Go.WideShapes Go.ChangeAt Go.RowKit Go.Joins Go.ChangeMaps Fl

theorem pow_facts (n m : Nat) (hn : n < 65) (hm : m < 65) :
    cmpF .lss .f64 (gapV (wid (logN (some (eB (n + 32))))) (wid (some (sB (n + 32))))) (some 4562254508917369340) = true ∧
    cmpF .lss .f64 (gapV (ar .mul .f64 (wid (some (eB (n + 32)))) (wid (some (eB (m + 32))))) (wid (some (eB (n + m))))) (ar .mul .f64 (some 4562254508917369340) (wid (some (eB (n + m))))) = true ∧
    cmpF .gtr .f32 (some (eB (n + 32))) (some 0) = true ∧
    ar .quo .f32 (ofInt .f32 ((n : Int) - 32)) (some 1090519040) = some (sB (n + 32)) ∧ ar .quo .f32 (ofInt .f32 ((m : Int) - 32)) (some 1090519040) = some (sB (m + 32)) := by
  have hq : ∀ k : Nat, k < 65 → ar .quo .f32 (ofInt .f32 ((k : Int) - 32)) (some 1090519040) = some (sB (k + 32)) := by
    intro k hk
    have h := sT (k + 32) (by omega)
    unfold sV at h
    rw [show (((k + 32 : Nat) : Int) - 64) = (k : Int) - 32 by omega] at h
    exact h
  refine ⟨g1_all n hn, ?_, g3_all n hn, hq n hn, hq m hm⟩
  rw [wT (n + 32) (by omega), wT (m + 32) (by omega), wT (n + m) (by omega), cT (n + m) (by omega)]
  exact g2_all n hn m hm
set_option maxRecDepth 100000 in
set_option maxHeartbeats 8000000 in
theorem walk_FnPowers (v1 : Value) (n1 : Nat) (w : World) (b1 : BySl w v1 n1) (v2 : Value) (n2 : Nat) (b2 : BySl w v2 n2) :
    Calls Try.prog 4 #[v1, v2] w fun e w' => e = .returned (.bool true) ∧ Below w.heap.size w w' := by
  cases hq : decide (1048576 < n1 ∨ 1048576 < n2)
  · have HL := Lib.hid (b10Long_any v1 v2 n1 n2 w b1 b2 false hq)
    have A1 := Lib.hid (b10At_any v1 n1 0 (by decide) 65 (by decide) (by decide) w b1)
    have A2 := Lib.hid (fun m => b10At_any v2 n2 0 (by decide) 65 (by decide) (by decide) (w.drewN m) (b2.below (below_draws _ _)))
    have LG := Lib.hid (fun (k : Nat) (hk : k < 129) w' => iLogNumber_any (eB k) _ (isF_eB hk) w')
    have LO := Lib.hid (fun w' => iLogNumber_any 1065353216 _ isF_oneF w')
    clear hq b1 b2
    go_enter Try.func4, Try.ntmps4
    go_wp2_with fail
    refine HL.out.mono ?_
    rintro e w1 ⟨rfl, hw⟩
    obtain rfl := hw.symm
    go_wp2_with fail
    refine A1.out.mono ?_
    rintro e w1 ⟨r1, rfl, k1, k2, hw⟩
    obtain rfl := hw.symm
    obtain ⟨kx, rfl⟩ : ∃ kx : Nat, r1 = (kx : Int) := ⟨r1.toNat, by omega⟩
    have hn : kx < 65 := by omega
    go_upto_region 4 with (first | (refine wpList_far rfl rfl (by first | exact .inl rfl | exact .inr (.inl rfl) | exact .inr (.inr (.inl rfl)) | exact .inr (.inr (.inr rfl))) rfl rfl (by first | assumption | exact isF_ofInt _ _ | exact IsF.lit (by decide +kernel)) (by first | assumption | exact isF_ofInt _ _ | exact IsF.lit (by decide +kernel)) ?_; intro r n hr) | (refine wpList_fcmp rfl rfl (by first | exact .inl rfl | exact .inr (.inl rfl) | exact .inr (.inr (.inl rfl)) | exact .inr (.inr (.inr (.inl rfl))) | exact .inr (.inr (.inr (.inr (.inl rfl)))) | exact .inr (.inr (.inr (.inr (.inr rfl))))) rfl rfl (by first | assumption | exact isF_ofInt _ _ | exact IsF.lit (by decide +kernel)) (by first | assumption | exact isF_ofInt _ _ | exact IsF.lit (by decide +kernel)) (by first | assumption | exact rfl) ?_) | (first | (refine wpList_fsame rfl rfl rfl (congrArg Option.isSome Try.underlying34) Try.underlying34 ?_) | (refine wpList_fsame rfl rfl rfl (congrArg Option.isSome Try.underlying39) Try.underlying39 ?_)) | (refine wpList_fwid rfl rfl rfl (congrArg Option.isSome Try.underlying34) Try.underlying39 (by assumption) ?_; intro r n hr) | (refine wpList_fnar rfl rfl rfl (congrArg Option.isSome Try.underlying39) Try.underlying34 (by assumption) (by assumption) ?_; intro r n hr) | (refine wpList_fneg rfl rfl rfl (by assumption) ?_; intro r hr))
    have Hn := Lib.hid (show ar .quo .f32 (ofInt .f32 ((kx : Int) - 32)) (some 1090519040) = some (sB (kx + 32)) from (pow_facts kx 0 hn (by omega)).2.2.2.1)
    have i1 := isF_at (by assumption) Hn.out
    obtain rfl := i1.num.1
    go_wp2_with fail
    refine (A2.out _).mono ?_
    rintro e w1 ⟨r2, rfl, k3, k4, hw⟩
    obtain rfl := hw.symm
    obtain ⟨ky, rfl⟩ : ∃ ky : Nat, r2 = (ky : Int) := ⟨r2.toNat, by omega⟩
    have hm : ky < 65 := by omega
    go_upto_region 5 with (first | (refine wpList_far rfl rfl (by first | exact .inl rfl | exact .inr (.inl rfl) | exact .inr (.inr (.inl rfl)) | exact .inr (.inr (.inr rfl))) rfl rfl (by first | assumption | exact isF_ofInt _ _ | exact IsF.lit (by decide +kernel)) (by first | assumption | exact isF_ofInt _ _ | exact IsF.lit (by decide +kernel)) ?_; intro r n hr) | (refine wpList_fcmp rfl rfl (by first | exact .inl rfl | exact .inr (.inl rfl) | exact .inr (.inr (.inl rfl)) | exact .inr (.inr (.inr (.inl rfl))) | exact .inr (.inr (.inr (.inr (.inl rfl)))) | exact .inr (.inr (.inr (.inr (.inr rfl))))) rfl rfl (by first | assumption | exact isF_ofInt _ _ | exact IsF.lit (by decide +kernel)) (by first | assumption | exact isF_ofInt _ _ | exact IsF.lit (by decide +kernel)) (by first | assumption | exact rfl) ?_) | (first | (refine wpList_fsame rfl rfl rfl (congrArg Option.isSome Try.underlying34) Try.underlying34 ?_) | (refine wpList_fsame rfl rfl rfl (congrArg Option.isSome Try.underlying39) Try.underlying39 ?_)) | (refine wpList_fwid rfl rfl rfl (congrArg Option.isSome Try.underlying34) Try.underlying39 (by assumption) ?_; intro r n hr) | (refine wpList_fnar rfl rfl rfl (congrArg Option.isSome Try.underlying39) Try.underlying34 (by assumption) (by assumption) ?_; intro r n hr) | (refine wpList_fneg rfl rfl rfl (by assumption) ?_; intro r hr))
    have Hm := Lib.hid (show ar .quo .f32 (ofInt .f32 ((ky : Int) - 32)) (some 1090519040) = some (sB (ky + 32)) from (pow_facts 0 ky (by omega) hm).2.2.2.2)
    have i2 := isF_at (by assumption) Hm.out
    obtain rfl := i2.num.1
    obtain ⟨f1, f2, f3, _, _⟩ := pow_facts kx ky hn hm
    have f4 : cmpF .eql .f32 (some 1065353216) (some 1065353216) = true := by decide +kernel
    have f5 : cmpF .eql .f32 (logN (some 1065353216)) (some 0) = true := by rw [log_one]; decide +kernel
    have Hs := Lib.hid (s_add kx hn ky hm)
    have E1 := Lib.hid (fun w' => exp_at (kx + 32) (by omega) w')
    have E2 := Lib.hid (fun w' => exp_at (ky + 32) (by omega) w')
    have E3 := Lib.hid (fun w' => exp_at (kx + ky) (by omega) w')
    have L1 := Lib.hid (fun w' => LG.out (kx + 32) (by omega) w')
    have j1 := isF_eB (k := kx + 32) (by omega)
    have j2 := isF_eB (k := ky + 32) (by omega)
    have j3 := isF_eB (k := kx + ky) (by omega)
    have jo := isF_oneF
    clear LG Hn Hm k1 k2 k3 k4 HL A1 A2 hn hm
    generalize sB (kx + 32) = xs at *
    generalize sB (ky + 32) = ys at *
    generalize sB (kx + ky) = zs at *
    generalize eB (kx + 32) = xe at *
    generalize eB (ky + 32) = ye at *
    generalize eB (kx + ky) = ze at *
    go_wp2_with fail
    refine (E1.out _).mono ?_
    rintro e w1 ⟨q1, rfl, rfl⟩
    go_wp2_with fail
    refine (E2.out _).mono ?_
    rintro e w1 ⟨q2, rfl, rfl⟩
    go_wp2_with (first | (refine wpList_far rfl rfl (by first | exact .inl rfl | exact .inr (.inl rfl) | exact .inr (.inr (.inl rfl)) | exact .inr (.inr (.inr rfl))) rfl rfl (by first | assumption | exact isF_ofInt _ _ | exact IsF.lit (by decide +kernel)) (by first | assumption | exact isF_ofInt _ _ | exact IsF.lit (by decide +kernel)) ?_; intro r n hr) | (refine wpList_fcmp rfl rfl (by first | exact .inl rfl | exact .inr (.inl rfl) | exact .inr (.inr (.inl rfl)) | exact .inr (.inr (.inr (.inl rfl))) | exact .inr (.inr (.inr (.inr (.inl rfl)))) | exact .inr (.inr (.inr (.inr (.inr rfl))))) rfl rfl (by first | assumption | exact isF_ofInt _ _ | exact IsF.lit (by decide +kernel)) (by first | assumption | exact isF_ofInt _ _ | exact IsF.lit (by decide +kernel)) (by first | assumption | exact rfl) ?_) | (first | (refine wpList_fsame rfl rfl rfl (congrArg Option.isSome Try.underlying34) Try.underlying34 ?_) | (refine wpList_fsame rfl rfl rfl (congrArg Option.isSome Try.underlying39) Try.underlying39 ?_)) | (refine wpList_fwid rfl rfl rfl (congrArg Option.isSome Try.underlying34) Try.underlying39 (by assumption) ?_; intro r n hr) | (refine wpList_fnar rfl rfl rfl (congrArg Option.isSome Try.underlying39) Try.underlying34 (by assumption) (by assumption) ?_; intro r n hr) | (refine wpList_fneg rfl rfl rfl (by assumption) ?_; intro r hr))
    have i3 := isF_at (by assumption) Hs.out
    obtain rfl := i3.num.1
    refine (E3.out _).mono ?_
    rintro e w1 ⟨q3, rfl, rfl⟩
    go_wp2_with (first | (refine wpList_far rfl rfl (by first | exact .inl rfl | exact .inr (.inl rfl) | exact .inr (.inr (.inl rfl)) | exact .inr (.inr (.inr rfl))) rfl rfl (by first | assumption | exact isF_ofInt _ _ | exact IsF.lit (by decide +kernel)) (by first | assumption | exact isF_ofInt _ _ | exact IsF.lit (by decide +kernel)) ?_; intro r n hr) | (refine wpList_fcmp rfl rfl (by first | exact .inl rfl | exact .inr (.inl rfl) | exact .inr (.inr (.inl rfl)) | exact .inr (.inr (.inr (.inl rfl))) | exact .inr (.inr (.inr (.inr (.inl rfl)))) | exact .inr (.inr (.inr (.inr (.inr rfl))))) rfl rfl (by first | assumption | exact isF_ofInt _ _ | exact IsF.lit (by decide +kernel)) (by first | assumption | exact isF_ofInt _ _ | exact IsF.lit (by decide +kernel)) (by first | assumption | exact rfl) ?_) | (first | (refine wpList_fsame rfl rfl rfl (congrArg Option.isSome Try.underlying34) Try.underlying34 ?_) | (refine wpList_fsame rfl rfl rfl (congrArg Option.isSome Try.underlying39) Try.underlying39 ?_)) | (refine wpList_fwid rfl rfl rfl (congrArg Option.isSome Try.underlying34) Try.underlying39 (by assumption) ?_; intro r n hr) | (refine wpList_fnar rfl rfl rfl (congrArg Option.isSome Try.underlying39) Try.underlying34 (by assumption) (by assumption) ?_; intro r n hr) | (refine wpList_fneg rfl rfl rfl (by assumption) ?_; intro r hr) | (go_at_call 19; (with_reducible refine (L1.out _).mono ?_); rintro e w' ⟨r, n9, rfl, hr, rfl⟩) | (go_at_call 19; refine (LO.out _).mono ?_; rintro e w' ⟨r, n9, rfl, hr, rfl⟩) | (go_at_call 17; refine (exp_zero _).mono ?_; rintro e w' ⟨n9, rfl, rfl⟩) | (go_at_call 18; refine (b10Gap_any _ _ _ _ (by assumption) (by assumption) _).mono ?_; rintro e w' ⟨r, n9, rfl, hr, rfl⟩))
    go_ret
    exact ⟨rfl, by (repeat' first | assumption | exact Below.refl _ _ | refine B_drew ?_ _ | refine Below.drew ?_ | refine Below.alloc ?_ (by first | exact Nat.le_refl _ | (simp; done) | (simp; omega)) _)⟩
  · have HL := Lib.hid (b10Long_any v1 v2 n1 n2 w b1 b2 true hq)
    clear hq b1 b2
    go_enter Try.func4, Try.ntmps4
    go_wp2_with fail
    refine HL.out.mono ?_
    rintro e w1 ⟨rfl, hw⟩
    obtain rfl := hw.symm
    go_wp2_with fail
    go_ret
    exact ⟨rfl, Below.refl _ _⟩
theorem laidOut_FnPowers : laidOutB Try.prog = true := by kernel_rfl
theorem contract_FnPowers (H : Type) (enc : TypeId × Value → H) (W : World) (base : Nat) (args : Array Value) (ds gs : List (DataW H)) (before : List MemPlace)
    (hval : ∀ (j : Nat) t v, Try.f4.params[j]? = some t → args[j]? = some v → Value.okWide Try.prog W .any base t v)
    (hW : DataW.Whole enc Try.prog Try.f4.params.toList Rows.fnPowersSpec.vars false W args.toList ds gs before) :
    Calls Try.prog 4 args W fun e W' => ∃ v, e = .returned v ∧ Rows.fnPowersSpec.post enc Try.prog Try.f4 false true false false W args v W' := by
  have hW' := hW
  obtain ⟨p, q, hA0, hV, rfl, hfz, hnd⟩ := hW
  have hA : DataW.TrodAll enc Try.prog W 0 (fun _ => true) true Try.f4.params.toList args.toList ds p := hA0
  rw [Try.params4] at hA hval
  obtain ⟨v0, vs0, d0, ds0, p0, q0, hargs, rfl, rfl, h0, r0⟩ := trodAll_cons hA
  obtain ⟨v1, vs1, d1, ds1, p1, q1, rfl, rfl, rfl, h1, r1⟩ := trodAll_cons r0
  obtain ⟨rfl, rfl, rfl⟩ := trodAll_nil r1
  obtain rfl : args = #[v0, v1] := by cases args; simp_all
  obtain ⟨rfl, rfl⟩ := trodVars_none hV
  have hlt0 : ∀ x ∈ p0, x.block < W.heap.size := fun x hx => hW'.lt x (by simp [hx])
  obtain ⟨sa0, sl0, sc0, rfl⟩ := okWide_slice Try.underlying22 (hval 0 22 v0 rfl rfl)
  obtain ⟨bn0, hs0⟩ : ∃ n, BySl W (.slice sa0 sl0 sc0) n := by
    obtain ⟨fuel, hf⟩ := h0
    exact open_bytes Try.underlying22 Try.underlying5 (by kernel_rfl) hf
  have hlt1 : ∀ x ∈ p1, x.block < W.heap.size := fun x hx => hW'.lt x (by simp [hx])
  obtain ⟨sa1, sl1, sc1, rfl⟩ := okWide_slice Try.underlying22 (hval 1 22 v1 rfl rfl)
  obtain ⟨bn1, hs1⟩ : ∃ n, BySl W (.slice sa1 sl1 sc1) n := by
    obtain ⟨fuel, hf⟩ := h1
    exact open_bytes Try.underlying22 Try.underlying5 (by kernel_rfl) hf
  clear hA0
  simp only [List.append_nil] at hW'
  refine (walk_FnPowers (w := W) _ bn0 hs0 _ bn1 hs1).mono fun e W' ⟨he, hb⟩ => ?_
  subst he
  exact ⟨_, rfl, post_of_below (pa := (p0 ++ (p1 ++ []))) (pv := []) hW' (fun _ _ _ => (trodAll_cons_mk (shut_bool Try.underlying4 _) trodAll_mk0)) (fun sp hsp => (trodAll_cons_mk (trod_keep laidOut_FnPowers (by kernel_rfl) (of_decide_eq_true (by kernel_rfl)) h0 hb hlt0 (fun x hx => hsp x (by simp [hx]))) (trodAll_cons_mk (trod_keep laidOut_FnPowers (by kernel_rfl) (of_decide_eq_true (by kernel_rfl)) h1 hb hlt1 (fun x hx => hsp x (by simp [hx]))) trodAll_mk0))) (fun _ _ => rfl) (by simp) hb (ok_one (by kernel_rfl) rfl (okWide_bool_mk Try.underlying4 _))⟩

theorem own_FnPowers : ownKnob Try.prog.godebug = none := by kernel_rfl
set_option maxRecDepth 100000 in
theorem lifted_FnPowers (os : Os) (started : os.Started) (H : Type) (enc : TypeId × Value → H) :
    ReturnsInHanded {} Try.checked os 4 .any (Rows.fnPowersSpec.pre6 enc Try.prog Try.f4 Rows.fnPowersRow.domain false) (Rows.fnPowersSpec.post enc Try.prog Try.f4 false true false false) := by
  refine returnsInHanded_of_change (C := Try.checked) own_FnPowers started (by kernel_rfl) Try.func4
    (ChangeSpec.witness6 (enc := enc) (C := Try.checked) false ⟨#[], #[.slice none 0 0, .slice none 0 0], []⟩ 8 (by kernel_rfl) (by kernel_rfl) (by kernel_rfl) (by kernel_rfl)) ?_
  intro W base args ds gs before hval hW _ _
  exact contract_FnPowers H enc W base args ds gs before hval hW
theorem over_FnPowers : Rows.fnPowersRow.holds Try.pinned (OpenSpec.ofChange Rows.fnPowersSpec) :=
  OpenClaim.holds_of_wide 4 Try.f4 rfl rfl rfl rfl rfl rfl rfl ⟨rfl, rfl, rfl, rfl, rfl⟩ rfl rfl rfl rfl rfl (by kernel_rfl) Try.func4 (by kernel_rfl)
    (of_decide_eq_true (by kernel_rfl)) (by unfold Func.isWrapper; first | (rw [if_pos (by decide +kernel)]; kernel_rfl) | (rw [if_neg (by decide +kernel)]; exact ⟨rfl, rfl⟩))
    (fun os started H enc _ => lifted_FnPowers os started H enc)
theorem proved_FnPowers : Rows.FnPowersSaid := over_FnPowers
#print axioms proved_FnPowers
end Go.Proofs.Ytgaecoekhcdaeaa
