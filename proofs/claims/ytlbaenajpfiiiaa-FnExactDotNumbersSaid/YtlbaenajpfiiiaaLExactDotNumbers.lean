/-
  The program's DotNumbers returns what the reference's returns, for every argument. No condition.
-/
import Derived.Test.YtlbaenajpfiiiaaRows
import Derived.Test.YtlbaenajpfiiiaaPost
import Derived.Test.YtlbaenajpfiiiaaDot
namespace Go.Proofs.Ytlbaenajpfiiiaa
set_option linter.unusedVariables false
set_option linter.unusedSimpArgs false
open Go.ChangeShapes Go.WideShapes Go.ChangeAt Go.RowKit Go.Joins Go.ChangeMaps Fl

set_option maxHeartbeats 1000000 in
theorem walk_FnExactDotNumbers (w : World) (v : Value) (bs : List Nat) (h : FSl .f32 w v bs) (u : Value) (cs : List Nat) (k : FSl .f32 w u cs) :
    Calls Try.prog 7 #[v, u] w fun e w' => e = .returned (.bool true) ∧ Below w.heap.size w w' := by
  have h' := h
  have k' := k
  obtain ⟨ao, cap, rfl, hm⟩ := h.len
  obtain ⟨ao2, cap2, rfl, hm2⟩ := k.len
  have HB := Lib.hid h.bits
  have KB := Lib.hid k.bits
  by_cases hl : bs.length ≤ 1048576
  · by_cases hl2 : cs.length ≤ 1048576
    · go_enter Try.func7, Try.ntmps7
      go_wp2_with fail
      refine (toFloat32S_any _ _ _ h' hl).mono ?_
      rintro e w1 ⟨rfl, hr1, hb1, hs1⟩
      have f1 := FSl_of_row hr1 hl HB.out
      have a1 := h'.below hb1
      have c1 := k'.below hb1
      go_wp2_with fail
      refine (toFloat32S_any _ _ _ c1 hl2).mono ?_
      rintro e w2 ⟨rfl, hr2, hb2, hs2⟩
      have f2 := FSl_of_row hr2 hl2 KB.out
      have f1' := f1.below hb2
      have a2 := a1.below hb2
      have c2 := c1.below hb2
      have B2 := B_trans hb1 hb2
      go_wp2_with fail
      refine (sDotNumbers_any _ _ _ _ _ f1' f2).mono ?_
      rintro e w3 ⟨r1, n1, rfl, q1, rfl⟩
      clear f1 f2 f1' hr1 hr2
      go_wp2_with fail
      refine (toFloat32S_any _ _ _ (a2.drewN _) hl).mono ?_
      rintro e w4 ⟨rfl, hr4, hb4, hs4⟩
      have f4 := FSl_of_row hr4 hl HB.out
      have a4 := (a2.drewN n1).below hb4
      have c4 := (c2.drewN n1).below hb4
      have B4 := B_trans (B_drew B2 n1) hb4
      go_wp2_with fail
      refine (toFloat32S_any _ _ _ c4 hl2).mono ?_
      rintro e w5 ⟨rfl, hr5, hb5, hs5⟩
      have f5 := FSl_of_row hr5 hl2 KB.out
      have f4' := f4.below hb5
      have a5 := a4.below hb5
      have c5 := c4.below hb5
      have B5 := B_trans B4 hb5
      go_wp2_with fail
      refine (iDotNumbers_any _ _ _ _ _ f4' f5).mono ?_
      rintro e w6 ⟨r2, n2, rfl, q2, rfl⟩
      generalize dotV bs cs = sv at *
      clear a1 a2 a4 c1 c2 c4 f4 hr4 hr5 hb1 hb2 hb4 hb5 B2 B4
      go_wp2_with (first | (refine wpList_far rfl rfl (by first | exact .inl rfl | exact .inr (.inl rfl) | exact .inr (.inr (.inl rfl)) | exact .inr (.inr (.inr rfl))) rfl rfl (by first | assumption | exact isF_ofInt _ _ | exact IsF.lit (by decide +kernel)) (by first | assumption | exact isF_ofInt _ _ | exact IsF.lit (by decide +kernel)) ?_; intro r n hr) | (refine wpList_fcmp rfl rfl (by first | exact .inl rfl | exact .inr (.inl rfl) | exact .inr (.inr (.inl rfl)) | exact .inr (.inr (.inr (.inl rfl))) | exact .inr (.inr (.inr (.inr (.inl rfl)))) | exact .inr (.inr (.inr (.inr (.inr rfl))))) rfl rfl (by first | assumption | exact isF_ofInt _ _ | exact IsF.lit (by decide +kernel)) (by first | assumption | exact isF_ofInt _ _ | exact IsF.lit (by decide +kernel)) (by first | assumption | exact rfl) ?_) | (first | (refine wpList_fsame rfl rfl rfl (congrArg Option.isSome Try.underlying22) Try.underlying22 ?_) | (refine wpList_fsame rfl rfl rfl (congrArg Option.isSome Try.underlying26) Try.underlying26 ?_)) | (refine wpList_fwid rfl rfl rfl (congrArg Option.isSome Try.underlying22) Try.underlying26 (by assumption) ?_; intro r n hr) | (refine wpList_fnar rfl rfl rfl (congrArg Option.isSome Try.underlying26) Try.underlying22 (by assumption) (by assumption) ?_; intro r n hr) | (refine wpList_fneg rfl rfl rfl (by assumption) ?_; intro r hr))
      refine (sameFloat_any _ _ _ (by assumption) (by assumption) _).mono ?_
      rintro e w7 ⟨n5, rfl, rfl⟩
      go_wp2_with fail
      refine (toFloat32S_any _ _ _ (a5.drewN _) hl).mono ?_
      rintro e w8 ⟨rfl, hr8, hb8, hs8⟩
      have f8 := FSl_of_row hr8 hl HB.out
      have f4' := (f4'.drewN _).below hb8
      have f5' := (f5.drewN _).below hb8
      have c8 := (c5.drewN _).below hb8
      have B8 := B_trans (B_drew B5 _) hb8
      go_wp2_with fail
      refine (eqFloat32S_any _ _ _ _ _ f4' f8 rfl (fun _ _ => rfl)).mono ?_
      rintro e w9 ⟨n9, rfl, rfl⟩
      go_wp2_with fail
      refine (toFloat32S_any _ _ _ (c8.drewN _) hl2).mono ?_
      rintro e w10 ⟨rfl, hr10, hb10, hs10⟩
      have f10 := FSl_of_row hr10 hl2 KB.out
      have f5'' := (f5'.drewN _).below hb10
      have B10 := B_trans (B_drew B8 _) hb10
      go_wp2_with fail
      refine (eqFloat32S_any _ _ _ _ _ f5'' f10 rfl (fun _ _ => rfl)).mono ?_
      rintro e w11 ⟨n11, rfl, rfl⟩
      go_wp2_with fail
      go_ret
      exact ⟨rfl, B_drew B10 _⟩
    · go_enter Try.func7, Try.ntmps7
      go_wp2_with fail
      go_ret
      exact ⟨rfl, Below.refl _ _⟩
  · go_enter Try.func7, Try.ntmps7
    go_wp2_with fail
    go_ret
    exact ⟨rfl, Below.refl _ _⟩
theorem laidOut_FnExactDotNumbers : laidOutB Try.prog = true := by kernel_rfl
theorem contract_FnExactDotNumbers (H : Type) (enc : TypeId × Value → H) (W : World) (base : Nat) (args : Array Value) (ds gs : List (DataW H)) (before : List MemPlace)
    (hval : ∀ (j : Nat) t v, Try.f7.params[j]? = some t → args[j]? = some v → Value.okWide Try.prog W .any base t v)
    (hW : DataW.Whole enc Try.prog Try.f7.params.toList Rows.fnExactDotNumbersSpec.vars false W args.toList ds gs before) :
    Calls Try.prog 7 args W fun e W' => ∃ v, e = .returned v ∧ Rows.fnExactDotNumbersSpec.post enc Try.prog Try.f7 false true false false W args v W' := by
  have hW' := hW
  obtain ⟨p, q, hA0, hV, rfl, hfz, hnd⟩ := hW
  have hA : DataW.TrodAll enc Try.prog W 0 (fun _ => true) true Try.f7.params.toList args.toList ds p := hA0
  rw [Try.params7] at hA hval
  obtain ⟨v0, vs0, d0, ds0, p0, q0, hargs, rfl, rfl, h0, r0⟩ := trodAll_cons hA
  obtain ⟨v1, vs1, d1, ds1, p1, q1, rfl, rfl, rfl, h1, r1⟩ := trodAll_cons r0
  obtain ⟨rfl, rfl, rfl⟩ := trodAll_nil r1
  obtain rfl : args = #[v0, v1] := by cases args; simp_all
  obtain ⟨rfl, rfl⟩ := trodVars_none hV
  have hlt0 : ∀ x ∈ p0, x.block < W.heap.size := fun x hx => hW'.lt x (by simp [hx])
  obtain ⟨sa0, sl0, sc0, rfl⟩ := okWide_slice Try.underlying36 (hval 0 36 v0 rfl rfl)
  obtain ⟨bs0, hs0⟩ : ∃ bs, FSl .f32 W (.slice sa0 sl0 sc0) bs := by
    obtain ⟨fuel, hf⟩ := h0
    exact open_floats Try.underlying36 Try.underlying22 (by kernel_rfl) hf
  have hlt1 : ∀ x ∈ p1, x.block < W.heap.size := fun x hx => hW'.lt x (by simp [hx])
  obtain ⟨sa1, sl1, sc1, rfl⟩ := okWide_slice Try.underlying36 (hval 1 36 v1 rfl rfl)
  obtain ⟨bs1, hs1⟩ : ∃ bs, FSl .f32 W (.slice sa1 sl1 sc1) bs := by
    obtain ⟨fuel, hf⟩ := h1
    exact open_floats Try.underlying36 Try.underlying22 (by kernel_rfl) hf
  clear hA0
  simp only [List.append_nil] at hW'
  refine (walk_FnExactDotNumbers (w := W) _ bs0 hs0 _ bs1 hs1).mono fun e W' ⟨he, hb⟩ => ?_
  subst he
  exact ⟨_, rfl, post_of_below (pa := (p0 ++ (p1 ++ []))) (pv := []) hW' (fun _ _ _ => (trodAll_cons_mk (shut_bool Try.underlying4 _) trodAll_mk0)) (fun sp hsp => (trodAll_cons_mk (trod_keep laidOut_FnExactDotNumbers (by kernel_rfl) (of_decide_eq_true (by kernel_rfl)) h0 hb hlt0 (fun x hx => hsp x (by simp [hx]))) (trodAll_cons_mk (trod_keep laidOut_FnExactDotNumbers (by kernel_rfl) (of_decide_eq_true (by kernel_rfl)) h1 hb hlt1 (fun x hx => hsp x (by simp [hx]))) trodAll_mk0))) (fun _ _ => rfl) (by simp) hb (ok_one (by kernel_rfl) rfl (okWide_bool_mk Try.underlying4 _))⟩

theorem own_FnExactDotNumbers : ownKnob Try.prog.godebug = none := by kernel_rfl
set_option maxRecDepth 100000 in
theorem lifted_FnExactDotNumbers (os : Os) (started : os.Started) (H : Type) (enc : TypeId × Value → H) :
    ReturnsInHanded {} Try.checked os 7 .any (Rows.fnExactDotNumbersSpec.pre6 enc Try.prog Try.f7 Rows.fnExactDotNumbersRow.domain false) (Rows.fnExactDotNumbersSpec.post enc Try.prog Try.f7 false true false false) := by
  refine returnsInHanded_of_change (C := Try.checked) own_FnExactDotNumbers started (by kernel_rfl) Try.func7
    (ChangeSpec.witness6 (enc := enc) (C := Try.checked) false ⟨#[], #[.slice none 0 0, .slice none 0 0], []⟩ 8 (by kernel_rfl) (by kernel_rfl) (by kernel_rfl) (by kernel_rfl)) ?_
  intro W base args ds gs before hval hW _ _
  exact contract_FnExactDotNumbers H enc W base args ds gs before hval hW
theorem over_FnExactDotNumbers : Rows.fnExactDotNumbersRow.holds Try.pinned (OpenSpec.ofChange Rows.fnExactDotNumbersSpec) :=
  OpenClaim.holds_of_wide 7 Try.f7 rfl rfl rfl rfl rfl rfl rfl ⟨rfl, rfl, rfl, rfl, rfl⟩ rfl rfl rfl rfl rfl (by kernel_rfl) Try.func7 (by kernel_rfl)
    (of_decide_eq_true (by kernel_rfl)) (by unfold Func.isWrapper; first | (rw [if_pos (by decide +kernel)]; kernel_rfl) | (rw [if_neg (by decide +kernel)]; exact ⟨rfl, rfl⟩))
    (fun os started H enc _ => lifted_FnExactDotNumbers os started H enc)
theorem proved_FnExactDotNumbers : Rows.FnExactDotNumbersSaid := over_FnExactDotNumbers
#print axioms proved_FnExactDotNumbers
end Go.Proofs.Ytlbaenajpfiiiaa
