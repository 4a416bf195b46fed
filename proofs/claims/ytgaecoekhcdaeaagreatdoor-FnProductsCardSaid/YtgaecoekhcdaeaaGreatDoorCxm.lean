/-
  What else FnProducts calls: compares, narrowing, finite numbers.
-/
import Derived.Test.YtgaecoekhcdaeaaGreatDoorCtxt
import Derived.Test.YtgaecoekhcdaeaaGreatDoorFpc
import Derived.Test.YtgaecoekhcdaeaaGreatDoorPos
namespace Go.Proofs.YtgaecoekhcdaeaaGreatDoor
set_option linter.unusedVariables false
set_option linter.unusedSimpArgs false
set_option maxRecDepth 20000
open Go.RowKit Fl

theorem cbits_same (v : Option Nat) : (bitsI v == bitsI v) = true := beq_self_eq_true _
theorem sCSame_any (a b c d : Nat) (u v : Option Nat) (ha : IsF .f32 a u) (hb : IsF .f32 b v) (hc : IsF .f32 c u) (hd : IsF .f32 d v) (w : World) :
    Calls Tryz.prog 81 #[.complex .f32 a b, .complex .f32 c d] w fun e w' => e = .returned (.bool true) ∧ w' = w := by
  have H1 := l01Same_any a c u u ha hc
  have H2 := l01Same_any b d v v hb hd
  rw [cbits_same] at H1 H2
  have H1 := Lib.hid H1
  have H2 := Lib.hid H2
  clear ha hb hc hd
  go_enter Tryz.func81, Tryz.ntmps81
  go_wp2_with fail
  refine (H1.out _).mono ?_
  rintro e w1 ⟨rfl, hw1⟩
  obtain rfl := hw1.symm
  clear hw1
  go_wp2_with fail
  refine (H2.out _).mono ?_
  rintro e w1 ⟨rfl, hw1⟩
  obtain rfl := hw1.symm
  go_wp2_with fail
  go_ret
  exact ⟨rfl, rfl⟩
theorem sSameComplex_any (a b c d : Nat) (u v : Option Nat) (ha : IsF .f32 a u) (hb : IsF .f32 b v) (hc : IsF .f32 c u) (hd : IsF .f32 d v) (w : World) :
    Calls Tryz.prog 58 #[.complex .f32 a b, .complex .f32 c d] w fun e w' => e = .returned (.bool true) ∧ w' = w := by
  have H1 := Lib.hid (sCSame_any a b c d u v ha hb hc hd w)
  clear ha hb hc hd
  go_enter Tryz.func58, Tryz.ntmps58
  go_wp2_with fail
  refine H1.out.mono ?_
  rintro e w1 ⟨rfl, hw1⟩
  obtain rfl := hw1.symm
  go_wp2_with fail
  go_ret
  exact ⟨rfl, rfl⟩
theorem iSameComplex_any (a b c d : Nat) (u v : Option Nat) (ha : IsF .f32 a u) (hb : IsF .f32 b v) (hc : IsF .f32 c u) (hd : IsF .f32 d v) (w : World) :
    Calls Tryz.prog 24 #[.complex .f32 a b, .complex .f32 c d] w (Ret w (.bool true)) := by
  have H1 := iSameNumber_any a c u u ha hc
  have H2 := iSameNumber_any b d v v hb hd
  rw [cbits_same] at H1 H2
  have H1 := Lib.hid H1
  have H2 := Lib.hid H2
  clear ha hb hc hd
  go_enter Tryz.func24, Tryz.ntmps24
  go_wp2_with fail
  refine (H1.out _).mono ?_
  rintro e w1 ⟨n, rfl, rfl⟩
  go_wp2_with fail
  refine (H2.out _).mono ?_
  rintro e w1 ⟨m, rfl, rfl⟩
  go_wp2_with fail
  go_ret
  exact ret_mk rfl
theorem narrowC_any (a b r s : Nat) (u v : Option Nat) (ha : IsF .f32 a u) (hb : IsF .f32 b v) (hr : IsF .f64 r (wid u)) (hs : IsF .f64 s (wid v)) (w : World) : Calls Tryz.prog 25 #[.complex .f64 r s] w (RCx w u v) := by
  have h1 := narOk_wid ha
  have h2 := narOk_wid hb
  have HN := Lib.hid (nar_wid ha)
  have HM := Lib.hid (nar_wid hb)
  clear ha hb
  go_enter Tryz.func25, Tryz.ntmps25
  go_wp2_with (first | (refine wpList_far rfl rfl (by first | exact .inl rfl | exact .inr (.inl rfl) | exact .inr (.inr (.inl rfl)) | exact .inr (.inr (.inr rfl))) rfl rfl (by first | assumption | exact isF_ofInt _ _ | exact IsF.lit (by decide +kernel)) (by first | assumption | exact isF_ofInt _ _ | exact IsF.lit (by decide +kernel)) ?_; intro r n hr) | (refine wpList_fcmp rfl rfl (by first | exact .inl rfl | exact .inr (.inl rfl) | exact .inr (.inr (.inl rfl)) | exact .inr (.inr (.inr (.inl rfl))) | exact .inr (.inr (.inr (.inr (.inl rfl)))) | exact .inr (.inr (.inr (.inr (.inr rfl))))) rfl rfl (by first | assumption | exact isF_ofInt _ _ | exact IsF.lit (by decide +kernel)) (by first | assumption | exact isF_ofInt _ _ | exact IsF.lit (by decide +kernel)) (by first | assumption | exact rfl) ?_) | (first | (refine wpList_fsame rfl rfl rfl (congrArg Option.isSome Tryz.underlying28) Tryz.underlying28 ?_) | (refine wpList_fsame rfl rfl rfl (congrArg Option.isSome Tryz.underlying46) Tryz.underlying46 ?_)) | (refine wpList_fwid rfl rfl rfl (congrArg Option.isSome Tryz.underlying28) Tryz.underlying46 (by assumption) ?_; intro r n hr) | (refine wpList_fnar rfl rfl rfl (congrArg Option.isSome Tryz.underlying46) Tryz.underlying28 (by assumption) (by assumption) ?_; intro r n hr) | (refine wpList_fneg rfl rfl rfl (by assumption) ?_; intro r hr))
  go_ret
  exact ⟨_, _, _, rfl, by rw [← HN.out]; assumption, by rw [← HM.out]; assumption, rfl⟩
theorem cany_fin2 {a b : Nat} {u v : Option Nat} (ha : IsF .f32 a u) (hb : IsF .f32 b v) : (!anyF (fun v => !finF v) [a, b]) = (finF u && finF v) := by
  unfold anyF
  simp only [List.any_cons, List.any_nil, ha.eq, hb.eq]
  cases finF u <;> cases finF v <;> rfl
theorem cfsl_lit (w : World) (a b : Nat) (T : TypeId) (ha : a < 4294967296) (hb : b < 4294967296) :
    FSl .f32 (w.alloc (.cells #[.float .f32 a, .float .f32 b] T)) (.slice (some ⟨w.heap.size, 0, none⟩) 2 2) [a, b] := by
  refine ⟨_, _, rfl, Nat.le_refl _, by unfold maxLen; simp, ?_, .inr ⟨_, 0, rfl, by simp, fun i hi => ?_⟩⟩
  · intro x hx
    simp at hx
    rcases hx with rfl | rfl
    · exact ha
    · exact hb
  · rw [Nat.zero_add, World.cell?_alloc_new]
    have : i = 0 ∨ i = 1 := by simp at hi; omega
    rcases this with rfl | rfl <;> rfl
theorem isFinC_any (a b : Nat) (u v : Option Nat) (ha : IsF .f32 a u) (hb : IsF .f32 b v) (w : World) : Calls Tryz.prog 26 #[.complex .f32 a b] w fun e w' => e = .returned (.bool (finF u && finF v)) ∧ Below w.heap.size w w' := by
  have HA := areFinite_any _ _ _ (cfsl_lit w a b 28 ha.2 hb.2)
  rw [cany_fin2 ha hb] at HA
  have HA := Lib.hid HA
  clear ha hb
  generalize (finF u && finF v) = q at *
  go_enter Tryz.func26, Tryz.ntmps26
  go_wp2_with fail
  refine HA.out.mono ?_
  rintro e w1 ⟨n, rfl, rfl⟩
  go_wp2_with fail
  go_ret
  exact ⟨rfl, below_drewN ((Below.refl _ _).alloc (Nat.le_refl _) _) _⟩
theorem neg_neg {b : Nat} {v : Option Nat} (h : IsF .f32 b v) : neg .f32 (neg .f32 v) = v := by
  cases v with
  | none => rfl
  | some x =>
    obtain ⟨rfl, _⟩ := h.num
    show some (Op.negFloat .f32 (Op.negFloat .f32 b)) = some b
    unfold Op.negFloat
    rw [Nat.xor_assoc, Nat.xor_self, Nat.xor_zero]
set_option maxHeartbeats 4000000 in
theorem b10Same_any (v1 v2 : Value) (l1 l2 : List (Nat × Nat)) (w : World) (h1 : CSl w v1 l1) (h2 : CSl w v2 l2) (hl : l1.length = l2.length) (hs : ∀ i, i < l2.length → cl .f32 (cg l1 i).1 = cl .f32 (cg l2 i).1 ∧ cl .f32 (cg l1 i).2 = cl .f32 (cg l2 i).2) :
    Calls Tryz.prog 23 #[v1, v2] w (Ret w (.bool true)) := by
  obtain ⟨ao1, cap1, rfl, a1, a2, a3, a4⟩ := h1
  obtain ⟨ao2, cap2, rfl, b1, b2, b3, b4⟩ := h2
  have hSC := fun i (hi : i < l2.length) w' => (sSameComplex_any (cg l1 i).1 (cg l1 i).2 (cg l2 i).1 (cg l2 i).2 (cl .f32 (cg l2 i).1) (cl .f32 (cg l2 i).2) (by rw [← (hs i hi).1]; exact IsF.of (show (cg l1 i).1 < 4294967296 from (a3 _ (cg_mem (by omega))).1)) (by rw [← (hs i hi).2]; exact IsF.of (show (cg l1 i).2 < 4294967296 from (a3 _ (cg_mem (by omega))).2)) (IsF.of (show (cg l2 i).1 < 4294967296 from (b3 _ (cg_mem hi)).1)) (IsF.of (show (cg l2 i).2 < 4294967296 from (b3 _ (cg_mem hi)).2)) w')
  have HSC := Lib.hid hSC
  have HL := Lib.hid hl
  have H4 := Lib.hid a4
  have H5 := Lib.hid b4
  unfold maxLen at b2
  rw [hl] at a1 ⊢
  clear hSC hl a3 b3 hs a4 b4 a2
  go_enter Tryz.func23, Tryz.ntmps23
  go_wp2_with fail
  go_loopw [13] (fun i wr => ∃ (j m : Nat), j ≤ l2.length ∧ i = .int .i64 j ∧ wr = w.drewN m) (fun i _ => l2.length - (intOf i).toNat)
  case atStart => exact ⟨0, 0, Nat.zero_le _, rfl, rfl⟩
  case round =>
    obtain ⟨j, m, hj, rfl, rfl⟩ := hrel
    by_cases hlt : j < l2.length
    · have h1 := H4.out
      have h2 := H5.out
      rcases h1 with h1 | ⟨x1, o1, rfl, _, hc1⟩
      · rw [h1] at HL; exact absurd hlt (by have := HL.out; simp at this; omega)
      rcases h2 with h2 | ⟨x2, o2, rfl, _, hc2⟩
      · subst h2; exact absurd hlt (Nat.not_lt_zero _)
      have s1 := hc1 j (by rw [HL.out]; exact hlt)
      have s2 := hc2 j hlt
      have HSe := Lib.hid (HSC.out j hlt)
      clear hc1 hc2 H4 H5 HSC
      generalize (cg l1 j).1 = p1 at *
      generalize (cg l1 j).2 = p2 at *
      generalize (cg l2 j).1 = q1 at *
      generalize (cg l2 j).2 = q2 at *
      go_wp2_with fail
      go_region_with (go_at_call 58; refine (HSe.out _).mono ?_; rintro e w' ⟨rfl, rfl⟩)
      all_goals go_wp2
      all_goals
        go_roundw
        case rel => exact ⟨j + 1, _, by omega, by go_num, rfl⟩
        case measure => simp [intOf]; omega
    · obtain rfl : j = l2.length := by omega
      go_wp2
      go_ret
      exact ret_mk rfl
end Go.Proofs.YtgaecoekhcdaeaaGreatDoor
