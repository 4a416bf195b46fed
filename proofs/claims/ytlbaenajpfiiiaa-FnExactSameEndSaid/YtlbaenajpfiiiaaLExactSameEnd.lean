/-
  The program's SameEnd returns what the reference's returns, for every argument. No condition.
-/
import Derived.Test.YtlbaenajpfiiiaaRows
import Derived.Test.YtlbaenajpfiiiaaPost
import Derived.Test.YtlbaenajpfiiiaaEnd
namespace Go.Proofs.Ytlbaenajpfiiiaa
set_option linter.unusedVariables false
set_option linter.unusedSimpArgs false
open Go.ChangeShapes Go.WideShapes Go.ChangeAt Go.RowKit Go.Joins Go.ChangeMaps Fl

set_option maxHeartbeats 2000000 in
theorem walk_FnExactSameEnd (k1 : Int) (wk1 : (Lit.int .i64 k1).wf = true) (a1 : Nat) (wa1 : (Lit.float .f32 a1).wf = true) (b1 : Nat) (wb1 : (Lit.float .f32 b1).wf = true)
    (k2 : Int) (wk2 : (Lit.int .i64 k2).wf = true) (a2 : Nat) (wa2 : (Lit.float .f32 a2).wf = true) (b2 : Nat) (wb2 : (Lit.float .f32 b2).wf = true) (w : World) :
    Calls Try.prog 5 #[.agg #[.int .i64 k1, .float .f32 a1, .float .f32 b1], .agg #[.int .i64 k2, .float .f32 a2, .float .f32 b2]] w fun e w' => e = .returned (.bool true) ∧ Below w.heap.size w w' := by
  have ha1 : IsF .f32 a1 (cl .f32 a1) := IsF.of (lt_of_wf wa1)
  have hb1 : IsF .f32 b1 (cl .f32 b1) := IsF.of (lt_of_wf wb1)
  have ha2 : IsF .f32 a2 (cl .f32 a2) := IsF.of (lt_of_wf wa2)
  have hb2 : IsF .f32 b2 (cl .f32 b2) := IsF.of (lt_of_wf wb2)
  generalize cl .f32 a1 = u1 at ha1
  generalize cl .f32 b1 = v1 at hb1
  generalize cl .f32 a2 = u2 at ha2
  generalize cl .f32 b2 = v2 at hb2
  clear wk1 wa1 wb1 wk2 wa2 wb2
  generalize hs : sameEndB k1 u1 v1 k2 u2 v2 = sb
  have HS := Lib.hid hs
  clear hs
  go_enter Try.func5, Try.ntmps5
  go_upto_region 1 with (fail)
  generalize hW : (w.alloc (Obj.cells #[Value.int IntKind.i64 k1, Value.float FloatKind.f32 a1, Value.float FloatKind.f32 b1] 31)).alloc (Obj.cells #[Value.int IntKind.i64 k2, Value.float FloatKind.f32 a2, Value.float FloatKind.f32 b2] 31) = W
  have hS : (fun wx => (wx.cell? ⟨w.heap.size, 0, none⟩ = some (.int .i64 k1) ∧ wx.cell? ⟨w.heap.size, 1, none⟩ = some (.float .f32 a1) ∧ wx.cell? ⟨w.heap.size, 2, none⟩ = some (.float .f32 b1)) ∧
      (wx.cell? ⟨w.heap.size + 1, 0, none⟩ = some (.int .i64 k2) ∧ wx.cell? ⟨w.heap.size + 1, 1, none⟩ = some (.float .f32 a2) ∧ wx.cell? ⟨w.heap.size + 1, 2, none⟩ = some (.float .f32 b2)) ∧ w.heap.size < wx.heap.size ∧ w.heap.size + 1 < wx.heap.size ∧ Below w.heap.size w wx) W := by
    subst hW
    refine ⟨⟨by simp, by simp, by simp⟩, ⟨by simp, by simp, by simp⟩, by simp; omega, by simp, ((Below.refl _ _).alloc (Nat.le_refl _) _).alloc (by simp) _⟩
  clear hW
  go_cut [5] (fun s5 wx => s5 = .bool sb ∧ (fun wx => (wx.cell? ⟨w.heap.size, 0, none⟩ = some (.int .i64 k1) ∧ wx.cell? ⟨w.heap.size, 1, none⟩ = some (.float .f32 a1) ∧ wx.cell? ⟨w.heap.size, 2, none⟩ = some (.float .f32 b1)) ∧
      (wx.cell? ⟨w.heap.size + 1, 0, none⟩ = some (.int .i64 k2) ∧ wx.cell? ⟨w.heap.size + 1, 1, none⟩ = some (.float .f32 a2) ∧ wx.cell? ⟨w.heap.size + 1, 2, none⟩ = some (.float .f32 b2)) ∧ w.heap.size < wx.heap.size ∧ w.heap.size + 1 < wx.heap.size ∧ Below w.heap.size w wx) wx)
  case first =>
    obtain ⟨⟨c1, c2, c3⟩, ⟨c4, c5, c6⟩, z1, z2, B0⟩ := hS
    go_region_held3 (fun wx => (wx.cell? ⟨w.heap.size, 0, none⟩ = some (.int .i64 k1) ∧ wx.cell? ⟨w.heap.size, 1, none⟩ = some (.float .f32 a1) ∧ wx.cell? ⟨w.heap.size, 2, none⟩ = some (.float .f32 b1)) ∧
      (wx.cell? ⟨w.heap.size + 1, 0, none⟩ = some (.int .i64 k2) ∧ wx.cell? ⟨w.heap.size + 1, 1, none⟩ = some (.float .f32 a2) ∧ wx.cell? ⟨w.heap.size + 1, 2, none⟩ = some (.float .f32 b2)) ∧ w.heap.size < wx.heap.size ∧ w.heap.size + 1 < wx.heap.size ∧ Below w.heap.size w wx) ((go_split_ands; (repeat' apply And.intro) <;> first | assumption | omega | (rw [hc _ _ (by first | assumption | omega)]; assumption) | (simp [*]; done) | (simp at *; omega) | exact Below.drew (by assumption) | exact B_trans (by assumption) (by assumption)))
      (first | (go_at_call 15; refine (toEnd_below _ _ _ _).mono ?_; rintro e w' ⟨rfl, hb⟩; obtain ⟨hc, hf⟩ := bcell hb; have hz := hb.size) | (go_at_call 14; refine (sSameEnd_below _ _ _ _ _ _ _ _ _ _ ha1 hb1 ha2 hb2 _).mono ?_; rintro e w' ⟨rfl, hb⟩; rw [HS.out]; obtain ⟨hc, hf⟩ := bcell hb; have hz := hb.size))
    all_goals (go_wp2_with fail)
    all_goals go_meet
    all_goals go_split_ands
    all_goals exact ⟨rfl, ⟨by assumption, by assumption, by assumption⟩, ⟨by assumption, by assumption, by assumption⟩, by assumption, by assumption, by assumption⟩
  case rest =>
    obtain ⟨rfl, hS⟩ := hcut
    obtain ⟨⟨c1, c2, c3⟩, ⟨c4, c5, c6⟩, z1, z2, B0⟩ := hS
    go_upto_region 2 with (fail)
    go_cut [6] (fun s6 wx => s6 = .bool sb ∧ Below w.heap.size w wx)
    case first =>
      go_region_held3 (fun wx => (wx.cell? ⟨w.heap.size, 0, none⟩ = some (.int .i64 k1) ∧ wx.cell? ⟨w.heap.size, 1, none⟩ = some (.float .f32 a1) ∧ wx.cell? ⟨w.heap.size, 2, none⟩ = some (.float .f32 b1)) ∧
        (wx.cell? ⟨w.heap.size + 1, 0, none⟩ = some (.int .i64 k2) ∧ wx.cell? ⟨w.heap.size + 1, 1, none⟩ = some (.float .f32 a2) ∧ wx.cell? ⟨w.heap.size + 1, 2, none⟩ = some (.float .f32 b2)) ∧ w.heap.size < wx.heap.size ∧ w.heap.size + 1 < wx.heap.size ∧ Below w.heap.size w wx) ((go_split_ands; (repeat' apply And.intro) <;> first | assumption | omega | (rw [hc _ _ (by first | assumption | omega)]; assumption) | (simp [*]; done) | (simp at *; omega) | exact Below.drew (by assumption) | exact B_trans (by assumption) (by assumption)))
        (first | (go_at_call 15; refine (toEnd_below _ _ _ _).mono ?_; rintro e w' ⟨rfl, hb⟩; obtain ⟨hc, hf⟩ := bcell hb; have hz := hb.size) | (go_at_call 16; refine (iSameEnd_below _ _ _ _ _ _ _ _ _ _ ha1 hb1 ha2 hb2 _).mono ?_; rintro e w' ⟨rfl, hb⟩; rw [HS.out]; obtain ⟨hc, hf⟩ := bcell hb; have hz := hb.size))
      all_goals (go_wp2_with fail)
      all_goals go_meet
      all_goals go_split_ands
      all_goals exact ⟨rfl, by assumption⟩
    case rest =>
      obtain ⟨rfl, B1⟩ := hcut
      go_wp2_with fail
      go_ret
      exact ⟨rfl, B1⟩
theorem laidOut_FnExactSameEnd : laidOutB Try.prog = true := by kernel_rfl
theorem contract_FnExactSameEnd (H : Type) (enc : TypeId × Value → H) (W : World) (base : Nat) (args : Array Value) (ds gs : List (DataW H)) (before : List MemPlace)
    (hval : ∀ (j : Nat) t v, Try.f5.params[j]? = some t → args[j]? = some v → Value.okWide Try.prog W .any base t v)
    (hW : DataW.Whole enc Try.prog Try.f5.params.toList Rows.fnExactSameEndSpec.vars false W args.toList ds gs before) :
    Calls Try.prog 5 args W fun e W' => ∃ v, e = .returned v ∧ Rows.fnExactSameEndSpec.post enc Try.prog Try.f5 false true false false W args v W' := by
  have hW' := hW
  obtain ⟨p, q, hA0, hV, rfl, hfz, hnd⟩ := hW
  have hA : DataW.TrodAll enc Try.prog W 0 (fun _ => true) true Try.f5.params.toList args.toList ds p := hA0
  rw [Try.params5] at hA hval
  obtain ⟨v0, vs0, d0, ds0, p0, q0, hargs, rfl, rfl, h0, r0⟩ := trodAll_cons hA
  obtain ⟨v1, vs1, d1, ds1, p1, q1, rfl, rfl, rfl, h1, r1⟩ := trodAll_cons r0
  obtain ⟨rfl, rfl, rfl⟩ := trodAll_nil r1
  obtain rfl : args = #[v0, v1] := by cases args; simp_all
  obtain ⟨rfl, rfl⟩ := trodVars_none hV
  have hlt0 : ∀ x ∈ p0, x.block < W.heap.size := fun x hx => hW'.lt x (by simp [hx])
  have hk0 := h0
  obtain ⟨x0a, x0b, x0c, y0a, y0b, y0c, n0, rfl, rfl, rfl, t0a, t0b, t0c⟩ := open_agg3 Try.underlying31 (by kernel_rfl) (by kernel_rfl) (hval 0 31 v0 rfl rfl) h0
  obtain ⟨e0a, c0a, _, w0a⟩ := DataW.trod_int Try.underlying2 t0a
  obtain ⟨e0b, c0b, _, w0b⟩ := trod_float Try.underlying22 t0b
  obtain ⟨e0c, c0c, _, w0c⟩ := trod_float Try.underlying22 t0c
  obtain rfl := List.singleton_inj.1 c0a
  obtain rfl := List.singleton_inj.1 c0b
  obtain rfl := List.singleton_inj.1 c0c
  have hlt1 : ∀ x ∈ p1, x.block < W.heap.size := fun x hx => hW'.lt x (by simp [hx])
  have hk1 := h1
  obtain ⟨x1a, x1b, x1c, y1a, y1b, y1c, n1, rfl, rfl, rfl, t1a, t1b, t1c⟩ := open_agg3 Try.underlying31 (by kernel_rfl) (by kernel_rfl) (hval 1 31 v1 rfl rfl) h1
  obtain ⟨e1a, c1a, _, w1a⟩ := DataW.trod_int Try.underlying2 t1a
  obtain ⟨e1b, c1b, _, w1b⟩ := trod_float Try.underlying22 t1b
  obtain ⟨e1c, c1c, _, w1c⟩ := trod_float Try.underlying22 t1c
  obtain rfl := List.singleton_inj.1 c1a
  obtain rfl := List.singleton_inj.1 c1b
  obtain rfl := List.singleton_inj.1 c1c
  clear hA0
  simp only [List.append_nil] at hW'
  refine (walk_FnExactSameEnd (w := W) e0a w0a e0b w0b e0c w0c e1a w1a e1b w1b e1c w1c).mono fun e W' ⟨he, hb⟩ => ?_
  subst he
  exact ⟨_, rfl, post_of_below (pa := (_ ++ (_ ++ []))) (pv := []) hW' (fun _ _ _ => (trodAll_cons_mk (shut_bool Try.underlying4 _) trodAll_mk0)) (fun sp hsp => (trodAll_cons_mk (trod_keep laidOut_FnExactSameEnd (by kernel_rfl) (of_decide_eq_true (by kernel_rfl)) hk0 hb hlt0 (fun x hx => hsp x (by simp_all))) (trodAll_cons_mk (trod_keep laidOut_FnExactSameEnd (by kernel_rfl) (of_decide_eq_true (by kernel_rfl)) hk1 hb hlt1 (fun x hx => hsp x (by simp_all))) trodAll_mk0))) (fun _ _ => rfl) (by simp) hb (ok_one (by kernel_rfl) rfl (okWide_bool_mk Try.underlying4 _))⟩

theorem own_FnExactSameEnd : ownKnob Try.prog.godebug = none := by kernel_rfl
set_option maxRecDepth 100000 in
theorem lifted_FnExactSameEnd (os : Os) (started : os.Started) (H : Type) (enc : TypeId × Value → H) :
    ReturnsInHanded {} Try.checked os 5 .any (Rows.fnExactSameEndSpec.pre6 enc Try.prog Try.f5 Rows.fnExactSameEndRow.domain false) (Rows.fnExactSameEndSpec.post enc Try.prog Try.f5 false true false false) := by
  refine returnsInHanded_of_change (C := Try.checked) own_FnExactSameEnd started (by kernel_rfl) Try.func5
    (ChangeSpec.witness6 (enc := enc) (C := Try.checked) false ⟨#[], #[.agg #[.int .i64 0, .float .f32 0, .float .f32 0], .agg #[.int .i64 0, .float .f32 0, .float .f32 0]], []⟩ 8 (by kernel_rfl) (by kernel_rfl) (by kernel_rfl) (by kernel_rfl)) ?_
  intro W base args ds gs before hval hW _ _
  exact contract_FnExactSameEnd H enc W base args ds gs before hval hW
theorem over_FnExactSameEnd : Rows.fnExactSameEndRow.holds Try.pinned (OpenSpec.ofChange Rows.fnExactSameEndSpec) :=
  OpenClaim.holds_of_wide 5 Try.f5 rfl rfl rfl rfl rfl rfl rfl ⟨rfl, rfl, rfl, rfl, rfl⟩ rfl rfl rfl rfl rfl (by kernel_rfl) Try.func5 (by kernel_rfl)
    (of_decide_eq_true (by kernel_rfl)) (by unfold Func.isWrapper; first | (rw [if_pos (by decide +kernel)]; kernel_rfl) | (rw [if_neg (by decide +kernel)]; exact ⟨rfl, rfl⟩))
    (fun os started H enc _ => lifted_FnExactSameEnd os started H enc)
theorem proved_FnExactSameEnd : Rows.FnExactSameEndSaid := over_FnExactSameEnd
#print axioms proved_FnExactSameEnd
end Go.Proofs.Ytlbaenajpfiiiaa
