/-
  The program's NumbersText returns what the reference's returns, for every argument. The library's tables start as their text lays them (the card ties them). No other condition.
-/
import Derived.Test.YtcnnmcmaeeffiaaDoorRows
import Derived.Test.YtcnnmcmaeeffiaaDoorPost
import Derived.Test.YtcnnmcmaeeffiaaDoorCards
import Derived.Test.YtcnnmcmaeeffiaaDoorTie
import Derived.Test.YtcnnmcmaeeffiaaDoorNtxt
import Derived.Test.YtcnnmcmaeeffiaaDoorLaid
namespace Go.Proofs.YtcnnmcmaeeffiaaDoor
set_option linter.unusedVariables false
set_option linter.unusedSimpArgs false
open Go.ChangeShapes Go.WideShapes Go.ChangeAt Go.RowKit Go.Joins Go.ChangeMaps Fl

theorem tabD : (Rows.laid_math_bits_deBruijn64tab : DataW Unit) = Lib.tabData .u8 debTab := by kernel_rfl
/-- What the row's list gives: the table's cell. -/
theorem facts {W : World} (h : laidMetH Tryd.prog Rows.fnExactNumbersTextRow.laid W) (_ : W.ShapedOpen Tryd.prog) : Deb W := by
  have h2 : laidMet Tryd.prog Rows.fnExactNumbersTextRow.laid W := h
  obtain ⟨ps, ⟨g0, t0, cs0, f0, p0, q0, hg0, ht0, hv0, hd0, ⟨g1, t1, cs1, f1, p1, q1, hg1, ht1, hv1, hd1, _, _⟩, _⟩, _⟩ := h2
  obtain rfl := Option.some.inj (gDeb.symm.trans hg1)
  obtain rfl := Option.some.inj (gDebT.symm.trans ht1)
  rw [tabD] at hd1
  refine Deb.of ?_
  unfold Lib.TabIs
  rw [hv1, ← Lib.cells_of_tab Tryd.underlying120 Tryd.underlying5 (by kernel_rfl) (by kernel_rfl) hd1]
set_option maxHeartbeats 4000000 in
theorem walk_FnExactNumbersText (v : Value) (l : List Nat) {w : World} (h : FSl .f32 w v l) (ht : Deb w) :
    Calls Tryd.prog 3 #[v] w fun e w' => e = .returned (.bool true) ∧ Below w.heap.size w w' := by
  have hv : ∃ ao cap, v = .slice ao l.length cap := by obtain ⟨ao, cap, hv, _⟩ := h; exact ⟨ao, cap, hv⟩
  have hbd := h.bits
  by_cases hbl : l.length ≤ 1048576
  · have hT : ∀ w', Below w.heap.size w w' → Calls Tryd.prog 7 #[v] w' fun e w'' => ∃ g, e = .returned (.slice (some ⟨g, 0, none⟩) l.length l.length) ∧ FSl .f32 w'' (.slice (some ⟨g, 0, none⟩) l.length l.length) l ∧ Below w'.heap.size w' w'' := fun w' hb =>
      (toFloat32S_any v l w' (h.below hb) hbl).mono (by
        rintro e w'' ⟨he, hrow, hb2, hlt⟩
        exact ⟨_, he, FSl_of_row hrow hbl hbd, hb2⟩)
    have HT := Lib.hid hT
    have HS := Lib.hid (fun v' w' (h' : FSl .f32 w' v' l) => sNumbersText_any v' l w' h')
    have HI := Lib.hid (fun v' w' (h' : FSl .f32 w' v' l) (hb : Below w.heap.size w w') => iNumbersText_any v' l w' h' (ht.below hb))
    have HQ := Lib.hid (fun v1 v2 w' (h1 : FSl .f32 w' v1 l) (h2 : FSl .f32 w' v2 l) => eqFloat32S_any v1 v2 l l w' h1 h2 rfl (fun _ _ => rfl))
    obtain ⟨ao, cap, rfl⟩ := hv
    have hdi : decide ((l.length : Int) > 1048576) = false := by simp; omega
    clear h ht hbd hT
    unfold nto at *
    generalize (⟨(ntxt l).toArray⟩ : ByteArray) = T at *
    generalize fewF l = q at *
    go_enter Tryd.func3, Tryd.ntmps3
    go_wp2_with fail
    refine (HT.out _ (Below.refl _ _)).mono ?_
    rintro e w1 ⟨g1, rfl, hi1, hb1⟩
    go_wp2_with fail
    refine (HS.out _ _ hi1).mono ?_
    rintro e w2 ⟨rfl, hb2⟩
    have D2 := B_trans hb1 hb2
    clear hb1 hb2 hi1
    go_wp2_with fail
    refine (HT.out _ D2).mono ?_
    rintro e w3 ⟨g3, rfl, hi3, hb3⟩
    have D3 := B_trans D2 hb3
    clear D2 hb3
    go_wp2_with fail
    refine (HI.out _ _ hi3 D3).mono ?_
    rintro e w4 ⟨rfl, hb4⟩
    have D4 := B_trans D3 hb4
    have hi4 := hi3.below hb4
    clear D3 hb4 hi3
    cases q
    all_goals
      go_wp2_with fail
      refine (HT.out _ D4).mono ?_
      rintro e w5 ⟨g5, rfl, hi5, hb5⟩
      have D5 := B_trans D4 hb5
      have hi6 := hi4.below hb5
      clear hb5
      go_wp2_with fail
      refine (HQ.out _ _ _ hi6 hi5).mono ?_
      rintro e w6 ⟨n6, rfl, rfl⟩
      have D6 := B_drew D5 n6
      go_wp2_with fail
      go_ret
      exact ⟨rfl, D6⟩
  · obtain ⟨ao, cap, rfl⟩ := hv
    have hdi : decide ((l.length : Int) > 1048576) = true := by simp; omega
    go_enter Tryd.func3, Tryd.ntmps3
    go_wp2_with fail
    go_ret
    exact ⟨rfl, Below.refl _ _⟩

/-- The cells of a table of integers. -/
def tabCells (d : DataW Unit) : Array Value := match d with
  | .agg l => (l.map fun x => match x with | .lit (.int k z) => Value.int k z | _ => undef).toArray
  | _ => #[]
/-- A world for the witness: the settled one, the tables laid. -/
noncomputable def laidWorld (os : Os) : World :=
  let lay := fun (d : DataW Unit) (o : Obj) => match o with
    | .cells _ t frozen => Obj.cells (tabCells d) t frozen
    | o => o
  { World.holding Tryd.prog os ⟨#[], #[], []⟩ with heap := (((World.holding Tryd.prog os ⟨#[], #[], []⟩).heap.modify 1 (lay Rows.laid_internal_strconv_uint64pow10)).modify 5 (lay Rows.laid_math_bits_deBruijn32tab)).modify 6 (lay Rows.laid_math_bits_deBruijn64tab) }
theorem laidOut_FnExactNumbersText : laidOutB Tryd.prog = true := by kernel_rfl
set_option maxRecDepth 100000 in
theorem contract_FnExactNumbersText (H : Type) (enc : TypeId × Value → H) (W : World) (base : Nat) (args : Array Value) (ds gs : List (DataW H)) (before : List MemPlace)
    (hval : ∀ (j : Nat) t v, Tryd.f3.params[j]? = some t → args[j]? = some v → Value.okWide Tryd.prog W .any base t v)
    (hW : DataW.Whole enc Tryd.prog Tryd.f3.params.toList Rows.fnExactNumbersTextSpec.vars false W args.toList ds gs before) (hL : laidMetH Tryd.prog Rows.fnExactNumbersTextRow.laid W) (hS : W.ShapedOpen Tryd.prog) :
    Calls Tryd.prog 3 args W fun e W' => ∃ v, e = .returned v ∧ Rows.fnExactNumbersTextSpec.post enc Tryd.prog Tryd.f3 false true false false W args v W' := by
  have hW' := hW
  obtain ⟨p, q, hA0, hV, rfl, hfz, hnd⟩ := hW
  have hA : DataW.TrodAll enc Tryd.prog W 0 (fun _ => true) true Tryd.f3.params.toList args.toList ds p := hA0
  rw [Tryd.params3] at hA hval
  obtain ⟨v0, vs0, d0, ds0, p0, q0, hargs, rfl, rfl, h0, r0⟩ := trodAll_cons hA
  obtain ⟨rfl, rfl, rfl⟩ := trodAll_nil r0
  obtain rfl : args = #[v0] := by cases args; simp_all
  obtain ⟨rfl, rfl⟩ := trodVars_none hV
  have hlt0 : ∀ x ∈ p0, x.block < W.heap.size := fun x hx => hW'.lt x (by simp [hx])
  obtain ⟨sa0, sl0, sc0, rfl⟩ := okWide_slice Tryd.underlying22 (hval 0 22 v0 rfl rfl)
  obtain ⟨bs0, hs0⟩ : ∃ bs, FSl .f32 W (.slice sa0 sl0 sc0) bs := by
    obtain ⟨fuel, hf⟩ := h0
    exact open_floats Tryd.underlying22 Tryd.underlying38 (by kernel_rfl) hf
  clear hA0
  simp only [List.append_nil] at hW'
  refine (walk_FnExactNumbersText (w := W) _ bs0 hs0 (facts hL hS)).mono fun e W' ⟨he, hb⟩ => ?_
  subst he
  exact ⟨_, rfl, post_of_below (pa := (p0 ++ [])) (pv := []) hW' (fun _ _ _ => (trodAll_cons_mk (shut_bool Tryd.underlying4 _) trodAll_mk0)) (fun sp hsp => (trodAll_cons_mk (trod_keep laidOut_FnExactNumbersText (by kernel_rfl) (of_decide_eq_true (by kernel_rfl)) h0 hb hlt0 (fun x hx => hsp x (by simp [hx]))) trodAll_mk0)) (fun _ _ => rfl) (by simp) hb (ok_one (by kernel_rfl) rfl (okWide_bool_mk Tryd.underlying4 _))⟩

theorem own_FnExactNumbersText : ownKnob Tryd.prog.godebug = none := by kernel_rfl
theorem laid_met (os : Os) : laidMet Tryd.prog Rows.fnExactNumbersTextRow.laid ((laidWorld os).forCall (fun _ _ => 0) ⟨#[], #[.slice none 0 0], []⟩).memory :=
  laidMet_of_run' 8 (by kernel_rfl) (by kernel_rfl)
theorem reads (os : Os) {H : Type} (enc : TypeId × Value → H) : ∃ places, DataW.whole enc Tryd.prog ((laidWorld os).forCall (fun _ _ => 0) ⟨#[], #[.slice none 0 0], []⟩).memory Tryd.f3.params.toList Rows.fnExactNumbersTextSpec.vars false (#[.slice none 0 0] : Array Value).toList 8 = some ([.nil], [], places) :=
  ⟨[], by kernel_rfl⟩
set_option maxRecDepth 100000 in
theorem lifted_FnExactNumbersText (os : Os) (started : os.Started) (H : Type) (enc : TypeId × Value → H) (F : Stop.Interp) :
    ReturnsInHanded {} Tryd.checked os 3 .any ((OpenSpec.ofChange Rows.fnExactNumbersTextSpec).preRow enc Tryd.prog Tryd.f3 Rows.fnExactNumbersTextRow.domain false Rows.fnExactNumbersTextRow.laid) (((OpenSpec.ofChange Rows.fnExactNumbersTextSpec).at F).post enc Tryd.prog Tryd.f3 false true false false) := by
  obtain ⟨places, hx⟩ := reads os enc
  refine returnsInHanded_of_row (C := Tryd.checked) (s := OpenSpec.ofChange Rows.fnExactNumbersTextSpec) own_FnExactNumbersText started (by kernel_rfl) Tryd.func3
    (witness_row_at (enc := enc) (C := Tryd.checked) false (laidWorld os) #[.slice none 0 0] rfl (by kernel_rfl) (by kernel_rfl) (by kernel_rfl)
      (OpenSpec.preRow_of_cond 8 hx (by kernel_rfl) (fun k hk => by cases hk) (by kernel_rfl) (laid_met os))) ?_
  intro W base args ds gs before hval hW _ _ _ hL hS _
  exact contract_FnExactNumbersText H enc W base args ds gs before hval hW hL hS
theorem said_FnExactNumbersText : Rows.FnExactNumbersTextSaid :=
  OpenClaim.holds_of_cond 3 Tryd.f3 rfl rfl rfl rfl rfl rfl rfl ⟨rfl, rfl, rfl, rfl, rfl⟩ rfl rfl rfl rfl rfl (by kernel_rfl) Tryd.func3 (by kernel_rfl)
    (of_decide_eq_true (by kernel_rfl)) (by unfold Func.isWrapper; first | (rw [if_pos (by decide +kernel)]; kernel_rfl) | (rw [if_neg (by decide +kernel)]; exact ⟨rfl, rfl⟩))
    (fun os started H enc _ F => by rw [OpenClaim.pre_eq_preRow]; exact lifted_FnExactNumbersText os started H enc F)
/-- No parameter wants a stand-in. -/
theorem plain_FnExactNumbersText (f : FuncId) (fn : Func) (hf : Tryd.pinned.checked.prog.funcNamed "loop.example/g01309/laws.FnExactNumbersText" = some f) (hfn : Tryd.pinned.checked.prog.funcs[f]? = some fn) :
    true = Tryd.pinned.checked.prog.looks [] ∧ ∀ (j : Nat) t, fn.params[j]? = some t → Tryd.pinned.checked.prog.wantsStandIn t = false := by
  obtain rfl : f = 3 := Option.some.inj ((show Tryd.prog.funcNamed "loop.example/g01309/laws.FnExactNumbersText" = some 3 by kernel_rfl).symm.trans hf) |>.symm
  obtain rfl : fn = Tryd.f3 := (Option.some.inj (Tryd.func3.symm.trans hfn)).symm
  refine ⟨by kernel_rfl, fun j t ht => ?_⟩
  rw [Tryd.params3] at ht
  obtain rfl : t = 22 := by have := Array.mem_of_getElem? ht; simpa using this
  exact (show Tryd.prog.wantsStandIn 22 = false by kernel_rfl)
theorem proved_FnExactNumbersText : Rows.FnExactNumbersTextCardSaid :=
  Claim7.holds_tied_plain_at .later [] _ _ _ _ said_FnExactNumbersText (fun _ h => by cases h) (by kernel_rfl) (fun _ h => by cases h) fnExactNumbersText_row_tie rfl ⟨rfl, rfl⟩ (by kernel_rfl) rfl plain_FnExactNumbersText (by kernel_rfl)
#print axioms proved_FnExactNumbersText
end Go.Proofs.YtcnnmcmaeeffiaaDoor
