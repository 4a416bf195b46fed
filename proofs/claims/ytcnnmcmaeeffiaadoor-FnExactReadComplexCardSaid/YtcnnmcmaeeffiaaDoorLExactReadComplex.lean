/-
  The program's ReadComplex returns what the reference's returns, for every argument, in memory of its own. The library's tables and its two errors start as their text lays them (the card ties them). No other condition.
-/
import Derived.Test.YtcnnmcmaeeffiaaDoorRows
import Derived.Test.YtcnnmcmaeeffiaaDoorPost
import Derived.Test.YtcnnmcmaeeffiaaDoorCards
import Derived.Test.YtcnnmcmaeeffiaaDoorTie
import Derived.Test.YtcnnmcmaeeffiaaDoorReadf
import Derived.Test.YtcnnmcmaeeffiaaDoorLaid
namespace Go.Proofs.YtcnnmcmaeeffiaaDoor
set_option linter.unusedVariables false
set_option linter.unusedSimpArgs false
open Go.ChangeShapes Go.WideShapes Go.ChangeAt Go.RowKit Go.Joins Go.ChangeMaps Fl

theorem gSyn : Tryd.prog.globalNamed "strconv.ErrSyntax" = some 2 := by kernel_rfl
theorem gRan : Tryd.prog.globalNamed "strconv.ErrRange" = some 3 := by kernel_rfl
theorem tabD : (Rows.laid_math_bits_deBruijn64tab : DataW Unit) = Lib.tabData .u8 debTab := by kernel_rfl
theorem gRanT : (Tryd.prog.globals[3]?).map (·.type) = some 59 := by kernel_rfl
theorem gSynT : (Tryd.prog.globals[2]?).map (·.type) = some 59 := by kernel_rfl
theorem star : "*" ++ "errors.errorString" = "*errors.errorString" := by decide
theorem rowE (u : TypeId) (h : Tryd.prog.typeName? 3 u = some "*errors.errorString") : u = 116 :=
  typeName_ptr_named (nm := "errors.errorString") (by rw [star]; kernel_rfl) (by kernel_rfl) (by decide) u (by rw [star]; exact h)
/-- What the row's list gives. -/
theorem facts {W : World} (h : laidMetH Tryd.prog Rows.fnExactReadComplexRow.laid W) (hS : W.ShapedOpen Tryd.prog) : RxF W := by
  have h2 : laidMet Tryd.prog Rows.fnExactReadComplexRow.laid W := h
  have h3 := h2.tail.tail.tail.tail
  obtain ⟨a0, s0, hv0, _, _, _⟩ := laid_sentinel h3 gRan gRanT Tryd.underlying59 rowE Tryd.underlying116 Tryd.underlying118 rfl rfl Tryd.underlying9 (by kernel_rfl) (by kernel_rfl)
  obtain ⟨a1, s1, hv1, _, _, _⟩ := laid_sentinel h3.tail gSyn gSynT Tryd.underlying59 rowE Tryd.underlying116 Tryd.underlying118 rfl rfl Tryd.underlying9 (by kernel_rfl) (by kernel_rfl)
  refine ⟨?_, ⟨_, _, World.var?_cell gSyn hv1 0⟩, ⟨_, _, World.var?_cell gRan hv0 0⟩, Tryd.laysM146.s1_3 W hS⟩
  clear h3
  obtain ⟨ps, ⟨g0, t0, cs0, f0, p0, q0, hg0, ht0, hv0, hd0, ⟨g1, t1, cs1, f1, p1, q1, hg1, ht1, hv1, hd1, _, _⟩, _⟩, _⟩ := h2
  obtain rfl := Option.some.inj (gDeb.symm.trans hg1)
  obtain rfl := Option.some.inj (gDebT.symm.trans ht1)
  rw [tabD] at hd1
  refine Deb.of ?_
  unfold Lib.TabIs
  rw [hv1, ← Lib.cells_of_tab Tryd.underlying120 Tryd.underlying5 (by kernel_rfl) (by kernel_rfl) hd1]
set_option maxHeartbeats 8000000 in
theorem walk_FnExactReadComplex (s : ByteArray) (_ : s.size ≤ maxLen) {w : World} (ht : RxF w) :
    Calls Tryd.prog 5 #[.string s] w fun e w' => e = .returned (.bool true) ∧ Below w.heap.size w w' := by
  by_cases hb : s.size ≤ 1048576
  · have HS := Lib.hid (fun w' => sReadComplex_any s hb w')
    have HI := Lib.hid (fun w' (hb' : Below w.heap.size w w') => iReadComplex_any s hb w' (ht.below hb'))
    have hbi : decide ((s.size : Int) > 1048576) = false := by simp; omega
    generalize partsL s.data.toList = P at *
    have HQ := Lib.hid (fun v1 v2 w' B1 N1 B2 N2 (h1 : OV w' B1 N1 v1 (lcG rck 256 ccell P).length (vget (lcG rck 256 ccell P))) (h2 : OV w' B2 N2 v2 (lcG rck 256 ccell P).length (vget (lcG rck 256 ccell P))) => eqC_any v1 v2 (lcG rck 256 ccell P).length (vget (lcG rck 256 ccell P)) (lcG_cx P) w' B1 N1 B2 N2 h1 h2)
    have hn := lcG_len (rk := rck) (M := 256) (cell := ccell) (P := P)
    have HM := Lib.hid (fun B N v w' (h : OV w' B N v (lcG rck 256 ccell P).length (vget (lcG rck 256 ccell P))) => markC_any B N v (lcG rck 256 ccell P).length (vget (lcG rck 256 ccell P)) (lcG_cx P) (by omega) w' h)
    have HH := Lib.hid (fun B N v w' (h : OV w' B N v (lcG rck 256 ccell P).length (cmark 1)) => heldC_any B N v (lcG rck 256 ccell P).length (by omega) w' h)
    unfold RG at *
    generalize hL : lcG rck 256 ccell P = L at *
    clear hL
    generalize lokG rck 256 P = q at *
    generalize hn0 : L.length = n at *
    clear hn0 ht hb
    go_enter Tryd.func5, Tryd.ntmps5
    go_wp2_with fail
    refine (HS.out _).mono ?_
    rintro e w1 ⟨v1, rfl, ho1, D1⟩
    go_wp2_with fail
    refine (HI.out _ D1).mono ?_
    rintro e w2 ⟨v2, rfl, ho2, hb2⟩
    have D2 := B_trans D1 hb2
    have ho1' := ho1.below hb2
    have hs1 := D1.size
    have hs2 := hb2.size
    clear hb2 ho1
    cases q
    all_goals
      go_wp2_with fail
      refine (HQ.out _ _ _ _ _ _ _ ho2 ho1').mono ?_
      rintro e w3 ⟨n3, rfl, rfl⟩
      have D3 := B_drew D2 n3
      have ho2 := ho2.below (below_draws w2 n3)
      have ho1 := ho1'.below (below_draws w2 n3)
      have hs3 : w2.heap.size ≤ (w2.drewN n3).heap.size := (below_draws w2 n3).size
      clear D2 ho1'
      generalize w2.drewN n3 = w3 at *
      go_wp2_with fail
      refine (HM.out _ _ _ _ ho2).mono ?_
      rintro e w4 ⟨rfl, hm4, hf4⟩
      have D4 : Below w.heap.size w w4 := D3.trans ((hf4.below (by omega)).mono hs1)
      have ho4 := ho1.frame hf4 (.inl (Nat.le_refl _))
      clear D3 ho1 hf4 ho2
      go_wp2_with fail
      refine (HH.out _ _ _ _ hm4).mono ?_
      rintro e w5 ⟨rfl, hw5⟩
      obtain rfl := hw5.symm
      clear hw5
      go_wp2_with fail
      refine (HI.out _ D4).mono ?_
      rintro e w6 ⟨v6, rfl, ho6, hb6⟩
      have D6 := B_trans D4 hb6
      have ho1 := ho4.below hb6
      have hm6 := hm4.below hb6
      clear D4 hb6 ho4 hm4
      go_wp2_with fail
      refine (HQ.out _ _ _ _ _ _ _ ho6 ho1).mono ?_
      rintro e w7 ⟨n7, rfl, rfl⟩
      have D7 := B_drew D6 n7
      have hm7 := hm6.below (below_draws w6 n7)
      clear D6 hm6 ho1 ho6
      generalize w6.drewN n7 = w7 at *
      go_wp2_with fail
      refine (HH.out _ _ _ _ hm7).mono ?_
      rintro e w8 ⟨rfl, hw8⟩
      obtain rfl := hw8.symm
      clear hw8
      go_wp2_with fail
      go_ret
      exact ⟨rfl, D7⟩
  · have hbi : decide ((s.size : Int) > 1048576) = true := by simp; omega
    go_enter Tryd.func5, Tryd.ntmps5
    go_wp2_with fail
    go_ret
    exact ⟨rfl, Below.refl _ _⟩
/-- The cells of a table of integers, or of pairs of them. -/
def litCell : DataW Unit → List Value
  | .lit (.int k z) => [Value.int k z]
  | _ => []
def tabCells (d : DataW Unit) : Array Value := match d with
  | .agg l => (l.flatMap fun x => match x with | .agg l2 => l2.flatMap litCell | x => litCell x).toArray
  | _ => #[]
/-- A world for the witness: the settled one, the tables and the two errors laid. -/
noncomputable def laidWorld (os : Os) : World :=
  let lay := fun (d : DataW Unit) (o : Obj) => match o with
    | .cells _ t frozen => Obj.cells (tabCells d) t frozen
    | o => o
  let err := fun (b : Nat) (o : Obj) => match o with
    | .cells _ t frozen => Obj.cells #[.iface 116 (.pointer (some ⟨b, 0, none⟩))] t frozen
    | o => o
  let h := (World.holding Tryd.prog os ⟨#[], #[], []⟩).heap
  let n := h.size
  { World.holding Tryd.prog os ⟨#[], #[], []⟩ with heap := (((((((h.modify 1 (lay Rows.laid_internal_strconv_uint64pow10)).modify 5 (lay Rows.laid_math_bits_deBruijn32tab)).modify 6 (lay Rows.laid_math_bits_deBruijn64tab)).modify 7 (lay Rows.laid_unicode_utf8_first)).modify 8 (lay Rows.laid_unicode_utf8_acceptRanges)).modify 2 (err n)).modify 3 (err (n + 1))) ++ #[.cells #[.string ⟨#[105, 110, 118, 97, 108, 105, 100, 32, 115, 121, 110, 116, 97, 120]⟩] 118, .cells #[.string ⟨#[118, 97, 108, 117, 101, 32, 111, 117, 116, 32, 111, 102, 32, 114, 97, 110, 103, 101]⟩] 118] }
theorem laidOut_FnExactReadComplex : laidOutB Tryd.prog = true := by kernel_rfl
set_option maxRecDepth 100000 in
theorem contract_FnExactReadComplex (H : Type) (enc : TypeId × Value → H) (W : World) (base : Nat) (args : Array Value) (ds gs : List (DataW H)) (before : List MemPlace)
    (hval : ∀ (j : Nat) t v, Tryd.f5.params[j]? = some t → args[j]? = some v → Value.okWide Tryd.prog W .any base t v)
    (hW : DataW.Whole enc Tryd.prog Tryd.f5.params.toList Rows.fnExactReadComplexSpec.vars false W args.toList ds gs before) (hL : laidMetH Tryd.prog Rows.fnExactReadComplexRow.laid W) (hS : W.ShapedOpen Tryd.prog) :
    Calls Tryd.prog 5 args W fun e W' => ∃ v, e = .returned v ∧ Rows.fnExactReadComplexSpec.post enc Tryd.prog Tryd.f5 false true false false W args v W' := by
  have hW' := hW
  obtain ⟨p, q, hA0, hV, rfl, hfz, hnd⟩ := hW
  have hA : DataW.TrodAll enc Tryd.prog W 0 (fun _ => true) true Tryd.f5.params.toList args.toList ds p := hA0
  rw [Tryd.params5] at hA hval
  obtain ⟨v0, vs0, d0, ds0, p0, q0, hargs, rfl, rfl, h0, r0⟩ := trodAll_cons hA
  obtain ⟨rfl, rfl, rfl⟩ := trodAll_nil r0
  obtain rfl : args = #[v0] := by cases args; simp_all
  obtain ⟨rfl, rfl⟩ := trodVars_none hV
  obtain ⟨a0, rfl, rfl, rfl, w0⟩ := open_string Tryd.underlying9 (hval 0 9 v0 rfl rfl) h0
  clear hA0
  simp only [List.append_nil] at hW'
  refine (walk_FnExactReadComplex (w := W) a0 w0 (facts hL hS)).mono fun e W' ⟨he, hb⟩ => ?_
  subst he
  exact ⟨_, rfl, post_of_below (pa := ([] ++ [])) (pv := []) hW' (fun _ _ _ => (trodAll_cons_mk (shut_bool Tryd.underlying4 _) trodAll_mk0)) (fun sp hsp => (trodAll_cons_mk (shut_string Tryd.underlying9 w0) trodAll_mk0)) (fun _ _ => rfl) (by simp) hb (ok_one (by kernel_rfl) rfl (okWide_bool_mk Tryd.underlying4 _))⟩

theorem own_FnExactReadComplex : ownKnob Tryd.prog.godebug = none := by kernel_rfl
theorem laid_met (os : Os) : laidMet Tryd.prog Rows.fnExactReadComplexRow.laid ((laidWorld os).forCall (fun _ _ => 0) ⟨#[], #[.string ⟨#[]⟩], []⟩).memory :=
  laidMet_of_run' 8 (by kernel_rfl) (by kernel_rfl)
theorem reads (os : Os) {H : Type} (enc : TypeId × Value → H) : ∃ places, DataW.whole enc Tryd.prog ((laidWorld os).forCall (fun _ _ => 0) ⟨#[], #[.string ⟨#[]⟩], []⟩).memory Tryd.f5.params.toList Rows.fnExactReadComplexSpec.vars false (#[.string ⟨#[]⟩] : Array Value).toList 8 = some ([.lit (.string [])], [], places) :=
  ⟨[], by kernel_rfl⟩
set_option maxRecDepth 100000 in
theorem lifted_FnExactReadComplex (os : Os) (started : os.Started) (H : Type) (enc : TypeId × Value → H) (F : Stop.Interp) :
    ReturnsInHanded {} Tryd.checked os 5 .any ((OpenSpec.ofChange Rows.fnExactReadComplexSpec).preRow enc Tryd.prog Tryd.f5 Rows.fnExactReadComplexRow.domain false Rows.fnExactReadComplexRow.laid) (((OpenSpec.ofChange Rows.fnExactReadComplexSpec).at F).post enc Tryd.prog Tryd.f5 false true false false) := by
  obtain ⟨places, hx⟩ := reads os enc
  refine returnsInHanded_of_row (C := Tryd.checked) (s := OpenSpec.ofChange Rows.fnExactReadComplexSpec) own_FnExactReadComplex started (by kernel_rfl) Tryd.func5
    (witness_row_at (enc := enc) (C := Tryd.checked) false (laidWorld os) #[.string ⟨#[]⟩] rfl (by kernel_rfl) (by kernel_rfl) (by kernel_rfl)
      (OpenSpec.preRow_of_cond 8 hx (by kernel_rfl) (fun k hk => by cases hk) (by kernel_rfl) (laid_met os))) ?_
  intro W base args ds gs before hval hW _ _ _ hL hS _
  exact contract_FnExactReadComplex H enc W base args ds gs before hval hW hL hS
theorem said_FnExactReadComplex : Rows.FnExactReadComplexSaid :=
  OpenClaim.holds_of_cond 5 Tryd.f5 rfl rfl rfl rfl rfl rfl rfl ⟨rfl, rfl, rfl, rfl, rfl⟩ rfl rfl rfl rfl rfl (by kernel_rfl) Tryd.func5 (by kernel_rfl)
    (of_decide_eq_true (by kernel_rfl)) (by unfold Func.isWrapper; first | (rw [if_pos (by decide +kernel)]; kernel_rfl) | (rw [if_neg (by decide +kernel)]; exact ⟨rfl, rfl⟩))
    (fun os started H enc _ F => by rw [OpenClaim.pre_eq_preRow]; exact lifted_FnExactReadComplex os started H enc F)
/-- No parameter wants a stand-in. -/
theorem plain_FnExactReadComplex (f : FuncId) (fn : Func) (hf : Tryd.pinned.checked.prog.funcNamed "loop.example/g01309/laws.FnExactReadComplex" = some f) (hfn : Tryd.pinned.checked.prog.funcs[f]? = some fn) :
    true = Tryd.pinned.checked.prog.looks [] ∧ ∀ (j : Nat) t, fn.params[j]? = some t → Tryd.pinned.checked.prog.wantsStandIn t = false := by
  obtain rfl : f = 5 := Option.some.inj ((show Tryd.prog.funcNamed "loop.example/g01309/laws.FnExactReadComplex" = some 5 by kernel_rfl).symm.trans hf) |>.symm
  obtain rfl : fn = Tryd.f5 := (Option.some.inj (Tryd.func5.symm.trans hfn)).symm
  refine ⟨by kernel_rfl, fun j t ht => ?_⟩
  rw [Tryd.params5] at ht
  obtain rfl : t = 9 := by have := Array.mem_of_getElem? ht; simpa using this
  exact (show Tryd.prog.wantsStandIn 9 = false by kernel_rfl)
theorem proved_FnExactReadComplex : Rows.FnExactReadComplexCardSaid :=
  Claim7.holds_tied_plain_at .later [] _ _ _ _ said_FnExactReadComplex (fun _ h => by cases h) (by kernel_rfl) (fun _ h => by cases h) fnExactReadComplex_row_tie rfl ⟨rfl, rfl⟩ (by kernel_rfl) rfl plain_FnExactReadComplex (by kernel_rfl)
#print axioms proved_FnExactReadComplex
end Go.Proofs.YtcnnmcmaeeffiaaDoor
