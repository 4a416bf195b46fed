/-
  The program's ReadDecimal returns what the reference's returns, for every argument. The library's tables and its two errors start as their text lays them (the card ties them). No other condition.
-/
import Derived.Test.YtgonnnnhibhekaaDoorRows
import Derived.Test.YtgonnnnhibhekaaDoorPost
import Derived.Test.YtgonnnnhibhekaaDoorCards
import Derived.Test.YtgonnnnhibhekaaDoorTie
import Derived.Test.YtgonnnnhibhekaaDoorReadw
import Derived.Test.YtgonnnnhibhekaaDoorLaid
namespace Go.Proofs.YtgonnnnhibhekaaDoor
set_option linter.unusedVariables false
set_option linter.unusedSimpArgs false
open Go.ChangeShapes Go.WideShapes Go.ChangeAt Go.RowKit Go.Joins Go.ChangeMaps Fl

theorem own_Read : ownKnob Tryd.prog.godebug = none := by kernel_rfl
theorem tabD : (Rows.laid_internal_strconv_uint64pow10 : DataW Unit) = Lib.tabData .u64 Lib.pow10Tab := by kernel_rfl
theorem gSyn : Tryd.prog.globalNamed "strconv.ErrSyntax" = some 1 := by kernel_rfl
theorem gRan : Tryd.prog.globalNamed "strconv.ErrRange" = some 2 := by kernel_rfl
theorem gRanT : (Tryd.prog.globals[2]?).map (·.type) = some 38 := by kernel_rfl
theorem gSynT : (Tryd.prog.globals[1]?).map (·.type) = some 38 := by kernel_rfl
theorem star : "*" ++ "errors.errorString" = "*errors.errorString" := by decide
theorem rowE (u : TypeId) (h : Tryd.prog.typeName? 3 u = some "*errors.errorString") : u = 102 :=
  typeName_ptr_named (nm := "errors.errorString") (by rw [star]; kernel_rfl) (by kernel_rfl) (by decide) u (by rw [star]; exact h)
/-- What the row's list gives: the table of powers. -/
theorem table {W : World} (h : laidMetH Tryd.prog Rows.fnExactReadDecimalRow.laid W) : Lib.TabIs Tryd.prog W "internal/strconv.uint64pow10" .u64 Lib.pow10Tab := by
  have h2 : laidMet Tryd.prog Rows.fnExactReadDecimalRow.laid W := h
  obtain ⟨ps, ⟨g0, t0, cs0, f0, p0, q0, hg0, ht0, hv0, hd0, ⟨g1, t1, cs1, f1, p1, q1, hg1, ht1, hv1, hd1, ⟨g2, t2, cs2, f2, p2, q2, hg2, ht2, hv2, hd2, _, _⟩, _⟩, _⟩, _⟩ := h2
  obtain rfl := Option.some.inj (gPow.symm.trans hg2)
  obtain rfl := Option.some.inj (gPowT.symm.trans ht2)
  rw [tabD] at hd2
  unfold Lib.TabIs
  rw [hv2, ← Lib.cells_of_tab Tryd.underlying87 Tryd.underlying61 (by kernel_rfl) (by kernel_rfl) hd2]
/-- A variable that holds an error. -/
def ErrIs (W : World) (n : String) : Prop := ∃ tp p, W.var? Tryd.prog n = some #[.iface tp p]
theorem errs {W : World} (h : laidMetH Tryd.prog Rows.fnExactReadDecimalRow.laid W) : ErrIs W "strconv.ErrSyntax" ∧ ErrIs W "strconv.ErrRange" := by
  have h2 : laidMet Tryd.prog Rows.fnExactReadDecimalRow.laid W := h
  have h3 := h2.tail.tail.tail
  obtain ⟨a0, s0, hv0, _, _, _⟩ := laid_sentinel h3 gRan gRanT Tryd.underlying38 rowE Tryd.underlying102 Tryd.underlying104 rfl rfl Tryd.underlying9 (by kernel_rfl) (by kernel_rfl)
  obtain ⟨a1, s1, hv1, _, _, _⟩ := laid_sentinel h3.tail gSyn gSynT Tryd.underlying38 rowE Tryd.underlying102 Tryd.underlying104 rfl rfl Tryd.underlying9 (by kernel_rfl) (by kernel_rfl)
  exact ⟨⟨_, _, hv1⟩, ⟨_, _, hv0⟩⟩
theorem err_below {W W' : World} {n : String} {g : Nat} (hg : Tryd.prog.globalNamed n = some g) (h : ErrIs W n) (hb : Below W.heap.size W W') : ErrIs W' n := by
  obtain ⟨tp, p, h⟩ := h
  refine ⟨tp, p, ?_⟩
  have hlt : g < W.heap.size := World.block_lt_of_cell? W ⟨g, 0, none⟩ (World.var?_cell hg h 0)
  unfold World.var? at h ⊢
  rw [hg] at h ⊢
  simp only [Option.bind_some] at h ⊢
  rw [hb.block g hlt]
  exact h
set_option maxHeartbeats 4000000 in
theorem walk_FnExactReadDecimal (s : ByteArray) (w : World) (ht : Lib.TabIs Tryd.prog w "internal/strconv.uint64pow10" .u64 Lib.pow10Tab) (he : ErrIs w "strconv.ErrSyntax" ∧ ErrIs w "strconv.ErrRange") :
    Calls Tryd.prog 4 #[.string s] w fun e w' => e = .returned (.bool true) ∧ Below w.heap.size w w' := by
  by_cases hb : s.size ≤ 1048576
  · have HS := Lib.hid (fun w' => sReadDecimal_any s (by omega) w')
    have HI : Hid (∀ w', Below w.heap.size w w' → Calls Tryd.prog 11 #[.string s] w' fun e w'' => e = .returned (rdo s.data.toList) ∧ Below w'.heap.size w' w'') := Lib.hid (fun w' hb' => by
      obtain ⟨tp, p, h1⟩ := err_below gSyn he.1 hb'
      obtain ⟨tq, q, h2⟩ := err_below gRan he.2 hb'
      exact iReadDecimal_any s (by omega) w' (tab_below ht hb') tp p h1 tq q h2)
    have hbi : decide ((s.size : Int) > 1048576) = false := by simp; omega
    clear ht he
    unfold rdo at *
    generalize (if rdk s.data.toList then rdv s.data.toList else 0) = a at *
    generalize rdk s.data.toList = b at *
    go_enter Tryd.func4, Tryd.ntmps4
    go_wp2_with fail
    refine (HS.out _).mono ?_
    rintro e w1 ⟨rfl, hb1⟩
    go_wp2_with fail
    refine (HI.out _ hb1).mono ?_
    rintro e w2 ⟨rfl, hb2⟩
    have D := B_trans hb1 hb2
    clear hb1 hb2
    cases b
    all_goals
      go_wp2_with fail
      go_ret
      exact ⟨rfl, D⟩
  · have hbi : decide ((s.size : Int) > 1048576) = true := by simp; omega
    go_enter Tryd.func4, Tryd.ntmps4
    go_wp2_with fail
    go_ret
    exact ⟨rfl, Below.refl _ _⟩
set_option maxRecDepth 100000 in
theorem contract_FnExactReadDecimal (H : Type) (enc : TypeId × Value → H) (W : World) (base : Nat) (args : Array Value) (ds gs : List (DataW H)) (before : List MemPlace)
    (hval : ∀ (j : Nat) t v, Tryd.f4.params[j]? = some t → args[j]? = some v → Value.okWide Tryd.prog W .any base t v)
    (hW : DataW.Whole enc Tryd.prog Tryd.f4.params.toList Rows.fnExactReadDecimalSpec.vars false W args.toList ds gs before) (hL : laidMetH Tryd.prog Rows.fnExactReadDecimalRow.laid W) :
    Calls Tryd.prog 4 args W fun e W' => ∃ v, e = .returned v ∧ Rows.fnExactReadDecimalSpec.post enc Tryd.prog Tryd.f4 false true false false W args v W' := by
  have hW' := hW
  obtain ⟨p, q, hA0, hV, rfl, hfz, hnd⟩ := hW
  have hA : DataW.TrodAll enc Tryd.prog W 0 (fun _ => true) true Tryd.f4.params.toList args.toList ds p := hA0
  rw [Tryd.params4] at hA hval
  obtain ⟨v0, vs0, d0, ds0, p0, q0, hargs, rfl, rfl, h0, r0⟩ := trodAll_cons hA
  obtain ⟨rfl, rfl, rfl⟩ := trodAll_nil r0
  obtain rfl : args = #[v0] := by cases args; simp_all
  obtain ⟨rfl, rfl⟩ := trodVars_none hV
  obtain ⟨a0, rfl, rfl, rfl, w0⟩ := open_string Tryd.underlying9 (hval 0 9 v0 rfl rfl) h0
  clear hA0
  simp only [List.append_nil] at hW'
  refine (walk_FnExactReadDecimal a0 W (table hL) (errs hL)).mono fun e W' ⟨he, hb⟩ => ?_
  subst he
  exact ⟨_, rfl, post_of_below (pa := []) (pv := []) hW' (fun _ _ _ => (trodAll_cons_mk (shut_bool Tryd.underlying4 _) trodAll_mk0)) (fun sp hsp => (trodAll_cons_mk (shut_string Tryd.underlying9 w0) trodAll_mk0)) (fun _ _ => rfl) (by simp) hb (ok_one (by kernel_rfl) rfl (okWide_bool_mk Tryd.underlying4 _))⟩

/-- The cells of a table of integers. -/
def tabCells (d : DataW Unit) : Array Value := match d with
  | .agg l => (l.map fun x => match x with | .lit (.int k z) => Value.int k z | _ => undef).toArray
  | _ => #[]
/-- A world for the witness: the settled one, the tables and the two errors laid. -/
noncomputable def laidWorld (os : Os) : World :=
  let lay := fun (d : DataW Unit) (o : Obj) => match o with
    | .cells _ t frozen => Obj.cells (tabCells d) t frozen
    | o => o
  let err := fun (b : Nat) (o : Obj) => match o with
    | .cells _ t frozen => Obj.cells #[.iface 102 (.pointer (some ⟨b, 0, none⟩))] t frozen
    | o => o
  let h := (World.holding Tryd.prog os ⟨#[], #[], []⟩).heap
  let n := h.size
  { World.holding Tryd.prog os ⟨#[], #[], []⟩ with heap := (((((h.modify 0 (lay Rows.laid_internal_strconv_uint64pow10)).modify 5 (lay Rows.laid_math_bits_deBruijn32tab)).modify 6 (lay Rows.laid_math_bits_deBruijn64tab)).modify 1 (err n)).modify 2 (err (n + 1))) ++ #[.cells #[.string ⟨#[105, 110, 118, 97, 108, 105, 100, 32, 115, 121, 110, 116, 97, 120]⟩] 104, .cells #[.string ⟨#[118, 97, 108, 117, 101, 32, 111, 117, 116, 32, 111, 102, 32, 114, 97, 110, 103, 101]⟩] 104] }
theorem laid_met (os : Os) : laidMet Tryd.prog Rows.fnExactReadDecimalRow.laid ((laidWorld os).forCall (fun _ _ => 0) ⟨#[], #[.string ⟨#[]⟩], []⟩).memory :=
  laidMet_of_run' 8 (by kernel_rfl) (by kernel_rfl)
theorem reads (os : Os) {H : Type} (enc : TypeId × Value → H) : ∃ places, DataW.whole enc Tryd.prog ((laidWorld os).forCall (fun _ _ => 0) ⟨#[], #[.string ⟨#[]⟩], []⟩).memory Tryd.f4.params.toList Rows.fnExactReadDecimalSpec.vars false #[Value.string ⟨#[]⟩].toList 8 = some ([.lit (.string [])], [], places) :=
  ⟨[], by kernel_rfl⟩
set_option maxRecDepth 100000 in
theorem lifted_FnExactReadDecimal (os : Os) (started : os.Started) (H : Type) (enc : TypeId × Value → H) (F : Stop.Interp) :
    ReturnsInHanded {} Tryd.checked os 4 .any ((OpenSpec.ofChange Rows.fnExactReadDecimalSpec).preRow enc Tryd.prog Tryd.f4 Rows.fnExactReadDecimalRow.domain false Rows.fnExactReadDecimalRow.laid) (((OpenSpec.ofChange Rows.fnExactReadDecimalSpec).at F).post enc Tryd.prog Tryd.f4 false true false false) := by
  obtain ⟨places, hx⟩ := reads os enc
  refine returnsInHanded_of_row (C := Tryd.checked) (s := OpenSpec.ofChange Rows.fnExactReadDecimalSpec) own_Read started (by kernel_rfl) Tryd.func4
    (witness_row_at (enc := enc) (C := Tryd.checked) false (laidWorld os) #[.string ⟨#[]⟩] rfl (by kernel_rfl) (by kernel_rfl) (by kernel_rfl)
      (OpenSpec.preRow_of_cond 8 hx (by kernel_rfl) (fun k hk => by cases hk) (by kernel_rfl) (laid_met os))) ?_
  intro W base args ds gs before hval hW _ _ _ hL _ _
  exact contract_FnExactReadDecimal H enc W base args ds gs before hval hW hL
theorem said_FnExactReadDecimal : Rows.FnExactReadDecimalSaid :=
  OpenClaim.holds_of_cond 4 Tryd.f4 rfl rfl rfl rfl rfl rfl rfl ⟨rfl, rfl, rfl, rfl, rfl⟩ rfl rfl rfl rfl rfl (by kernel_rfl) Tryd.func4 (by kernel_rfl)
    (of_decide_eq_true (by kernel_rfl)) (by unfold Func.isWrapper; first | (rw [if_pos (by decide +kernel)]; kernel_rfl) | (rw [if_neg (by decide +kernel)]; exact ⟨rfl, rfl⟩))
    (fun os started H enc _ F => by rw [OpenClaim.pre_eq_preRow]; exact lifted_FnExactReadDecimal os started H enc F)
/-- No parameter wants a stand-in. -/
theorem plain_FnExactReadDecimal (f : FuncId) (fn : Func) (hf : Tryd.pinned.checked.prog.funcNamed "loop.example/g01309/laws.FnExactReadDecimal" = some f) (hfn : Tryd.pinned.checked.prog.funcs[f]? = some fn) :
    true = Tryd.pinned.checked.prog.looks [] ∧ ∀ (j : Nat) t, fn.params[j]? = some t → Tryd.pinned.checked.prog.wantsStandIn t = false := by
  obtain rfl : f = 4 := Option.some.inj ((show Tryd.prog.funcNamed "loop.example/g01309/laws.FnExactReadDecimal" = some 4 by kernel_rfl).symm.trans hf) |>.symm
  obtain rfl : fn = Tryd.f4 := (Option.some.inj (Tryd.func4.symm.trans hfn)).symm
  refine ⟨by kernel_rfl, fun j t ht => ?_⟩
  rw [Tryd.params4] at ht
  obtain rfl : t = 9 := by simpa using Array.mem_of_getElem? ht
  exact (show Tryd.prog.wantsStandIn 9 = false by kernel_rfl)
theorem proved_FnExactReadDecimal : Rows.FnExactReadDecimalCardSaid :=
  Claim7.holds_tied_plain_at .later [] _ _ _ _ said_FnExactReadDecimal (fun _ h => by cases h) (by kernel_rfl) (fun _ h => by cases h) fnExactReadDecimal_row_tie rfl ⟨rfl, rfl⟩ (by kernel_rfl) rfl plain_FnExactReadDecimal (by kernel_rfl)
#print axioms proved_FnExactReadDecimal
end Go.Proofs.YtgonnnnhibhekaaDoor
