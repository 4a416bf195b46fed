/-
  Products and powers of complex numbers with small whole parts are exact, a quotient leads back, and texts, bits, conjugates and widened numbers are read back. The library's tables and its two errors start as their text lays them (the card ties them). No other condition.
-/
import Derived.Test.YtgaecoekhcdaeaaGreatDoorRows
import Derived.Test.YtgaecoekhcdaeaaGreatDoorPost
import Derived.Test.YtgaecoekhcdaeaaGreatDoorCards
import Derived.Test.YtgaecoekhcdaeaaGreatDoorTie
import Derived.Test.YtgaecoekhcdaeaaGreatDoorFpw
import Derived.Test.YtgaecoekhcdaeaaGreatDoorLaid
namespace Go.Proofs.YtgaecoekhcdaeaaGreatDoor
set_option linter.unusedVariables false
set_option linter.unusedSimpArgs false
set_option maxRecDepth 20000
open Go.ChangeShapes Go.WideShapes Go.ChangeAt Go.RowKit Go.Joins Go.ChangeMaps Fl

theorem gSyn : Tryz.prog.globalNamed "strconv.ErrSyntax" = some 2 := by kernel_rfl
theorem gRan : Tryz.prog.globalNamed "strconv.ErrRange" = some 3 := by kernel_rfl
theorem tabD : (Rows.laid_math_bits_deBruijn64tab : DataW Unit) = Lib.tabData .u8 debTab := by kernel_rfl
theorem gRanT : (Tryz.prog.globals[3]?).map (·.type) = some 96 := by kernel_rfl
theorem gSynT : (Tryz.prog.globals[2]?).map (·.type) = some 96 := by kernel_rfl
theorem star : "*" ++ "errors.errorString" = "*errors.errorString" := by decide
theorem rowE (u : TypeId) (h : Tryz.prog.typeName? 3 u = some "*errors.errorString") : u = 156 :=
  typeName_ptr_named (nm := "errors.errorString") (by rw [star]; kernel_rfl) (by kernel_rfl) (by decide) u (by rw [star]; exact h)
/-- What the row's list gives. -/
theorem facts {W : World} (h : laidMetH Tryz.prog Rows.fnProductsRow.laid W) (hS : W.ShapedOpen Tryz.prog) : RxF W := by
  have h2 : laidMet Tryz.prog Rows.fnProductsRow.laid W := h
  have h3 := h2.tail.tail.tail.tail
  obtain ⟨a0, s0, hv0, _, _, _⟩ := laid_sentinel h3 gRan gRanT Tryz.underlying96 rowE Tryz.underlying156 Tryz.underlying158 rfl rfl Tryz.underlying9 (by kernel_rfl) (by kernel_rfl)
  obtain ⟨a1, s1, hv1, _, _, _⟩ := laid_sentinel h3.tail gSyn gSynT Tryz.underlying96 rowE Tryz.underlying156 Tryz.underlying158 rfl rfl Tryz.underlying9 (by kernel_rfl) (by kernel_rfl)
  refine ⟨?_, ⟨_, _, World.var?_cell gSyn hv1 0⟩, ⟨_, _, World.var?_cell gRan hv0 0⟩, Tryz.laysM146.s1_3 W hS⟩
  clear h3
  obtain ⟨ps, ⟨g0, t0, cs0, f0, p0, q0, hg0, ht0, hv0, hd0, ⟨g1, t1, cs1, f1, p1, q1, hg1, ht1, hv1, hd1, _, _⟩, _⟩, _⟩ := h2
  obtain rfl := Option.some.inj (gDeb.symm.trans hg1)
  obtain rfl := Option.some.inj (gDebT.symm.trans ht1)
  rw [tabD] at hd1
  refine Deb.of ?_
  unfold Lib.TabIs
  rw [hv1, ← Lib.cells_of_tab Tryz.underlying160 Tryz.underlying5 (by kernel_rfl) (by kernel_rfl) hd1]
/-- The cells of a table of integers, or of pairs of them. -/
def litCell : DataW Unit → List Value
  | .lit (.int k z) => [Value.int k z]
  | _ => []
def tabCells (d : DataW Unit) : Array Value := match d with
  | .agg l => (l.flatMap fun x => match x with | .agg l2 => l2.flatMap litCell | x => litCell x).toArray
  | _ => #[]
/-- A world for the witness: the settled one, the tables and the two errors laid. -/
noncomputable def laidWorld (os : Os) : World :=
  let lay := fun (d : DataW Unit) (o : Obj) => match o with
    | .cells _ t frozen => Obj.cells (tabCells d) t frozen
    | o => o
  let err := fun (b : Nat) (o : Obj) => match o with
    | .cells _ t frozen => Obj.cells #[.iface 156 (.pointer (some ⟨b, 0, none⟩))] t frozen
    | o => o
  let h := (World.holding Tryz.prog os ⟨#[], #[], []⟩).heap
  let n := h.size
  { World.holding Tryz.prog os ⟨#[], #[], []⟩ with heap := (((((((h.modify 1 (lay Rows.laid_internal_strconv_uint64pow10)).modify 5 (lay Rows.laid_math_bits_deBruijn32tab)).modify 6 (lay Rows.laid_math_bits_deBruijn64tab)).modify 7 (lay Rows.laid_unicode_utf8_first)).modify 8 (lay Rows.laid_unicode_utf8_acceptRanges)).modify 2 (err n)).modify 3 (err (n + 1))) ++ #[.cells #[.string ⟨#[105, 110, 118, 97, 108, 105, 100, 32, 115, 121, 110, 116, 97, 120]⟩] 158, .cells #[.string ⟨#[118, 97, 108, 117, 101, 32, 111, 117, 116, 32, 111, 102, 32, 114, 97, 110, 103, 101]⟩] 158] }
theorem laidOut_FnProducts : laidOutB Tryz.prog = true := by kernel_rfl
set_option maxRecDepth 100000 in
theorem contract_FnProducts (H : Type) (enc : TypeId × Value → H) (W : World) (base : Nat) (args : Array Value) (ds gs : List (DataW H)) (before : List MemPlace)
    (hval : ∀ (j : Nat) t v, Tryz.f3.params[j]? = some t → args[j]? = some v → Value.okWide Tryz.prog W .any base t v)
    (hW : DataW.Whole enc Tryz.prog Tryz.f3.params.toList Rows.fnProductsSpec.vars false W args.toList ds gs before) (hL : laidMetH Tryz.prog Rows.fnProductsRow.laid W) (hS : W.ShapedOpen Tryz.prog) :
    Calls Tryz.prog 3 args W fun e W' => ∃ v, e = .returned v ∧ Rows.fnProductsSpec.post enc Tryz.prog Tryz.f3 false true false false W args v W' := by
  have hW' := hW
  obtain ⟨p, q, hA0, hV, rfl, hfz, hnd⟩ := hW
  have hA : DataW.TrodAll enc Tryz.prog W 0 (fun _ => true) true Tryz.f3.params.toList args.toList ds p := hA0
  rw [Tryz.params3] at hA hval
  obtain ⟨v0, vs0, d0, ds0, p0, q0, hargs, rfl, rfl, h0, r0⟩ := trodAll_cons hA
  obtain ⟨v1, vs1, d1, ds1, p1, q1, rfl, rfl, rfl, h1, r1⟩ := trodAll_cons r0
  obtain ⟨rfl, rfl, rfl⟩ := trodAll_nil r1
  obtain rfl : args = #[v0, v1] := by cases args; simp_all
  obtain ⟨rfl, rfl⟩ := trodVars_none hV
  have hlt0 : ∀ x ∈ p0, x.block < W.heap.size := fun x hx => hW'.lt x (by simp [hx])
  obtain ⟨sa0, sl0, sc0, rfl⟩ := okWide_slice Tryz.underlying22 (hval 0 22 v0 rfl rfl)
  obtain ⟨bn0, hs0⟩ : ∃ n, BySl W (.slice sa0 sl0 sc0) n := by
    obtain ⟨fuel, hf⟩ := h0
    exact open_bytes Tryz.underlying22 Tryz.underlying5 (by kernel_rfl) hf
  have hlt1 : ∀ x ∈ p1, x.block < W.heap.size := fun x hx => hW'.lt x (by simp [hx])
  obtain ⟨sa1, sl1, sc1, rfl⟩ := okWide_slice Tryz.underlying22 (hval 1 22 v1 rfl rfl)
  obtain ⟨bn1, hs1⟩ : ∃ n, BySl W (.slice sa1 sl1 sc1) n := by
    obtain ⟨fuel, hf⟩ := h1
    exact open_bytes Tryz.underlying22 Tryz.underlying5 (by kernel_rfl) hf
  clear hA0
  simp only [List.append_nil] at hW'
  refine (walk_FnProducts (w := W) _ bn0 hs0 _ bn1 hs1 (facts hL hS)).mono fun e W' ⟨he, hb⟩ => ?_
  subst he
  exact ⟨_, rfl, post_of_below (pa := (p0 ++ (p1 ++ []))) (pv := []) hW' (fun _ _ _ => (trodAll_cons_mk (shut_bool Tryz.underlying4 _) trodAll_mk0)) (fun sp hsp => (trodAll_cons_mk (trod_keep laidOut_FnProducts (by kernel_rfl) (of_decide_eq_true (by kernel_rfl)) h0 hb hlt0 (fun x hx => hsp x (by simp [hx]))) (trodAll_cons_mk (trod_keep laidOut_FnProducts (by kernel_rfl) (of_decide_eq_true (by kernel_rfl)) h1 hb hlt1 (fun x hx => hsp x (by simp [hx]))) trodAll_mk0))) (fun _ _ => rfl) (by simp) hb (ok_one (by kernel_rfl) rfl (okWide_bool_mk Tryz.underlying4 _))⟩

theorem own_FnProducts : ownKnob Tryz.prog.godebug = none := by kernel_rfl
theorem laid_met (os : Os) : laidMet Tryz.prog Rows.fnProductsRow.laid ((laidWorld os).forCall (fun _ _ => 0) ⟨#[], #[.slice none 0 0, .slice none 0 0], []⟩).memory :=
  laidMet_of_run' 8 (by kernel_rfl) (by kernel_rfl)
theorem reads (os : Os) {H : Type} (enc : TypeId × Value → H) : ∃ places, DataW.whole enc Tryz.prog ((laidWorld os).forCall (fun _ _ => 0) ⟨#[], #[.slice none 0 0, .slice none 0 0], []⟩).memory Tryz.f3.params.toList Rows.fnProductsSpec.vars false (#[.slice none 0 0, .slice none 0 0] : Array Value).toList 8 = some ([.nil, .nil], [], places) :=
  ⟨[], by kernel_rfl⟩
set_option maxRecDepth 100000 in
theorem lifted_FnProducts (os : Os) (started : os.Started) (H : Type) (enc : TypeId × Value → H) (F : Stop.Interp) :
    ReturnsInHanded {} Tryz.checked os 3 .any ((OpenSpec.ofChange Rows.fnProductsSpec).preRow enc Tryz.prog Tryz.f3 Rows.fnProductsRow.domain false Rows.fnProductsRow.laid) (((OpenSpec.ofChange Rows.fnProductsSpec).at F).post enc Tryz.prog Tryz.f3 false true false false) := by
  obtain ⟨places, hx⟩ := reads os enc
  refine returnsInHanded_of_row (C := Tryz.checked) (s := OpenSpec.ofChange Rows.fnProductsSpec) own_FnProducts started (by kernel_rfl) Tryz.func3
    (witness_row_at (enc := enc) (C := Tryz.checked) false (laidWorld os) #[.slice none 0 0, .slice none 0 0] rfl (by kernel_rfl) (by kernel_rfl) (by kernel_rfl)
      (OpenSpec.preRow_of_cond 8 hx (by kernel_rfl) (fun k hk => by cases hk) (by kernel_rfl) (laid_met os))) ?_
  intro W base args ds gs before hval hW _ _ _ hL hS _
  exact contract_FnProducts H enc W base args ds gs before hval hW hL hS
theorem said_FnProducts : Rows.FnProductsSaid :=
  OpenClaim.holds_of_cond 3 Tryz.f3 rfl rfl rfl rfl rfl rfl rfl ⟨rfl, rfl, rfl, rfl, rfl⟩ rfl rfl rfl rfl rfl (by kernel_rfl) Tryz.func3 (by kernel_rfl)
    (of_decide_eq_true (by kernel_rfl)) (by unfold Func.isWrapper; first | (rw [if_pos (by decide +kernel)]; kernel_rfl) | (rw [if_neg (by decide +kernel)]; exact ⟨rfl, rfl⟩))
    (fun os started H enc _ F => by rw [OpenClaim.pre_eq_preRow]; exact lifted_FnProducts os started H enc F)
/-- No parameter wants a stand-in. -/
theorem plain_FnProducts (f : FuncId) (fn : Func) (hf : Tryz.pinned.checked.prog.funcNamed "loop.example/g01309/laws.FnProducts" = some f) (hfn : Tryz.pinned.checked.prog.funcs[f]? = some fn) :
    true = Tryz.pinned.checked.prog.looks [] ∧ ∀ (j : Nat) t, fn.params[j]? = some t → Tryz.pinned.checked.prog.wantsStandIn t = false := by
  obtain rfl : f = 3 := Option.some.inj ((show Tryz.prog.funcNamed "loop.example/g01309/laws.FnProducts" = some 3 by kernel_rfl).symm.trans hf) |>.symm
  obtain rfl : fn = Tryz.f3 := (Option.some.inj (Tryz.func3.symm.trans hfn)).symm
  refine ⟨by kernel_rfl, fun j t ht => ?_⟩
  rw [Tryz.params3] at ht
  obtain rfl : t = 22 := by have := Array.mem_of_getElem? ht; simpa using this
  exact (show Tryz.prog.wantsStandIn 22 = false by kernel_rfl)
theorem proved_FnProducts : Rows.FnProductsCardSaid :=
  Claim7.holds_tied_plain_at .later [] _ _ _ _ said_FnProducts (fun _ h => by cases h) (by kernel_rfl) (fun _ h => by cases h) fnProducts_row_tie rfl ⟨rfl, rfl⟩ (by kernel_rfl) rfl plain_FnProducts (by kernel_rfl)
#print axioms proved_FnProducts
end Go.Proofs.YtgaecoekhcdaeaaGreatDoor
