/-
  No cell of these rows narrows 'for every input' (looked for: loops, veiled, ifaces, maps, wideKeys, modest, calm, conditions, laid).
  DERIVED. THE GIVEN ROWS OF THIS SEAT. 7 by the template 'for every input the law returns true; each argument reads behind the call as it read before'; 0 by the template 'total and deterministic' (their statements: YtndfpgcaooldkaaTotals.lean).
  GIVEN WITH THE SEED: the statements are not yours to turn. If you find one false, say at which input.
  Laid BY PROGRAM, IN A SANDBOX (cutbox-rows.mjs): the forced cells as the released guide's own fill.sh prints them over the translation b0b6a93e2c33e02c… (all of the seat's roots in one cut). By AI agents, Wed Nov 11 2026. No macro, syntax, notation, axiom, sorry.
-/
import Derived.Test.YtndfpgcaooldkaaChecked
import GoSem.Claim
import GoSem.ClaimJoined
import GoSem.ClaimMapViews
import Derived.JoinedTies
import Derived.KernelRfl
namespace Go.Proofs.Ytndfpgcaooldkaa
/- THE CELL 'sum', in the pinned program and in every row, IS THE sha256 OF THE DUMP (.gsa) THAT YtndfpgcaooldkaaProg.lean LOADS. Nothing in Lean hashes anything: it is a label: what it is worth is what the hold of that sum in a sandbox is worth. -/
noncomputable def Try.pinned : Pinned := { name := "ytndfpgcaooldkaa", sum := "b0b6a93e2c33e02c7e6c211031589ce1dc2e52f3a2b266e486d2ab2c251e8256", checked := Try.checked }
namespace Rows
def none {H : Type} : Left H := { results := [], args := [] }

/-- 'laws.FnExactLongOfRod': WHATEVER THE INPUT: true; the input reads as it did. -/
def fnExactLongOfRodSpec : ChangeSpec := { name := "fnExactLongOfRod", fn := fun _ => fun
  | [d] => { results := [.lit (.bool true)], args := [d] }
  | _ => none }
def fnExactLongOfRodRow : OpenClaim := { program := "ytndfpgcaooldkaa", sum := "b0b6a93e2c33e02c7e6c211031589ce1dc2e52f3a2b266e486d2ab2c251e8256", func := "loop.example/g01309/laws.FnExactLongOfRod", spec := "fnExactLongOfRod", unfollowed := true, recurses := true, apart := false }
def FnExactLongOfRodSaid : Prop := fnExactLongOfRodRow.holds Try.pinned (OpenSpec.ofChange fnExactLongOfRodSpec)

/-- ITS FALSE NEIGHBOUR: 'it returns false'. Refute it at one input. -/
def fnExactLongOfRodWrong : ChangeSpec := { name := "fnExactLongOfRod", fn := fun _ => fun
  | [d] => { results := [.lit (.bool false)], args := [d] }
  | _ => none }
def FnExactLongOfRodWrongFalsely : Prop := fnExactLongOfRodRow.holds Try.pinned (OpenSpec.ofChange fnExactLongOfRodWrong)

/-- 'laws.FnExactHeatOfRod': WHATEVER THE INPUT: true; the input reads as it did. -/
def fnExactHeatOfRodSpec : ChangeSpec := { name := "fnExactHeatOfRod", fn := fun _ => fun
  | [d] => { results := [.lit (.bool true)], args := [d] }
  | _ => none }
def fnExactHeatOfRodRow : OpenClaim := { program := "ytndfpgcaooldkaa", sum := "b0b6a93e2c33e02c7e6c211031589ce1dc2e52f3a2b266e486d2ab2c251e8256", func := "loop.example/g01309/laws.FnExactHeatOfRod", spec := "fnExactHeatOfRod", unfollowed := true, recurses := true, apart := false }
def FnExactHeatOfRodSaid : Prop := fnExactHeatOfRodRow.holds Try.pinned (OpenSpec.ofChange fnExactHeatOfRodSpec)

/-- ITS FALSE NEIGHBOUR: 'it returns false'. Refute it at one input. -/
def fnExactHeatOfRodWrong : ChangeSpec := { name := "fnExactHeatOfRod", fn := fun _ => fun
  | [d] => { results := [.lit (.bool false)], args := [d] }
  | _ => none }
def FnExactHeatOfRodWrongFalsely : Prop := fnExactHeatOfRodRow.holds Try.pinned (OpenSpec.ofChange fnExactHeatOfRodWrong)

/-- 'laws.FnExactMeanOfRod': WHATEVER THE INPUT: true; the input reads as it did. -/
def fnExactMeanOfRodSpec : ChangeSpec := { name := "fnExactMeanOfRod", fn := fun _ => fun
  | [d] => { results := [.lit (.bool true)], args := [d] }
  | _ => none }
def fnExactMeanOfRodRow : OpenClaim := { program := "ytndfpgcaooldkaa", sum := "b0b6a93e2c33e02c7e6c211031589ce1dc2e52f3a2b266e486d2ab2c251e8256", func := "loop.example/g01309/laws.FnExactMeanOfRod", spec := "fnExactMeanOfRod", unfollowed := true, recurses := true, apart := false }
def FnExactMeanOfRodSaid : Prop := fnExactMeanOfRodRow.holds Try.pinned (OpenSpec.ofChange fnExactMeanOfRodSpec)

/-- ITS FALSE NEIGHBOUR: 'it returns false'. Refute it at one input. -/
def fnExactMeanOfRodWrong : ChangeSpec := { name := "fnExactMeanOfRod", fn := fun _ => fun
  | [d] => { results := [.lit (.bool false)], args := [d] }
  | _ => none }
def FnExactMeanOfRodWrongFalsely : Prop := fnExactMeanOfRodRow.holds Try.pinned (OpenSpec.ofChange fnExactMeanOfRodWrong)

/-- 'laws.FnExactHinderOf': WHATEVER THE INPUT: true; the input reads as it did. -/
def fnExactHinderOfSpec : ChangeSpec := { name := "fnExactHinderOf", fn := fun _ => fun
  | [d] => { results := [.lit (.bool true)], args := [d] }
  | _ => none }
def fnExactHinderOfRow : OpenClaim := { program := "ytndfpgcaooldkaa", sum := "b0b6a93e2c33e02c7e6c211031589ce1dc2e52f3a2b266e486d2ab2c251e8256", func := "loop.example/g01309/laws.FnExactHinderOf", spec := "fnExactHinderOf", unfollowed := true, recurses := true, apart := false }
def FnExactHinderOfSaid : Prop := fnExactHinderOfRow.holds Try.pinned (OpenSpec.ofChange fnExactHinderOfSpec)

/-- ITS FALSE NEIGHBOUR: 'it returns false'. Refute it at one input. -/
def fnExactHinderOfWrong : ChangeSpec := { name := "fnExactHinderOf", fn := fun _ => fun
  | [d] => { results := [.lit (.bool false)], args := [d] }
  | _ => none }
def FnExactHinderOfWrongFalsely : Prop := fnExactHinderOfRow.holds Try.pinned (OpenSpec.ofChange fnExactHinderOfWrong)

/-- 'laws.FnExactPassBetween': WHATEVER THE INPUT: true; the input reads as it did. -/
def fnExactPassBetweenSpec : ChangeSpec := { name := "fnExactPassBetween", fn := fun _ => fun
  | [d1, d2] => { results := [.lit (.bool true)], args := [d1, d2] }
  | _ => none }
def fnExactPassBetweenRow : OpenClaim := { program := "ytndfpgcaooldkaa", sum := "b0b6a93e2c33e02c7e6c211031589ce1dc2e52f3a2b266e486d2ab2c251e8256", func := "loop.example/g01309/laws.FnExactPassBetween", spec := "fnExactPassBetween", unfollowed := true, recurses := true, apart := false }
def FnExactPassBetweenSaid : Prop := fnExactPassBetweenRow.holds Try.pinned (OpenSpec.ofChange fnExactPassBetweenSpec)

/-- ITS FALSE NEIGHBOUR: 'it returns false'. Refute it at one input. -/
def fnExactPassBetweenWrong : ChangeSpec := { name := "fnExactPassBetween", fn := fun _ => fun
  | [d1, d2] => { results := [.lit (.bool false)], args := [d1, d2] }
  | _ => none }
def FnExactPassBetweenWrongFalsely : Prop := fnExactPassBetweenRow.holds Try.pinned (OpenSpec.ofChange fnExactPassBetweenWrong)

/-- 'laws.FnExactPassAtEnd': WHATEVER THE INPUT: true; the input reads as it did. -/
def fnExactPassAtEndSpec : ChangeSpec := { name := "fnExactPassAtEnd", fn := fun _ => fun
  | [d1, d2, d3] => { results := [.lit (.bool true)], args := [d1, d2, d3] }
  | _ => none }
def fnExactPassAtEndRow : OpenClaim := { program := "ytndfpgcaooldkaa", sum := "b0b6a93e2c33e02c7e6c211031589ce1dc2e52f3a2b266e486d2ab2c251e8256", func := "loop.example/g01309/laws.FnExactPassAtEnd", spec := "fnExactPassAtEnd", unfollowed := true, recurses := true, apart := false }
def FnExactPassAtEndSaid : Prop := fnExactPassAtEndRow.holds Try.pinned (OpenSpec.ofChange fnExactPassAtEndSpec)

/-- ITS FALSE NEIGHBOUR: 'it returns false'. Refute it at one input. -/
def fnExactPassAtEndWrong : ChangeSpec := { name := "fnExactPassAtEnd", fn := fun _ => fun
  | [d1, d2, d3] => { results := [.lit (.bool false)], args := [d1, d2, d3] }
  | _ => none }
def FnExactPassAtEndWrongFalsely : Prop := fnExactPassAtEndRow.holds Try.pinned (OpenSpec.ofChange fnExactPassAtEndWrong)

/-- 'laws.FnExactPlaceOf': WHATEVER THE INPUT: true; the input reads as it did. -/
def fnExactPlaceOfSpec : ChangeSpec := { name := "fnExactPlaceOf", fn := fun _ => fun
  | [d1, d2] => { results := [.lit (.bool true)], args := [d1, d2] }
  | _ => none }
def fnExactPlaceOfRow : OpenClaim := { program := "ytndfpgcaooldkaa", sum := "b0b6a93e2c33e02c7e6c211031589ce1dc2e52f3a2b266e486d2ab2c251e8256", func := "loop.example/g01309/laws.FnExactPlaceOf", spec := "fnExactPlaceOf", unfollowed := true, recurses := true, apart := false }
def FnExactPlaceOfSaid : Prop := fnExactPlaceOfRow.holds Try.pinned (OpenSpec.ofChange fnExactPlaceOfSpec)

/-- ITS FALSE NEIGHBOUR: 'it returns false'. Refute it at one input. -/
def fnExactPlaceOfWrong : ChangeSpec := { name := "fnExactPlaceOf", fn := fun _ => fun
  | [d1, d2] => { results := [.lit (.bool false)], args := [d1, d2] }
  | _ => none }
def FnExactPlaceOfWrongFalsely : Prop := fnExactPlaceOfRow.holds Try.pinned (OpenSpec.ofChange fnExactPlaceOfWrong)

/- THE SECOND FORM. 'bulk': how many values and letters a reading holds, each counted each time it is reached (what is shared counts as often as it is met; a slice's spare places count too). A statement '..UptoSaid' is the law's where the arguments, and the package variables that the reading takes, are together of bulk at most 1048576: NARROWER than '..Said'. Prove '..Said' where nothing that the law and all that it calls make is longer than what came in: it says more and counts as full. Else prove '..UptoSaid'. A law counts once. -/
mutual
def uptoBulk {H : Type} : DataW H → Nat
  | .lit (.string bytes) => bytes.length + 1
  | .lit _ => 1
  | .nil => 1
  | .ptr d => uptoBulk d + 1
  | .slice elems spare => uptoBulkAll elems + uptoBulkAll spare + 1
  | .agg parts => uptoBulkAll parts + 1
  | .iface _ d => uptoBulk d + 1
  | .map entries => uptoBulkEntries entries + 1
  | .held _ => 1
def uptoBulkAll {H : Type} : List (DataW H) → Nat
  | [] => 0
  | d :: r => uptoBulk d + uptoBulkAll r
def uptoBulkEntries {H : Type} : List (Lit × DataW H) → Nat
  | [] => 0
  | x :: r => uptoBulkEntry x + uptoBulkEntries r
def uptoBulkEntry {H : Type} : Lit × DataW H → Nat
  | (.string bytes, d) => bytes.length + uptoBulk d + 1
  | (_, d) => uptoBulk d + 1
 end
def uptoSmall : (H : Type) → List (DataW H) → Bool := fun _ ds => decide (uptoBulkAll ds ≤ 1048576)
def OpenSpec.upto (s : _root_.Go.ChangeSpec) : _root_.Go.OpenSpec := { _root_.Go.OpenSpec.ofChange s with cond := some uptoSmall }

/-- 'laws.FnExactLongOfRod', WHERE WHAT IT READS IS OF BULK AT MOST 1048576: true; the input reads as it did. -/
def fnExactLongOfRodUptoRow : OpenClaim := { program := "ytndfpgcaooldkaa", sum := "b0b6a93e2c33e02c7e6c211031589ce1dc2e52f3a2b266e486d2ab2c251e8256", func := "loop.example/g01309/laws.FnExactLongOfRod", spec := "fnExactLongOfRod", unfollowed := true, recurses := true, apart := false, narrowed := true }
def FnExactLongOfRodUptoSaid : Prop := fnExactLongOfRodUptoRow.holds Try.pinned (OpenSpec.upto fnExactLongOfRodSpec)

/-- 'laws.FnExactHeatOfRod', WHERE WHAT IT READS IS OF BULK AT MOST 1048576: true; the input reads as it did. -/
def fnExactHeatOfRodUptoRow : OpenClaim := { program := "ytndfpgcaooldkaa", sum := "b0b6a93e2c33e02c7e6c211031589ce1dc2e52f3a2b266e486d2ab2c251e8256", func := "loop.example/g01309/laws.FnExactHeatOfRod", spec := "fnExactHeatOfRod", unfollowed := true, recurses := true, apart := false, narrowed := true }
def FnExactHeatOfRodUptoSaid : Prop := fnExactHeatOfRodUptoRow.holds Try.pinned (OpenSpec.upto fnExactHeatOfRodSpec)

/-- 'laws.FnExactMeanOfRod', WHERE WHAT IT READS IS OF BULK AT MOST 1048576: true; the input reads as it did. -/
def fnExactMeanOfRodUptoRow : OpenClaim := { program := "ytndfpgcaooldkaa", sum := "b0b6a93e2c33e02c7e6c211031589ce1dc2e52f3a2b266e486d2ab2c251e8256", func := "loop.example/g01309/laws.FnExactMeanOfRod", spec := "fnExactMeanOfRod", unfollowed := true, recurses := true, apart := false, narrowed := true }
def FnExactMeanOfRodUptoSaid : Prop := fnExactMeanOfRodUptoRow.holds Try.pinned (OpenSpec.upto fnExactMeanOfRodSpec)

/-- 'laws.FnExactHinderOf', WHERE WHAT IT READS IS OF BULK AT MOST 1048576: true; the input reads as it did. -/
def fnExactHinderOfUptoRow : OpenClaim := { program := "ytndfpgcaooldkaa", sum := "b0b6a93e2c33e02c7e6c211031589ce1dc2e52f3a2b266e486d2ab2c251e8256", func := "loop.example/g01309/laws.FnExactHinderOf", spec := "fnExactHinderOf", unfollowed := true, recurses := true, apart := false, narrowed := true }
def FnExactHinderOfUptoSaid : Prop := fnExactHinderOfUptoRow.holds Try.pinned (OpenSpec.upto fnExactHinderOfSpec)

/-- 'laws.FnExactPassBetween', WHERE WHAT IT READS IS OF BULK AT MOST 1048576: true; the input reads as it did. -/
def fnExactPassBetweenUptoRow : OpenClaim := { program := "ytndfpgcaooldkaa", sum := "b0b6a93e2c33e02c7e6c211031589ce1dc2e52f3a2b266e486d2ab2c251e8256", func := "loop.example/g01309/laws.FnExactPassBetween", spec := "fnExactPassBetween", unfollowed := true, recurses := true, apart := false, narrowed := true }
def FnExactPassBetweenUptoSaid : Prop := fnExactPassBetweenUptoRow.holds Try.pinned (OpenSpec.upto fnExactPassBetweenSpec)

/-- 'laws.FnExactPassAtEnd', WHERE WHAT IT READS IS OF BULK AT MOST 1048576: true; the input reads as it did. -/
def fnExactPassAtEndUptoRow : OpenClaim := { program := "ytndfpgcaooldkaa", sum := "b0b6a93e2c33e02c7e6c211031589ce1dc2e52f3a2b266e486d2ab2c251e8256", func := "loop.example/g01309/laws.FnExactPassAtEnd", spec := "fnExactPassAtEnd", unfollowed := true, recurses := true, apart := false, narrowed := true }
def FnExactPassAtEndUptoSaid : Prop := fnExactPassAtEndUptoRow.holds Try.pinned (OpenSpec.upto fnExactPassAtEndSpec)

/-- 'laws.FnExactPlaceOf', WHERE WHAT IT READS IS OF BULK AT MOST 1048576: true; the input reads as it did. -/
def fnExactPlaceOfUptoRow : OpenClaim := { program := "ytndfpgcaooldkaa", sum := "b0b6a93e2c33e02c7e6c211031589ce1dc2e52f3a2b266e486d2ab2c251e8256", func := "loop.example/g01309/laws.FnExactPlaceOf", spec := "fnExactPlaceOf", unfollowed := true, recurses := true, apart := false, narrowed := true }
def FnExactPlaceOfUptoSaid : Prop := fnExactPlaceOfUptoRow.holds Try.pinned (OpenSpec.upto fnExactPlaceOfSpec)

end Rows
end Go.Proofs.Ytndfpgcaooldkaa
