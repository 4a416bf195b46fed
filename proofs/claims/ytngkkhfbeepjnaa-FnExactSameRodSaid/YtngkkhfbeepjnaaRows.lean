/-
  No cell of these rows narrows 'for every input' (looked for: loops, veiled, ifaces, maps, wideKeys, modest, calm, conditions, laid).
  DERIVED. THE GIVEN ROWS OF THIS SEAT. 5 by the template 'for every input the law returns true; each argument reads behind the call as it read before'; 0 by the template 'total and deterministic' (their statements: YtngkkhfbeepjnaaTotals.lean).
  GIVEN WITH THE SEED: the statements are not yours to turn. If you find one false, say at which input.
  Laid BY PROGRAM, IN A SANDBOX (cutbox-rows.mjs): the forced cells as the released guide's own fill.sh prints them over the translation 7a7a2fc9c843002e… (all of the seat's roots in one cut). By AI agents, Wed Nov 11 2026. No macro, syntax, notation, axiom, sorry.
-/
import Derived.Test.YtngkkhfbeepjnaaChecked
import GoSem.Claim
import GoSem.ClaimJoined
import GoSem.ClaimMapViews
import Derived.JoinedTies
import Derived.KernelRfl
namespace Go.Proofs.Ytngkkhfbeepjnaa
/- THE CELL 'sum', in the pinned program and in every row, IS THE sha256 OF THE DUMP (.gsa) THAT YtngkkhfbeepjnaaProg.lean LOADS. Nothing in Lean hashes anything: it is a label: what it is worth is what the hold of that sum in a sandbox is worth. -/
noncomputable def Try.pinned : Pinned := { name := "ytngkkhfbeepjnaa", sum := "7a7a2fc9c843002e63b9fc572c6ae669d7943d6afc749cc49350d3dd5258b2ff", checked := Try.checked }
namespace Rows
def none {H : Type} : Left H := { results := [], args := [] }

/-- 'laws.FnExactValidEnd': WHATEVER THE INPUT: true; the input reads as it did. -/
def fnExactValidEndSpec : ChangeSpec := { name := "fnExactValidEnd", fn := fun _ => fun
  | [d] => { results := [.lit (.bool true)], args := [d] }
  | _ => none }
def fnExactValidEndRow : OpenClaim := { program := "ytngkkhfbeepjnaa", sum := "7a7a2fc9c843002e63b9fc572c6ae669d7943d6afc749cc49350d3dd5258b2ff", func := "loop.example/g01309/laws.FnExactValidEnd", spec := "fnExactValidEnd", unfollowed := true, recurses := true, apart := false }
def FnExactValidEndSaid : Prop := fnExactValidEndRow.holds Try.pinned (OpenSpec.ofChange fnExactValidEndSpec)

/-- ITS FALSE NEIGHBOUR: 'it returns false'. Refute it at one input. -/
def fnExactValidEndWrong : ChangeSpec := { name := "fnExactValidEnd", fn := fun _ => fun
  | [d] => { results := [.lit (.bool false)], args := [d] }
  | _ => none }
def FnExactValidEndWrongFalsely : Prop := fnExactValidEndRow.holds Try.pinned (OpenSpec.ofChange fnExactValidEndWrong)

/-- 'laws.FnExactWaveDepth': WHATEVER THE INPUT: true; the input reads as it did. -/
def fnExactWaveDepthSpec : ChangeSpec := { name := "fnExactWaveDepth", fn := fun _ => fun
  | [d1, d2, d3] => { results := [.lit (.bool true)], args := [d1, d2, d3] }
  | _ => none }
def fnExactWaveDepthRow : OpenClaim := { program := "ytngkkhfbeepjnaa", sum := "7a7a2fc9c843002e63b9fc572c6ae669d7943d6afc749cc49350d3dd5258b2ff", func := "loop.example/g01309/laws.FnExactWaveDepth", spec := "fnExactWaveDepth", inPlace := ["math.sqrt"], unfollowed := true, recurses := true, apart := false }
def FnExactWaveDepthSaid : Prop := fnExactWaveDepthRow.holds Try.pinned (OpenSpec.ofChange fnExactWaveDepthSpec)

/-- ITS FALSE NEIGHBOUR: 'it returns false'. Refute it at one input. -/
def fnExactWaveDepthWrong : ChangeSpec := { name := "fnExactWaveDepth", fn := fun _ => fun
  | [d1, d2, d3] => { results := [.lit (.bool false)], args := [d1, d2, d3] }
  | _ => none }
def FnExactWaveDepthWrongFalsely : Prop := fnExactWaveDepthRow.holds Try.pinned (OpenSpec.ofChange fnExactWaveDepthWrong)

/-- 'laws.FnExactValidRod': WHATEVER THE INPUT: true; the input reads as it did. -/
def fnExactValidRodSpec : ChangeSpec := { name := "fnExactValidRod", fn := fun _ => fun
  | [d] => { results := [.lit (.bool true)], args := [d] }
  | _ => none }
def fnExactValidRodRow : OpenClaim := { program := "ytngkkhfbeepjnaa", sum := "7a7a2fc9c843002e63b9fc572c6ae669d7943d6afc749cc49350d3dd5258b2ff", func := "loop.example/g01309/laws.FnExactValidRod", spec := "fnExactValidRod", unfollowed := true, recurses := true, apart := false }
def FnExactValidRodSaid : Prop := fnExactValidRodRow.holds Try.pinned (OpenSpec.ofChange fnExactValidRodSpec)

/-- ITS FALSE NEIGHBOUR: 'it returns false'. Refute it at one input. -/
def fnExactValidRodWrong : ChangeSpec := { name := "fnExactValidRod", fn := fun _ => fun
  | [d] => { results := [.lit (.bool false)], args := [d] }
  | _ => none }
def FnExactValidRodWrongFalsely : Prop := fnExactValidRodRow.holds Try.pinned (OpenSpec.ofChange fnExactValidRodWrong)

/-- 'laws.FnExactSameRod': WHATEVER THE INPUT: true; the input reads as it did. -/
def fnExactSameRodSpec : ChangeSpec := { name := "fnExactSameRod", fn := fun _ => fun
  | [d1, d2] => { results := [.lit (.bool true)], args := [d1, d2] }
  | _ => none }
def fnExactSameRodRow : OpenClaim := { program := "ytngkkhfbeepjnaa", sum := "7a7a2fc9c843002e63b9fc572c6ae669d7943d6afc749cc49350d3dd5258b2ff", func := "loop.example/g01309/laws.FnExactSameRod", spec := "fnExactSameRod", inPlace := ["math.Float32bits", "math.Float64bits"], unfollowed := true, recurses := true, apart := false }
def FnExactSameRodSaid : Prop := fnExactSameRodRow.holds Try.pinned (OpenSpec.ofChange fnExactSameRodSpec)

/-- ITS FALSE NEIGHBOUR: 'it returns false'. Refute it at one input. -/
def fnExactSameRodWrong : ChangeSpec := { name := "fnExactSameRod", fn := fun _ => fun
  | [d1, d2] => { results := [.lit (.bool false)], args := [d1, d2] }
  | _ => none }
def FnExactSameRodWrongFalsely : Prop := fnExactSameRodRow.holds Try.pinned (OpenSpec.ofChange fnExactSameRodWrong)

/-- 'laws.FnExactFinShare': WHATEVER THE INPUT: true; the input reads as it did. -/
def fnExactFinShareSpec : ChangeSpec := { name := "fnExactFinShare", fn := fun _ => fun
  | [d1, d2, d3, d4] => { results := [.lit (.bool true)], args := [d1, d2, d3, d4] }
  | _ => none }
def fnExactFinShareRow : OpenClaim := { program := "ytngkkhfbeepjnaa", sum := "7a7a2fc9c843002e63b9fc572c6ae669d7943d6afc749cc49350d3dd5258b2ff", func := "loop.example/g01309/laws.FnExactFinShare", spec := "fnExactFinShare", inPlace := ["math.sqrt", "math.Float64frombits"], unfollowed := true, recurses := true, apart := false }
def FnExactFinShareSaid : Prop := fnExactFinShareRow.holds Try.pinned (OpenSpec.ofChange fnExactFinShareSpec)

/-- ITS FALSE NEIGHBOUR: 'it returns false'. Refute it at one input. -/
def fnExactFinShareWrong : ChangeSpec := { name := "fnExactFinShare", fn := fun _ => fun
  | [d1, d2, d3, d4] => { results := [.lit (.bool false)], args := [d1, d2, d3, d4] }
  | _ => none }
def FnExactFinShareWrongFalsely : Prop := fnExactFinShareRow.holds Try.pinned (OpenSpec.ofChange fnExactFinShareWrong)

/- THE SECOND FORM. 'bulk': how many values and letters a reading holds, each counted each time it is reached (what is shared counts as often as it is met; a slice's spare places count too). A statement '..UptoSaid' is the law's where the arguments, and the package variables that the reading takes, are together of bulk at most 1048576: NARROWER than '..Said'. Prove '..Said' where nothing that the law and all that it calls make is longer than what came in: it says more and counts as full. Else prove '..UptoSaid'. A law counts once. -/
mutual
def uptoBulk {H : Type} : DataW H → Nat
  | .lit (.string bytes) => bytes.length + 1
  | .lit _ => 1
  | .nil => 1
  | .ptr d => uptoBulk d + 1
  | .slice elems spare => uptoBulkAll elems + uptoBulkAll spare + 1
  | .agg parts => uptoBulkAll parts + 1
  | .iface _ d => uptoBulk d + 1
  | .map entries => uptoBulkEntries entries + 1
  | .held _ => 1
def uptoBulkAll {H : Type} : List (DataW H) → Nat
  | [] => 0
  | d :: r => uptoBulk d + uptoBulkAll r
def uptoBulkEntries {H : Type} : List (Lit × DataW H) → Nat
  | [] => 0
  | x :: r => uptoBulkEntry x + uptoBulkEntries r
def uptoBulkEntry {H : Type} : Lit × DataW H → Nat
  | (.string bytes, d) => bytes.length + uptoBulk d + 1
  | (_, d) => uptoBulk d + 1
 end
def uptoSmall : (H : Type) → List (DataW H) → Bool := fun _ ds => decide (uptoBulkAll ds ≤ 1048576)
def OpenSpec.upto (s : _root_.Go.ChangeSpec) : _root_.Go.OpenSpec := { _root_.Go.OpenSpec.ofChange s with cond := some uptoSmall }

/-- 'laws.FnExactValidEnd', WHERE WHAT IT READS IS OF BULK AT MOST 1048576: true; the input reads as it did. -/
def fnExactValidEndUptoRow : OpenClaim := { program := "ytngkkhfbeepjnaa", sum := "7a7a2fc9c843002e63b9fc572c6ae669d7943d6afc749cc49350d3dd5258b2ff", func := "loop.example/g01309/laws.FnExactValidEnd", spec := "fnExactValidEnd", unfollowed := true, recurses := true, apart := false, narrowed := true }
def FnExactValidEndUptoSaid : Prop := fnExactValidEndUptoRow.holds Try.pinned (OpenSpec.upto fnExactValidEndSpec)

/-- 'laws.FnExactWaveDepth', WHERE WHAT IT READS IS OF BULK AT MOST 1048576: true; the input reads as it did. -/
def fnExactWaveDepthUptoRow : OpenClaim := { program := "ytngkkhfbeepjnaa", sum := "7a7a2fc9c843002e63b9fc572c6ae669d7943d6afc749cc49350d3dd5258b2ff", func := "loop.example/g01309/laws.FnExactWaveDepth", spec := "fnExactWaveDepth", inPlace := ["math.sqrt"], unfollowed := true, recurses := true, apart := false, narrowed := true }
def FnExactWaveDepthUptoSaid : Prop := fnExactWaveDepthUptoRow.holds Try.pinned (OpenSpec.upto fnExactWaveDepthSpec)

/-- 'laws.FnExactValidRod', WHERE WHAT IT READS IS OF BULK AT MOST 1048576: true; the input reads as it did. -/
def fnExactValidRodUptoRow : OpenClaim := { program := "ytngkkhfbeepjnaa", sum := "7a7a2fc9c843002e63b9fc572c6ae669d7943d6afc749cc49350d3dd5258b2ff", func := "loop.example/g01309/laws.FnExactValidRod", spec := "fnExactValidRod", unfollowed := true, recurses := true, apart := false, narrowed := true }
def FnExactValidRodUptoSaid : Prop := fnExactValidRodUptoRow.holds Try.pinned (OpenSpec.upto fnExactValidRodSpec)

/-- 'laws.FnExactSameRod', WHERE WHAT IT READS IS OF BULK AT MOST 1048576: true; the input reads as it did. -/
def fnExactSameRodUptoRow : OpenClaim := { program := "ytngkkhfbeepjnaa", sum := "7a7a2fc9c843002e63b9fc572c6ae669d7943d6afc749cc49350d3dd5258b2ff", func := "loop.example/g01309/laws.FnExactSameRod", spec := "fnExactSameRod", inPlace := ["math.Float32bits", "math.Float64bits"], unfollowed := true, recurses := true, apart := false, narrowed := true }
def FnExactSameRodUptoSaid : Prop := fnExactSameRodUptoRow.holds Try.pinned (OpenSpec.upto fnExactSameRodSpec)

/-- 'laws.FnExactFinShare', WHERE WHAT IT READS IS OF BULK AT MOST 1048576: true; the input reads as it did. -/
def fnExactFinShareUptoRow : OpenClaim := { program := "ytngkkhfbeepjnaa", sum := "7a7a2fc9c843002e63b9fc572c6ae669d7943d6afc749cc49350d3dd5258b2ff", func := "loop.example/g01309/laws.FnExactFinShare", spec := "fnExactFinShare", inPlace := ["math.sqrt", "math.Float64frombits"], unfollowed := true, recurses := true, apart := false, narrowed := true }
def FnExactFinShareUptoSaid : Prop := fnExactFinShareUptoRow.holds Try.pinned (OpenSpec.upto fnExactFinShareSpec)

end Rows
end Go.Proofs.Ytngkkhfbeepjnaa
