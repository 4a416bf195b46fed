/-
  No cell of these rows narrows 'for every input' (looked for: loops, veiled, ifaces, maps, wideKeys, modest, calm, conditions, laid).
  DERIVED. THE GIVEN ROWS OF THIS SEAT. 3 by the template 'for every input the law returns true; each argument reads behind the call as it read before'; 0 by the template 'total and deterministic' (their statements: YtiolmffcmbcgmaaTotals.lean).
  GIVEN WITH THE SEED: the statements are not yours to turn. If you find one false, say at which input.
  Laid BY PROGRAM, IN A SANDBOX (cutbox-rows.mjs): the forced cells as the released guide's own fill.sh prints them over the translation df6123d76d477c14… (all of the seat's roots in one cut). By AI agents, Wed Nov 11 2026. No macro, syntax, notation, axiom, sorry.
-/
import Derived.Test.YtiolmffcmbcgmaaChecked
import GoSem.Claim
import GoSem.ClaimJoined
import GoSem.ClaimMapViews
import Derived.JoinedTies
import Derived.KernelRfl
namespace Go.Proofs.Ytiolmffcmbcgmaa
/- THE CELL 'sum', in the pinned program and in every row, IS THE sha256 OF THE DUMP (.gsa) THAT YtiolmffcmbcgmaaProg.lean LOADS. Nothing in Lean hashes anything: it is a label: what it is worth is what the hold of that sum in a sandbox is worth. -/
noncomputable def Try.pinned : Pinned := { name := "ytiolmffcmbcgmaa", sum := "df6123d76d477c144f464f73160c2f2202f31a8050bfecb06f25ecc49642b3b3", checked := Try.checked }
namespace Rows
def none {H : Type} : Left H := { results := [], args := [] }

/-- 'laws.FnExactBackRod': WHATEVER THE INPUT: true; the input reads as it did. -/
def fnExactBackRodSpec : ChangeSpec := { name := "fnExactBackRod", fn := fun _ => fun
  | [d] => { results := [.lit (.bool true)], args := [d] }
  | _ => none }
def fnExactBackRodRow : OpenClaim := { program := "ytiolmffcmbcgmaa", sum := "df6123d76d477c144f464f73160c2f2202f31a8050bfecb06f25ecc49642b3b3", func := "loop.example/g01309/laws.FnExactBackRod", spec := "fnExactBackRod", unfollowed := true, recurses := true, apart := false }
def FnExactBackRodSaid : Prop := fnExactBackRodRow.holds Try.pinned (OpenSpec.ofChange fnExactBackRodSpec)

/-- ITS FALSE NEIGHBOUR: 'it returns false'. Refute it at one input. -/
def fnExactBackRodWrong : ChangeSpec := { name := "fnExactBackRod", fn := fun _ => fun
  | [d] => { results := [.lit (.bool false)], args := [d] }
  | _ => none }
def FnExactBackRodWrongFalsely : Prop := fnExactBackRodRow.holds Try.pinned (OpenSpec.ofChange fnExactBackRodWrong)

/-- 'laws.FnExactPlainRod': WHATEVER THE INPUT: true; the input reads as it did. -/
def fnExactPlainRodSpec : ChangeSpec := { name := "fnExactPlainRod", fn := fun _ => fun
  | [d1, d2, d3, d4, d5] => { results := [.lit (.bool true)], args := [d1, d2, d3, d4, d5] }
  | _ => none }
def fnExactPlainRodRow : OpenClaim := { program := "ytiolmffcmbcgmaa", sum := "df6123d76d477c144f464f73160c2f2202f31a8050bfecb06f25ecc49642b3b3", func := "loop.example/g01309/laws.FnExactPlainRod", spec := "fnExactPlainRod", unfollowed := true, recurses := true, apart := false }
def FnExactPlainRodSaid : Prop := fnExactPlainRodRow.holds Try.pinned (OpenSpec.ofChange fnExactPlainRodSpec)

/-- ITS FALSE NEIGHBOUR: 'it returns false'. Refute it at one input. -/
def fnExactPlainRodWrong : ChangeSpec := { name := "fnExactPlainRod", fn := fun _ => fun
  | [d1, d2, d3, d4, d5] => { results := [.lit (.bool false)], args := [d1, d2, d3, d4, d5] }
  | _ => none }
def FnExactPlainRodWrongFalsely : Prop := fnExactPlainRodRow.holds Try.pinned (OpenSpec.ofChange fnExactPlainRodWrong)

/-- 'laws.FnExactSetWarms': WHATEVER THE INPUT: true; the input reads as it did. -/
def fnExactSetWarmsSpec : ChangeSpec := { name := "fnExactSetWarms", fn := fun _ => fun
  | [d1, d2] => { results := [.lit (.bool true)], args := [d1, d2] }
  | _ => none }
def fnExactSetWarmsRow : OpenClaim := { program := "ytiolmffcmbcgmaa", sum := "df6123d76d477c144f464f73160c2f2202f31a8050bfecb06f25ecc49642b3b3", func := "loop.example/g01309/laws.FnExactSetWarms", spec := "fnExactSetWarms", unfollowed := true, recurses := true, apart := false }
def FnExactSetWarmsSaid : Prop := fnExactSetWarmsRow.holds Try.pinned (OpenSpec.ofChange fnExactSetWarmsSpec)

/-- ITS FALSE NEIGHBOUR: 'it returns false'. Refute it at one input. -/
def fnExactSetWarmsWrong : ChangeSpec := { name := "fnExactSetWarms", fn := fun _ => fun
  | [d1, d2] => { results := [.lit (.bool false)], args := [d1, d2] }
  | _ => none }
def FnExactSetWarmsWrongFalsely : Prop := fnExactSetWarmsRow.holds Try.pinned (OpenSpec.ofChange fnExactSetWarmsWrong)

/- THE SECOND FORM. 'bulk': how many values and letters a reading holds, each counted each time it is reached (what is shared counts as often as it is met; a slice's spare places count too). A statement '..UptoSaid' is the law's where the arguments, and the package variables that the reading takes, are together of bulk at most 1048576: NARROWER than '..Said'. Prove '..Said' where nothing that the law and all that it calls make is longer than what came in: it says more and counts as full. Else prove '..UptoSaid'. A law counts once. -/
mutual
def uptoBulk {H : Type} : DataW H → Nat
  | .lit (.string bytes) => bytes.length + 1
  | .lit _ => 1
  | .nil => 1
  | .ptr d => uptoBulk d + 1
  | .slice elems spare => uptoBulkAll elems + uptoBulkAll spare + 1
  | .agg parts => uptoBulkAll parts + 1
  | .iface _ d => uptoBulk d + 1
  | .map entries => uptoBulkEntries entries + 1
  | .held _ => 1
def uptoBulkAll {H : Type} : List (DataW H) → Nat
  | [] => 0
  | d :: r => uptoBulk d + uptoBulkAll r
def uptoBulkEntries {H : Type} : List (Lit × DataW H) → Nat
  | [] => 0
  | x :: r => uptoBulkEntry x + uptoBulkEntries r
def uptoBulkEntry {H : Type} : Lit × DataW H → Nat
  | (.string bytes, d) => bytes.length + uptoBulk d + 1
  | (_, d) => uptoBulk d + 1
 end
def uptoSmall : (H : Type) → List (DataW H) → Bool := fun _ ds => decide (uptoBulkAll ds ≤ 1048576)
def OpenSpec.upto (s : _root_.Go.ChangeSpec) : _root_.Go.OpenSpec := { _root_.Go.OpenSpec.ofChange s with cond := some uptoSmall }

/-- 'laws.FnExactBackRod', WHERE WHAT IT READS IS OF BULK AT MOST 1048576: true; the input reads as it did. -/
def fnExactBackRodUptoRow : OpenClaim := { program := "ytiolmffcmbcgmaa", sum := "df6123d76d477c144f464f73160c2f2202f31a8050bfecb06f25ecc49642b3b3", func := "loop.example/g01309/laws.FnExactBackRod", spec := "fnExactBackRod", unfollowed := true, recurses := true, apart := false, narrowed := true }
def FnExactBackRodUptoSaid : Prop := fnExactBackRodUptoRow.holds Try.pinned (OpenSpec.upto fnExactBackRodSpec)

/-- 'laws.FnExactPlainRod', WHERE WHAT IT READS IS OF BULK AT MOST 1048576: true; the input reads as it did. -/
def fnExactPlainRodUptoRow : OpenClaim := { program := "ytiolmffcmbcgmaa", sum := "df6123d76d477c144f464f73160c2f2202f31a8050bfecb06f25ecc49642b3b3", func := "loop.example/g01309/laws.FnExactPlainRod", spec := "fnExactPlainRod", unfollowed := true, recurses := true, apart := false, narrowed := true }
def FnExactPlainRodUptoSaid : Prop := fnExactPlainRodUptoRow.holds Try.pinned (OpenSpec.upto fnExactPlainRodSpec)

/-- 'laws.FnExactSetWarms', WHERE WHAT IT READS IS OF BULK AT MOST 1048576: true; the input reads as it did. -/
def fnExactSetWarmsUptoRow : OpenClaim := { program := "ytiolmffcmbcgmaa", sum := "df6123d76d477c144f464f73160c2f2202f31a8050bfecb06f25ecc49642b3b3", func := "loop.example/g01309/laws.FnExactSetWarms", spec := "fnExactSetWarms", unfollowed := true, recurses := true, apart := false, narrowed := true }
def FnExactSetWarmsUptoSaid : Prop := fnExactSetWarmsUptoRow.holds Try.pinned (OpenSpec.upto fnExactSetWarmsSpec)

end Rows
end Go.Proofs.Ytiolmffcmbcgmaa
