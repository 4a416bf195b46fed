/-
  DERIVED. GIVEN WITH THE SEED: THE CARDS: each row of YtcnnmcmaeeffiaaDoorRows.lean that lists a variable, with what it lists TIED to the program's text (the seventh form; the later family's looks); each row that meets fmt, with fmt's text TOLD by the authors' own Lean function (tested against real Go, not proved from fmt's source: count such statements apart). THE CARD IS WHAT COUNTS. Prove the row's statement (the work); the ties are given (YtcnnmcmaeeffiaaDoorTie.lean); close each card by the builder's one call (the guide's Derived/Test/ToyasCard.lean, 'card_holds'). Laid BY PROGRAM, IN A SANDBOX (cutbox-door.mjs). By AI agents, Wed Nov 11 2026. No macro, syntax, notation, axiom, sorry.
-/
import Derived.Test.YtcnnmcmaeeffiaaDoorRows
import GoSem.ClaimSeven
namespace Go.Proofs.YtcnnmcmaeeffiaaDoor
namespace Rows

/-- THE TIED CARD OF 'laws.FnExactNumbersText'. -/
def fnExactNumbersTextCard : Claim7 := { stood := { row := fnExactNumbersTextRow, standIns := [], harness := (true, "97ef0e4b816eecc1995fa6dd9b3d75d44a9e060721bdc2566d529d8017e81472"), looks := true }, kinds := [], alts := [], laidByText := true, laidKinds := [.data, .data, .data], laidTests := true, laidLooks := .later }
def FnExactNumbersTextCardSaid : Prop := Claim7.holds Tryd.pinned (.plain (OpenSpec.ofChange fnExactNumbersTextSpec)) fnExactNumbersTextCard

/-- THE TIED CARD OF 'laws.FnExactReadNumbers'. -/
def fnExactReadNumbersCard : Claim7 := { stood := { row := fnExactReadNumbersRow, standIns := [], harness := (true, "97ef0e4b816eecc1995fa6dd9b3d75d44a9e060721bdc2566d529d8017e81472"), looks := true }, kinds := [], alts := [], laidByText := true, laidKinds := [.data, .data, .data, .data, .sentinel, .sentinel, .pinned], laidTests := true, laidLooks := .later }
def FnExactReadNumbersCardSaid : Prop := Claim7.holds Tryd.pinned (.plain (OpenSpec.ofChange fnExactReadNumbersSpec)) fnExactReadNumbersCard

/-- THE TIED CARD OF 'laws.FnExactReadComplex'. -/
def fnExactReadComplexCard : Claim7 := { stood := { row := fnExactReadComplexRow, standIns := [], harness := (true, "97ef0e4b816eecc1995fa6dd9b3d75d44a9e060721bdc2566d529d8017e81472"), looks := true }, kinds := [], alts := [], laidByText := true, laidKinds := [.data, .data, .data, .data, .sentinel, .sentinel, .pinned], laidTests := true, laidLooks := .later }
def FnExactReadComplexCardSaid : Prop := Claim7.holds Tryd.pinned (.plain (OpenSpec.ofChange fnExactReadComplexSpec)) fnExactReadComplexCard

/-- THE SECOND FORM's CARD OF 'laws.FnExactNumbersText'. -/
def fnExactNumbersTextUptoCard : Claim7 := { stood := { row := fnExactNumbersTextUptoRow, standIns := [], harness := (true, "97ef0e4b816eecc1995fa6dd9b3d75d44a9e060721bdc2566d529d8017e81472"), looks := true }, kinds := [], alts := [], laidByText := true, laidKinds := [.data, .data, .data], laidTests := true, laidLooks := .later }
def FnExactNumbersTextUptoCardSaid : Prop := Claim7.holds Tryd.pinned (.plain (OpenSpec.upto fnExactNumbersTextSpec)) fnExactNumbersTextUptoCard

/-- THE SECOND FORM's CARD OF 'laws.FnExactReadNumbers'. -/
def fnExactReadNumbersUptoCard : Claim7 := { stood := { row := fnExactReadNumbersUptoRow, standIns := [], harness := (true, "97ef0e4b816eecc1995fa6dd9b3d75d44a9e060721bdc2566d529d8017e81472"), looks := true }, kinds := [], alts := [], laidByText := true, laidKinds := [.data, .data, .data, .data, .sentinel, .sentinel, .pinned], laidTests := true, laidLooks := .later }
def FnExactReadNumbersUptoCardSaid : Prop := Claim7.holds Tryd.pinned (.plain (OpenSpec.upto fnExactReadNumbersSpec)) fnExactReadNumbersUptoCard

/-- THE SECOND FORM's CARD OF 'laws.FnExactReadComplex'. -/
def fnExactReadComplexUptoCard : Claim7 := { stood := { row := fnExactReadComplexUptoRow, standIns := [], harness := (true, "97ef0e4b816eecc1995fa6dd9b3d75d44a9e060721bdc2566d529d8017e81472"), looks := true }, kinds := [], alts := [], laidByText := true, laidKinds := [.data, .data, .data, .data, .sentinel, .sentinel, .pinned], laidTests := true, laidLooks := .later }
def FnExactReadComplexUptoCardSaid : Prop := Claim7.holds Tryd.pinned (.plain (OpenSpec.upto fnExactReadComplexSpec)) fnExactReadComplexUptoCard
end Rows
end Go.Proofs.YtcnnmcmaeeffiaaDoor
