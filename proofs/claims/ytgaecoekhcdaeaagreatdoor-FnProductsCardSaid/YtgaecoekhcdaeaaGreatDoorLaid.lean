/-
  What the rows of laws over listed tables need of the kit.
-/
import Derived.Test.YtgaecoekhcdaeaaGreatDoorCards
import Derived.Test.YtgaecoekhcdaeaaGreatDoorTie
import Derived.WalkKit
import Derived.ProofKit
import Derived.OpenShut
import Derived.Deep.DeepHandedRow
import Derived.Lib.LaidTab
namespace Go.Proofs.YtgaecoekhcdaeaaGreatDoor
set_option linter.unusedVariables false
set_option linter.unusedSimpArgs false
set_option maxRecDepth 20000
end Go.Proofs.YtgaecoekhcdaeaaGreatDoor
