/-
  What the rows of laws over listed tables need of the kit.
-/
import Derived.Test.YtcnnmcmaeeffiaaDoorCards
import Derived.Test.YtcnnmcmaeeffiaaDoorTie
import Derived.WalkKit
import Derived.ProofKit
import Derived.OpenShut
import Derived.Deep.DeepHandedRow
import Derived.Lib.LaidTab
namespace Go.Proofs.YtcnnmcmaeeffiaaDoor
set_option linter.unusedVariables false
set_option linter.unusedSimpArgs false
end Go.Proofs.YtcnnmcmaeeffiaaDoor
