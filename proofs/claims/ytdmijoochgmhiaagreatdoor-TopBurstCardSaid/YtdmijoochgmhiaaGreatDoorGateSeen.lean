/-
  The walk of gate.Gate.Seen.
-/
import Derived.Test.YtdmijoochgmhiaaGreatDoorGate
import Derived.Test.YtdmijoochgmhiaaGreatDoorCounts
import Derived.Maps.RangeWalk
namespace Go.Proofs.YtdmijoochgmhiaaGreatDoor
open Go.RowKit Go.Maps
set_option linter.unusedVariables false

end Go.Proofs.YtdmijoochgmhiaaGreatDoor
