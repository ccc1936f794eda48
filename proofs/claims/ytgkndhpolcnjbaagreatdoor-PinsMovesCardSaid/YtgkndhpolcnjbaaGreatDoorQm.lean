/- Several texts in one: Ref13b. -/

import Derived.Test.YtgkndhpolcnjbaaGreatDoorQl
namespace Go.Proofs.YtgkndhpolcnjbaaGreatDoor
open Go.RowKit Go.Sort
end Go.Proofs.YtgkndhpolcnjbaaGreatDoor
