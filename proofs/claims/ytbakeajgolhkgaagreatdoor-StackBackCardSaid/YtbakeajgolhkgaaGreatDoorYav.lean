import Derived.Test.YtbakeajgolhkgaaGreatDoorYal
set_option maxRecDepth 100000
set_option maxHeartbeats 8000000
namespace Go.Proofs.YtbakeajgolhkgaaGreatDoor
open Go.Proofs.Tryz
open Go.RowKit Go.Sort
attribute [local go_sem] Oper.semAt_some
namespace T
end T
end Go.Proofs.YtbakeajgolhkgaaGreatDoor
