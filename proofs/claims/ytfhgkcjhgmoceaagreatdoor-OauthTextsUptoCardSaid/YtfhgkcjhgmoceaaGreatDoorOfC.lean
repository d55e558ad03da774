import Derived.Test.YtfhgkcjhgmoceaaGreatDoorProg
import Derived.Test.YtfhgkcjhgmoceaaGreatDoorPfS4
set_option linter.all false
namespace Go.Proofs.YtfhgkcjhgmoceaaGreatDoor
open Go.Lk Go.Pe Go.RowKit
set_option maxRecDepth 1000000
end Go.Proofs.YtfhgkcjhgmoceaaGreatDoor
