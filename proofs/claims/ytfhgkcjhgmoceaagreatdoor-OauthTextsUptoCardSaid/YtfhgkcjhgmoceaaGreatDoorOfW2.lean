import Derived.Test.YtfhgkcjhgmoceaaGreatDoorOfZ
set_option linter.all false
namespace Go.Proofs.YtfhgkcjhgmoceaaGreatDoor
open Go.Ci Go.Lk Go.Proofs
set_option maxRecDepth 1000000
theorem wd2_ok : memQ callA 104 wd2 = true := by kernel_rfl
end Go.Proofs.YtfhgkcjhgmoceaaGreatDoor
