import Derived.Test.YtfhgkcjhgmoceaaGreatDoorOfZ
set_option linter.all false
namespace Go.Proofs.YtfhgkcjhgmoceaaGreatDoor
open Go.Ci Go.Lk Go.Proofs
set_option maxRecDepth 1000000
theorem fixed_run : trueQ (callB 17 [] ⟨.e, 0⟩) = true := by kernel_rfl
end Go.Proofs.YtfhgkcjhgmoceaaGreatDoor
