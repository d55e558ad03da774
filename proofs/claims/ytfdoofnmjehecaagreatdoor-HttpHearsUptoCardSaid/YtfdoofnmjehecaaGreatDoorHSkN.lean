import Derived.Test.YtfdoofnmjehecaaGreatDoorHSkM
set_option linter.all false
namespace Go.Sen
open Go.Lk Go.Pe
set_option maxRecDepth 1000000
theorem zz01k:M.q44 40=some true:=MF.q44.le 2000 40 true (by kernel_rfl)
end Go.Sen
