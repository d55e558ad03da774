import Derived.Test.YtfdoofnmjehecaaGreatDoorRSkM
set_option linter.all false
namespace Go.Sen
open Go.Lk Go.Pe
set_option maxRecDepth 1000000
theorem zz033:M.q4a 40=some true:=MF.q4a.le 2000 40 true (by kernel_rfl)
end Go.Sen
