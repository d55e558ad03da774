import Derived.Test.YtfdoofnmjehecaaGreatDoorUSkM
set_option linter.all false
namespace Go.Sen
open Go.Lk Go.Pe
set_option maxRecDepth 1000000
theorem zwr:M.q3x 40=some true:=MF.q3x.le 2000 40 true (by kernel_rfl)
end Go.Sen
