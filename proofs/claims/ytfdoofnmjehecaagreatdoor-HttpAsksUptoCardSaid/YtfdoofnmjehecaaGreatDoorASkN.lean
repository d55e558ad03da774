import Derived.Test.YtfdoofnmjehecaaGreatDoorASkM
set_option linter.all false
namespace Go.Sen
open Go.Lk Go.Pe
set_option maxRecDepth 1000000
theorem zz6:M.q45 40=some true:=MF.q45.le 2000 40 true (by kernel_rfl)
end Go.Sen
