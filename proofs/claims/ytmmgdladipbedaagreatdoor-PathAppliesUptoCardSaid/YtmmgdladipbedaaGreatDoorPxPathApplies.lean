import Derived.Test.YtmmgdladipbedaaGreatDoorPyPathApplies
set_option linter.all false
namespace Go.Proofs.YtmmgdladipbedaaGreatDoor
open Go.Lk Go.Pe Go.Sen Go.ChangeShapes Go.WideShapes Go.ChangeAt Go.RowKit
open Go.ChangeMaps (open_string shut_string)
theorem pathAppliesupto_card:Rows.PathAppliesUptoCardSaid :=
 Claim7.holds_tied_plain_at .later [] _ _ _ _ pathApplies.said (fun _ h=>by cases h) (by kernel_rfl) (fun _ h=>by cases h) pathAppliesUpto_row_tie rfl ⟨rfl,rfl⟩ (by kernel_rfl) rfl pathApplies.plain (by kernel_rfl)
end Go.Proofs.YtmmgdladipbedaaGreatDoor
