import Derived.Test.YtfhgkcjhgmoceaaGreatDoorOfZ
set_option linter.all false
namespace Go.Proofs.YtfhgkcjhgmoceaaGreatDoor
open Go.Ci Go.Lk Go.Proofs
set_option maxRecDepth 1000000
theorem hd0_ok : memQ callA 220 hd0 = true := by kernel_rfl
theorem m_hd_ok : ∀ p ∈ m_hd, memQ callA 220 p = true := by
  intro p hp
  simp only [m_hd, List.mem_cons, List.not_mem_nil, or_false] at hp
  rcases hp with rfl
  · exact hd0_ok
end Go.Proofs.YtfhgkcjhgmoceaaGreatDoor
