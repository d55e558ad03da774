import Derived.Test.YtfhgkcjhgmoceaaGreatDoorOfZ
set_option linter.all false
namespace Go.Proofs.YtfhgkcjhgmoceaaGreatDoor
open Go.Ci Go.Lk Go.Proofs
set_option maxRecDepth 1000000
theorem bs0_ok : memQ callA 73 bs0 = true := by kernel_rfl
theorem bs1_ok : memQ callA 73 bs1 = true := by kernel_rfl
theorem bs2_ok : memQ callA 73 bs2 = true := by kernel_rfl
theorem bs3_ok : memQ callA 73 bs3 = true := by kernel_rfl
theorem bs4_ok : memQ callA 73 bs4 = true := by kernel_rfl
theorem m_bs_ok : ∀ p ∈ m_bs, memQ callA 73 p = true := by
  intro p hp
  simp only [m_bs, List.mem_cons, List.not_mem_nil, or_false] at hp
  rcases hp with rfl | rfl | rfl | rfl | rfl
  · exact bs0_ok
  · exact bs1_ok
  · exact bs2_ok
  · exact bs3_ok
  · exact bs4_ok
end Go.Proofs.YtfhgkcjhgmoceaaGreatDoor
