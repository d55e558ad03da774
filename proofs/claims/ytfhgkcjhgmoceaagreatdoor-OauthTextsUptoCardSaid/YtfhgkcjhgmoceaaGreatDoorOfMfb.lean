import Derived.Test.YtfhgkcjhgmoceaaGreatDoorOfZ
set_option linter.all false
namespace Go.Proofs.YtfhgkcjhgmoceaaGreatDoor
open Go.Ci Go.Lk Go.Proofs
set_option maxRecDepth 1000000
theorem fb0_ok : memQ callA 121 fb0 = true := by kernel_rfl
theorem fb1_ok : memQ callA 121 fb1 = true := by kernel_rfl
theorem fb2_ok : memQ callA 121 fb2 = true := by kernel_rfl
theorem m_fb_ok : ∀ p ∈ m_fb, memQ callA 121 p = true := by
  intro p hp
  simp only [m_fb, List.mem_cons, List.not_mem_nil, or_false] at hp
  rcases hp with rfl | rfl | rfl
  · exact fb0_ok
  · exact fb1_ok
  · exact fb2_ok
end Go.Proofs.YtfhgkcjhgmoceaaGreatDoor
