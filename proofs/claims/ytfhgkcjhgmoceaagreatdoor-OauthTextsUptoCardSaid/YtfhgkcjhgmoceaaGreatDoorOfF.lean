import Derived.Test.YtfhgkcjhgmoceaaGreatDoorOfS0
import Derived.Test.YtfhgkcjhgmoceaaGreatDoorOfS1
import Derived.Test.YtfhgkcjhgmoceaaGreatDoorOfS2
import Derived.Test.YtfhgkcjhgmoceaaGreatDoorOfS3
import Derived.Test.YtfhgkcjhgmoceaaGreatDoorOfS4
import Derived.Test.YtfhgkcjhgmoceaaGreatDoorOfS5
import Derived.Test.YtfhgkcjhgmoceaaGreatDoorOfS6
import Derived.Test.YtfhgkcjhgmoceaaGreatDoorOfS7
import Derived.Test.YtfhgkcjhgmoceaaGreatDoorOfW0
import Derived.Test.YtfhgkcjhgmoceaaGreatDoorOfW1
import Derived.Test.YtfhgkcjhgmoceaaGreatDoorOfW2
import Derived.Test.YtfhgkcjhgmoceaaGreatDoorOfW3
import Derived.Test.YtfhgkcjhgmoceaaGreatDoorOfK1
import Derived.Test.YtfhgkcjhgmoceaaGreatDoorOfK2
import Derived.Test.YtfhgkcjhgmoceaaGreatDoorOfK3
import Derived.Test.YtfhgkcjhgmoceaaGreatDoorOfK4
import Derived.Test.YtfhgkcjhgmoceaaGreatDoorOfMbs
import Derived.Test.YtfhgkcjhgmoceaaGreatDoorOfMfb
import Derived.Test.YtfhgkcjhgmoceaaGreatDoorOfMhd
import Derived.Test.YtfhgkcjhgmoceaaGreatDoorOfR
import Derived.Test.YtfhgkcjhgmoceaaGreatDoorOfG
set_option linter.all false
namespace Go.Proofs.YtfhgkcjhgmoceaaGreatDoor
open Go.Ci Go.Lk Go.Proofs
set_option maxRecDepth 1000000
open Go.Pe Go.Sen Go.RowKit
theorem okt_ok (f : Nat) (h : okt f = true) : okF Tryz.prog f = true := okGet_ok (fun f hf => by
  rcases List.mem_append.1 hf with hf | hf
  · exact okFs_mem okl1_ok f hf
  · rcases List.mem_append.1 hf with hf | hf
    · exact okFs_mem okl2_ok f hf
    · rcases List.mem_append.1 hf with hf | hf
      · exact okFs_mem okl3_ok f hf
      · exact okFs_mem okl4_ok f hf) f h
theorem callA_ok : CallOk Tryz.prog callA := call_ok okt_ok mixed ents (xl_ok xsA_ok) 3000
theorem mSum_ok : ∀ p ∈ mSum, memQ callA 106 p = true := by
  intro p hp
  simp only [mSum, List.mem_cons, List.not_mem_nil, or_false] at hp
  rcases hp with rfl | rfl | rfl | rfl | rfl | rfl | rfl | rfl
  · exact sm0_ok
  · exact sm1_ok
  · exact sm2_ok
  · exact sm3_ok
  · exact sm4_ok
  · exact sm5_ok
  · exact sm6_ok
  · exact sm7_ok
theorem mWord_ok : ∀ p ∈ mWord, memQ callA 104 p = true := by
  intro p hp
  simp only [mWord, List.mem_cons, List.not_mem_nil, or_false] at hp
  rcases hp with rfl | rfl | rfl | rfl
  · exact wd0_ok
  · exact wd1_ok
  · exact wd2_ok
  · exact wd3_ok
theorem callB_ok : CallOk Tryz.prog callB := call_ok okt_ok mixed ents (xl_ok fun p hp => by
  simp only [xsB, List.mem_cons] at hp
  rcases hp with rfl | rfl | rfl | rfl | rfl | hp
  · exact memX_ok callA_ok m_bs_ok
  · exact memX_ok callA_ok m_fb_ok
  · exact memX_ok callA_ok m_hd_ok
  · exact memX_ok callA_ok mSum_ok
  · exact memX_ok callA_ok mWord_ok
  · exact xsA_ok p hp) 3000
theorem fixed_low (w : World) : Calls Tryz.prog 17 #[] w fun e w' => e = .returned (.bool true) ∧ Ext Nowhere w w' := closed_ok callB_ok (ents.run Tryz.func17 rfl) fixed_run w
theorem C.fixed : S (M.fixed) fun r => Con Tryz.prog GG 17 (I.fixed) (O.fixed r) := by
  intro r hm
  cases hm
  refine Con.lib (ents.run Tryz.func17 rfl) fun w O φ α us hv hB hG => ?_
  obtain rfl := VRs.nil hv
  refine (fixed_low w).mono ?_
  rintro e w' ⟨rfl, h⟩
  exact ⟨[_], rfl, fun _ _ _ => .gBool _, h⟩
theorem forestNew_run : ptrR (callA 14 [] ⟨.e, 0⟩) = true := by kernel_rfl
theorem C.forestNew : S (M.forestNew) fun r => Con Tryz.prog GG 14 (I.forestNew) (O.forestNew r) := by
  intro r hm
  refine Con.libD (ents.run Tryz.func14 rfl) fun w O φ α us hv hB hG => ?_
  obtain rfl := VRs.nil hv
  refine (closed_ptr callA_ok (ents.run Tryz.func14 rfl) forestNew_run w).mono ?_
  rintro e w' ⟨b, cs, T, fr, rfl, h1, h2, h3⟩
  exact ⟨[_], rfl, ⟨_, [], rfl, ⟨b, 0, rfl, [], rfl, ⟨fun ho => (by have := hB _ ho; omega), cs, T, fr, h2, fun j u e => (by simp at e)⟩, rfl⟩, rfl⟩, h3⟩
end Go.Proofs.YtfhgkcjhgmoceaaGreatDoor
