import Derived.Test.YtfhgkcjhgmoceaaGreatDoorProg
import Derived.Test.YtfhgkcjhgmoceaaGreatDoorCiM
set_option linter.all false
namespace Go.Proofs.YtfhgkcjhgmoceaaGreatDoor
open Go.Ci Go.Lk Go.Proofs
set_option maxRecDepth 1000000
theorem X194 : XFn Tryz.prog 194 add64Entry := ⟨⟨Tryz.f194, Tryz.func194, by kernel_rfl, by kernel_rfl, by kernel_rfl, by kernel_rfl⟩⟩
theorem X277 : XFn Tryz.prog 277 sub64E := ⟨⟨Tryz.f277, Tryz.func277, by kernel_rfl, by kernel_rfl, by kernel_rfl, by kernel_rfl⟩⟩
theorem X190 : XFn Tryz.prog 190 Extern.BytealgIndexByte.indexByte := ⟨⟨Tryz.f190, Tryz.func190, by kernel_rfl, by kernel_rfl, by kernel_rfl, by kernel_rfl⟩⟩
theorem X87 : XFn Tryz.prog 87 Extern.BytealgCount.count := ⟨⟨Tryz.f87, Tryz.func87, by kernel_rfl, by kernel_rfl, by kernel_rfl, by kernel_rfl⟩⟩
theorem X162 : XFn Tryz.prog 162 Extern.MapsClone.clone := ⟨⟨Tryz.f162, Tryz.func162, by kernel_rfl, by kernel_rfl, by kernel_rfl, by kernel_rfl⟩⟩
theorem X160 : XFn Tryz.prog 160 (Extern.BytealgMakeNoZero.makeNoZero #[3] #[177]) := ⟨⟨Tryz.f160, Tryz.func160, by kernel_rfl, by kernel_rfl, by kernel_rfl, by kernel_rfl⟩⟩
theorem X201 : XFn Tryz.prog 201 Extern.AbiNoEscape.same := ⟨⟨Tryz.f201, Tryz.func201, by kernel_rfl, by kernel_rfl, by kernel_rfl, by kernel_rfl⟩⟩
theorem mixed : Tryz.prog.follows .mixedOrders = true := by kernel_rfl
/-- The functions of the library without bodies. -/
noncomputable def xs0 : XL := [(194, a64), (277, s64), (190, iBS), (87, cnS), (162, mcl), (160, mnz 5), (201, nes)]
theorem xs0_ok : ∀ p ∈ xs0, XOk Tryz.prog p.1 p.2 := by
  intro p hp
  simp only [xs0, List.mem_cons, List.not_mem_nil, or_false] at hp
  rcases hp with rfl | rfl | rfl | rfl | rfl | rfl | rfl
  · exact a64_ok X194
  · exact s64_ok X277
  · exact iBS_ok X190
  · exact cnS_ok X87
  · exact mcl_ok X162
  · exact mnz_ok (e := 5) Tryz.underlying177 X160
  · exact nes_ok X201
theorem ents : Ents Tryz.prog := ents_of (by kernel_rfl)
end Go.Proofs.YtfhgkcjhgmoceaaGreatDoor
