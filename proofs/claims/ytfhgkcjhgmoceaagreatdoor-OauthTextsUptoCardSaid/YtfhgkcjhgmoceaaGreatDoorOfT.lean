import Derived.Test.YtfhgkcjhgmoceaaGreatDoorProg
import Derived.Test.YtfhgkcjhgmoceaaGreatDoorOfM
set_option linter.all false
namespace Go.Proofs.YtfhgkcjhgmoceaaGreatDoor
open Go.Lk Go.Pe Go.Sen Go.RowKit
@[reducible] def TB : Tb := {
  und := [(3, .int .i64), (4, .bool), (5, .int .u8), (9, .string), (24, .slice 9), (28, .int .i64), (31, .pointer 51), (35, .pointer 56), (47, .slice 3)],
  shp := [(3, false, 1), (9, false, 1), (23, true, 9), (24, false, 1)],
  fld := [(23, [(0, false, 1), (1, false, 1), (2, false, 1), (3, false, 1), (4, false, 1), (5, false, 1), (6, false, 1), (7, false, 1), (8, false, 1)]), (51, [(0, false, 1)]), (53, [(0, false, 1)])],
  zer := [(3, .int .i64 0), (9, .string ⟨#[]⟩), (51, .agg #[.slice none 0 0]), (53, .agg #[.slice none 0 0])],
  nif := [],
  ifc := [],
  glb := [],
  ars := [],
  sts := [],
  bld := [],
  inf := [(9, .string ⟨#[]⟩, 1, 16)] }
@[reducible] def CT : List (Nat × List (Option (Nat × Nat))) := [(3, [none]), (9, [none]), (23, [none, none, none, none, none, none, none, none, none])]
theorem TBok : TbOk Tryz.prog TB := TbOk.of (by kernel_rfl) trivial trivial ⟨(by show _ = _; kernel_rfl), (by show _ = _; kernel_rfl), (by show _ = _; kernel_rfl), (by show _ = _; kernel_rfl), (by show _ = _; kernel_rfl), (by show _ = _; kernel_rfl), (by show _ = _; kernel_rfl), (by show _ = _; kernel_rfl), (by show _ = _; kernel_rfl), trivial⟩ ⟨(by show _ = _; kernel_rfl), (by show _ = _; kernel_rfl), (by show _ = _; kernel_rfl), (by show _ = _; kernel_rfl), trivial⟩ ⟨(by show _ = _; kernel_rfl), (by show _ = _; kernel_rfl), (by show _ = _; kernel_rfl), trivial⟩ ⟨(by show _ = _; kernel_rfl), (by show _ = _; kernel_rfl), (by show _ = _; kernel_rfl), (by show _ = _; kernel_rfl), trivial⟩ ⟨(by show _ = _; kernel_rfl), trivial⟩ trivial trivial
@[reducible] def I.split (p0 : List UInt8) (p1 : List UInt8) : CIn := ⟨[.str p0, .str p1], [], []⟩
@[reducible] def O.split : (List (List UInt8)) → COut
  | r => .ok [.ref 0] [] [some (9, 1, (r.map eS))]
@[reducible] def I.sortS (p0 : List (List UInt8)) : CIn := ⟨[.ref 0], [], [(9, 1, (p0.map eS))]⟩
@[reducible] def O.sortS : (List (List UInt8)) → COut
  | r => .okI [] [] [some (9, 1, (r.map eS))]
@[reducible] def I.trim (p0 : List UInt8) (p1 : List UInt8) : CIn := ⟨[.str p0, .str p1], [], []⟩
@[reducible] def O.trim : (List UInt8) → COut
  | r => .ok [.str r] [] []
@[reducible] def I.containsFunc (p0 : List UInt8) : CIn := ⟨[.str p0, .fn 44 [] []], [], []⟩
@[reducible] def O.containsFunc : Bool → COut
  | r => .ok [.bool r] [] []
@[reducible] def I.cloneS (p0 : List (List UInt8)) : CIn := ⟨[.sl 9 1 (p0.map eS)], [], []⟩
@[reducible] def O.cloneS : (List (List UInt8)) → COut
  | r => .ok [.sl 9 1 (r.map eS)] [] []
@[reducible] def I.forestNew : CIn := ⟨[], [], []⟩
@[reducible] def O.forestNew : Unit → COut
  | r => .ok [.cptr [] 0] [] []
@[reducible] def I.fixed : CIn := ⟨[], [], []⟩
@[reducible] def O.fixed : Bool → COut
  | r => .ok [.bool r] [] []
end Go.Proofs.YtfhgkcjhgmoceaaGreatDoor
