/- JsT: what a program of ours printed of the program's functions. -/
import Derived.Test.YtcfkkgpnggdlnaaGreatDoorProg
import Derived.Test.YtcfkkgpnggdlnaaGreatDoorJsM
import Derived.WalkKit
set_option linter.all false
namespace Go.Proofs.YtcfkkgpnggdlnaaGreatDoor
open Go.Lk Go.Pe Go.Sen Go.RowKit
@[reducible] def TB : Tb := {
  und := [(3, .int .i64), (4, .bool), (5, .int .u8), (9, .string), (12, .int .u64), (21, .int .i32), (22, .slice 25), (23, .slice 9), (27, .int .i64), (50, .slice 5), (91, .array 256 5), (94, .array 16 93), (95, .int .u64), (120, .int .u64)],
  shp := [(3, false, 1), (5, false, 1), (9, false, 1), (22, false, 1), (23, false, 1), (25, true, 4), (27, false, 1), (50, false, 1), (93, true, 2)],
  fld := [(25, [(0, false, 1), (1, false, 1), (2, false, 1), (3, false, 1)]), (52, [(0, false, 1), (1, false, 1)]), (67, [(0, false, 1)]), (72, [(0, false, 1), (1, false, 1), (2, false, 1)]), (75, [(0, false, 1)]), (93, [(0, false, 1), (1, false, 1)])],
  zer := [(5, .int .u8 0), (9, .string ⟨#[]⟩), (25, .agg #[.int .i64 0, .string ⟨#[]⟩, .slice none 0 0, .slice none 0 0]), (27, .int .i64 0), (52, .agg #[.pointer none, .slice none 0 0]), (67, .agg #[.string ⟨#[]⟩]), (72, .agg #[.string ⟨#[]⟩, .int .i64 0, .int .i64 0]), (75, .agg #[.int .i64 0]), (93, .agg #[.int .u8 0, .int .u8 0])],
  nif := [75, 102],
  ifc := [60],
  glb := [(0, 1, 256, (utf8First.map (eI .u8))), (1, 2, 16, (utf8Acc.map T_utf8_acceptRange.enc))],
  bld := [(52, 5)],
  inf := [(5, .int .u8 0, 1, 1), (9, .string ⟨#[]⟩, 1, 16), (25, .agg #[.int .i64 0, .string ⟨#[]⟩, .slice none 0 0, .slice none 0 0], 4, 72)] }
@[reducible] def CT : List (Nat × List (Option (Nat × Nat))) := [(5, [none]), (9, [none]), (25, [none, none, some (25, 4), some (9, 1)])]
theorem TBok : TbOk Tryz.prog TB := TbOk.of (by kernel_rfl) ⟨(by show _ = _; kernel_rfl), trivial⟩ ⟨(by show _ = _; kernel_rfl), (by show _ = _; kernel_rfl), trivial⟩ ⟨(by show _ = _; kernel_rfl), (by show _ = _; kernel_rfl), (by show _ = _; kernel_rfl), (by show _ = _; kernel_rfl), (by show _ = _; kernel_rfl), (by show _ = _; kernel_rfl), (by show _ = _; kernel_rfl), (by show _ = _; kernel_rfl), (by show _ = _; kernel_rfl), (by show _ = _; kernel_rfl), (by show _ = _; kernel_rfl), (by show _ = _; kernel_rfl), (by show _ = _; kernel_rfl), (by show _ = _; kernel_rfl), trivial⟩ ⟨(by show _ = _; kernel_rfl), (by show _ = _; kernel_rfl), (by show _ = _; kernel_rfl), (by show _ = _; kernel_rfl), (by show _ = _; kernel_rfl), (by show _ = _; kernel_rfl), (by show _ = _; kernel_rfl), (by show _ = _; kernel_rfl), (by show _ = _; kernel_rfl), trivial⟩ ⟨(by show _ = _; kernel_rfl), (by show _ = _; kernel_rfl), (by show _ = _; kernel_rfl), (by show _ = _; kernel_rfl), (by show _ = _; kernel_rfl), (by show _ = _; kernel_rfl), trivial⟩ ⟨(by show _ = _; kernel_rfl), (by show _ = _; kernel_rfl), (by show _ = _; kernel_rfl), (by show _ = _; kernel_rfl), (by show _ = _; kernel_rfl), (by show _ = _; kernel_rfl), (by show _ = _; kernel_rfl), (by show _ = _; kernel_rfl), (by show _ = _; kernel_rfl), trivial⟩ ⟨(by show _ = _; kernel_rfl), (by show _ = _; kernel_rfl), (by show _ = _; kernel_rfl), trivial⟩
@[reducible] def I.copyCheck (p0 : List Int) : CIn := ⟨[.ptr 0 0], [⟨52, [.selfp 0, .ref 0]⟩], [(5, 1, (p0.map (eI .u8)))]⟩
@[reducible] def O.copyCheck (p0 : List Int) : Unit → COut
  | r => .ok [] [⟨52, [.selfp 0, .ref 0]⟩] [some (5, 1, (p0.map (eI .u8)))]
@[reducible] def I.validString (p0 : List UInt8) : CIn := ⟨[.str p0], [], []⟩
@[reducible] def O.validString : Bool → COut
  | r => .ok [.bool r] [] []
@[reducible] def I.indexByte (p0 : List UInt8) (p1 : Int) : CIn := ⟨[.str p0, .int .u8 p1], [], []⟩
@[reducible] def O.indexByte : Int → COut
  | r => .ok [.int .i64 r] [] []
@[reducible] def I.trimLeft (p0 : List UInt8) (p1 : List UInt8) : CIn := ⟨[.str p0, .str p1], [], []⟩
@[reducible] def O.trimLeft : (List UInt8) → COut
  | r => .ok [.str r] [] []
@[reducible] def I.trim (p0 : List UInt8) (p1 : List UInt8) : CIn := ⟨[.str p0, .str p1], [], []⟩
@[reducible] def O.trim : (List UInt8) → COut
  | r => .ok [.str r] [] []
@[reducible] def I.atoi (p0 : List UInt8) : CIn := ⟨[.str p0], [], []⟩
@[reducible] def O.atoi : Int × Bool → COut
  | r => .ok [.int .i64 r.1, .err r.2] [] []
@[reducible] def I.itoa (p0 : Int) : CIn := ⟨[.int .i64 p0], [], []⟩
@[reducible] def O.itoa : (List UInt8) → COut
  | r => .ok [.str r] [] []
@[reducible] def I.builderString (p0 : List Int) : CIn := ⟨[.ptr 0 0], [⟨52, [.selfp 0, .ref 0]⟩], [(5, 1, (p0.map (eI .u8)))]⟩
@[reducible] def O.builderString (p0 : List Int) : (List UInt8) → COut
  | r => .ok [.str r] [⟨52, [.selfp 0, .ref 0]⟩] [some (1000005, 1, (p0.map (eI .u8)))]
@[reducible] def I.caught (p0 : Int) : CIn := ⟨[.ptr 0 0], [⟨27, [.int .i64 p0]⟩], []⟩
@[reducible] def O.caught : Int → COut
  | r => .ok [] [⟨27, [.int .i64 r]⟩] []
@[reducible] def I.single (p0 : List (List UInt8)) : CIn := ⟨[.sl 9 1 (p0.map eS)], [], []⟩
@[reducible] def O.single : Bool → COut
  | r => .ok [.bool r] [] []
end Go.Proofs.YtcfkkgpnggdlnaaGreatDoor
