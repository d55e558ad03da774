import Derived.Test.YtfdoofnmjehecaaGreatDoorProg
import Derived.Test.YtfdoofnmjehecaaGreatDoorAHtM
set_option linter.all false
namespace Go.Proofs.YtfdoofnmjehecaaGreatDoor
open Go.Lk Go.Pe Go.Sen Go.RowKit
@[reducible] def TB:Tb:={
 und:=[(3,.int .i64),(4,.bool),(5,.int .u8),(9,.string),(12,.int .u64),(21,.int .i32),(22,.slice 9),(23,.slice 72),(26,.int .i64),(38,.slice 123),(44,.slice 189),(65,.map 9 4),(87,.slice 5),(99,.slice 3),(101,.slice 103),(108,.slice 112),(110,.slice 179),(124,.slice 129),(127,.slice 208),(170,.map 3 9),(177,.func #[114] #[186] false),(184,.pointer 3),(191,.array 22 9),(227,.int .u64),(255,.array 256 5),(258,.array 16 257),(269,.int .u64)],
 shp:=[(3,false,1),(4,false,1),(5,false,1),(9,false,1),(22,false,1),(23,false,1),(25,true,5),(26,false,1),(37,true,11),(38,false,1),(40,true,25),(44,false,1),(46,true,26),(59,true,1),(72,true,2),(87,false,1),(101,false,1),(103,true,4),(110,false,1),(112,true,6),(120,true,4),(123,true,4),(127,false,1),(129,true,8),(177,false,1),(179,true,4),(189,true,2),(191,true,22),(208,true,4),(257,true,2)],
 fld:=[(25,[(0,false,1),(1,false,1),(2,false,1),(3,false,1),(4,false,1)]),(37,[(0,false,1),(1,false,1),(2,false,1),(3,false,1),(4,false,1),(5,false,1),(6,false,1),(7,false,1),(8,false,1),(9,false,1),(10,false,1)]),(40,[(0,false,1),(1,false,1),(2,false,1),(3,false,1),(4,false,1),(5,false,1),(6,false,1),(7,false,1),(8,false,1),(9,false,1),(10,false,1),(11,false,1),(12,false,1),(13,true,11),(24,false,1)]),(46,[(0,false,1),(1,false,1),(2,false,1),(3,false,1),(4,false,1),(5,false,1),(6,false,1),(7,false,1),(8,false,1),(9,false,1),(10,false,1),(11,false,1),(12,false,1),(13,false,1),(14,false,1),(15,false,1),(16,false,1),(17,false,1),(18,false,1),(19,false,1),(20,false,1),(21,false,1),(22,false,1),(23,false,1),(24,false,1),(25,false,1)]),(59,[(0,false,1)]),(72,[(0,false,1),(1,false,1)]),(89,[(0,false,1),(1,false,1)]),(103,[(0,false,1),(1,false,1),(2,false,1),(3,false,1)]),(112,[(0,false,1),(1,false,1),(2,false,1),(3,false,1),(4,false,1),(5,false,1)]),(120,[(0,true,4)]),(123,[(0,false,1),(1,false,1),(2,false,1),(3,false,1)]),(129,[(0,false,1),(1,false,1),(2,false,1),(3,false,1),(4,false,1),(5,false,1),(6,false,1),(7,false,1)]),(169,[(0,true,4)]),(179,[(0,false,1),(1,false,1),(2,false,1),(3,false,1)]),(189,[(0,false,1),(1,false,1)]),(201,[(0,false,1)]),(208,[(0,false,1),(1,false,1),(2,false,1),(3,false,1)]),(212,[(0,false,1),(1,false,1),(2,false,1)]),(244,[(0,false,1)]),(257,[(0,false,1),(1,false,1)])],
 zer:=[(3,.int .i64 0),(4,.bool false),(5,.int .u8 0),(9,.string ⟨#[]⟩),(25,.agg #[.string ⟨#[]⟩,.slice none 0 0,.slice none 0 0,.slice none 0 0,.string ⟨#[]⟩]),(26,.int .i64 0),(37,.agg #[.string ⟨#[]⟩,.string ⟨#[]⟩,.string ⟨#[]⟩,.string ⟨#[]⟩,.string ⟨#[]⟩,.string ⟨#[]⟩,.int .i64 0,.int .i64 0,.int .i64 0,.slice none 0 0,.slice none 0 0]),(40,.agg #[.int .i64 0,.int .i64 0,.string ⟨#[]⟩,.string ⟨#[]⟩,.string ⟨#[]⟩,.string ⟨#[]⟩,.string ⟨#[]⟩,.string ⟨#[]⟩,.slice none 0 0,.int .i64 0,.int .i64 0,.int .i64 0,.bool false,.string ⟨#[]⟩,.string ⟨#[]⟩,.string ⟨#[]⟩,.string ⟨#[]⟩,.string ⟨#[]⟩,.string ⟨#[]⟩,.int .i64 0,.int .i64 0,.int .i64 0,.slice none 0 0,.slice none 0 0,.slice none 0 0]),(46,.agg #[.int .i64 0,.string ⟨#[]⟩,.string ⟨#[]⟩,.string ⟨#[]⟩,.string ⟨#[]⟩,.string ⟨#[]⟩,.string ⟨#[]⟩,.string ⟨#[]⟩,.string ⟨#[]⟩,.string ⟨#[]⟩,.string ⟨#[]⟩,.string ⟨#[]⟩,.string ⟨#[]⟩,.string ⟨#[]⟩,.string ⟨#[]⟩,.string ⟨#[]⟩,.string ⟨#[]⟩,.string ⟨#[]⟩,.string ⟨#[]⟩,.string ⟨#[]⟩,.string ⟨#[]⟩,.string ⟨#[]⟩,.string ⟨#[]⟩,.slice none 0 0,.int .i64 0,.int .i64 0]),(59,.agg #[.int .i64 0]),(72,.agg #[.string ⟨#[]⟩,.string ⟨#[]⟩]),(89,.agg #[.pointer none,.slice none 0 0]),(103,.agg #[.int .i64 0,.string ⟨#[]⟩,.slice none 0 0,.slice none 0 0]),(112,.agg #[.int .i64 0,.string ⟨#[]⟩,.string ⟨#[]⟩,.int .i64 0,.int .i64 0,.slice none 0 0]),(120,.agg #[.int .i64 0,.string ⟨#[]⟩,.slice none 0 0,.slice none 0 0]),(123,.agg #[.string ⟨#[]⟩,.string ⟨#[]⟩,.string ⟨#[]⟩,.slice none 0 0]),(129,.agg #[.int .i64 0,.string ⟨#[]⟩,.string ⟨#[]⟩,.string ⟨#[]⟩,.bool false,.bool false,.bool false,.slice none 0 0]),(169,.agg #[.int .i64 0,.string ⟨#[]⟩,.slice none 0 0,.slice none 0 0]),(179,.agg #[.string ⟨#[]⟩,.nilFunc,.string ⟨#[]⟩,.bool false]),(189,.agg #[.string ⟨#[]⟩,.slice none 0 0]),(191,.agg #[.string ⟨#[]⟩,.string ⟨#[]⟩,.string ⟨#[]⟩,.string ⟨#[]⟩,.string ⟨#[]⟩,.string ⟨#[]⟩,.string ⟨#[]⟩,.string ⟨#[]⟩,.string ⟨#[]⟩,.string ⟨#[]⟩,.string ⟨#[]⟩,.string ⟨#[]⟩,.string ⟨#[]⟩,.string ⟨#[]⟩,.string ⟨#[]⟩,.string ⟨#[]⟩,.string ⟨#[]⟩,.string ⟨#[]⟩,.string ⟨#[]⟩,.string ⟨#[]⟩,.string ⟨#[]⟩,.string ⟨#[]⟩]),(201,.agg #[.string ⟨#[]⟩]),(208,.agg #[.string ⟨#[]⟩,.string ⟨#[]⟩,.string ⟨#[]⟩,.bool false]),(212,.agg #[.string ⟨#[]⟩,.int .i64 0,.int .i64 0]),(244,.agg #[.int .i64 0]),(257,.agg #[.int .u8 0,.int .u8 0])],
 nif:=[59,244,262],
 ifc:=[91],
 glb:=[(1,1,256,(utf8First.map (eI .u8))),(2,2,16,(zbu.map q0g.enc))],
 ars:=[(191,22)],
 sts:=[(72,2)],
 bld:=[(89,5)],
 inf:=[(3,.int .i64 0,1,8),(5,.int .u8 0,1,1),(9,.string ⟨#[]⟩,1,16),(72,.agg #[.string ⟨#[]⟩,.string ⟨#[]⟩],2,32),(103,.agg #[.int .i64 0,.string ⟨#[]⟩,.slice none 0 0,.slice none 0 0],4,72),(123,.agg #[.string ⟨#[]⟩,.string ⟨#[]⟩,.string ⟨#[]⟩,.slice none 0 0],4,72),(179,.agg #[.string ⟨#[]⟩,.nilFunc,.string ⟨#[]⟩,.bool false],4,48),(189,.agg #[.string ⟨#[]⟩,.slice none 0 0],2,40),(208,.agg #[.string ⟨#[]⟩,.string ⟨#[]⟩,.string ⟨#[]⟩,.bool false],4,56)] }
@[reducible] def CT:List (Nat × List (Option (Nat × Nat))):=[(3,[none]),(4,[none]),(5,[none]),(9,[none]),(25,[none,some (9,1),some (72,2),some (72,2),none]),(37,[none,none,none,none,none,none,none,none,none,some (9,1),some (9,1)]),(40,[none,none,none,none,none,none,none,none,some (9,1),none,none,none,none,none,none,none,none,none,none,none,none,none,some (9,1),some (9,1),some (123,4)]),(46,[none,none,none,none,none,none,none,none,none,none,none,none,none,none,none,none,none,none,none,none,none,none,none,some (189,2),none,none]),(72,[none,none]),(103,[none,none,some (103,4),some (9,1)]),(112,[none,none,none,none,none,some (179,4)]),(120,[none,none,some (103,4),some (9,1)]),(123,[none,none,none,some (189,2)]),(129,[none,none,none,none,none,none,none,some (208,4)]),(179,[none,none,none,none]),(189,[none,some (9,1)]),(208,[none,none,none,none]),(257,[none,none])]
theorem TBok:TbOk Tryz.prog TB:=TbOk.of (by kernel_rfl) (by repeat' (first|exact trivial|apply And.intro|(show _=_;kernel_rfl))) (by repeat' (first|exact trivial|apply And.intro|(show _=_;kernel_rfl))) (by repeat' (first|exact trivial|apply And.intro|(show _=_;kernel_rfl))) (by repeat' (first|exact trivial|apply And.intro|(show _=_;kernel_rfl))) (by repeat' (first|exact trivial|apply And.intro|(show _=_;kernel_rfl))) (by repeat' (first|exact trivial|apply And.intro|(show _=_;kernel_rfl))) (by repeat' (first|exact trivial|apply And.intro|(show _=_;kernel_rfl))) (by repeat' (first|exact trivial|apply And.intro|(show _=_;kernel_rfl))) (by repeat' (first|exact trivial|apply And.intro|(show _=_;kernel_rfl)))
@[reducible] def I.z5q (p0:Z) (p1:Z):CIn:=⟨[.str p0,.str p1],[],[]⟩
@[reducible] def O.z5q:Int→z3x
 | r => .ok [.int .i64 r] [] []
@[reducible] def I.split (p0:Z) (p1:Z):CIn:=⟨[.str p0,.str p1],[],[]⟩
@[reducible] def O.split:(List Z)→z3x
 | r => .ok [.sl 9 1 (r.map eS)] [] []
@[reducible] def I.trim (p0:Z) (p1:Z):CIn:=⟨[.str p0,.str p1],[],[]⟩
@[reducible] def O.trim:Z→z3x
 | r => .ok [.str r] [] []
@[reducible] def I.cut (p0:Z) (p1:Z):CIn:=⟨[.str p0,.str p1],[],[]⟩
@[reducible] def O.cut:Z × Z × Bool→z3x
 | r => .ok [.str r.1,.str r.2.1,.bool r.2.2] [] []
@[reducible] def I.z4g (p0:List Int):CIn:=⟨[.ptr 0 0],[⟨89,[.z1l 0,.ref 0]⟩],[(5,1,(p0.map (eI .u8)))]⟩
@[reducible] def O.z4g (p0:List Int):Unit→z3x
 | r => .ok [] [⟨89,[.z1l 0,.ref 0]⟩] [some (5,1,(p0.map (eI .u8)))]
@[reducible] def I.zn (p0:List Int):CIn:=⟨[.ptr 0 0],[⟨89,[.z1l 0,.ref 0]⟩],[(5,1,(p0.map (eI .u8)))]⟩
@[reducible] def O.zn (p0:List Int):Z→z3x
 | r => .ok [.str r] [⟨89,[.z1l 0,.ref 0]⟩] [some (1000005,1,(p0.map (eI .u8)))]
@[reducible] def I.z1b (p0:Z) (p1:Int):CIn:=⟨[.str p0,.int .u8 p1],[],[]⟩
@[reducible] def O.z1b:Int→z3x
 | r => .ok [.int .i64 r] [] []
@[reducible] def I.containsAny (p0:Z) (p1:Z):CIn:=⟨[.str p0,.str p1],[],[]⟩
@[reducible] def O.containsAny:Bool→z3x
 | r => .ok [.bool r] [] []
@[reducible] def I.replaceAll (p0:Z) (p1:Z) (p2:Z):CIn:=⟨[.str p0,.str p1,.str p2],[],[]⟩
@[reducible] def O.replaceAll:Z→z3x
 | r => .ok [.str r] [] []
@[reducible] def I.z5m (p1:Z):CIn:=⟨[.fn 37 [] [],.str p1],[],[]⟩
@[reducible] def O.z5m:Z→z3x
 | r => .ok [.str r] [] []
@[reducible] def I.atoi (p0:Z):CIn:=⟨[.str p0],[],[]⟩
@[reducible] def O.atoi:Int × Bool→z3x
 | r => .ok [.int .i64 r.1,.err r.2] [] []
@[reducible] def I.itoa (p0:Int):CIn:=⟨[.int .i64 p0],[],[]⟩
@[reducible] def O.itoa:Z→z3x
 | r => .ok [.str r] [] []
@[reducible] def I.contains (p0:Z) (p1:Z):CIn:=⟨[.str p0,.str p1],[],[]⟩
@[reducible] def O.contains:Bool→z3x
 | r => .ok [.bool r] [] []
@[reducible] def I.trimLeft (p0:Z) (p1:Z):CIn:=⟨[.str p0,.str p1],[],[]⟩
@[reducible] def O.trimLeft:Z→z3x
 | r => .ok [.str r] [] []
@[reducible] def I.z1f (p0:Z):CIn:=⟨[.str p0],[],[]⟩
@[reducible] def O.z1f:Bool→z3x
 | r => .ok [.bool r] [] []
@[reducible] def I.indexByte (p0:Z) (p1:Int):CIn:=⟨[.str p0,.int .u8 p1],[],[]⟩
@[reducible] def O.indexByte:Int→z3x
 | r => .ok [.int .i64 r] [] []
@[reducible] def I.single (p0:List Z):CIn:=⟨[.sl 9 1 (p0.map eS)],[],[]⟩
@[reducible] def O.single:Bool→z3x
 | r => .ok [.bool r] [] []
@[reducible] def I.z3d (p0:Z):CIn:=⟨[.str p0,.fn 231 [] []],[],[]⟩
@[reducible] def O.z3d:Bool→z3x
 | r => .ok [.bool r] [] []
@[reducible] def I.join (p0:List Z) (p1:Z):CIn:=⟨[.sl 9 1 (p0.map eS),.str p1],[],[]⟩
@[reducible] def O.join:Z→z3x
 | r => .ok [.str r] [] []
end Go.Proofs.YtfdoofnmjehecaaGreatDoor
