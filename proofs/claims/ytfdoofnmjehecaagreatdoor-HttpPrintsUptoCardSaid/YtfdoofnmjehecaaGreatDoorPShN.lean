import Derived.Test.YtfdoofnmjehecaaGreatDoorPShM
import Derived.Test.YtfdoofnmjehecaaGreatDoorProg
import Derived.Test.YtfdoofnmjehecaaGreatDoorPHtM
import Derived.WalkKit
import Derived.Test.YtfdoofnmjehecaaGreatDoorPLmH
import Derived.Test.YtfdoofnmjehecaaGreatDoorPPfE
set_option linter.all false
section
namespace Go.Sen
open Go.Lk Go.Pe
set_option maxRecDepth 1000000
theorem zmd:M.q3x 40=some true:=MF.q3x.le 2000 40 true (by kernel_rfl)
end Go.Sen
end
section
namespace Go.Proofs.YtfdoofnmjehecaaGreatDoor
open Go.Lk Go.Pe Go.Sen Go.RowKit
@[reducible] def TB:Tb:={
 und:=[(3,.int .i64),(4,.bool),(5,.int .u8),(9,.string),(12,.int .u64),(21,.int .i32),(22,.slice 9),(23,.slice 72),(26,.int .i64),(38,.slice 123),(44,.slice 189),(65,.map 9 4),(87,.slice 5),(99,.slice 3),(101,.slice 103),(108,.slice 112),(110,.slice 179),(124,.slice 129),(127,.slice 208),(170,.map 3 9),(177,.func #[114] #[186] false),(184,.pointer 3),(191,.array 22 9),(227,.int .u64),(255,.array 256 5),(258,.array 16 257),(269,.int .u64)],
 shp:=[(3,false,1),(4,false,1),(5,false,1),(9,false,1),(22,false,1),(23,false,1),(25,true,5),(26,false,1),(37,true,11),(38,false,1),(40,true,25),(44,false,1),(46,true,26),(59,true,1),(72,true,2),(87,false,1),(101,false,1),(103,true,4),(110,false,1),(112,true,6),(120,true,4),(123,true,4),(127,false,1),(129,true,8),(177,false,1),(179,true,4),(189,true,2),(191,true,22),(208,true,4),(257,true,2)],
 fld:=[(25,[(0,false,1),(1,false,1),(2,false,1),(3,false,1),(4,false,1)]),(37,[(0,false,1),(1,false,1),(2,false,1),(3,false,1),(4,false,1),(5,false,1),(6,false,1),(7,false,1),(8,false,1),(9,false,1),(10,false,1)]),(40,[(0,false,1),(1,false,1),(2,false,1),(3,false,1),(4,false,1),(5,false,1),(6,false,1),(7,false,1),(8,false,1),(9,false,1),(10,false,1),(11,false,1),(12,false,1),(13,true,11),(24,false,1)]),(46,[(0,false,1),(1,false,1),(2,false,1),(3,false,1),(4,false,1),(5,false,1),(6,false,1),(7,false,1),(8,false,1),(9,false,1),(10,false,1),(11,false,1),(12,false,1),(13,false,1),(14,false,1),(15,false,1),(16,false,1),(17,false,1),(18,false,1),(19,false,1),(20,false,1),(21,false,1),(22,false,1),(23,false,1),(24,false,1),(25,false,1)]),(59,[(0,false,1)]),(72,[(0,false,1),(1,false,1)]),(89,[(0,false,1),(1,false,1)]),(103,[(0,false,1),(1,false,1),(2,false,1),(3,false,1)]),(112,[(0,false,1),(1,false,1),(2,false,1),(3,false,1),(4,false,1),(5,false,1)]),(120,[(0,true,4)]),(123,[(0,false,1),(1,false,1),(2,false,1),(3,false,1)]),(129,[(0,false,1),(1,false,1),(2,false,1),(3,false,1),(4,false,1),(5,false,1),(6,false,1),(7,false,1)]),(169,[(0,true,4)]),(179,[(0,false,1),(1,false,1),(2,false,1),(3,false,1)]),(189,[(0,false,1),(1,false,1)]),(201,[(0,false,1)]),(208,[(0,false,1),(1,false,1),(2,false,1),(3,false,1)]),(212,[(0,false,1),(1,false,1),(2,false,1)]),(244,[(0,false,1)]),(257,[(0,false,1),(1,false,1)])],
 zer:=[(3,.int .i64 0),(4,.bool false),(5,.int .u8 0),(9,.string ⟨#[]⟩),(25,.agg #[.string ⟨#[]⟩,.slice none 0 0,.slice none 0 0,.slice none 0 0,.string ⟨#[]⟩]),(26,.int .i64 0),(37,.agg #[.string ⟨#[]⟩,.string ⟨#[]⟩,.string ⟨#[]⟩,.string ⟨#[]⟩,.string ⟨#[]⟩,.string ⟨#[]⟩,.int .i64 0,.int .i64 0,.int .i64 0,.slice none 0 0,.slice none 0 0]),(40,.agg #[.int .i64 0,.int .i64 0,.string ⟨#[]⟩,.string ⟨#[]⟩,.string ⟨#[]⟩,.string ⟨#[]⟩,.string ⟨#[]⟩,.string ⟨#[]⟩,.slice none 0 0,.int .i64 0,.int .i64 0,.int .i64 0,.bool false,.string ⟨#[]⟩,.string ⟨#[]⟩,.string ⟨#[]⟩,.string ⟨#[]⟩,.string ⟨#[]⟩,.string ⟨#[]⟩,.int .i64 0,.int .i64 0,.int .i64 0,.slice none 0 0,.slice none 0 0,.slice none 0 0]),(46,.agg #[.int .i64 0,.string ⟨#[]⟩,.string ⟨#[]⟩,.string ⟨#[]⟩,.string ⟨#[]⟩,.string ⟨#[]⟩,.string ⟨#[]⟩,.string ⟨#[]⟩,.string ⟨#[]⟩,.string ⟨#[]⟩,.string ⟨#[]⟩,.string ⟨#[]⟩,.string ⟨#[]⟩,.string ⟨#[]⟩,.string ⟨#[]⟩,.string ⟨#[]⟩,.string ⟨#[]⟩,.string ⟨#[]⟩,.string ⟨#[]⟩,.string ⟨#[]⟩,.string ⟨#[]⟩,.string ⟨#[]⟩,.string ⟨#[]⟩,.slice none 0 0,.int .i64 0,.int .i64 0]),(59,.agg #[.int .i64 0]),(72,.agg #[.string ⟨#[]⟩,.string ⟨#[]⟩]),(89,.agg #[.pointer none,.slice none 0 0]),(103,.agg #[.int .i64 0,.string ⟨#[]⟩,.slice none 0 0,.slice none 0 0]),(112,.agg #[.int .i64 0,.string ⟨#[]⟩,.string ⟨#[]⟩,.int .i64 0,.int .i64 0,.slice none 0 0]),(120,.agg #[.int .i64 0,.string ⟨#[]⟩,.slice none 0 0,.slice none 0 0]),(123,.agg #[.string ⟨#[]⟩,.string ⟨#[]⟩,.string ⟨#[]⟩,.slice none 0 0]),(129,.agg #[.int .i64 0,.string ⟨#[]⟩,.string ⟨#[]⟩,.string ⟨#[]⟩,.bool false,.bool false,.bool false,.slice none 0 0]),(169,.agg #[.int .i64 0,.string ⟨#[]⟩,.slice none 0 0,.slice none 0 0]),(179,.agg #[.string ⟨#[]⟩,.nilFunc,.string ⟨#[]⟩,.bool false]),(189,.agg #[.string ⟨#[]⟩,.slice none 0 0]),(191,.agg #[.string ⟨#[]⟩,.string ⟨#[]⟩,.string ⟨#[]⟩,.string ⟨#[]⟩,.string ⟨#[]⟩,.string ⟨#[]⟩,.string ⟨#[]⟩,.string ⟨#[]⟩,.string ⟨#[]⟩,.string ⟨#[]⟩,.string ⟨#[]⟩,.string ⟨#[]⟩,.string ⟨#[]⟩,.string ⟨#[]⟩,.string ⟨#[]⟩,.string ⟨#[]⟩,.string ⟨#[]⟩,.string ⟨#[]⟩,.string ⟨#[]⟩,.string ⟨#[]⟩,.string ⟨#[]⟩,.string ⟨#[]⟩]),(201,.agg #[.string ⟨#[]⟩]),(208,.agg #[.string ⟨#[]⟩,.string ⟨#[]⟩,.string ⟨#[]⟩,.bool false]),(212,.agg #[.string ⟨#[]⟩,.int .i64 0,.int .i64 0]),(244,.agg #[.int .i64 0]),(257,.agg #[.int .u8 0,.int .u8 0])],
 nif:=[59,244,262],
 ifc:=[91],
 glb:=[(1,1,256,(utf8First.map (eI .u8))),(2,2,16,(zdh.map q0g.enc))],
 ars:=[(191,22)],
 sts:=[(72,2)],
 bld:=[(89,5)],
 inf:=[(3,.int .i64 0,1,8),(5,.int .u8 0,1,1),(9,.string ⟨#[]⟩,1,16),(72,.agg #[.string ⟨#[]⟩,.string ⟨#[]⟩],2,32),(103,.agg #[.int .i64 0,.string ⟨#[]⟩,.slice none 0 0,.slice none 0 0],4,72),(123,.agg #[.string ⟨#[]⟩,.string ⟨#[]⟩,.string ⟨#[]⟩,.slice none 0 0],4,72),(179,.agg #[.string ⟨#[]⟩,.nilFunc,.string ⟨#[]⟩,.bool false],4,48),(189,.agg #[.string ⟨#[]⟩,.slice none 0 0],2,40),(208,.agg #[.string ⟨#[]⟩,.string ⟨#[]⟩,.string ⟨#[]⟩,.bool false],4,56)] }
@[reducible] def CT:List (Nat × List (Option (Nat × Nat))):=[(3,[none]),(4,[none]),(5,[none]),(9,[none]),(25,[none,some (9,1),some (72,2),some (72,2),none]),(37,[none,none,none,none,none,none,none,none,none,some (9,1),some (9,1)]),(40,[none,none,none,none,none,none,none,none,some (9,1),none,none,none,none,none,none,none,none,none,none,none,none,none,some (9,1),some (9,1),some (123,4)]),(46,[none,none,none,none,none,none,none,none,none,none,none,none,none,none,none,none,none,none,none,none,none,none,none,some (189,2),none,none]),(72,[none,none]),(103,[none,none,some (103,4),some (9,1)]),(112,[none,none,none,none,none,some (179,4)]),(120,[none,none,some (103,4),some (9,1)]),(123,[none,none,none,some (189,2)]),(129,[none,none,none,none,none,none,none,some (208,4)]),(179,[none,none,none,none]),(189,[none,some (9,1)]),(208,[none,none,none,none]),(257,[none,none])]
theorem zvg:TbOk Tryz.prog TB:=TbOk.of (by kernel_rfl) (by repeat' (first|exact trivial|apply And.intro|(show _=_;kernel_rfl))) (by repeat' (first|exact trivial|apply And.intro|(show _=_;kernel_rfl))) (by repeat' (first|exact trivial|apply And.intro|(show _=_;kernel_rfl))) (by repeat' (first|exact trivial|apply And.intro|(show _=_;kernel_rfl))) (by repeat' (first|exact trivial|apply And.intro|(show _=_;kernel_rfl))) (by repeat' (first|exact trivial|apply And.intro|(show _=_;kernel_rfl))) (by repeat' (first|exact trivial|apply And.intro|(show _=_;kernel_rfl))) (by repeat' (first|exact trivial|apply And.intro|(show _=_;kernel_rfl))) (by repeat' (first|exact trivial|apply And.intro|(show _=_;kernel_rfl)))
@[reducible] def I.z4e (p0:Z) (p1:Z):CIn:=⟨[.str p0,.str p1],[],[]⟩
@[reducible] def O.z4e:Int→z2u
 | r => .ok [.int .i64 r] [] []
@[reducible] def I.split (p0:Z) (p1:Z):CIn:=⟨[.str p0,.str p1],[],[]⟩
@[reducible] def O.split:(List Z)→z2u
 | r => .ok [.sl 9 1 (r.map eS)] [] []
@[reducible] def I.trim (p0:Z) (p1:Z):CIn:=⟨[.str p0,.str p1],[],[]⟩
@[reducible] def O.trim:Z→z2u
 | r => .ok [.str r] [] []
@[reducible] def I.cut (p0:Z) (p1:Z):CIn:=⟨[.str p0,.str p1],[],[]⟩
@[reducible] def O.cut:Z × Z × Bool→z2u
 | r => .ok [.str r.1,.str r.2.1,.bool r.2.2] [] []
@[reducible] def I.z2k (p0:List Int):CIn:=⟨[.ptr 0 0],[⟨89,[.z0m 0,.ref 0]⟩],[(5,1,(p0.map (eI .u8)))]⟩
@[reducible] def O.z2k (p0:List Int):Unit→z2u
 | r => .ok [] [⟨89,[.z0m 0,.ref 0]⟩] [some (5,1,(p0.map (eI .u8)))]
@[reducible] def I.zj (p0:List Int):CIn:=⟨[.ptr 0 0],[⟨89,[.z0m 0,.ref 0]⟩],[(5,1,(p0.map (eI .u8)))]⟩
@[reducible] def O.zj (p0:List Int):Z→z2u
 | r => .ok [.str r] [⟨89,[.z0m 0,.ref 0]⟩] [some (1000005,1,(p0.map (eI .u8)))]
@[reducible] def I.z1k (p0:Z) (p1:Int):CIn:=⟨[.str p0,.int .u8 p1],[],[]⟩
@[reducible] def O.z1k:Int→z2u
 | r => .ok [.int .i64 r] [] []
@[reducible] def I.containsAny (p0:Z) (p1:Z):CIn:=⟨[.str p0,.str p1],[],[]⟩
@[reducible] def O.containsAny:Bool→z2u
 | r => .ok [.bool r] [] []
@[reducible] def I.replaceAll (p0:Z) (p1:Z) (p2:Z):CIn:=⟨[.str p0,.str p1,.str p2],[],[]⟩
@[reducible] def O.replaceAll:Z→z2u
 | r => .ok [.str r] [] []
@[reducible] def I.z3y (p1:Z):CIn:=⟨[.fn 37 [] [],.str p1],[],[]⟩
@[reducible] def O.z3y:Z→z2u
 | r => .ok [.str r] [] []
@[reducible] def I.atoi (p0:Z):CIn:=⟨[.str p0],[],[]⟩
@[reducible] def O.atoi:Int × Bool→z2u
 | r => .ok [.int .i64 r.1,.err r.2] [] []
@[reducible] def I.itoa (p0:Int):CIn:=⟨[.int .i64 p0],[],[]⟩
@[reducible] def O.itoa:Z→z2u
 | r => .ok [.str r] [] []
@[reducible] def I.contains (p0:Z) (p1:Z):CIn:=⟨[.str p0,.str p1],[],[]⟩
@[reducible] def O.contains:Bool→z2u
 | r => .ok [.bool r] [] []
@[reducible] def I.trimLeft (p0:Z) (p1:Z):CIn:=⟨[.str p0,.str p1],[],[]⟩
@[reducible] def O.trimLeft:Z→z2u
 | r => .ok [.str r] [] []
@[reducible] def I.z1h (p0:Z):CIn:=⟨[.str p0],[],[]⟩
@[reducible] def O.z1h:Bool→z2u
 | r => .ok [.bool r] [] []
@[reducible] def I.indexByte (p0:Z) (p1:Int):CIn:=⟨[.str p0,.int .u8 p1],[],[]⟩
@[reducible] def O.indexByte:Int→z2u
 | r => .ok [.int .i64 r] [] []
@[reducible] def I.single (p0:List Z):CIn:=⟨[.sl 9 1 (p0.map eS)],[],[]⟩
@[reducible] def O.single:Bool→z2u
 | r => .ok [.bool r] [] []
@[reducible] def I.z2d (p0:Z):CIn:=⟨[.str p0,.fn 231 [] []],[],[]⟩
@[reducible] def O.z2d:Bool→z2u
 | r => .ok [.bool r] [] []
@[reducible] def I.join (p0:List Z) (p1:Z):CIn:=⟨[.sl 9 1 (p0.map eS),.str p1],[],[]⟩
@[reducible] def O.join:Z→z2u
 | r => .ok [.str r] [] []
end Go.Proofs.YtfdoofnmjehecaaGreatDoor
end
section
namespace Go.Proofs.YtfdoofnmjehecaaGreatDoor
open _root_.List renaming toArray → ya
open _root_.Nat renaming le_trans → yb
open Go.Lk Go.Pe Go.RowKit
theorem zk1:fld Tryz.prog 244 0=some (0,false,1):=by kernel_rfl
theorem zhy:shp Tryz.prog 26=some (false,1):=by kernel_rfl
theorem zli:shp Tryz.prog 244=some (true,1):=by kernel_rfl
theorem zgt:zer Tryz.prog 244=some (Value.agg #[Value.int .i64 0]):=by kernel_rfl
theorem zme:fld Tryz.prog 59 0=some (0,false,1):=by kernel_rfl
theorem zoq:shp Tryz.prog 59=some (true,1):=by kernel_rfl
theorem zlp:zer Tryz.prog 59=some (Value.agg #[Value.int .i64 0]):=by kernel_rfl
set_option maxRecDepth 1000000
theorem C.zib (w0:World) (b0:Nat):CallsD Tryz.prog 185 (ya [Value.pointer (some ⟨b0,0,none⟩)]) .returning w0 (fun e u w'=>e = .returned (.tuple #[])∧u = .returning∧Ext z18 w0 w'):=by
 have B0:Bd z18 w0:=fun _ h=>h.elim
 have X0:=Ext.refl z18 w0
 refine (z6b (R:=fun e w'=>e = .returned (.tuple #[])∧Ext z18 w0 w') .returning .returning Tryz.func185 rfl 14 rfl rfl ?_).mono (fun e u w' h=>⟨h.2.1,h.1,h.2.2⟩)
 refine TWR.seq ?_
 refine TWR.recover rfl (.inl ⟨rfl,rfl,rfl⟩) rfl rfl rfl rfl ?_
 refine OW.val rfl rfl rfl (EX.zqz rfl Tryz.underlying244 rfl zgt rfl) ?_
 refine OW.move rfl rfl rfl rfl rfl ?_
 refine OW.extract rfl rfl rfl rfl rfl rfl ?_
 refine OW.extract rfl rfl rfl rfl rfl rfl ?_
 refine OW.alloc rfl rfl rfl rfl zgt (cs:=[Value.int .i64 0]) rfl ?_
 intro b1 w2 hb3 x4 l5
 have t6:=Tr.z6m (O:=z18) x4 (fun _ _ h=>h.elim) l5
 have B8:=(B0.ext x4).ins hb3.lt
 have X7:=X0.step x4 (fun _ _ h=>h.elim)
 have g9:w0.heap.size≤b1:=yb X0.size l5
 refine OW.store rfl rfl rfl zli rfl rfl (vs:=[Value.int .i64 0]) rfl rfl hb3 rfl (z74 rfl z96) (cs':=[Value.int .i64 0]) rfl ?_
 intro w10 hb11 x12
 have t13:=Tr.z3r (O:=(Ins z18 b1)) x12 (fun _ _ h=>by cases h;exact (Or.inl rfl))
 have B15:=B8.ext x12
 have X14:=X7.step x12 (fun y hy h=>absurd hy (by cases h;have:=g9;omega))
 refine OW.assign rfl rfl rfl rfl rfl ?_
 refine OW.done (TW.seq (TW.region ?_))
 refine OW.move rfl rfl rfl rfl rfl ?_
 refine OW.done (TW.zh0 rfl (TW.skip ?_))
 exact TW.fin (Out.unit rfl) ⟨rfl,X14⟩
theorem C.zia (w0:World) (b0:Nat) (c0:Value) (e0:Int) (hb0:z2b w0 b0 26 [c0]):CallsD Tryz.prog 185 (ya [Value.pointer (some ⟨b0,0,none⟩)]) (.panicking [{ v:=Value.iface 244 (Value.agg (ya [Value.int .i64 e0])),recovered:=false }]) w0 (fun e u w'=>e = .returned (.tuple #[])∧u=(.panicking [{ v:=Value.iface 244 (Value.agg (ya [Value.int .i64 e0])),recovered:=true }])∧z2b w' b0 26 [Value.int .i64 e0]∧Ext (At b0) w0 w'):=by
 have B0:Bd (At b0) w0:=fun x h=>by cases h;exact hb0.lt
 have X0:=Ext.refl (At b0) w0
 refine (z6b (R:=fun e w'=>e = .returned (.tuple #[])∧z2b w' b0 26 [Value.int .i64 e0]∧Ext (At b0) w0 w') (.panicking [{ v:=Value.iface 244 (Value.agg (ya [Value.int .i64 e0])),recovered:=false }]) (.panicking [{ v:=Value.iface 244 (Value.agg (ya [Value.int .i64 e0])),recovered:=true }]) Tryz.func185 rfl 14 rfl rfl ?_).mono (fun e u w' h=>⟨h.2.1,h.1,h.2.2⟩)
 refine TWR.seq ?_
 refine TWR.recover rfl (.inr ⟨[],rfl,rfl⟩) rfl rfl rfl rfl ?_
 refine OW.val rfl rfl rfl (EX.zr0 rfl Tryz.underlying244 rfl rfl) ?_
 refine OW.move rfl rfl rfl rfl rfl ?_
 refine OW.extract rfl rfl rfl rfl rfl rfl ?_
 refine OW.extract rfl rfl rfl rfl rfl rfl ?_
 refine OW.alloc rfl rfl rfl rfl zgt (cs:=[Value.int .i64 0]) rfl ?_
 intro b1 w2 hb3 x4 l5
 have t6:=Tr.z6m (O:=(At b0)) x4 (fun _ _ h=>h.elim) l5
 have B8:=(B0.ext x4).ins hb3.lt
 have X7:=X0.step x4 (fun _ _ h=>h.elim)
 have g9:w0.heap.size≤b1:=yb X0.size l5
 have n10:b0≠b1:=by have:=hb0.lt;omega
 have hb11:=(hb0.keep x4 (fun h=>h))
 refine OW.store rfl rfl rfl zli rfl rfl (vs:=[Value.int .i64 e0]) rfl rfl hb3 rfl (z74 rfl z96) (cs':=[Value.int .i64 e0]) rfl ?_
 intro w12 hb13 x14
 have t15:=Tr.z3r (O:=(Ins (At b0) b1)) x14 (fun _ _ h=>by cases h;exact (Or.inl rfl))
 have B17:=B8.ext x14
 have X16:=X7.step x14 (fun y hy h=>absurd hy (by cases h;have:=g9;omega))
 refine OW.assign rfl rfl rfl rfl rfl ?_
 refine OW.done (TW.seq (TW.region ?_))
 refine OW.move rfl rfl rfl rfl rfl ?_
 refine OW.done (TW.zjq rfl (TW.region ?_))
 refine OW.move rfl rfl rfl rfl rfl ?_
 refine OW.fieldAddr rfl rfl rfl rfl zk1 rfl ?_
 refine OW.zgb rfl rfl rfl rfl zhy rfl hb13 rfl ?_
 refine OW.nilCheck rfl rfl rfl rfl rfl ?_
 have hb18:=(hb11.keep x14 n10)
 refine OW.store rfl rfl rfl zhy rfl rfl (vs:=[Value.int .i64 e0]) rfl rfl hb18 rfl (z74 rfl z96) (cs':=[Value.int .i64 e0]) rfl ?_
 intro w19 hb20 x21
 have t22:=Tr.z3r (O:=(Ins (At b0) b1)) x21 (fun _ _ h=>by cases h;exact (Or.inr (rfl:At b0 b0)))
 have B24:=B17.ext x21
 have X23:=X16.step x21 (fun y hy h=>h)
 refine OW.done ?_
 have hb25:=(hb13.keep x21 (Ne.symm n10))
 exact TW.fin (Out.unit rfl) ⟨rfl,hb20,X23⟩
theorem C.zjn:zdo Tryz.prog 185 244 .i64 26:=⟨fun _ _=>rfl,C.zib,C.zia⟩
theorem C.zbc (w0:World) (b0:Nat):CallsD Tryz.prog 179 (ya [Value.pointer (some ⟨b0,0,none⟩)]) .returning w0 (fun e u w'=>e = .returned (.tuple #[])∧u = .returning∧Ext z18 w0 w'):=by
 have B0:Bd z18 w0:=fun _ h=>h.elim
 have X0:=Ext.refl z18 w0
 refine (z6b (R:=fun e w'=>e = .returned (.tuple #[])∧Ext z18 w0 w') .returning .returning Tryz.func179 rfl 14 rfl rfl ?_).mono (fun e u w' h=>⟨h.2.1,h.1,h.2.2⟩)
 refine TWR.seq ?_
 refine TWR.recover rfl (.inl ⟨rfl,rfl,rfl⟩) rfl rfl rfl rfl ?_
 refine OW.val rfl rfl rfl (EX.zqz rfl Tryz.underlying59 rfl zlp rfl) ?_
 refine OW.move rfl rfl rfl rfl rfl ?_
 refine OW.extract rfl rfl rfl rfl rfl rfl ?_
 refine OW.extract rfl rfl rfl rfl rfl rfl ?_
 refine OW.alloc rfl rfl rfl rfl zlp (cs:=[Value.int .i64 0]) rfl ?_
 intro b1 w2 hb3 x4 l5
 have t6:=Tr.z6m (O:=z18) x4 (fun _ _ h=>h.elim) l5
 have B8:=(B0.ext x4).ins hb3.lt
 have X7:=X0.step x4 (fun _ _ h=>h.elim)
 have g9:w0.heap.size≤b1:=yb X0.size l5
 refine OW.store rfl rfl rfl zoq rfl rfl (vs:=[Value.int .i64 0]) rfl rfl hb3 rfl (z74 rfl z96) (cs':=[Value.int .i64 0]) rfl ?_
 intro w10 hb11 x12
 have t13:=Tr.z3r (O:=(Ins z18 b1)) x12 (fun _ _ h=>by cases h;exact (Or.inl rfl))
 have B15:=B8.ext x12
 have X14:=X7.step x12 (fun y hy h=>absurd hy (by cases h;have:=g9;omega))
 refine OW.assign rfl rfl rfl rfl rfl ?_
 refine OW.done (TW.seq (TW.region ?_))
 refine OW.move rfl rfl rfl rfl rfl ?_
 refine OW.done (TW.zh0 rfl (TW.skip ?_))
 exact TW.fin (Out.unit rfl) ⟨rfl,X14⟩
theorem C.zbb (w0:World) (b0:Nat) (c0:Value) (e0:Int) (hb0:z2b w0 b0 26 [c0]):CallsD Tryz.prog 179 (ya [Value.pointer (some ⟨b0,0,none⟩)]) (.panicking [{ v:=Value.iface 59 (Value.agg (ya [Value.int .i64 e0])),recovered:=false }]) w0 (fun e u w'=>e = .returned (.tuple #[])∧u=(.panicking [{ v:=Value.iface 59 (Value.agg (ya [Value.int .i64 e0])),recovered:=true }])∧z2b w' b0 26 [Value.int .i64 e0]∧Ext (At b0) w0 w'):=by
 have B0:Bd (At b0) w0:=fun x h=>by cases h;exact hb0.lt
 have X0:=Ext.refl (At b0) w0
 refine (z6b (R:=fun e w'=>e = .returned (.tuple #[])∧z2b w' b0 26 [Value.int .i64 e0]∧Ext (At b0) w0 w') (.panicking [{ v:=Value.iface 59 (Value.agg (ya [Value.int .i64 e0])),recovered:=false }]) (.panicking [{ v:=Value.iface 59 (Value.agg (ya [Value.int .i64 e0])),recovered:=true }]) Tryz.func179 rfl 14 rfl rfl ?_).mono (fun e u w' h=>⟨h.2.1,h.1,h.2.2⟩)
 refine TWR.seq ?_
 refine TWR.recover rfl (.inr ⟨[],rfl,rfl⟩) rfl rfl rfl rfl ?_
 refine OW.val rfl rfl rfl (EX.zr0 rfl Tryz.underlying59 rfl rfl) ?_
 refine OW.move rfl rfl rfl rfl rfl ?_
 refine OW.extract rfl rfl rfl rfl rfl rfl ?_
 refine OW.extract rfl rfl rfl rfl rfl rfl ?_
 refine OW.alloc rfl rfl rfl rfl zlp (cs:=[Value.int .i64 0]) rfl ?_
 intro b1 w2 hb3 x4 l5
 have t6:=Tr.z6m (O:=(At b0)) x4 (fun _ _ h=>h.elim) l5
 have B8:=(B0.ext x4).ins hb3.lt
 have X7:=X0.step x4 (fun _ _ h=>h.elim)
 have g9:w0.heap.size≤b1:=yb X0.size l5
 have n10:b0≠b1:=by have:=hb0.lt;omega
 have hb11:=(hb0.keep x4 (fun h=>h))
 refine OW.store rfl rfl rfl zoq rfl rfl (vs:=[Value.int .i64 e0]) rfl rfl hb3 rfl (z74 rfl z96) (cs':=[Value.int .i64 e0]) rfl ?_
 intro w12 hb13 x14
 have t15:=Tr.z3r (O:=(Ins (At b0) b1)) x14 (fun _ _ h=>by cases h;exact (Or.inl rfl))
 have B17:=B8.ext x14
 have X16:=X7.step x14 (fun y hy h=>absurd hy (by cases h;have:=g9;omega))
 refine OW.assign rfl rfl rfl rfl rfl ?_
 refine OW.done (TW.seq (TW.region ?_))
 refine OW.move rfl rfl rfl rfl rfl ?_
 refine OW.done (TW.zjq rfl (TW.region ?_))
 refine OW.move rfl rfl rfl rfl rfl ?_
 refine OW.fieldAddr rfl rfl rfl rfl zme rfl ?_
 refine OW.zgb rfl rfl rfl rfl zhy rfl hb13 rfl ?_
 refine OW.nilCheck rfl rfl rfl rfl rfl ?_
 have hb18:=(hb11.keep x14 n10)
 refine OW.store rfl rfl rfl zhy rfl rfl (vs:=[Value.int .i64 e0]) rfl rfl hb18 rfl (z74 rfl z96) (cs':=[Value.int .i64 e0]) rfl ?_
 intro w19 hb20 x21
 have t22:=Tr.z3r (O:=(Ins (At b0) b1)) x21 (fun _ _ h=>by cases h;exact (Or.inr (rfl:At b0 b0)))
 have B24:=B17.ext x21
 have X23:=X16.step x21 (fun y hy h=>h)
 refine OW.done ?_
 have hb25:=(hb13.keep x21 (Ne.symm n10))
 exact TW.fin (Out.unit rfl) ⟨rfl,hb20,X23⟩
theorem C.zin:zdo Tryz.prog 179 59 .i64 26:=⟨fun _ _=>rfl,C.zbc,C.zbb⟩
end Go.Proofs.YtfdoofnmjehecaaGreatDoor
end
section
namespace Go.Proofs.YtfdoofnmjehecaaGreatDoor
open Go.Lk Go.RowKit
theorem zgz:shp Tryz.prog 86=some (false,1):=by kernel_rfl
theorem zgy:fld Tryz.prog 89 0=some (0,false,1):=by kernel_rfl
theorem zp5:(Tryz.prog.info? 89).map (·.size)=some 2:=by kernel_rfl
theorem zp4:liesAt Tryz.prog Tryz.prog.depth 89 (2 / Tryz.prog.cellsOf 89) 0 89 1=true:=by kernel_rfl
set_option maxRecDepth 1000000 in
theorem zcr (w0:World) (b:Nat) (a v:Value) (hb:z2b w0 b 89 [a,v]) (hs:Slf b a) (h1:v.oneCell'=true) :
  Calls Tryz.prog 122 (List.toArray [Value.pointer (some ⟨b,0,none⟩)]) w0 (fun e w'=>e = .returned (.tuple #[])∧z2b w' b 89 [Value.pointer (some ⟨b,0,none⟩),v]∧Ext (At b) w0 w'):=by
 obtain ⟨j,hj,hjs⟩:=Option.map_eq_some_iff.1 zp5
 have hsh:w0.shape? b=some (89,2):=by
  have hb':=hb
  simp only [z2b] at hb'
  simp [World.shape?,hb']
 refine zcm Tryz.func122 rfl 20 rfl rfl ?_
 rcases hs with rfl|rfl
 ·refine TW.seq (TW.region ?_)
  refine OW.move rfl rfl rfl rfl rfl ?_
  refine OW.nilCheck rfl rfl rfl rfl rfl ?_
  refine OW.fieldAddr rfl rfl rfl rfl zgy rfl ?_
  refine OW.zgb rfl rfl rfl rfl zgz rfl hb rfl ?_
  refine OW.val rfl rfl rfl (EX.zvn rfl Tryz.underlying86 hj rfl rfl) ?_
  refine OW.done (TW.zjq rfl (TW.region ?_))
  refine OW.move rfl rfl rfl rfl rfl ?_
  refine OW.move rfl rfl rfl rfl rfl ?_
  refine OW.val rfl rfl rfl (EX.toU rfl Tryz.underlying86 Tryz.underlying228 hj (by rw [hjs];decide) rfl hsh (by decide)) ?_
  refine OW.val rfl rfl rfl (EX.zvp rfl rfl rfl (zle Tryz.func224 (by kernel_rfl) (by kernel_rfl) (by kernel_rfl) (by kernel_rfl) _)) ?_
  refine OW.val rfl rfl rfl (EX.zub rfl Tryz.underlying228 Tryz.underlying86 hj rfl hsh zp4) ?_
  refine OW.nilCheck rfl rfl rfl rfl rfl ?_
  refine OW.fieldAddr rfl rfl rfl rfl zgy rfl ?_
  refine OW.store rfl rfl rfl zgz rfl rfl (vs:=[Value.pointer (some ⟨b,0,none⟩)]) rfl rfl hb rfl rfl (cs':=[Value.pointer (some ⟨b,0,none⟩),v]) rfl ?_
  intro w' hb' x
  exact OW.done (TW.fin (Out.unit rfl) ⟨rfl,hb',x⟩)
 ·refine TW.seq (TW.region ?_)
  refine OW.move rfl rfl rfl rfl rfl ?_
  refine OW.nilCheck rfl rfl rfl rfl rfl ?_
  refine OW.fieldAddr rfl rfl rfl rfl zgy rfl ?_
  refine OW.zgb rfl rfl rfl rfl zgz rfl hb rfl ?_
  refine OW.val rfl rfl rfl (EX.zvo rfl Tryz.underlying86 hj rfl rfl) ?_
  refine OW.done (TW.zh0 rfl (TW.seq (TW.region ?_)))
  refine OW.move rfl rfl rfl rfl rfl ?_
  refine OW.nilCheck rfl rfl rfl rfl rfl ?_
  refine OW.fieldAddr rfl rfl rfl rfl zgy rfl ?_
  refine OW.zgb rfl rfl rfl rfl zgz rfl hb rfl ?_
  refine OW.move rfl rfl rfl rfl rfl ?_
  refine OW.val rfl rfl rfl (EX.zw0 rfl Tryz.underlying86 hj rfl rfl) ?_
  refine OW.done (TW.zh0 rfl (TW.skip ?_))
  exact TW.fin (Out.unit rfl) ⟨rfl,hb,Ext.refl _ _⟩
end Go.Proofs.YtfdoofnmjehecaaGreatDoor
end
