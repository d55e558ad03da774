import Derived.Test.YtmmgdladipbedaaGreatDoorProg
import Derived.Test.YtmmgdladipbedaaGreatDoorLPaM
import Derived.WalkKit
import Derived.Test.YtmmgdladipbedaaGreatDoorLLkH
import Derived.Test.YtmmgdladipbedaaGreatDoorLPeS3
import Derived.Shelf.Strings.Builder1
set_option linter.all false
section
namespace Go.Proofs.YtmmgdladipbedaaGreatDoor
open Go.Lk Go.Pe Go.Sen Go.RowKit
@[reducible] def TB:Tb:={
 und:=[(3,.int .i64),(4,.bool),(5,.int .u8),(9,.string),(12,.int .u64),(21,.int .i32),(22,.slice 24),(25,.int .i64),(31,.slice 48),(40,.slice 51),(46,.slice 9),(75,.map 9 46),(89,.slice 91),(114,.slice 113),(117,.slice 5),(130,.int .u64),(188,.int .u64),(203,.array 256 5),(206,.array 16 205)],
 shp:=[(3,false,1),(4,false,1),(5,false,1),(9,false,1),(22,false,1),(24,true,4),(25,false,1),(31,false,1),(33,true,4),(46,false,1),(48,true,2),(51,true,8),(69,false,1),(89,false,1),(91,true,4),(111,false,1),(113,true,2),(117,false,1),(205,true,2)],
 fld:=[(24,[(0,false,1),(1,false,1),(2,false,1),(3,false,1)]),(33,[(0,false,1),(1,false,1),(2,false,1),(3,false,1)]),(48,[(0,false,1),(1,false,1)]),(51,[(0,false,1),(1,false,1),(2,false,1),(3,true,4),(7,false,1)]),(67,[(0,false,1)]),(71,[(0,false,1)]),(91,[(0,false,1),(1,false,1),(2,false,1),(3,false,1)]),(107,[(0,false,1),(1,false,1),(2,false,1)]),(113,[(0,false,1),(1,false,1)]),(141,[(0,false,1),(1,false,1)]),(148,[(0,false,1)]),(159,[(0,false,1),(1,false,1),(2,false,1)]),(195,[(0,false,1)]),(205,[(0,false,1),(1,false,1)])],
 zer:=[(5,.int .u8 0),(9,.string ⟨#[]⟩),(24,.agg #[.int .i64 0,.string ⟨#[]⟩,.string ⟨#[]⟩,.slice none 0 0]),(25,.int .i64 0),(33,.agg #[.string ⟨#[]⟩,.string ⟨#[]⟩,.string ⟨#[]⟩,.slice none 0 0]),(46,.slice none 0 0),(48,.agg #[.string ⟨#[]⟩,.slice none 0 0]),(51,.agg #[.int .i64 0,.string ⟨#[]⟩,.bool false,.int .i64 0,.string ⟨#[]⟩,.string ⟨#[]⟩,.slice none 0 0,.slice none 0 0]),(67,.agg #[.int .i64 0]),(71,.agg #[.string ⟨#[]⟩]),(91,.agg #[.int .i64 0,.string ⟨#[]⟩,.slice none 0 0,.slice none 0 0]),(107,.agg #[.string ⟨#[]⟩,.int .i64 0,.int .i64 0]),(111,.nilFunc),(113,.agg #[.string ⟨#[]⟩,.nilFunc]),(141,.agg #[.pointer none,.slice none 0 0]),(148,.agg #[.string ⟨#[]⟩]),(159,.agg #[.string ⟨#[]⟩,.int .i64 0,.int .i64 0]),(195,.agg #[.int .i64 0]),(205,.agg #[.int .u8 0,.int .u8 0])],
 nif:=[67,195,243],
 ifc:=[162],
 glb:=[(1,1,256,(utf8First.map (eI .u8))),(2,2,16,(zdx.map q0a.enc))],
 bld:=[(141,5)],
 inf:=[(5,.int .u8 0,1,1),(9,.string ⟨#[]⟩,1,16),(24,.agg #[.int .i64 0,.string ⟨#[]⟩,.string ⟨#[]⟩,.slice none 0 0],4,64),(48,.agg #[.string ⟨#[]⟩,.slice none 0 0],2,40),(51,.agg #[.int .i64 0,.string ⟨#[]⟩,.bool false,.int .i64 0,.string ⟨#[]⟩,.string ⟨#[]⟩,.slice none 0 0,.slice none 0 0],8,120),(91,.agg #[.int .i64 0,.string ⟨#[]⟩,.slice none 0 0,.slice none 0 0],4,72)] }
@[reducible] def CT:List (Nat × List (Option (Nat × Nat))):=[(5,[none]),(9,[none]),(24,[none,none,none,some (24,4)]),(33,[none,none,none,some (48,2)]),(46,[some (9,1)]),(48,[none,some (9,1)]),(51,[none,none,none,none,none,none,some (24,4),some (9,1)]),(91,[none,none,some (91,4),some (9,1)]),(113,[none,none])]
theorem zwm:TbOk Tryz.prog TB:=TbOk.of (by kernel_rfl) (by repeat' (first|exact trivial|apply And.intro|(show _=_;kernel_rfl))) (by repeat' (first|exact trivial|apply And.intro|(show _=_;kernel_rfl))) (by repeat' (first|exact trivial|apply And.intro|(show _=_;kernel_rfl))) (by repeat' (first|exact trivial|apply And.intro|(show _=_;kernel_rfl))) (by repeat' (first|exact trivial|apply And.intro|(show _=_;kernel_rfl))) (by repeat' (first|exact trivial|apply And.intro|(show _=_;kernel_rfl))) (by repeat' (first|exact trivial|apply And.intro|(show _=_;kernel_rfl)))
@[reducible] def I.indexByte (p0:List UInt8) (p1:Int):CIn:=⟨[.str p0,.int .u8 p1],[],[]⟩
@[reducible] def O.indexByte:Int→z2l
 | r => .ok [.int .i64 r] [] []
@[reducible] def I.trim (p0:List UInt8) (p1:List UInt8):CIn:=⟨[.str p0,.str p1],[],[]⟩
@[reducible] def O.trim:(List UInt8)→z2l
 | r => .ok [.str r] [] []
@[reducible] def I.z0b (p0:List UInt8):CIn:=⟨[.str p0],[],[]⟩
@[reducible] def O.z0b:Bool→z2l
 | r => .ok [.bool r] [] []
@[reducible] def I.single (p0:List (List UInt8)):CIn:=⟨[.sl 9 1 (p0.map eS)],[],[]⟩
@[reducible] def O.single:Bool→z2l
 | r => .ok [.bool r] [] []
@[reducible] def I.trimLeft (p0:List UInt8) (p1:List UInt8):CIn:=⟨[.str p0,.str p1],[],[]⟩
@[reducible] def O.trimLeft:(List UInt8)→z2l
 | r => .ok [.str r] [] []
@[reducible] def I.z1d (p0:List Int):CIn:=⟨[.ptr 0 0],[⟨141,[.z0g 0,.ref 0]⟩],[(5,1,(p0.map (eI .u8)))]⟩
@[reducible] def O.z1d (p0:List Int):Unit→z2l
 | r => .ok [] [⟨141,[.z0g 0,.ref 0]⟩] [some (5,1,(p0.map (eI .u8)))]
@[reducible] def I.z08 (p0:List Int):CIn:=⟨[.ptr 0 0],[⟨141,[.z0g 0,.ref 0]⟩],[(5,1,(p0.map (eI .u8)))]⟩
@[reducible] def O.z08 (p0:List Int):(List UInt8)→z2l
 | r => .ok [.str r] [⟨141,[.z0g 0,.ref 0]⟩] [some (1000005,1,(p0.map (eI .u8)))]
@[reducible] def I.join (p0:List (List UInt8)) (p1:List UInt8):CIn:=⟨[.sl 9 1 (p0.map eS),.str p1],[],[]⟩
@[reducible] def O.join:(List UInt8)→z2l
 | r => .ok [.str r] [] []
@[reducible] def I.cut (p0:List UInt8) (p1:List UInt8):CIn:=⟨[.str p0,.str p1],[],[]⟩
@[reducible] def O.cut:(List UInt8) × (List UInt8) × Bool→z2l
 | r => .ok [.str r.1,.str r.2.1,.bool r.2.2] [] []
@[reducible] def I.z13 (p0:List (List UInt8)):CIn:=⟨[.sl 9 1 (p0.map eS)],[],[]⟩
@[reducible] def O.z13:Bool→z2l
 | r => .ok [.bool r] [] []
@[reducible] def I.z0s (p0:List (List UInt8)):CIn:=⟨[.sl 9 1 (p0.map eS)],[],[]⟩
@[reducible] def O.z0s:(List (List UInt8))→z2l
 | r => .ok [.ref 0] [] [some (9,1,(r.map eS))]
@[reducible] def I.contains (p0:List UInt8) (p1:List UInt8):CIn:=⟨[.str p0,.str p1],[],[]⟩
@[reducible] def O.contains:Bool→z2l
 | r => .ok [.bool r] [] []
@[reducible] def I.q5j (p0:List q02):CIn:=⟨[.ref 0,.fn 51 [] []],[],[(48,2,(p0.map q02.enc))]⟩
@[reducible] def O.q5j:(List q02)→z2l
 | r => .okI [] [] [some (48,2,(r.map q02.enc))]
end Go.Proofs.YtmmgdladipbedaaGreatDoor
end
section
namespace Go.Proofs.YtmmgdladipbedaaGreatDoor
open Go.Lk Go.RowKit
theorem zhn:shp Tryz.prog 139=some (false,1):=by kernel_rfl
theorem zhm:fld Tryz.prog 141 0=some (0,false,1):=by kernel_rfl
theorem zqj:(Tryz.prog.info? 141).map (·.size)=some 2:=by kernel_rfl
theorem zqi:liesAt Tryz.prog Tryz.prog.depth 141 (2 / Tryz.prog.cellsOf 141) 0 141 1=true:=by kernel_rfl
set_option maxRecDepth 1000000 in
theorem zcu (w0:World) (b:Nat) (a v:Value) (hb:z14 w0 b 141 [a,v]) (hs:Slf b a) (h1:v.oneCell'=true) :
  Calls Tryz.prog 208 (List.toArray [Value.pointer (some ⟨b,0,none⟩)]) w0 (fun e w'=>e = .returned (.tuple #[])∧z14 w' b 141 [Value.pointer (some ⟨b,0,none⟩),v]∧Ext (At b) w0 w'):=by
 obtain ⟨j,hj,hjs⟩:=Option.map_eq_some_iff.1 zqj
 have hsh:w0.shape? b=some (141,2):=by
  have hb':=hb
  simp only [z14] at hb'
  simp [World.shape?,hb']
 refine zco Tryz.func208 rfl 20 rfl rfl ?_
 rcases hs with rfl|rfl
 ·refine TW.seq (TW.region ?_)
  refine OW.move rfl rfl rfl rfl rfl ?_
  refine OW.nilCheck rfl rfl rfl rfl rfl ?_
  refine OW.fieldAddr rfl rfl rfl rfl zhm rfl ?_
  refine OW.zgr rfl rfl rfl rfl zhn rfl hb rfl ?_
  refine OW.val rfl rfl rfl (EX.zwt rfl Tryz.underlying139 hj rfl rfl) ?_
  refine OW.done (TW.zla rfl (TW.region ?_))
  refine OW.move rfl rfl rfl rfl rfl ?_
  refine OW.move rfl rfl rfl rfl rfl ?_
  refine OW.val rfl rfl rfl (EX.toU rfl Tryz.underlying139 Tryz.underlying219 hj (by rw [hjs];decide) rfl hsh (by decide)) ?_
  refine OW.val rfl rfl rfl (EX.zwv rfl rfl rfl (zmy Tryz.func233 (by kernel_rfl) (by kernel_rfl) (by kernel_rfl) (by kernel_rfl) _)) ?_
  refine OW.val rfl rfl rfl (EX.zvi rfl Tryz.underlying219 Tryz.underlying139 hj rfl hsh zqi) ?_
  refine OW.nilCheck rfl rfl rfl rfl rfl ?_
  refine OW.fieldAddr rfl rfl rfl rfl zhm rfl ?_
  refine OW.store rfl rfl rfl zhn rfl rfl (vs:=[Value.pointer (some ⟨b,0,none⟩)]) rfl rfl hb rfl rfl (cs':=[Value.pointer (some ⟨b,0,none⟩),v]) rfl ?_
  intro w' hb' x
  exact OW.done (TW.fin (Out.unit rfl) ⟨rfl,hb',x⟩)
 ·refine TW.seq (TW.region ?_)
  refine OW.move rfl rfl rfl rfl rfl ?_
  refine OW.nilCheck rfl rfl rfl rfl rfl ?_
  refine OW.fieldAddr rfl rfl rfl rfl zhm rfl ?_
  refine OW.zgr rfl rfl rfl rfl zhn rfl hb rfl ?_
  refine OW.val rfl rfl rfl (EX.zwu rfl Tryz.underlying139 hj rfl rfl) ?_
  refine OW.done (TW.zhr rfl (TW.seq (TW.region ?_)))
  refine OW.move rfl rfl rfl rfl rfl ?_
  refine OW.nilCheck rfl rfl rfl rfl rfl ?_
  refine OW.fieldAddr rfl rfl rfl rfl zhm rfl ?_
  refine OW.zgr rfl rfl rfl rfl zhn rfl hb rfl ?_
  refine OW.move rfl rfl rfl rfl rfl ?_
  refine OW.val rfl rfl rfl (EX.zxc rfl Tryz.underlying139 hj rfl rfl) ?_
  refine OW.done (TW.zhr rfl (TW.skip ?_))
  exact TW.fin (Out.unit rfl) ⟨rfl,hb,Ext.refl _ _⟩
end Go.Proofs.YtmmgdladipbedaaGreatDoor
end
section
set_option linter.unusedVariables false
namespace Go.Pe
open _root_.List renaming eq_nil_of_length_eq_zero → ya
open _root_.Nat renaming add_sub_cancel_left → yb, lt_of_lt_of_le → yc, not_lt_zero → yd, zero_lt_one → ye
open Go.RowKit Go.Lk Go.Proofs Go.Shelf
variable {P:Program} {ρ:Ren}
theorem VRs.str {w:World} {O:Nat→Prop} {φ:Nat→Nat} {α:Nat→Value} {a:List UInt8} {vs:List PV} {us:List Value} (h:VRs w O φ α (.str a::vs) us):∃ us',us = .string ⟨a.toArray⟩::us'∧VRs w O φ α vs us':=by
 obtain ⟨u,us',rfl,h1,h2⟩:=h
 simp only [VR] at h1
 exact ⟨us',by rw [h1],h2⟩
theorem VRs.int {w:World} {O:Nat→Prop} {φ:Nat→Nat} {α:Nat→Value} {k:IntKind} {a:Int} {vs:List PV} {us:List Value} (h:VRs w O φ α (.int k a::vs) us):∃ us',us = .int k a::us'∧VRs w O φ α vs us':=by
 obtain ⟨u,us',rfl,h1,h2⟩:=h
 simp only [VR] at h1
 exact ⟨us',by rw [h1],h2⟩
theorem VRs.nil {w:World} {O:Nat→Prop} {φ:Nat→Nat} {α:Nat→Value} {us:List Value} (h:VRs w O φ α [] us):us=[]:=h
theorem VRs.zuk {w:World} {O:Nat→Prop} {φ:Nat→Nat} {α:Nat→Value} (a:List UInt8):VRs w O φ α [.str a] [.string ⟨a.toArray⟩]:=⟨_,[],rfl,rfl,rfl⟩
theorem VRs.zx5 {w:World} {O:Nat→Prop} {φ:Nat→Nat} {α:Nat→Value} (k:IntKind) (a:Int):VRs w O φ α [.int k a] [.int k a]:=⟨_,[],rfl,rfl,rfl⟩
theorem VRs.zo9 {w:World} {O:Nat→Prop} {φ:Nat→Nat} {α:Nat→Value} (a:Bool):VRs w O φ α [.bool a] [.bool a]:=⟨_,[],rfl,rfl,rfl⟩
theorem Con.lib {G:GI} {f:Nat} {vs rs:List PV} (ent:∀ args w,(callFunc f args).run P w = .ok (.enter f args) w)
  (h:∀ w O φ α us,VRs w O φ α vs us→Bd O w→G.p w O→Calls P f us.toArray w fun e w'=>∃ us',e = .returned (zq4 us')∧(∀ O' φ' α',VRs w' O' φ' α' rs us')∧Ext z0e w w'):Con P G f ⟨vs,[],[]⟩ (.ok rs [] []):=by
 refine ⟨ent,fun w O φ α us hv hm hB hG=>(h w O φ α us hv hB hG).mono fun e w' ⟨us',h1,h2,h3⟩ => ?_⟩
 have tr:Tr O w O w':=Tr.z2o h3 fun _ _ hx=>hx.elim
 refine ⟨us',O,φ,α,h1,h2 O φ α,⟨fun b e he => ?_,fun a e he => ?_,fun a b la _ _ => ?_,fun a b e e' ha _ _ => ?_,fun a b e ha _ => ?_⟩,fun _ _=>rfl,Nat.le_refl _,fun x hx=>yc (hB x hx) h3.size,tr,fun _ hx=>hx,fun _ hx => .inl hx,h3.mono fun _ _ hx=>hx.elim,fun b h1 _ => ?_,fun a e x he _ => ?_⟩
 ·simp at he
 ·simp at he
 ·exact absurd la (yd _)
 ·simp at ha
 ·simp at ha
 ·exact absurd h1 (yd _)
 ·simp at he
theorem Ext.freeze (F:Nat→Prop) (w:World) (g n:Nat) (hF:F g):Ext F w (w.freeze ⟨g,0,none⟩ n):=by
 unfold World.freeze
 split
 ·exact Ext.refl _ _
 ·refine ⟨rfl,rfl,rfl,by simp,fun b hb hf => ?_⟩
  simp only [Array.getElem?_modify]
  rw [if_neg (fun h:g=b=>hf (h▸hF))]
set_option maxHeartbeats 2000000 in
set_option maxRecDepth 100000 in
theorem zb6 (L:Lays.n169 P ρ) (X:Builder.Extra P ρ) (b:Nat) (p v:Value) (l:List UInt8) (w:World) (hbk:w.heap[b]? = some (.cells #[p,v] (ρ.t 72) (0,0))) (hA:Lib.BuilderAtF (ρ.t 72) (ρ.t 5) 0 b p (Lib.byteCells l) w) :
  Calls P (ρ.f 169) #[.pointer (some ⟨b,0,none⟩)] w fun e w'=>e = .returned (.string ⟨l.toArray⟩)∧Lib.BuilderAtF (ρ.t 72) (ρ.t 5) 0 b p (Lib.byteCells l) w'∧Ext (fun x=>v.ownBlock=some x) w w':=by
 have hblt:b<w.heap.size:=by
  rcases Nat.lt_or_ge b w.heap.size with h'|h'
  ·exact h'
  ·simp [Array.getElem?_eq_none h'] at hbk
 obtain ⟨hB,v',hbk',hown,hne⟩:=id hA
 rw [hbk] at hbk'
 have ev:v=v':=by simpa using hbk'
 subst ev
 rw [Lib.byteCells_length] at hown
 have mixed:=L.mixed
 have t72:=L.t72;have a72:=L.a72;have z72:=L.z72;have v72:=L.v72;have u72:=run_underlying L.t72
 have t70:=L.t70;have a70:=L.a70;have z70:=L.z70;have v70:=L.v70;have u70:=run_underlying L.t70
 have t37:=L.t37;have a37:=L.a37;have z37:=L.z37;have v37:=L.v37;have u37:=run_underlying L.t37
 have t127:=L.t127;have a127:=L.a127;have z127:=L.z127;have v127:=L.v127;have u127:=run_underlying L.t127
 have t3:=L.t3;have a3:=L.a3;have z3:=L.z3;have v3:=L.v3;have u3:=run_underlying L.t3
 have t9:=L.t9;have a9:=L.a9;have z9:=L.z9;have v9:=L.v9;have u9:=run_underlying L.t9
 have t5:=X.t5;have a5:=X.a5;have z5:=X.z5;have v5:=X.v5;have u5:=run_underlying X.t5
 rcases hown.2 with ⟨rfl,hz⟩|⟨g,cap,cur,fz,rfl,hbg,hg,hfz,hnc,hcm,hcs,htake⟩
 ·obtain rfl:=ya hz
  have hUS:=Any.unsafeString_none L X
  have c1:w.drew.cell? ⟨b,1,none⟩=some (.slice none 0 0):=by
   have:w.drew.heap[b]? = some (.cells #[p,.slice none 0 0] (ρ.t 72) (0,0)):=hbk
   rw [Lib.cell_of_heap this];rfl
  have hSD:(Builtin.unsafeSliceData_ #[(ρ.t 37)] (ρ.t 127) #[.slice none 0 0]).run P w.drew = .ok (.pointer none) w.drew:=rfl
  go_enter L.f169,Body.n169_ntmps ρ
  go_wp2
  go_region_o
  all_goals (go_wp2;go_ret;exact ⟨rfl,hA.drew,Ext.drew _ _⟩)
 ·by_cases hl0:l=[]
  ·subst hl0
   by_cases hc0:cap=0
   ·subst hc0
    have hUS:=Any.unsafeString_none L X
    have c1:w.drew.cell? ⟨b,1,none⟩=some (.slice (some ⟨g,0,none⟩) 0 0):=by
     have:w.drew.heap[b]? = some (.cells #[p,.slice (some ⟨g,0,none⟩) 0 0] (ρ.t 72) (0,0)):=hbk
     rw [Lib.cell_of_heap this];rfl
    have hSD:(Builtin.unsafeSliceData_ #[(ρ.t 37)] (ρ.t 127) #[.slice (some ⟨g,0,none⟩) 0 0]).run P w.drew = .ok (.pointer (some ⟨w.drew.heap.size,0,none⟩)) (w.drew.alloc (.view ⟨g,0,none⟩ (ρ.t 5))) :=
     Lib.run_unsafeSliceData_zero w.drew _ _ (ρ.t 5) L.t127 ⟨g,0,none⟩ 0 ((ρ.t 5),cur.size) (by have hg':w.drew.heap[g]? = some (.cells cur (ρ.t 5) fz):=hg;simp [World.shape?,hg'])
    have c2:(w.drew.alloc (.view ⟨g,0,none⟩ (ρ.t 5))).cell? ⟨b,1,none⟩=some (.slice (some ⟨g,0,none⟩) 0 0):=by
     have:(w.drew.alloc (.view ⟨g,0,none⟩ (ρ.t 5))).heap[b]? = _:=(Lib.alloc_old w.drew _ b hblt).trans hbk
     rw [Lib.cell_of_heap this];rfl
    have c3:(w.alloc (.view ⟨g,0,none⟩ (ρ.t 5))).drew.cell? ⟨b,1,none⟩=some (.slice (some ⟨g,0,none⟩) 0 0):=c2
    have c0:w.cell? ⟨b,1,none⟩=some (.slice (some ⟨g,0,none⟩) 0 0):=c1
    go_enter L.f169,Body.n169_ntmps ρ
    go_wp2
    go_region_o
    all_goals (go_wp2;go_ret;exact ⟨rfl,hA.drew.alloc _,(Ext.drew _ w).trans (Ext.alloc _ _ _)⟩)
   ·have hUS:=Any.unsafeString_none L X
    have c1:w.drew.cell? ⟨b,1,none⟩=some (.slice (some ⟨g,0,none⟩) 0 cap):=by
     have:w.drew.heap[b]? = some (.cells #[p,.slice (some ⟨g,0,none⟩) 0 cap] (ρ.t 72) (0,0)):=hbk
     rw [Lib.cell_of_heap this];rfl
    have hSD:(Builtin.unsafeSliceData_ #[(ρ.t 37)] (ρ.t 127) #[.slice (some ⟨g,0,none⟩) 0 cap]).run P w.drew = .ok (.pointer (some ⟨g,0,none⟩)) w.drew :=
     Lib.run_unsafeSliceData_row _ _ _ _ _ _ hc0
    clear hc0
    go_enter L.f169,Body.n169_ntmps ρ
    go_wp2
    go_region_o
    all_goals (go_wp2;go_ret;exact ⟨rfl,hA.drew,Ext.drew _ _⟩)
  ·have hl1:l.length≠0:=fun h=>hl0 (ya h)
   have c1:w.drew.cell? ⟨b,1,none⟩=some (.slice (some ⟨g,0,none⟩) l.length cap):=by
    have:w.drew.heap[b]? = some (.cells #[p,.slice (some ⟨g,0,none⟩) l.length cap] (ρ.t 72) (0,0)):=hbk
    rw [Lib.cell_of_heap this];rfl
   have hSD:(Builtin.unsafeSliceData_ #[(ρ.t 37)] (ρ.t 127) #[.slice (some ⟨g,0,none⟩) l.length cap]).run P w.drew = .ok (.pointer (some ⟨g,0,none⟩)) w.drew :=
    Lib.run_unsafeSliceData_row _ _ _ _ _ _ (by omega)
   have hUS:(Builtin.unsafeString_ #[(ρ.t 127),(ρ.t 3)] (ρ.t 9) #[.pointer (some ⟨g,0,none⟩),.int .i64 l.length]).run P w.drew = .ok (.string ⟨l.toArray⟩) (w.drew.freeze ⟨g,0,none⟩ l.length):=by
    refine Lib.run_unsafeString_row w.drew (ρ.t 127) (ρ.t 3) (ρ.t 9) (ρ.t 5) L.t127 X.cellsByte g cur.size (by have hg':w.drew.heap[g]? = some (.cells cur (ρ.t 5) fz):=hg;simp [World.shape?,hg']) l hl0 (by omega) (by unfold maxLen at hcm;omega) ?_
    intro j x hx
    have:=hown.cells (g:=g) rfl j (.int .u8 x.toNat) (by simp [Lib.byteCells,hx])
    exact this
   have hkeep:Lib.BuilderAtF (ρ.t 72) (ρ.t 5) 0 b p (Lib.byteCells l) (w.drew.freeze ⟨g,0,none⟩ l.length):=by
    have hF:=hA.drew.froze (g:=g) (cap:=cap) (by rw [Lib.byteCells_length];exact c1)
    rw [Lib.byteCells_length] at hF
    exact hF
   have hx:Ext (fun x=>(Value.slice (some ⟨g,0,none⟩) l.length cap).ownBlock=some x) w (w.drew.freeze ⟨g,0,none⟩ l.length):=(Ext.drew _ w).trans (Ext.freeze _ _ _ _ rfl)
   go_enter L.f169,Body.n169_ntmps ρ
   go_wp2
   go_region_o
   all_goals (go_wp2;go_ret;exact ⟨rfl,hkeep,hx⟩)
theorem RDl.ints {w:World} {O:Nat→Prop} {k:IntKind}:∀ (xs:List Int) (cs:List Value),RDl w O 1 (xs.map (eI k)) cs→cs.take xs.length=xs.map (Value.int k)
 | [],cs,_=>by simp
 | x::xs,cs,h=>by
  obtain ⟨h1,h2⟩:=h
  obtain ⟨v,vs,h3,h4,h5⟩:=h1
  cases cs with
  | nil=>simp at h3
  | cons c r =>
   simp at h3
   simp only [RD] at h4
   have:=RDl.ints xs r (by simpa using h2)
   simp [this,h3.1,h4]
theorem RDl.zpz {w:World} {O:Nat→Prop} {k:IntKind}:∀ (xs:List Int),RDl w O 1 (xs.map (eI k)) (xs.map (Value.int k))
 | []=>trivial
 | x::xs=>⟨⟨_,[],rfl,rfl,rfl⟩,by simpa using RDl.zpz xs⟩
theorem z7a {xs:List Int} (h:unb (byt xs)=xs):Lib.byteCells (byt xs)=xs.map (Value.int .u8):=by
 conv=>rhs;rw [←h]
 simp [Lib.byteCells,unb]
theorem Con.string {G:GI} (L:Lays.n169 P ρ) (X:Builder.Extra P ρ) (ent:∀ args w,(callFunc (ρ.f 169) args).run P w = .ok (.enter (ρ.f 169) args) w) (h5:ρ.t 5<1000000) (h72:ρ.t 72<1000000) {T0:Nat} (hT:T0=ρ.t 5∨T0=1000000+ρ.t 5) (xs:List Int) (hx:unb (byt xs)=xs) :
  Con P G (ρ.f 169) ⟨[.ptr 0 0],[⟨ρ.t 72,[.z0g 0,.ref 0]⟩],[(T0,1,xs.map (eI .u8))]⟩ (.ok [.str (byt xs)] [⟨ρ.t 72,[.z0g 0,.ref 0]⟩] [some (1000000+ρ.t 5,1,xs.map (eI .u8))]):=by
 refine ⟨ent,fun w O φ α us hv hm hB hG => ?_⟩
 obtain ⟨u,us',rfl,hu,hus⟩:=hv
 have hus:us'=[]:=hus
 subst hus
 simp only [VR] at hu
 subst hu
 obtain ⟨hO,us,hbx,p,us2,rfl,hp,v,us3,rfl,hv,h3⟩:=hm.box 0 _ rfl
 have h3:us3=[]:=h3
 subst h3
 simp only [VR] at hp hv
 have hbx:=hbx.un h72
 obtain ⟨rfl,hone⟩:=hv
 have hox:z71 w O T0 1 (α 0) (xs.map (eI .u8)):=hm.arr 0 _ rfl
 have hoz:zsp w O (ρ.t 5) 1 (α 0) (xs.map (eI .u8)):=by
  rcases hox with ⟨k0,cs,k1,k2⟩|⟨k1,k2⟩
  ·rcases hT with rfl|rfl
   ·exact ⟨cs,World.ownsRowF_of k1,k2⟩
   ·exact absurd (Nat.lt_of_le_of_lt (Nat.le_add_right 1000000 (ρ.t 5)) k0) (Nat.lt_irrefl _)
  ·rcases hT with rfl|rfl
   ·exact absurd (yc h5 k1) (Nat.lt_irrefl _)
   ·rwa [yb] at k2
 obtain ⟨cs,k1,k2,k3,k4⟩:=hoz
 have ecs:cs=Lib.byteCells (byt xs):=by
  have:=RDl.ints xs cs k2
  have hl:cs.length=xs.length:=by simpa using k1.1
  rw [z7a hx,←this,List.take_of_length_le (by omega)]
 have lb:(byt xs).length=xs.length:=by
  have:=congrArg List.length hx
  simpa [unb] using this
 have hl2:(xs.map (eI .u8)).length=(Lib.byteCells (byt xs)).length:=by simp [lb,Lib.byteCells]
 have hA:Lib.BuilderAtF (ρ.t 72) (ρ.t 5) 0 (φ 0) p (Lib.byteCells (byt xs)) w:=by
  refine ⟨Nat.zero_le _,α 0,hbx,?_,hm.ab 0 0 _ rfl (ye)⟩
  rw [←hl2]
  rw [ecs] at k1
  exact k1
 refine (zb6 L X (φ 0) p (α 0) (byt xs) w hbx hA).mono fun e w' ⟨h1,h2,h3⟩ => ?_
 have hFI:∀ x,(α 0).ownBlock=some x→FI ⟨[.ptr 0 0],[⟨ρ.t 72,[.z0g 0,.ref 0]⟩],[(T0,1,xs.map (eI .u8))]⟩ φ α x:=fun x hx => .inr ⟨0,by simp,hx⟩
 have tr:Tr O w O w':=Tr.z2o h3 fun x _ hx=>k4 x hx
 have hbx':z14 w' (φ 0) (ρ.t 72) [p,α 0]:=hbx.keep h3 (hm.ab 0 0 _ rfl (ye))
 have own':z71 w' O (1000000+ρ.t 5) 1 (α 0) (xs.map (eI .u8)):=by
  refine .inr ⟨by omega,?_⟩
  rw [yb]
  obtain ⟨_,v',q1,q2,_⟩:=h2
  have q1':z14 w' (φ 0) (ρ.t 72) [p,v']:=q1
  have:α 0=v':=by
   unfold z14 at hbx' q1'
   rw [hbx'] at q1'
   simpa using q1'
  subst this
  refine ⟨_,by rw [hl2];exact q2,by rw [z7a hx];exact RDl.zpz xs,by simp [Lib.byteCells,Value.oneCell'],k4⟩
 refine ⟨[.string ⟨(byt xs).toArray⟩],O,φ,α,h1,⟨_,[],rfl,rfl,rfl⟩,⟨fun b e he => ?_,fun a e he => ?_,fun a b la lb' hn => ?_,fun a b e e' ha hb hn => ?_,fun a b e ha hb => ?_⟩,fun _ _=>rfl,Nat.le_refl _,fun x hx=>yc (hB x hx) h3.size,tr,fun _ hx=>hx,fun _ hx => .inl hx,h3.mono fun x _ hx=>hFI x hx,fun b h1 h2 => ?_,fun a e x he hx => ?_⟩
 ·match b,he with
  | 0,he =>
   cases he
   exact ⟨hO,_,.inl ⟨h72,hbx'⟩,p,_,rfl,hp,_,[],rfl,⟨rfl,hone⟩,rfl⟩
 ·match a,he with
  | 0,he=>cases he;exact own'
 ·simp at la lb'
  omega
 ·match a,b,ha,hb with
  | 0,0,_,_=>exact (hn rfl).elim
 ·match a,ha with
  | 0,ha =>
   have:b=0:=by simpa using hb
   subst this
   exact hm.ab 0 0 _ rfl (ye)
 ·simp at h1 h2
  omega
 ·match a,he with
  | 0,he=>exact .inl ⟨0,by simp,hx⟩
end Go.Pe
end
