import Derived.Test.YtmmgdladipbedaaGreatDoorProg
import Derived.Test.YtmmgdladipbedaaGreatDoorPaM
import Derived.WalkKit
import Derived.Test.YtmmgdladipbedaaGreatDoorLkH
import Derived.Test.YtmmgdladipbedaaGreatDoorPeS3
import Derived.Shelf.Strings.Builder1
import Derived.Shelf.Small.Strs
import Derived.Shelf.Strings.SlTrimAscii
import Derived.Shelf.Unicode.ValidAny
import Derived.Shelf.Sort.Plain
import Derived.Shelf.Slices.In.SortNone
import Derived.Shelf.Slices.CompactS
import Derived.Shelf.SlIter.Sorted
import Derived.Shelf.Strings.Cut
import Derived.Shelf.Strings.Search3
import Derived.Shelf.Strings.OnBuilder
import Derived.Shelf.SlicesG.Clone
import Derived.Ground.SlgnProg
import Derived.Ground.GgzProg
set_option linter.all false
section
namespace Go.Proofs.YtmmgdladipbedaaGreatDoor
open Go.Lk Go.Pe Go.Sen Go.RowKit
variable [Lb]
@[reducible] def TB:Tb:={
 und:=[(3,.int .i64),(4,.bool),(5,.int .u8),(9,.string),(21,.int .i32),(22,.slice 24),(25,.int .i64),(31,.slice 48),(40,.slice 51),(46,.slice 9),(75,.map 9 46),(89,.slice 91),(114,.slice 113),(117,.slice 5),(130,.int .u64),(188,.int .u64)],
 shp:=[(3,false,1),(4,false,1),(5,false,1),(9,false,1),(22,false,1),(24,true,4),(25,false,1),(31,false,1),(33,true,4),(46,false,1),(48,true,2),(51,true,8),(69,false,1),(89,false,1),(91,true,4),(111,false,1),(113,true,2),(117,false,1)],
 fld:=[(24,[(0,false,1),(1,false,1),(2,false,1),(3,false,1)]),(33,[(0,false,1),(1,false,1),(2,false,1),(3,false,1)]),(48,[(0,false,1),(1,false,1)]),(51,[(0,false,1),(1,false,1),(2,false,1),(3,true,4),(7,false,1)]),(67,[(0,false,1)]),(71,[(0,false,1)]),(91,[(0,false,1),(1,false,1),(2,false,1),(3,false,1)]),(113,[(0,false,1),(1,false,1)]),(141,[(0,false,1),(1,false,1)]),(148,[(0,false,1)]),(195,[(0,false,1)])],
 zer:=[(5,.int .u8 0),(9,.string ⟨#[]⟩),(24,.agg #[.int .i64 0,.string ⟨#[]⟩,.string ⟨#[]⟩,.slice none 0 0]),(25,.int .i64 0),(33,.agg #[.string ⟨#[]⟩,.string ⟨#[]⟩,.string ⟨#[]⟩,.slice none 0 0]),(46,.slice none 0 0),(48,.agg #[.string ⟨#[]⟩,.slice none 0 0]),(51,.agg #[.int .i64 0,.string ⟨#[]⟩,.bool false,.int .i64 0,.string ⟨#[]⟩,.string ⟨#[]⟩,.slice none 0 0,.slice none 0 0]),(67,.agg #[.int .i64 0]),(71,.agg #[.string ⟨#[]⟩]),(91,.agg #[.int .i64 0,.string ⟨#[]⟩,.slice none 0 0,.slice none 0 0]),(111,.nilFunc),(113,.agg #[.string ⟨#[]⟩,.nilFunc]),(141,.agg #[.pointer none,.slice none 0 0]),(148,.agg #[.string ⟨#[]⟩]),(195,.agg #[.int .i64 0])],
 nif:=[67,195,243],
 ifc:=[162],
 glb:=[],
 bld:=[(141,5)],
 inf:=[(5,.int .u8 0,1,1),(9,.string ⟨#[]⟩,1,16),(24,.agg #[.int .i64 0,.string ⟨#[]⟩,.string ⟨#[]⟩,.slice none 0 0],4,64),(48,.agg #[.string ⟨#[]⟩,.slice none 0 0],2,40),(51,.agg #[.int .i64 0,.string ⟨#[]⟩,.bool false,.int .i64 0,.string ⟨#[]⟩,.string ⟨#[]⟩,.slice none 0 0,.slice none 0 0],8,120),(91,.agg #[.int .i64 0,.string ⟨#[]⟩,.slice none 0 0,.slice none 0 0],4,72)] }
@[reducible] def CT:List (Nat × List (Option (Nat × Nat))):=[(5,[none]),(9,[none]),(24,[none,none,none,some (24,4)]),(33,[none,none,none,some (48,2)]),(46,[some (9,1)]),(48,[none,some (9,1)]),(51,[none,none,none,none,none,none,some (24,4),some (9,1)]),(91,[none,none,some (91,4),some (9,1)]),(113,[none,none])]
theorem TBok:TbOk Tryz.prog TB:=TbOk.of (by kernel_rfl) (by repeat' (first|exact trivial|apply And.intro|(show _=_;kernel_rfl))) (by repeat' (first|exact trivial|apply And.intro|(show _=_;kernel_rfl))) (by repeat' (first|exact trivial|apply And.intro|(show _=_;kernel_rfl))) (by repeat' (first|exact trivial|apply And.intro|(show _=_;kernel_rfl))) (by repeat' (first|exact trivial|apply And.intro|(show _=_;kernel_rfl))) (by repeat' (first|exact trivial|apply And.intro|(show _=_;kernel_rfl))) (by repeat' (first|exact trivial|apply And.intro|(show _=_;kernel_rfl)))
@[reducible] def I.indexByte (p0:List UInt8) (p1:Int):CIn:=⟨[.str p0,.int .u8 p1],[],[]⟩
@[reducible] def O.indexByte:Int→z3s
 | r => .ok [.int .i64 r] [] []
@[reducible] def I.trim (p0:List UInt8) (p1:List UInt8):CIn:=⟨[.str p0,.str p1],[],[]⟩
@[reducible] def O.trim:(List UInt8)→z3s
 | r => .ok [.str r] [] []
@[reducible] def I.z0c (p0:List UInt8):CIn:=⟨[.str p0],[],[]⟩
@[reducible] def O.z0c:Bool→z3s
 | r => .ok [.bool r] [] []
@[reducible] def I.z1e (p0:List (List UInt8)):CIn:=⟨[.sl 9 1 (p0.map eS)],[],[]⟩
@[reducible] def O.z1e:Bool→z3s
 | r => .ok [.bool r] [] []
@[reducible] def I.single (p0:List (List UInt8)):CIn:=⟨[.sl 9 1 (p0.map eS)],[],[]⟩
@[reducible] def O.single:Bool→z3s
 | r => .ok [.bool r] [] []
@[reducible] def I.trimLeft (p0:List UInt8) (p1:List UInt8):CIn:=⟨[.str p0,.str p1],[],[]⟩
@[reducible] def O.trimLeft:(List UInt8)→z3s
 | r => .ok [.str r] [] []
@[reducible] def I.z1p (p0:List Int):CIn:=⟨[.ptr 0 0],[⟨141,[.z0g 0,.ref 0]⟩],[(5,1,(p0.map (eI .u8)))]⟩
@[reducible] def O.z1p (p0:List Int):Unit→z3s
 | r => .ok [] [⟨141,[.z0g 0,.ref 0]⟩] [some (5,1,(p0.map (eI .u8)))]
@[reducible] def I.z08 (p0:List Int):CIn:=⟨[.ptr 0 0],[⟨141,[.z0g 0,.ref 0]⟩],[(5,1,(p0.map (eI .u8)))]⟩
@[reducible] def O.z08 (p0:List Int):(List UInt8)→z3s
 | r => .ok [.str r] [⟨141,[.z0g 0,.ref 0]⟩] [some (1000005,1,(p0.map (eI .u8)))]
@[reducible] def I.join (p0:List (List UInt8)) (p1:List UInt8):CIn:=⟨[.sl 9 1 (p0.map eS),.str p1],[],[]⟩
@[reducible] def O.join:(List UInt8)→z3s
 | r => .ok [.str r] [] []
@[reducible] def I.z0s (p0:List (List UInt8)):CIn:=⟨[.sl 9 1 (p0.map eS)],[],[]⟩
@[reducible] def O.z0s:(List (List UInt8))→z3s
 | r => .ok [.ref 0] [] [some (9,1,(r.map eS))]
@[reducible] def I.contains (p0:List UInt8) (p1:List UInt8):CIn:=⟨[.str p0,.str p1],[],[]⟩
@[reducible] def O.contains:Bool→z3s
 | r => .ok [.bool r] [] []
@[reducible] def I.q44 (p0:List q02):CIn:=⟨[.ref 0,.fn 51 [] []],[],[(48,2,(p0.map q02.enc))]⟩
@[reducible] def O.q44:(List q02)→z3s
 | r => .okI [] [] [some (48,2,(r.map q02.enc))]
@[reducible] def I.cut (p0:List UInt8) (p1:List UInt8):CIn:=⟨[.str p0,.str p1],[],[]⟩
@[reducible] def O.cut:(List UInt8) × (List UInt8) × Bool→z3s
 | r => .ok [.str r.1,.str r.2.1,.bool r.2.2] [] []
end Go.Proofs.YtmmgdladipbedaaGreatDoor
end
section
namespace Go.Proofs.YtmmgdladipbedaaGreatDoor
open Go.Lk Go.RowKit
variable [Lb]
theorem zj5:shp Tryz.prog 139=some (false,1):=by kernel_rfl
theorem zj4:fld Tryz.prog 141 0=some (0,false,1):=by kernel_rfl
theorem zta:(Tryz.prog.info? 141).map (·.size)=some 2:=by kernel_rfl
theorem zt9:liesAt Tryz.prog Tryz.prog.depth 141 (2 / Tryz.prog.cellsOf 141) 0 141 1=true:=by kernel_rfl
set_option maxRecDepth 1000000 in
theorem zdw (w0:World) (b:Nat) (a v:Value) (hb:z0r w0 b 141 [a,v]) (hs:Slf b a) (h1:v.oneCell'=true) :
  Calls Tryz.prog 208 (List.toArray [Value.pointer (some ⟨b,0,none⟩)]) w0 (fun e w'=>e = .returned (.tuple #[])∧z0r w' b 141 [Value.pointer (some ⟨b,0,none⟩),v]∧Ext (At b) w0 w'):=by
 obtain ⟨j,hj,hjs⟩:=Option.map_eq_some_iff.1 zta
 have hsh:w0.shape? b=some (141,2):=by
  have hb':=hb
  simp only [z0r] at hb'
  simp [World.shape?,hb']
 refine zdr Tryz.func208 rfl 20 rfl rfl ?_
 rcases hs with rfl|rfl
 ·refine TW.seq (TW.region ?_)
  refine OW.move rfl rfl rfl rfl rfl ?_
  refine OW.nilCheck rfl rfl rfl rfl rfl ?_
  refine OW.fieldAddr rfl rfl rfl rfl zj4 rfl ?_
  refine OW.zi6 rfl rfl rfl rfl zj5 rfl hb rfl ?_
  refine OW.val rfl rfl rfl (EX.eqNN rfl Tryz.underlying139 hj rfl rfl) ?_
  refine OW.done (TW.zmy rfl (TW.region ?_))
  refine OW.move rfl rfl rfl rfl rfl ?_
  refine OW.move rfl rfl rfl rfl rfl ?_
  refine OW.val rfl rfl rfl (EX.toU rfl Tryz.underlying139 Tryz.underlying219 hj (by rw [hjs];decide) rfl hsh (by decide)) ?_
  refine OW.val rfl rfl rfl (EX.ext1 rfl rfl rfl (zor Tryz.func233 (by kernel_rfl) (by kernel_rfl) (by kernel_rfl) (by kernel_rfl) _)) ?_
  refine OW.val rfl rfl rfl (EX.zyq rfl Tryz.underlying219 Tryz.underlying139 hj rfl hsh zt9) ?_
  refine OW.nilCheck rfl rfl rfl rfl rfl ?_
  refine OW.fieldAddr rfl rfl rfl rfl zj4 rfl ?_
  refine OW.store rfl rfl rfl zj5 rfl rfl (vs:=[Value.pointer (some ⟨b,0,none⟩)]) rfl rfl hb rfl rfl (cs':=[Value.pointer (some ⟨b,0,none⟩),v]) rfl ?_
  intro w' hb' x
  exact OW.done (TW.fin (Out.unit rfl) ⟨rfl,hb',x⟩)
 ·refine TW.seq (TW.region ?_)
  refine OW.move rfl rfl rfl rfl rfl ?_
  refine OW.nilCheck rfl rfl rfl rfl rfl ?_
  refine OW.fieldAddr rfl rfl rfl rfl zj4 rfl ?_
  refine OW.zi6 rfl rfl rfl rfl zj5 rfl hb rfl ?_
  refine OW.val rfl rfl rfl (EX.eqSN rfl Tryz.underlying139 hj rfl rfl) ?_
  refine OW.done (TW.zja rfl (TW.seq (TW.region ?_)))
  refine OW.move rfl rfl rfl rfl rfl ?_
  refine OW.nilCheck rfl rfl rfl rfl rfl ?_
  refine OW.fieldAddr rfl rfl rfl rfl zj4 rfl ?_
  refine OW.zi6 rfl rfl rfl rfl zj5 rfl hb rfl ?_
  refine OW.move rfl rfl rfl rfl rfl ?_
  refine OW.val rfl rfl rfl (EX.neSS rfl Tryz.underlying139 hj rfl rfl) ?_
  refine OW.done (TW.zja rfl (TW.skip ?_))
  exact TW.fin (Out.unit rfl) ⟨rfl,hb,Ext.refl _ _⟩
end Go.Proofs.YtmmgdladipbedaaGreatDoor
end
section
set_option linter.unusedVariables false
namespace Go.Pe
open _root_.List renaming eq_nil_of_length_eq_zero → ya
open _root_.Nat renaming add_sub_cancel_left → yb, lt_of_lt_of_le → yc, not_lt_zero → yd, zero_lt_one → ye
open Go.RowKit Go.Lk Go.Proofs Go.Shelf
variable [Lb]
variable {P:Program} {ρ:Ren}
theorem VRs.str {w:World} {O:Nat→Prop} {φ:Nat→Nat} {α:Nat→Value} {a:List UInt8} {vs:List PV} {us:List Value} (h:VRs w O φ α (.str a::vs) us):∃ us',us = .string ⟨a.toArray⟩::us'∧VRs w O φ α vs us':=by
 obtain ⟨u,us',rfl,h1,h2⟩:=h
 simp only [VR] at h1
 exact ⟨us',by rw [h1],h2⟩
theorem VRs.int {w:World} {O:Nat→Prop} {φ:Nat→Nat} {α:Nat→Value} {k:IntKind} {a:Int} {vs:List PV} {us:List Value} (h:VRs w O φ α (.int k a::vs) us):∃ us',us = .int k a::us'∧VRs w O φ α vs us':=by
 obtain ⟨u,us',rfl,h1,h2⟩:=h
 simp only [VR] at h1
 exact ⟨us',by rw [h1],h2⟩
theorem VRs.nil {w:World} {O:Nat→Prop} {φ:Nat→Nat} {α:Nat→Value} {us:List Value} (h:VRs w O φ α [] us):us=[]:=h
theorem VRs.zxq {w:World} {O:Nat→Prop} {φ:Nat→Nat} {α:Nat→Value} (a:List UInt8):VRs w O φ α [.str a] [.string ⟨a.toArray⟩]:=⟨_,[],rfl,rfl,rfl⟩
theorem VRs.gInt {w:World} {O:Nat→Prop} {φ:Nat→Nat} {α:Nat→Value} (k:IntKind) (a:Int):VRs w O φ α [.int k a] [.int k a]:=⟨_,[],rfl,rfl,rfl⟩
theorem VRs.zqf {w:World} {O:Nat→Prop} {φ:Nat→Nat} {α:Nat→Value} (a:Bool):VRs w O φ α [.bool a] [.bool a]:=⟨_,[],rfl,rfl,rfl⟩
theorem Con.lib {G:GI} {f:Nat} {vs rs:List PV} (ent:∀ args w,(callFunc f args).run P w = .ok (.enter f args) w)
  (h:∀ w O φ α us,VRs w O φ α vs us→Bd O w→G.p w O→Calls P f us.toArray w fun e w'=>∃ us',e = .returned (zss us')∧(∀ O' φ' α',VRs w' O' φ' α' rs us')∧Ext z0h w w'):Con P G f ⟨vs,[],[]⟩ (.ok rs [] []):=by
 refine ⟨ent,fun w O φ α us hv hm hB hG=>(h w O φ α us hv hB hG).mono fun e w' ⟨us',h1,h2,h3⟩ => ?_⟩
 have tr:Tr O w O w':=Tr.z2p h3 fun _ _ hx=>hx.elim
 refine ⟨us',O,φ,α,h1,h2 O φ α,⟨fun b e he => ?_,fun a e he => ?_,fun a b la _ _ => ?_,fun a b e e' ha _ _ => ?_,fun a b e ha _ => ?_⟩,fun _ _=>rfl,Nat.le_refl _,fun x hx=>yc (hB x hx) h3.size,tr,fun _ hx=>hx,fun _ hx => .inl hx,h3.mono fun _ _ hx=>hx.elim,fun b h1 _ => ?_,fun a e x he _ => ?_⟩
 ·simp at he
 ·simp at he
 ·exact absurd la (yd _)
 ·simp at ha
 ·simp at ha
 ·exact absurd h1 (yd _)
 ·simp at he
theorem Ext.freeze (F:Nat→Prop) (w:World) (g n:Nat) (hF:F g):Ext F w (w.freeze ⟨g,0,none⟩ n):=by
 unfold World.freeze
 split
 ·exact Ext.refl _ _
 ·refine ⟨rfl,rfl,rfl,by simp,fun b hb hf => ?_⟩
  simp only [Array.getElem?_modify]
  rw [if_neg (fun h:g=b=>hf (h▸hF))]
set_option maxHeartbeats 2000000 in
set_option maxRecDepth 100000 in
theorem zc9 (L:Lays.n169 P ρ) (X:Builder.Extra P ρ) (b:Nat) (p v:Value) (l:List UInt8) (w:World) (hbk:w.heap[b]? = some (.cells #[p,v] (ρ.t 72) (0,0))) (hA:Lib.BuilderAtF (ρ.t 72) (ρ.t 5) 0 b p (Lib.byteCells l) w) :
  Calls P (ρ.f 169) #[.pointer (some ⟨b,0,none⟩)] w fun e w'=>e = .returned (.string ⟨l.toArray⟩)∧Lib.BuilderAtF (ρ.t 72) (ρ.t 5) 0 b p (Lib.byteCells l) w'∧Ext (fun x=>v.ownBlock=some x) w w':=by
 have hblt:b<w.heap.size:=by
  rcases Nat.lt_or_ge b w.heap.size with h'|h'
  ·exact h'
  ·simp [Array.getElem?_eq_none h'] at hbk
 obtain ⟨hB,v',hbk',hown,hne⟩:=id hA
 rw [hbk] at hbk'
 have ev:v=v':=by simpa using hbk'
 subst ev
 rw [Lib.byteCells_length] at hown
 have mixed:=L.mixed
 have t72:=L.t72;have a72:=L.a72;have z72:=L.z72;have v72:=L.v72;have u72:=run_underlying L.t72
 have t70:=L.t70;have a70:=L.a70;have z70:=L.z70;have v70:=L.v70;have u70:=run_underlying L.t70
 have t37:=L.t37;have a37:=L.a37;have z37:=L.z37;have v37:=L.v37;have u37:=run_underlying L.t37
 have t127:=L.t127;have a127:=L.a127;have z127:=L.z127;have v127:=L.v127;have u127:=run_underlying L.t127
 have t3:=L.t3;have a3:=L.a3;have z3:=L.z3;have v3:=L.v3;have u3:=run_underlying L.t3
 have t9:=L.t9;have a9:=L.a9;have z9:=L.z9;have v9:=L.v9;have u9:=run_underlying L.t9
 have t5:=X.t5;have a5:=X.a5;have z5:=X.z5;have v5:=X.v5;have u5:=run_underlying X.t5
 rcases hown.2 with ⟨rfl,hz⟩|⟨g,cap,cur,fz,rfl,hbg,hg,hfz,hnc,hcm,hcs,htake⟩
 ·obtain rfl:=ya hz
  have hUS:=Any.unsafeString_none L X
  have c1:w.drew.cell? ⟨b,1,none⟩=some (.slice none 0 0):=by
   have:w.drew.heap[b]? = some (.cells #[p,.slice none 0 0] (ρ.t 72) (0,0)):=hbk
   rw [Lib.cell_of_heap this];rfl
  have hSD:(Builtin.unsafeSliceData_ #[(ρ.t 37)] (ρ.t 127) #[.slice none 0 0]).run P w.drew = .ok (.pointer none) w.drew:=rfl
  go_enter L.f169,Body.n169_ntmps ρ
  go_wp2
  go_region_o
  all_goals (go_wp2;go_ret;exact ⟨rfl,hA.drew,Ext.drew _ _⟩)
 ·by_cases hl0:l=[]
  ·subst hl0
   by_cases hc0:cap=0
   ·subst hc0
    have hUS:=Any.unsafeString_none L X
    have c1:w.drew.cell? ⟨b,1,none⟩=some (.slice (some ⟨g,0,none⟩) 0 0):=by
     have:w.drew.heap[b]? = some (.cells #[p,.slice (some ⟨g,0,none⟩) 0 0] (ρ.t 72) (0,0)):=hbk
     rw [Lib.cell_of_heap this];rfl
    have hSD:(Builtin.unsafeSliceData_ #[(ρ.t 37)] (ρ.t 127) #[.slice (some ⟨g,0,none⟩) 0 0]).run P w.drew = .ok (.pointer (some ⟨w.drew.heap.size,0,none⟩)) (w.drew.alloc (.view ⟨g,0,none⟩ (ρ.t 5))) :=
     Lib.run_unsafeSliceData_zero w.drew _ _ (ρ.t 5) L.t127 ⟨g,0,none⟩ 0 ((ρ.t 5),cur.size) (by have hg':w.drew.heap[g]? = some (.cells cur (ρ.t 5) fz):=hg;simp [World.shape?,hg'])
    have c2:(w.drew.alloc (.view ⟨g,0,none⟩ (ρ.t 5))).cell? ⟨b,1,none⟩=some (.slice (some ⟨g,0,none⟩) 0 0):=by
     have:(w.drew.alloc (.view ⟨g,0,none⟩ (ρ.t 5))).heap[b]? = _:=(Lib.alloc_old w.drew _ b hblt).trans hbk
     rw [Lib.cell_of_heap this];rfl
    have c3:(w.alloc (.view ⟨g,0,none⟩ (ρ.t 5))).drew.cell? ⟨b,1,none⟩=some (.slice (some ⟨g,0,none⟩) 0 0):=c2
    have c0:w.cell? ⟨b,1,none⟩=some (.slice (some ⟨g,0,none⟩) 0 0):=c1
    go_enter L.f169,Body.n169_ntmps ρ
    go_wp2
    go_region_o
    all_goals (go_wp2;go_ret;exact ⟨rfl,hA.drew.alloc _,(Ext.drew _ w).trans (Ext.alloc _ _ _)⟩)
   ·have hUS:=Any.unsafeString_none L X
    have c1:w.drew.cell? ⟨b,1,none⟩=some (.slice (some ⟨g,0,none⟩) 0 cap):=by
     have:w.drew.heap[b]? = some (.cells #[p,.slice (some ⟨g,0,none⟩) 0 cap] (ρ.t 72) (0,0)):=hbk
     rw [Lib.cell_of_heap this];rfl
    have hSD:(Builtin.unsafeSliceData_ #[(ρ.t 37)] (ρ.t 127) #[.slice (some ⟨g,0,none⟩) 0 cap]).run P w.drew = .ok (.pointer (some ⟨g,0,none⟩)) w.drew :=
     Lib.run_unsafeSliceData_row _ _ _ _ _ _ hc0
    clear hc0
    go_enter L.f169,Body.n169_ntmps ρ
    go_wp2
    go_region_o
    all_goals (go_wp2;go_ret;exact ⟨rfl,hA.drew,Ext.drew _ _⟩)
  ·have hl1:l.length≠0:=fun h=>hl0 (ya h)
   have c1:w.drew.cell? ⟨b,1,none⟩=some (.slice (some ⟨g,0,none⟩) l.length cap):=by
    have:w.drew.heap[b]? = some (.cells #[p,.slice (some ⟨g,0,none⟩) l.length cap] (ρ.t 72) (0,0)):=hbk
    rw [Lib.cell_of_heap this];rfl
   have hSD:(Builtin.unsafeSliceData_ #[(ρ.t 37)] (ρ.t 127) #[.slice (some ⟨g,0,none⟩) l.length cap]).run P w.drew = .ok (.pointer (some ⟨g,0,none⟩)) w.drew :=
    Lib.run_unsafeSliceData_row _ _ _ _ _ _ (by omega)
   have hUS:(Builtin.unsafeString_ #[(ρ.t 127),(ρ.t 3)] (ρ.t 9) #[.pointer (some ⟨g,0,none⟩),.int .i64 l.length]).run P w.drew = .ok (.string ⟨l.toArray⟩) (w.drew.freeze ⟨g,0,none⟩ l.length):=by
    refine Lib.run_unsafeString_row w.drew (ρ.t 127) (ρ.t 3) (ρ.t 9) (ρ.t 5) L.t127 X.cellsByte g cur.size (by have hg':w.drew.heap[g]? = some (.cells cur (ρ.t 5) fz):=hg;simp [World.shape?,hg']) l hl0 (by omega) (by unfold maxLen at hcm;omega) ?_
    intro j x hx
    have:=hown.cells (g:=g) rfl j (.int .u8 x.toNat) (by simp [Lib.byteCells,hx])
    exact this
   have hkeep:Lib.BuilderAtF (ρ.t 72) (ρ.t 5) 0 b p (Lib.byteCells l) (w.drew.freeze ⟨g,0,none⟩ l.length):=by
    have hF:=hA.drew.froze (g:=g) (cap:=cap) (by rw [Lib.byteCells_length];exact c1)
    rw [Lib.byteCells_length] at hF
    exact hF
   have hx:Ext (fun x=>(Value.slice (some ⟨g,0,none⟩) l.length cap).ownBlock=some x) w (w.drew.freeze ⟨g,0,none⟩ l.length):=(Ext.drew _ w).trans (Ext.freeze _ _ _ _ rfl)
   go_enter L.f169,Body.n169_ntmps ρ
   go_wp2
   go_region_o
   all_goals (go_wp2;go_ret;exact ⟨rfl,hkeep,hx⟩)
theorem RDl.ints {w:World} {O:Nat→Prop} {k:IntKind}:∀ (xs:List Int) (cs:List Value),RDl w O 1 (xs.map (eI k)) cs→cs.take xs.length=xs.map (Value.int k)
 | [],cs,_=>by simp
 | x::xs,cs,h=>by
  obtain ⟨h1,h2⟩:=h
  obtain ⟨v,vs,h3,h4,h5⟩:=h1
  cases cs with
  | nil=>simp at h3
  | cons c r =>
   simp at h3
   simp only [RD] at h4
   have:=RDl.ints xs r (by simpa using h2)
   simp [this,h3.1,h4]
theorem RDl.zsm {w:World} {O:Nat→Prop} {k:IntKind}:∀ (xs:List Int),RDl w O 1 (xs.map (eI k)) (xs.map (Value.int k))
 | []=>trivial
 | x::xs=>⟨⟨_,[],rfl,rfl,rfl⟩,by simpa using RDl.zsm xs⟩
theorem z83 {xs:List Int} (h:unb (byt xs)=xs):Lib.byteCells (byt xs)=xs.map (Value.int .u8):=by
 conv=>rhs;rw [←h]
 simp [Lib.byteCells,unb]
theorem Con.string {G:GI} (L:Lays.n169 P ρ) (X:Builder.Extra P ρ) (ent:∀ args w,(callFunc (ρ.f 169) args).run P w = .ok (.enter (ρ.f 169) args) w) (h5:ρ.t 5<1000000) (h72:ρ.t 72<1000000) {T0:Nat} (hT:T0=ρ.t 5∨T0=1000000+ρ.t 5) (xs:List Int) (hx:unb (byt xs)=xs) :
  Con P G (ρ.f 169) ⟨[.ptr 0 0],[⟨ρ.t 72,[.z0g 0,.ref 0]⟩],[(T0,1,xs.map (eI .u8))]⟩ (.ok [.str (byt xs)] [⟨ρ.t 72,[.z0g 0,.ref 0]⟩] [some (1000000+ρ.t 5,1,xs.map (eI .u8))]):=by
 refine ⟨ent,fun w O φ α us hv hm hB hG => ?_⟩
 obtain ⟨u,us',rfl,hu,hus⟩:=hv
 have hus:us'=[]:=hus
 subst hus
 simp only [VR] at hu
 subst hu
 obtain ⟨hO,us,hbx,p,us2,rfl,hp,v,us3,rfl,hv,h3⟩:=hm.box 0 _ rfl
 have h3:us3=[]:=h3
 subst h3
 simp only [VR] at hp hv
 have hbx:=hbx.un h72
 obtain ⟨rfl,hone⟩:=hv
 have hox:z7f w O T0 1 (α 0) (xs.map (eI .u8)):=hm.arr 0 _ rfl
 have hoz:zvk w O (ρ.t 5) 1 (α 0) (xs.map (eI .u8)):=by
  rcases hox with ⟨k0,cs,k1,k2⟩|⟨k1,k2⟩
  ·rcases hT with rfl|rfl
   ·exact ⟨cs,World.ownsRowF_of k1,k2⟩
   ·exact absurd (Nat.lt_of_le_of_lt (Nat.le_add_right 1000000 (ρ.t 5)) k0) (Nat.lt_irrefl _)
  ·rcases hT with rfl|rfl
   ·exact absurd (yc h5 k1) (Nat.lt_irrefl _)
   ·rwa [yb] at k2
 obtain ⟨cs,k1,k2,k3,k4⟩:=hoz
 have ecs:cs=Lib.byteCells (byt xs):=by
  have:=RDl.ints xs cs k2
  have hl:cs.length=xs.length:=by simpa using k1.1
  rw [z83 hx,←this,List.take_of_length_le (by omega)]
 have lb:(byt xs).length=xs.length:=by
  have:=congrArg List.length hx
  simpa [unb] using this
 have hl2:(xs.map (eI .u8)).length=(Lib.byteCells (byt xs)).length:=by simp [lb,Lib.byteCells]
 have hA:Lib.BuilderAtF (ρ.t 72) (ρ.t 5) 0 (φ 0) p (Lib.byteCells (byt xs)) w:=by
  refine ⟨Nat.zero_le _,α 0,hbx,?_,hm.ab 0 0 _ rfl (ye)⟩
  rw [←hl2]
  rw [ecs] at k1
  exact k1
 refine (zc9 L X (φ 0) p (α 0) (byt xs) w hbx hA).mono fun e w' ⟨h1,h2,h3⟩ => ?_
 have hFI:∀ x,(α 0).ownBlock=some x→FI ⟨[.ptr 0 0],[⟨ρ.t 72,[.z0g 0,.ref 0]⟩],[(T0,1,xs.map (eI .u8))]⟩ φ α x:=fun x hx => .inr ⟨0,by simp,hx⟩
 have tr:Tr O w O w':=Tr.z2p h3 fun x _ hx=>k4 x hx
 have hbx':z0r w' (φ 0) (ρ.t 72) [p,α 0]:=hbx.keep h3 (hm.ab 0 0 _ rfl (ye))
 have own':z7f w' O (1000000+ρ.t 5) 1 (α 0) (xs.map (eI .u8)):=by
  refine .inr ⟨by omega,?_⟩
  rw [yb]
  obtain ⟨_,v',q1,q2,_⟩:=h2
  have q1':z0r w' (φ 0) (ρ.t 72) [p,v']:=q1
  have:α 0=v':=by
   unfold z0r at hbx' q1'
   rw [hbx'] at q1'
   simpa using q1'
  subst this
  refine ⟨_,by rw [hl2];exact q2,by rw [z83 hx];exact RDl.zsm xs,by simp [Lib.byteCells,Value.oneCell'],k4⟩
 refine ⟨[.string ⟨(byt xs).toArray⟩],O,φ,α,h1,⟨_,[],rfl,rfl,rfl⟩,⟨fun b e he => ?_,fun a e he => ?_,fun a b la lb' hn => ?_,fun a b e e' ha hb hn => ?_,fun a b e ha hb => ?_⟩,fun _ _=>rfl,Nat.le_refl _,fun x hx=>yc (hB x hx) h3.size,tr,fun _ hx=>hx,fun _ hx => .inl hx,h3.mono fun x _ hx=>hFI x hx,fun b h1 h2 => ?_,fun a e x he hx => ?_⟩
 ·match b,he with
  | 0,he =>
   cases he
   exact ⟨hO,_,.inl ⟨h72,hbx'⟩,p,_,rfl,hp,_,[],rfl,⟨rfl,hone⟩,rfl⟩
 ·match a,he with
  | 0,he=>cases he;exact own'
 ·simp at la lb'
  omega
 ·match a,b,ha,hb with
  | 0,0,_,_=>exact (hn rfl).elim
 ·match a,ha with
  | 0,ha =>
   have:b=0:=by simpa using hb
   subst this
   exact hm.ab 0 0 _ rfl (ye)
 ·simp at h1 h2
  omega
 ·match a,he with
  | 0,he=>exact .inl ⟨0,by simp,hx⟩
end Go.Pe
end
section
namespace Go.Proofs
open Go.Shelf
def Tryz.zbd:Go.Shelf.Ren:=⟨fun|169=>124|n=>n,fun|70=>139|9=>9|0=>0|72=>141|37=>117|127=>193|3=>3|5=>5|n=>n,fun|n=>n⟩
theorem Tryz.znp:Go.Proofs.Lays.n169 Tryz.prog Tryz.zbd:={
 mixed:=by kernel_rfl
 f169:=Tryz.func124.trans (congrArg some (by kernel_rfl))
 t0:=Tryz.underlying0
 a0:=Tryz.isAgg0
 z0:=Tryz.sizeOf0
 v0:=Tryz.zeroValue0
 t3:=Tryz.underlying3
 a3:=Tryz.isAgg3
 z3:=Tryz.sizeOf3
 v3:=Tryz.zeroValue3
 t9:=Tryz.underlying9
 a9:=Tryz.isAgg9
 z9:=Tryz.sizeOf9
 v9:=Tryz.zeroValue9
 t37:=Tryz.underlying117
 a37:=Tryz.isAgg117
 z37:=Tryz.sizeOf117
 v37:=Tryz.zeroValue117
 t70:=Tryz.underlying139
 a70:=Tryz.isAgg139
 z70:=Tryz.sizeOf139
 v70:=Tryz.zeroValue139
 t72:=Tryz.underlying141
 a72:=Tryz.isAgg141
 z72:=Tryz.sizeOf141
 v72:=Tryz.zeroValue141
 t127:=Tryz.underlying193
 a127:=Tryz.isAgg193
 z127:=Tryz.sizeOf193
 v127:=Tryz.zeroValue193 }
theorem Tryz.z4l:Builder.Extra Tryz.prog Tryz.zbd:={
 sizeBuilder:=by kernel_rfl
 liesBuilder:=by kernel_rfl
 t5:=Tryz.underlying5
 a5:=Tryz.isAgg5
 z5:=Tryz.sizeOf5
 v5:=Tryz.zeroValue5
 infoByte:=by kernel_rfl
 cellsByte:=by kernel_rfl
 sizeByte:=by kernel_rfl
 neB5:=by decide }
def Tryz.zhy:Go.Shelf.Ren:=⟨fun|137=>112|217=>179|266=>219|n=>n,fun|9=>9|5=>5|3=>3|n=>n,fun|n=>n⟩
theorem Tryz.zty:Go.Proofs.Lays.n137 Tryz.prog Tryz.zhy:={
 mixed:=by kernel_rfl
 f137:=Tryz.func112.trans (congrArg some (by kernel_rfl))
 f217:=Tryz.func179.trans (congrArg some (by kernel_rfl))
 f266:=Tryz.func219.trans (congrArg some (by kernel_rfl))
 t3:=Tryz.underlying3
 a3:=Tryz.isAgg3
 z3:=Tryz.sizeOf3
 v3:=Tryz.zeroValue3
 t5:=Tryz.underlying5
 a5:=Tryz.isAgg5
 z5:=Tryz.sizeOf5
 v5:=Tryz.zeroValue5
 t9:=Tryz.underlying9
 a9:=Tryz.isAgg9
 z9:=Tryz.sizeOf9
 v9:=Tryz.zeroValue9 }
def Tryz.zi2:Go.Shelf.Ren:=⟨fun|161=>103|231=>164|227=>165|233=>166|235=>167|228=>211|197=>212|151=>213|260=>235|152=>236|137=>112|119=>256|224=>251|225=>250|217=>179|266=>219|n=>n,fun|9=>9|4=>4|3=>3|5=>5|117=>173|116=>172|0=>0|124=>176|105=>207|21=>21|119=>203|46=>130|139=>206|138=>205|n=>n,fun|3=>1|4=>2|n=>n⟩
theorem Tryz.zu2:Go.Proofs.Lays.n161 Tryz.prog Tryz.zi2:={
 mixed:=by kernel_rfl
 f119:=Tryz.func256.trans (congrArg some (by kernel_rfl))
 f137:=Tryz.func112.trans (congrArg some (by kernel_rfl))
 f151:=Tryz.func213.trans (congrArg some (by kernel_rfl))
 f152:=Tryz.func236.trans (congrArg some (by kernel_rfl))
 f161:=Tryz.func103.trans (congrArg some (by kernel_rfl))
 f197:=Tryz.func212.trans (congrArg some (by kernel_rfl))
 f217:=Tryz.func179.trans (congrArg some (by kernel_rfl))
 f224:=Tryz.func251.trans (congrArg some (by kernel_rfl))
 f225:=Tryz.func250.trans (congrArg some (by kernel_rfl))
 f227:=Tryz.func165.trans (congrArg some (by kernel_rfl))
 f228:=Tryz.func211.trans (congrArg some (by kernel_rfl))
 f231:=Tryz.func164.trans (congrArg some (by kernel_rfl))
 f233:=Tryz.func166.trans (congrArg some (by kernel_rfl))
 f235:=Tryz.func167.trans (congrArg some (by kernel_rfl))
 f260:=Tryz.func235.trans (congrArg some (by kernel_rfl))
 f266:=Tryz.func219.trans (congrArg some (by kernel_rfl))
 t0:=Tryz.underlying0
 a0:=Tryz.isAgg0
 z0:=Tryz.sizeOf0
 v0:=Tryz.zeroValue0
 t3:=Tryz.underlying3
 a3:=Tryz.isAgg3
 z3:=Tryz.sizeOf3
 v3:=Tryz.zeroValue3
 t4:=Tryz.underlying4
 a4:=Tryz.isAgg4
 z4:=Tryz.sizeOf4
 v4:=Tryz.zeroValue4
 t5:=Tryz.underlying5
 a5:=Tryz.isAgg5
 z5:=Tryz.sizeOf5
 v5:=Tryz.zeroValue5
 t9:=Tryz.underlying9
 a9:=Tryz.isAgg9
 z9:=Tryz.sizeOf9
 v9:=Tryz.zeroValue9
 t21:=Tryz.underlying21
 a21:=Tryz.isAgg21
 z21:=Tryz.sizeOf21
 v21:=Tryz.zeroValue21
 t46:=Tryz.underlying130
 a46:=Tryz.isAgg130
 z46:=Tryz.sizeOf130
 v46:=Tryz.zeroValue130
 t105:=Tryz.underlying207
 a105:=Tryz.isAgg207
 z105:=Tryz.sizeOf207
 v105:=Tryz.zeroValue207
 t116:=Tryz.underlying172
 a116:=Tryz.isAgg172
 z116:=Tryz.sizeOf172
 t117:=Tryz.underlying173
 a117:=Tryz.isAgg173
 z117:=Tryz.sizeOf173
 v117:=Tryz.zeroValue173
 t119:=Tryz.underlying203
 a119:=Tryz.isAgg203
 z119:=Tryz.sizeOf203
 t124:=Tryz.underlying176
 a124:=Tryz.isAgg176
 z124:=Tryz.sizeOf176
 v124:=Tryz.zeroValue176
 t138:=Tryz.underlying205
 a138:=Tryz.isAgg205
 z138:=Tryz.sizeOf205
 v138:=Tryz.zeroValue205
 t139:=Tryz.underlying206
 a139:=Tryz.isAgg206
 z139:=Tryz.sizeOf206
 v139:=Tryz.zeroValue206
 g3:=by kernel_rfl
 g4:=by kernel_rfl }
def Tryz.zi1:Go.Shelf.Ren:=⟨fun|160=>113|232=>180|231=>164|227=>165|234=>181|233=>166|236=>182|235=>167|228=>211|271=>220|151=>213|197=>212|120=>238|152=>236|260=>235|137=>112|119=>256|224=>251|225=>250|217=>179|266=>219|n=>n,fun|9=>9|4=>4|3=>3|5=>5|117=>173|116=>172|0=>0|124=>176|21=>21|105=>207|46=>130|119=>203|139=>206|138=>205|n=>n,fun|3=>1|4=>2|n=>n⟩
theorem Tryz.zu1:Go.Proofs.Lays.n160 Tryz.prog Tryz.zi1:={
 mixed:=by kernel_rfl
 f119:=Tryz.func256.trans (congrArg some (by kernel_rfl))
 f120:=Tryz.func238.trans (congrArg some (by kernel_rfl))
 f137:=Tryz.func112.trans (congrArg some (by kernel_rfl))
 f151:=Tryz.func213.trans (congrArg some (by kernel_rfl))
 f152:=Tryz.func236.trans (congrArg some (by kernel_rfl))
 f160:=Tryz.func113.trans (congrArg some (by kernel_rfl))
 f197:=Tryz.func212.trans (congrArg some (by kernel_rfl))
 f217:=Tryz.func179.trans (congrArg some (by kernel_rfl))
 f224:=Tryz.func251.trans (congrArg some (by kernel_rfl))
 f225:=Tryz.func250.trans (congrArg some (by kernel_rfl))
 f227:=Tryz.func165.trans (congrArg some (by kernel_rfl))
 f228:=Tryz.func211.trans (congrArg some (by kernel_rfl))
 f231:=Tryz.func164.trans (congrArg some (by kernel_rfl))
 f232:=Tryz.func180.trans (congrArg some (by kernel_rfl))
 f233:=Tryz.func166.trans (congrArg some (by kernel_rfl))
 f234:=Tryz.func181.trans (congrArg some (by kernel_rfl))
 f235:=Tryz.func167.trans (congrArg some (by kernel_rfl))
 f236:=Tryz.func182.trans (congrArg some (by kernel_rfl))
 f260:=Tryz.func235.trans (congrArg some (by kernel_rfl))
 f266:=Tryz.func219.trans (congrArg some (by kernel_rfl))
 f271:=Tryz.func220.trans (congrArg some (by kernel_rfl))
 t0:=Tryz.underlying0
 a0:=Tryz.isAgg0
 z0:=Tryz.sizeOf0
 v0:=Tryz.zeroValue0
 t3:=Tryz.underlying3
 a3:=Tryz.isAgg3
 z3:=Tryz.sizeOf3
 v3:=Tryz.zeroValue3
 t4:=Tryz.underlying4
 a4:=Tryz.isAgg4
 z4:=Tryz.sizeOf4
 v4:=Tryz.zeroValue4
 t5:=Tryz.underlying5
 a5:=Tryz.isAgg5
 z5:=Tryz.sizeOf5
 v5:=Tryz.zeroValue5
 t9:=Tryz.underlying9
 a9:=Tryz.isAgg9
 z9:=Tryz.sizeOf9
 v9:=Tryz.zeroValue9
 t21:=Tryz.underlying21
 a21:=Tryz.isAgg21
 z21:=Tryz.sizeOf21
 v21:=Tryz.zeroValue21
 t46:=Tryz.underlying130
 a46:=Tryz.isAgg130
 z46:=Tryz.sizeOf130
 v46:=Tryz.zeroValue130
 t105:=Tryz.underlying207
 a105:=Tryz.isAgg207
 z105:=Tryz.sizeOf207
 v105:=Tryz.zeroValue207
 t116:=Tryz.underlying172
 a116:=Tryz.isAgg172
 z116:=Tryz.sizeOf172
 t117:=Tryz.underlying173
 a117:=Tryz.isAgg173
 z117:=Tryz.sizeOf173
 v117:=Tryz.zeroValue173
 t119:=Tryz.underlying203
 a119:=Tryz.isAgg203
 z119:=Tryz.sizeOf203
 t124:=Tryz.underlying176
 a124:=Tryz.isAgg176
 z124:=Tryz.sizeOf176
 v124:=Tryz.zeroValue176
 t138:=Tryz.underlying205
 a138:=Tryz.isAgg205
 z138:=Tryz.sizeOf205
 v138:=Tryz.zeroValue205
 t139:=Tryz.underlying206
 a139:=Tryz.isAgg206
 z139:=Tryz.sizeOf206
 v139:=Tryz.zeroValue206
 g3:=by kernel_rfl
 g4:=by kernel_rfl }
def Tryz.z7r:Go.Shelf.Ren:=⟨fun|196=>153|259=>210|n=>n,fun|9=>9|4=>4|3=>3|5=>5|12=>12|119=>203|0=>0|46=>130|139=>206|138=>205|53=>188|n=>n,fun|3=>1|4=>2|n=>n⟩
theorem Tryz.znr:Go.Proofs.Lays.n196 Tryz.prog Tryz.z7r:={
 mixed:=by kernel_rfl
 f196:=Tryz.func153.trans (congrArg some (by kernel_rfl))
 f259:=Tryz.func210.trans (congrArg some (by kernel_rfl))
 t0:=Tryz.underlying0
 a0:=Tryz.isAgg0
 z0:=Tryz.sizeOf0
 v0:=Tryz.zeroValue0
 t3:=Tryz.underlying3
 a3:=Tryz.isAgg3
 z3:=Tryz.sizeOf3
 v3:=Tryz.zeroValue3
 t4:=Tryz.underlying4
 a4:=Tryz.isAgg4
 z4:=Tryz.sizeOf4
 v4:=Tryz.zeroValue4
 t5:=Tryz.underlying5
 a5:=Tryz.isAgg5
 z5:=Tryz.sizeOf5
 v5:=Tryz.zeroValue5
 t9:=Tryz.underlying9
 a9:=Tryz.isAgg9
 z9:=Tryz.sizeOf9
 v9:=Tryz.zeroValue9
 t12:=Tryz.underlying12
 a12:=Tryz.isAgg12
 z12:=Tryz.sizeOf12
 v12:=Tryz.zeroValue12
 t46:=Tryz.underlying130
 a46:=Tryz.isAgg130
 z46:=Tryz.sizeOf130
 v46:=Tryz.zeroValue130
 t53:=Tryz.underlying188
 a53:=Tryz.isAgg188
 z53:=Tryz.sizeOf188
 v53:=Tryz.zeroValue188
 t119:=Tryz.underlying203
 a119:=Tryz.isAgg203
 z119:=Tryz.sizeOf203
 t138:=Tryz.underlying205
 a138:=Tryz.isAgg205
 z138:=Tryz.sizeOf205
 v138:=Tryz.zeroValue205
 t139:=Tryz.underlying206
 a139:=Tryz.isAgg206
 z139:=Tryz.sizeOf206
 v139:=Tryz.zeroValue206
 g3:=by kernel_rfl
 g4:=by kernel_rfl }
def Tryz.zi3:Go.Shelf.Ren:=⟨fun|190=>184|125=>109|258=>222|128=>176|129=>177|302=>239|303=>240|304=>241|305=>242|306=>243|307=>244|308=>245|309=>246|310=>247|333=>257|329=>215|330=>216|334=>258|335=>259|336=>260|344=>263|n=>n,fun|31=>46|9=>9|3=>3|46=>130|0=>0|51=>186|53=>188|4=>4|183=>179|182=>178|131=>183|5=>5|218=>210|222=>214|228=>223|229=>224|n=>n,fun|n=>n⟩
theorem Tryz.znq:Go.Proofs.Lays.n190 Tryz.prog Tryz.zi3:={
 mixed:=by kernel_rfl
 f125:=Tryz.func109.trans (congrArg some (by kernel_rfl))
 f128:=Tryz.func176.trans (congrArg some (by kernel_rfl))
 f129:=Tryz.func177.trans (congrArg some (by kernel_rfl))
 f190:=Tryz.func184.trans (congrArg some (by kernel_rfl))
 f258:=Tryz.func222.trans (congrArg some (by kernel_rfl))
 f302:=Tryz.func239.trans (congrArg some (by kernel_rfl))
 f303:=Tryz.func240.trans (congrArg some (by kernel_rfl))
 f304:=Tryz.func241.trans (congrArg some (by kernel_rfl))
 f305:=Tryz.func242.trans (congrArg some (by kernel_rfl))
 f306:=Tryz.func243.trans (congrArg some (by kernel_rfl))
 f307:=Tryz.func244.trans (congrArg some (by kernel_rfl))
 f308:=Tryz.func245.trans (congrArg some (by kernel_rfl))
 f309:=Tryz.func246.trans (congrArg some (by kernel_rfl))
 f310:=Tryz.func247.trans (congrArg some (by kernel_rfl))
 f329:=Tryz.func215.trans (congrArg some (by kernel_rfl))
 f330:=Tryz.func216.trans (congrArg some (by kernel_rfl))
 f333:=Tryz.func257.trans (congrArg some (by kernel_rfl))
 f334:=Tryz.func258.trans (congrArg some (by kernel_rfl))
 f335:=Tryz.func259.trans (congrArg some (by kernel_rfl))
 f336:=Tryz.func260.trans (congrArg some (by kernel_rfl))
 f344:=Tryz.func263.trans (congrArg some (by kernel_rfl))
 t0:=Tryz.underlying0
 a0:=Tryz.isAgg0
 z0:=Tryz.sizeOf0
 v0:=Tryz.zeroValue0
 t3:=Tryz.underlying3
 a3:=Tryz.isAgg3
 z3:=Tryz.sizeOf3
 v3:=Tryz.zeroValue3
 t4:=Tryz.underlying4
 a4:=Tryz.isAgg4
 z4:=Tryz.sizeOf4
 v4:=Tryz.zeroValue4
 t5:=Tryz.underlying5
 a5:=Tryz.isAgg5
 z5:=Tryz.sizeOf5
 v5:=Tryz.zeroValue5
 t9:=Tryz.underlying9
 a9:=Tryz.isAgg9
 z9:=Tryz.sizeOf9
 v9:=Tryz.zeroValue9
 t31:=Tryz.underlying46
 a31:=Tryz.isAgg46
 z31:=Tryz.sizeOf46
 v31:=Tryz.zeroValue46
 t46:=Tryz.underlying130
 a46:=Tryz.isAgg130
 z46:=Tryz.sizeOf130
 v46:=Tryz.zeroValue130
 t51:=Tryz.underlying186
 a51:=Tryz.isAgg186
 z51:=Tryz.sizeOf186
 v51:=Tryz.zeroValue186
 t53:=Tryz.underlying188
 a53:=Tryz.isAgg188
 z53:=Tryz.sizeOf188
 v53:=Tryz.zeroValue188
 t131:=Tryz.underlying183
 a131:=Tryz.isAgg183
 z131:=Tryz.sizeOf183
 v131:=Tryz.zeroValue183
 t182:=Tryz.underlying178
 a182:=Tryz.isAgg178
 z182:=Tryz.sizeOf178
 v182:=Tryz.zeroValue178
 t183:=Tryz.underlying179
 a183:=Tryz.isAgg179
 z183:=Tryz.sizeOf179
 v183:=Tryz.zeroValue179
 t218:=Tryz.underlying210
 a218:=Tryz.isAgg210
 z218:=Tryz.sizeOf210
 v218:=Tryz.zeroValue210
 t222:=Tryz.underlying214
 a222:=Tryz.isAgg214
 z222:=Tryz.sizeOf214
 v222:=Tryz.zeroValue214
 t228:=Tryz.underlying223
 a228:=Tryz.isAgg223
 z228:=Tryz.sizeOf223
 v228:=Tryz.zeroValue223
 t229:=Tryz.underlying224
 a229:=Tryz.isAgg224
 z229:=Tryz.sizeOf224
 v229:=Tryz.zeroValue224 }
def Tryz.zi4:Go.Shelf.Ren:=⟨fun|194=>116|n=>n,fun|31=>46|9=>9|3=>3|4=>4|0=>0|n=>n,fun|n=>n⟩
theorem Tryz.zee:Go.Proofs.Lays.n194 Tryz.prog Tryz.zi4:={
 mixed:=by kernel_rfl
 f194:=Tryz.func116.trans (congrArg some (by kernel_rfl))
 t0:=Tryz.underlying0
 a0:=Tryz.isAgg0
 z0:=Tryz.sizeOf0
 v0:=Tryz.zeroValue0
 t3:=Tryz.underlying3
 a3:=Tryz.isAgg3
 z3:=Tryz.sizeOf3
 v3:=Tryz.zeroValue3
 t4:=Tryz.underlying4
 a4:=Tryz.isAgg4
 z4:=Tryz.sizeOf4
 v4:=Tryz.zeroValue4
 t9:=Tryz.underlying9
 a9:=Tryz.isAgg9
 z9:=Tryz.sizeOf9
 v9:=Tryz.zeroValue9
 t31:=Tryz.underlying46
 a31:=Tryz.isAgg46
 z31:=Tryz.sizeOf46
 v31:=Tryz.zeroValue46 }
def Tryz.z3w:Go.Shelf.Ren:=⟨fun|6=>114|8=>183|9=>184|11=>221|13=>109|12=>222|23=>176|24=>177|14=>239|15=>240|16=>241|17=>242|18=>243|19=>244|20=>245|21=>246|22=>247|25=>257|26=>215|27=>216|28=>258|29=>259|30=>260|31=>263|n=>n,fun|26=>9|28=>134|24=>46|0=>0|3=>3|37=>130|48=>186|50=>188|4=>4|40=>179|39=>178|45=>183|5=>5|9=>9|51=>210|55=>214|57=>223|58=>224|33=>61|n=>n,fun|n=>n⟩
theorem Tryz.zh4:Go.Proofs.SlLaysZ.n6 Tryz.prog Tryz.z3w:={
 mixed:=by kernel_rfl
 f6:=⟨Tryz.f114.name,by decide,Tryz.func114.trans (congrArg some (by kernel_rfl))⟩
 f8:=⟨Tryz.f183.name,by decide,Tryz.func183.trans (congrArg some (by kernel_rfl))⟩
 f11:=⟨Tryz.f221.name,by decide,Tryz.func221.trans (congrArg some (by kernel_rfl))⟩
 t0:=Tryz.underlying0
 a0:=Tryz.isAgg0
 z0:=Tryz.sizeOf0
 v0:=Tryz.zeroValue0
 t24:=Tryz.underlying46
 a24:=Tryz.isAgg46
 z24:=Tryz.sizeOf46
 v24:=Tryz.zeroValue46
 t26:=Tryz.underlying9
 a26:=Tryz.isAgg9
 z26:=Tryz.sizeOf9
 v26:=Tryz.zeroValue9
 t28:=Tryz.underlying134
 a28:=Tryz.isAgg134
 z28:=Tryz.sizeOf134
 v28:=Tryz.zeroValue134
 i26:=by kernel_rfl }
def Tryz.zi0:Go.Shelf.Ren:=⟨fun|145=>131|220=>194|219=>228|217=>179|225=>250|224=>251|267=>252|266=>219|314=>262|n=>n,fun|9=>9|4=>4|59=>152|3=>3|5=>5|46=>130|146=>239|51=>186|n=>n,fun|1=>0|n=>n⟩
theorem Tryz.zu0:Go.Proofs.Lays.n145 Tryz.prog Tryz.zi0:={
 mixed:=by kernel_rfl
 f145:=Tryz.func131.trans (congrArg some (by kernel_rfl))
 f217:=Tryz.func179.trans (congrArg some (by kernel_rfl))
 f219:=Tryz.func228.trans (congrArg some (by kernel_rfl))
 f220:=Tryz.func194.trans (congrArg some (by kernel_rfl))
 f224:=Tryz.func251.trans (congrArg some (by kernel_rfl))
 f225:=Tryz.func250.trans (congrArg some (by kernel_rfl))
 f266:=Tryz.func219.trans (congrArg some (by kernel_rfl))
 f267:=Tryz.func252.trans (congrArg some (by kernel_rfl))
 f314:=Tryz.func262.trans (congrArg some (by kernel_rfl))
 t3:=Tryz.underlying3
 a3:=Tryz.isAgg3
 z3:=Tryz.sizeOf3
 v3:=Tryz.zeroValue3
 t4:=Tryz.underlying4
 a4:=Tryz.isAgg4
 z4:=Tryz.sizeOf4
 v4:=Tryz.zeroValue4
 t5:=Tryz.underlying5
 a5:=Tryz.isAgg5
 z5:=Tryz.sizeOf5
 v5:=Tryz.zeroValue5
 t9:=Tryz.underlying9
 a9:=Tryz.isAgg9
 z9:=Tryz.sizeOf9
 v9:=Tryz.zeroValue9
 t46:=Tryz.underlying130
 a46:=Tryz.isAgg130
 z46:=Tryz.sizeOf130
 v46:=Tryz.zeroValue130
 t51:=Tryz.underlying186
 a51:=Tryz.isAgg186
 z51:=Tryz.sizeOf186
 v51:=Tryz.zeroValue186
 t59:=Tryz.underlying152
 a59:=Tryz.isAgg152
 z59:=Tryz.sizeOf152
 v59:=Tryz.zeroValue152
 t146:=Tryz.underlying239
 a146:=Tryz.isAgg239
 z146:=Tryz.sizeOf239
 v146:=Tryz.zeroValue239
 g1:=by kernel_rfl }
def Tryz.zhz:Go.Shelf.Ren:=⟨fun|144=>144|143=>205|219=>228|217=>179|225=>250|224=>251|267=>252|266=>219|314=>262|n=>n,fun|9=>9|4=>4|3=>3|5=>5|46=>130|146=>239|51=>186|n=>n,fun|1=>0|n=>n⟩
theorem Tryz.ztz:Go.Proofs.Lays.n144 Tryz.prog Tryz.zhz:={
 mixed:=by kernel_rfl
 f143:=Tryz.func205.trans (congrArg some (by kernel_rfl))
 f144:=Tryz.func144.trans (congrArg some (by kernel_rfl))
 f217:=Tryz.func179.trans (congrArg some (by kernel_rfl))
 f219:=Tryz.func228.trans (congrArg some (by kernel_rfl))
 f224:=Tryz.func251.trans (congrArg some (by kernel_rfl))
 f225:=Tryz.func250.trans (congrArg some (by kernel_rfl))
 f266:=Tryz.func219.trans (congrArg some (by kernel_rfl))
 f267:=Tryz.func252.trans (congrArg some (by kernel_rfl))
 f314:=Tryz.func262.trans (congrArg some (by kernel_rfl))
 t3:=Tryz.underlying3
 a3:=Tryz.isAgg3
 z3:=Tryz.sizeOf3
 v3:=Tryz.zeroValue3
 t4:=Tryz.underlying4
 a4:=Tryz.isAgg4
 z4:=Tryz.sizeOf4
 v4:=Tryz.zeroValue4
 t5:=Tryz.underlying5
 a5:=Tryz.isAgg5
 z5:=Tryz.sizeOf5
 v5:=Tryz.zeroValue5
 t9:=Tryz.underlying9
 a9:=Tryz.isAgg9
 z9:=Tryz.sizeOf9
 v9:=Tryz.zeroValue9
 t46:=Tryz.underlying130
 a46:=Tryz.isAgg130
 z46:=Tryz.sizeOf130
 v46:=Tryz.zeroValue130
 t51:=Tryz.underlying186
 a51:=Tryz.isAgg186
 z51:=Tryz.sizeOf186
 v51:=Tryz.zeroValue186
 t146:=Tryz.underlying239
 a146:=Tryz.isAgg239
 z146:=Tryz.sizeOf239
 v146:=Tryz.zeroValue239
 g1:=by kernel_rfl }
def Tryz.zbc:Go.Shelf.Ren:=⟨fun|156=>84|165=>151|166=>152|169=>124|240=>208|241=>209|276=>233|277=>234|n=>n,fun|31=>46|9=>9|3=>3|4=>4|0=>0|20=>20|72=>141|76=>163|70=>139|37=>117|75=>162|127=>193|164=>219|5=>5|80=>74|n=>n,fun|n=>n⟩
theorem Tryz.zno:Go.Proofs.Lays.n156 Tryz.prog Tryz.zbc:={
 mixed:=by kernel_rfl
 f156:=Tryz.func84.trans (congrArg some (by kernel_rfl))
 f165:=Tryz.func151.trans (congrArg some (by kernel_rfl))
 f166:=Tryz.func152.trans (congrArg some (by kernel_rfl))
 f169:=Tryz.func124.trans (congrArg some (by kernel_rfl))
 f240:=Tryz.func208.trans (congrArg some (by kernel_rfl))
 f241:=Tryz.func209.trans (congrArg some (by kernel_rfl))
 f276:=Tryz.func233.trans (congrArg some (by kernel_rfl))
 f277:=Tryz.func234.trans (congrArg some (by kernel_rfl))
 t0:=Tryz.underlying0
 a0:=Tryz.isAgg0
 z0:=Tryz.sizeOf0
 v0:=Tryz.zeroValue0
 t3:=Tryz.underlying3
 a3:=Tryz.isAgg3
 z3:=Tryz.sizeOf3
 v3:=Tryz.zeroValue3
 t4:=Tryz.underlying4
 a4:=Tryz.isAgg4
 z4:=Tryz.sizeOf4
 v4:=Tryz.zeroValue4
 t9:=Tryz.underlying9
 a9:=Tryz.isAgg9
 z9:=Tryz.sizeOf9
 v9:=Tryz.zeroValue9
 t20:=Tryz.underlying20
 a20:=Tryz.isAgg20
 z20:=Tryz.sizeOf20
 v20:=Tryz.zeroValue20
 t31:=Tryz.underlying46
 a31:=Tryz.isAgg46
 z31:=Tryz.sizeOf46
 v31:=Tryz.zeroValue46
 t37:=Tryz.underlying117
 a37:=Tryz.isAgg117
 z37:=Tryz.sizeOf117
 v37:=Tryz.zeroValue117
 t70:=Tryz.underlying139
 a70:=Tryz.isAgg139
 z70:=Tryz.sizeOf139
 v70:=Tryz.zeroValue139
 t72:=Tryz.underlying141
 a72:=Tryz.isAgg141
 z72:=Tryz.sizeOf141
 v72:=Tryz.zeroValue141
 t75:=Tryz.underlying162
 a75:=Tryz.isAgg162
 z75:=Tryz.sizeOf162
 v75:=Tryz.zeroValue162
 t76:=Tryz.underlying163
 a76:=Tryz.isAgg163
 z76:=Tryz.sizeOf163
 v76:=Tryz.zeroValue163
 t127:=Tryz.underlying193
 a127:=Tryz.isAgg193
 z127:=Tryz.sizeOf193
 v127:=Tryz.zeroValue193
 t164:=Tryz.underlying219
 a164:=Tryz.isAgg219
 z164:=Tryz.sizeOf219
 v164:=Tryz.zeroValue219 }
theorem Tryz.z4k:Builder.Extra Tryz.prog Tryz.zbc:={
 sizeBuilder:=by kernel_rfl
 liesBuilder:=by kernel_rfl
 t5:=Tryz.underlying5
 a5:=Tryz.isAgg5
 z5:=Tryz.sizeOf5
 v5:=Tryz.zeroValue5
 infoByte:=by kernel_rfl
 cellsByte:=by kernel_rfl
 sizeByte:=by kernel_rfl
 neB5:=by decide }
def Tryz.zhm:Go.Shelf.Ren:=⟨fun|42=>48|n=>n,fun|25=>46|26=>9|4=>4|n=>n,fun|n=>n⟩
theorem Tryz.zhl:Go.Proofs.SlLaysN.n42 Tryz.prog Tryz.zhm:={
 mixed:=by kernel_rfl
 f42:=⟨Tryz.f48.name,by decide,Tryz.func48.trans (congrArg some (by kernel_rfl))⟩
 t4:=Tryz.underlying4
 a4:=Tryz.isAgg4
 z4:=Tryz.sizeOf4
 v4:=Tryz.zeroValue4
 t25:=Tryz.underlying46
 a25:=Tryz.isAgg46
 z25:=Tryz.sizeOf46
 v25:=Tryz.zeroValue46
 t26:=Tryz.underlying9
 a26:=Tryz.isAgg9
 z26:=Tryz.sizeOf9
 v26:=Tryz.zeroValue9
 i26:=by kernel_rfl }
def Tryz.zhx:Go.Shelf.Ren:=⟨fun|106=>52|213=>110|265=>178|n=>n,fun|9=>9|3=>3|n=>n,fun|n=>n⟩
theorem Tryz.ztx:Go.Proofs.Lays.n106 Tryz.prog Tryz.zhx:={
 mixed:=by kernel_rfl
 f106:=Tryz.func52.trans (congrArg some (by kernel_rfl))
 f213:=Tryz.func110.trans (congrArg some (by kernel_rfl))
 f265:=Tryz.func178.trans (congrArg some (by kernel_rfl))
 t3:=Tryz.underlying3
 a3:=Tryz.isAgg3
 z3:=Tryz.sizeOf3
 v3:=Tryz.zeroValue3
 t9:=Tryz.underlying9
 a9:=Tryz.isAgg9
 z9:=Tryz.sizeOf9
 v9:=Tryz.zeroValue9 }
end Go.Proofs
end
section
namespace Go.Lk
variable [Lb]
theorem zv1 {g h:Nat} {w w':World} {O O':Nat→Prop} (t:Tr O w O' w') (hg:¬O g) (hh:¬O h) (x:Lib.Utf8Tabs g h w):Lib.Utf8Tabs g h w' :=
 ⟨fun c hc=>zds t (x.1 c hc) hg,fun i hi=>⟨zds t (x.2 i hi).1 hh,zds t (x.2 i hi).2 hh⟩⟩
end Go.Lk
end
