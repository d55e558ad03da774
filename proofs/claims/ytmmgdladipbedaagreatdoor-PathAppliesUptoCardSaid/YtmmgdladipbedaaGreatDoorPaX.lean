import Derived.Test.YtmmgdladipbedaaGreatDoorCards
import Derived.Test.YtmmgdladipbedaaGreatDoorTie
import Derived.Test.YtmmgdladipbedaaGreatDoorPeV
import Derived.Test.YtmmgdladipbedaaGreatDoorSpR
import Derived.WalkKit
import Derived.ProofKit
import Derived.OpenShut
import Derived.Deep.DeepHandedRow
import Derived.Deep.DeepLaidRun
import Derived.Deep.DeepWitnessRowRef
import Derived.Lib.LaidU8T
import Derived.Lib.LaidTab
import Derived.Lib.LaidIn
import Derived.Stop.LaidErr
import Derived.PinnedBridge
import Derived.Shelf.Vars
set_option linter.all false
namespace Go.Proofs.YtmmgdladipbedaaGreatDoor
open _root_.List renaming map_cons → ya, map_nil → yb, range → yc
open _root_.Nat renaming not_lt_zero → yd
open Go.Lk Go.Pe Go.Sen Go.ChangeShapes Go.WideShapes Go.ChangeAt Go.RowKit
open Go.ChangeMaps (open_string shut_string)
instance lb0:Lb:=⟨0⟩
theorem own:ownKnob Tryz.prog.godebug=none:=by kernel_rfl
theorem laidOut:laidOutB Tryz.prog=true:=by kernel_rfl
theorem zak:Tryz.prog.cellsOf 24=4:=by kernel_rfl
theorem zj6:Tryz.prog.cellsOf 3=1:=by kernel_rfl
theorem z4a:Tryz.prog.cellsOf 9=1:=by kernel_rfl
theorem zpz:Tryz.prog.cellsOf 4=1:=by kernel_rfl
theorem zms:Tryz.prog.cellsOf 22=1:=by kernel_rfl
theorem zmt:Tryz.prog.cellsOf 31=1:=by kernel_rfl
theorem zfl:Tryz.prog.cellsOf 46=1:=by kernel_rfl
theorem zfm:Tryz.prog.cellsOf 48=2:=by kernel_rfl
theorem zmu:Tryz.prog.cellsOf 33=4:=by kernel_rfl
theorem zfn:Tryz.prog.cellsOf 51=8:=by kernel_rfl
def QS {H:Type} (s:List UInt8) (d:DataW H):Prop:=s.length+1≤Rows.uptoBulk d
theorem zmd {H:Type}:∀ {l:List (List UInt8)} {ds:List (DataW H)},Q2 QS l ds→kys l≤Rows.uptoBulkAll ds
 | [],[],_=>by simp [kys]
 | x::l,d::ds,h=>by
  obtain ⟨h3,h4⟩:=h
  have h7:=zmd h4
  simp only [QS] at h3
  rw [z3j]
  simp only [Rows.uptoBulkAll]
  omega
 | [],_::_,h=>h.elim
 | _::_,[],h=>h.elim
def QE {H:Type} (x:q01) (d:DataW H):Prop:=x.sz+1≤Rows.uptoBulk d
def QF {H:Type} (x:q02) (d:DataW H):Prop:=x.sz+1≤Rows.uptoBulk d
def QT {H:Type} (x:q04) (d:DataW H):Prop:=x.sz+1≤Rows.uptoBulk d
def QX {H:Type} (x:q00) (d:DataW H):Prop:=x.sz+1≤Rows.uptoBulk d
theorem zmb {H:Type}:∀ {l:List q01} {ds:List (DataW H)},Q2 QE l ds→ezs l≤Rows.uptoBulkAll ds
 | [],[],_=>by simp [ezs]
 | x::l,d::ds,h=>by
  obtain ⟨h3,h4⟩:=h
  have h7:=zmb h4
  simp only [QE] at h3
  simp only [ezs]
  simp only [Rows.uptoBulkAll]
  omega
 | [],_::_,h=>h.elim
 | _::_,[],h=>h.elim
theorem zme {H:Type}:∀ {l:List q00} {ds:List (DataW H)},Q2 QX l ds→z6y l≤Rows.uptoBulkAll ds
 | [],[],_=>by simp [z6y]
 | x::l,d::ds,h=>by
  obtain ⟨h3,h4⟩:=h
  have h7:=zme h4
  simp only [QX] at h3
  rw [show z6y (x::l)=x.sz+z6y l by simp [z6y]]
  simp only [Rows.uptoBulkAll]
  omega
 | [],_::_,h=>h.elim
 | _::_,[],h=>h.elim
theorem zmc {H:Type}:∀ {l:List q02} {ds:List (DataW H)},Q2 QF l ds→(l.map (·.sz)).sum≤Rows.uptoBulkAll ds
 | [],[],_=>by simp 
 | x::l,d::ds,h=>by
  obtain ⟨h3,h4⟩:=h
  have h7:=zmc h4
  simp only [QF] at h3
  simp only [ya,List.sum_cons]
  simp only [Rows.uptoBulkAll]
  omega
 | [],_::_,h=>h.elim
 | _::_,[],h=>h.elim
theorem zxx {α:Type} {l:List α} (h:l.length=4):∃ a b c d,l=[a,b,c,d]:=by
 match l,h with
 | [a,b,c,d],_=>exact ⟨a,b,c,d,rfl⟩
theorem zzt {α:Type} {l:List α} (h:l.length=2):∃ a b,l=[a,b]:=by
 match l,h with
 | [a,b],_=>exact ⟨a,b,rfl⟩
theorem len5 {α:Type} {l:List α} (h:l.length=5):∃ a b c d e,l=[a,b,c,d,e]:=by
 match l,h with
 | [a,b,c,d,e],_=>exact ⟨a,b,c,d,e,rfl⟩
theorem len8 {α:Type} {l:List α} (h:l.length=8):∃ a b c d e f g k,l=[a,b,c,d,e,f,g,k]:=by
 match l,h with
 | [a,b,c,d,e,f,g,k],_=>exact ⟨a,b,c,d,e,f,g,k,rfl⟩
theorem zgq {H:Type} {enc:TypeId × Value→H} {w:World} {held:Bool} {n:Nat} {cs:List Value} {y:DataW H × List MemPlace} (h:DataW.trod enc Tryz.prog w 0 (fun _=>true) held n 46 cs=some y):∃ v,∃ l:List (List UInt8),cs=[v]∧RD w No (.sl 9 1 (l.map eS)) v∧kys l+1≤Rows.uptoBulk y.1:=by
 obtain ⟨v,l,e,h3,-,h5⟩:=zrb Tryz.underlying46 z4a (by decide) eS (QS (H:=H)) (fun g hg cs y hh=>by
  obtain ⟨s,e,rfl,_⟩:=z9y Tryz.underlying9 hh
  exact ⟨s,⟨_,_,e,rfl,rfl⟩,by simp [QS,Rows.uptoBulk]⟩) h
 refine ⟨v,l,e,h3,?_⟩
 rcases h5 with ⟨h6,rfl⟩|⟨es,rest,h6,h7⟩
 ·rw [h6];simp [kys,Rows.uptoBulk]
 ·have h8:=zmd h7
  rw [h6]
  simp only [Rows.uptoBulk];omega
theorem zoc {H:Type} {enc:TypeId × Value→H} {w:World} {held:Bool}:∀ (fuel:Nat) (cs:List Value) (y:DataW H × List MemPlace),DataW.trod enc Tryz.prog w 0 (fun _=>true) held fuel 24 cs=some y→∃ x:q01,RDs w No x.enc cs∧QE x y.1:=by
 intro fuel
 induction fuel using Nat.strongRecOn with
 | ind fuel ih =>
  intro cs y h
  obtain ⟨xs,n,rfl,rfl,hl,hx,hf⟩:=DataW.trod_struct Tryz.underlying24 h
  rw [zak] at hl
  obtain ⟨c0,c1,c2,c3,rfl⟩:=zxx hl
  obtain ⟨x0,x1,x2,x3,rfl⟩:=zxx (show xs.length=4 from hx)
  have g0:DataW.trod enc Tryz.prog w 0 (fun _=>true) held n 3 (([c0,c1,c2,c3].drop 0).take (Tryz.prog.cellsOf 3))=some x0:=hf 0 _ rfl
  rw [zj6] at g0
  have f0:DataW.trod enc Tryz.prog w 0 (fun _=>true) held n 3 [c0]=some x0:=g0
  have g1:DataW.trod enc Tryz.prog w 0 (fun _=>true) held n 9 (([c0,c1,c2,c3].drop 1).take (Tryz.prog.cellsOf 9))=some x1:=hf 1 _ rfl
  rw [z4a] at g1
  have f1:DataW.trod enc Tryz.prog w 0 (fun _=>true) held n 9 [c1]=some x1:=g1
  have g2:DataW.trod enc Tryz.prog w 0 (fun _=>true) held n 9 (([c0,c1,c2,c3].drop 2).take (Tryz.prog.cellsOf 9))=some x2:=hf 2 _ rfl
  rw [z4a] at g2
  have f2:DataW.trod enc Tryz.prog w 0 (fun _=>true) held n 9 [c2]=some x2:=g2
  have g3:DataW.trod enc Tryz.prog w 0 (fun _=>true) held n 22 (([c0,c1,c2,c3].drop 3).take (Tryz.prog.cellsOf 22))=some x3:=hf 3 _ rfl
  rw [zms] at g3
  have f3:DataW.trod enc Tryz.prog w 0 (fun _=>true) held n 22 [c3]=some x3:=g3
  obtain ⟨k,e0,rfl,w0⟩:=DataW.trod_int Tryz.underlying3 f0
  obtain ⟨t,e1,rfl,w1⟩:=z9y Tryz.underlying9 f1
  obtain ⟨s,e2,rfl,w2⟩:=z9y Tryz.underlying9 f2
  obtain ⟨v,l,e3,h3,h4,h5⟩:=zrb Tryz.underlying22 zak (by decide) q01.enc (QE (H:=H)) (fun g hg cs y=>ih g (by omega) cs y) f3
  simp only [List.cons.injEq,and_true] at e0 e1 e2 e3
  subst e0 e1 e2 e3
  have hb:ezs l+1≤Rows.uptoBulk x3.1:=by
   rcases h5 with ⟨h6,rfl⟩|⟨es,rest,h6,h7⟩
   ·rw [h6];simp [ezs,Rows.uptoBulk]
   ·have h8:=zmb h7
    rw [h6]
    simp only [Rows.uptoBulk];omega
  refine ⟨⟨k,t,s,l⟩,?_,?_⟩
  ·rw [q01.z0b]
   simp only [q01.z03]
   exact ⟨_,_,rfl,rfl,_,_,rfl,rfl,_,_,rfl,rfl,_,_,rfl,h3,rfl⟩
  ·show QE _ _
   unfold QE
   simp only [q01.sz,Rows.uptoBulk,Rows.uptoBulkAll,ya,yb]
   omega
theorem zlo {H:Type} {enc:TypeId × Value→H} {w:World} {held:Bool}:∀ (fuel:Nat) (cs:List Value) (y:DataW H × List MemPlace),DataW.trod enc Tryz.prog w 0 (fun _=>true) held fuel 48 cs=some y→∃ x:q02,RDs w No x.enc cs∧QF x y.1:=by
  intro fuel cs y h
  obtain ⟨xs,n,rfl,rfl,hl,hx,hf⟩:=DataW.trod_struct Tryz.underlying48 h
  rw [zfm] at hl
  obtain ⟨c0,c1,rfl⟩:=zzt hl
  obtain ⟨x0,x1,rfl⟩:=zzt (show xs.length=2 from hx)
  have g0:DataW.trod enc Tryz.prog w 0 (fun _=>true) held n 9 (([c0,c1].drop 0).take (Tryz.prog.cellsOf 9))=some x0:=hf 0 _ rfl
  rw [z4a] at g0
  have f0:DataW.trod enc Tryz.prog w 0 (fun _=>true) held n 9 [c0]=some x0:=g0
  have g1:DataW.trod enc Tryz.prog w 0 (fun _=>true) held n 46 (([c0,c1].drop 1).take (Tryz.prog.cellsOf 46))=some x1:=hf 1 _ rfl
  rw [zfl] at g1
  have f1:DataW.trod enc Tryz.prog w 0 (fun _=>true) held n 46 [c1]=some x1:=g1
  obtain ⟨t,e0,rfl,w0⟩:=z9y Tryz.underlying9 f0
  obtain ⟨v,l,e1,h1,hb⟩:=zgq f1
  simp only [List.cons.injEq,and_true] at e0 e1
  subst e0 e1
  refine ⟨⟨t,l⟩,?_,?_⟩
  ·exact ⟨_,_,rfl,rfl,_,_,rfl,h1,rfl⟩
  ·unfold QF
   simp only [q02.sz,Rows.uptoBulk,Rows.uptoBulkAll,ya,yb]
   omega
theorem zlp {H:Type} {enc:TypeId × Value→H} {w:World} {held:Bool}:∀ (fuel:Nat) (cs:List Value) (y:DataW H × List MemPlace),DataW.trod enc Tryz.prog w 0 (fun _=>true) held fuel 33 cs=some y→∃ x:q04,RDs w No x.enc cs∧QT x y.1:=by
  intro fuel cs y h
  obtain ⟨xs,n,rfl,rfl,hl,hx,hf⟩:=DataW.trod_struct Tryz.underlying33 h
  rw [zmu] at hl
  obtain ⟨c0,c1,c2,c3,rfl⟩:=zxx hl
  obtain ⟨x0,x1,x2,x3,rfl⟩:=zxx (show xs.length=4 from hx)
  have g0:DataW.trod enc Tryz.prog w 0 (fun _=>true) held n 9 (([c0,c1,c2,c3].drop 0).take (Tryz.prog.cellsOf 9))=some x0:=hf 0 _ rfl
  rw [z4a] at g0
  have f0:DataW.trod enc Tryz.prog w 0 (fun _=>true) held n 9 [c0]=some x0:=g0
  have g1:DataW.trod enc Tryz.prog w 0 (fun _=>true) held n 9 (([c0,c1,c2,c3].drop 1).take (Tryz.prog.cellsOf 9))=some x1:=hf 1 _ rfl
  rw [z4a] at g1
  have f1:DataW.trod enc Tryz.prog w 0 (fun _=>true) held n 9 [c1]=some x1:=g1
  have g2:DataW.trod enc Tryz.prog w 0 (fun _=>true) held n 9 (([c0,c1,c2,c3].drop 2).take (Tryz.prog.cellsOf 9))=some x2:=hf 2 _ rfl
  rw [z4a] at g2
  have f2:DataW.trod enc Tryz.prog w 0 (fun _=>true) held n 9 [c2]=some x2:=g2
  have g3:DataW.trod enc Tryz.prog w 0 (fun _=>true) held n 31 (([c0,c1,c2,c3].drop 3).take (Tryz.prog.cellsOf 31))=some x3:=hf 3 _ rfl
  rw [zmt] at g3
  have f3:DataW.trod enc Tryz.prog w 0 (fun _=>true) held n 31 [c3]=some x3:=g3
  obtain ⟨t0,e0,rfl,w0⟩:=z9y Tryz.underlying9 f0
  obtain ⟨t1,e1,rfl,w1⟩:=z9y Tryz.underlying9 f1
  obtain ⟨t2,e2,rfl,w2⟩:=z9y Tryz.underlying9 f2
  obtain ⟨v,l,e3,h3,h4,h5⟩:=zrb Tryz.underlying31 zfm (by decide) q02.enc (QF (H:=H)) (fun g hg cs y=>zlo g cs y) f3
  simp only [List.cons.injEq,and_true] at e0 e1 e2 e3
  subst e0 e1 e2 e3
  have hb:(l.map (·.sz)).sum+1≤Rows.uptoBulk x3.1:=by
   rcases h5 with ⟨h6,rfl⟩|⟨es,rest,h6,h7⟩
   ·rw [h6];simp [Rows.uptoBulk]
   ·have h8:=zmc h7
    rw [h6]
    simp only [Rows.uptoBulk];omega
  refine ⟨⟨t0,t1,t2,l⟩,?_,?_⟩
  ·exact ⟨_,_,rfl,rfl,_,_,rfl,rfl,_,_,rfl,rfl,_,_,rfl,h3,rfl⟩
  ·unfold QT
   simp only [q04.sz,Rows.uptoBulk,Rows.uptoBulkAll,ya,yb]
   omega
theorem zy9 {w:World} {O:Nat→Prop} {φ:Nat→Nat} {α:Nat→Value} {x:q04} {cs:List Value} (h:RDs w O x.enc cs):VRs w O φ α [.str x.gId,.str x.zc,.str x.z2c,.sl 48 2 (x.za.map q02.enc)] cs:=by
 rw [q04.z0b] at h
 obtain ⟨v0,r0,rfl,h0,v1,r1,rfl,h1,v2,r2,rfl,h2,v3,r3,rfl,h3,rfl⟩:=h
 exact ⟨v0,_,rfl,h0,v1,_,rfl,h1,v2,_,rfl,h2,v3,_,rfl,h3,rfl⟩
theorem zob {H:Type} {enc:TypeId × Value→H} {w:World} {held:Bool}:∀ (fuel:Nat) (cs:List Value) (y:DataW H × List MemPlace),DataW.trod enc Tryz.prog w 0 (fun _=>true) held fuel 51 cs=some y→∃ x:q00,RDs w No x.enc cs∧QX x y.1:=by
  intro fuel cs y h
  obtain ⟨xs,n,rfl,rfl,hl,hx,hf⟩:=DataW.trod_struct Tryz.underlying51 h
  rw [zfn] at hl
  obtain ⟨c0,c1,c2,c3,c4,c5,c6,c7,rfl⟩:=len8 hl
  obtain ⟨x0,x1,x2,x3,x4,rfl⟩:=len5 (show xs.length=5 from hx)
  have g0:DataW.trod enc Tryz.prog w 0 (fun _=>true) held n 3 (([c0,c1,c2,c3,c4,c5,c6,c7].drop 0).take (Tryz.prog.cellsOf 3))=some x0:=hf 0 _ rfl
  rw [zj6] at g0
  have f0:DataW.trod enc Tryz.prog w 0 (fun _=>true) held n 3 [c0]=some x0:=g0
  have g1:DataW.trod enc Tryz.prog w 0 (fun _=>true) held n 9 (([c0,c1,c2,c3,c4,c5,c6,c7].drop 1).take (Tryz.prog.cellsOf 9))=some x1:=hf 1 _ rfl
  rw [z4a] at g1
  have f1:DataW.trod enc Tryz.prog w 0 (fun _=>true) held n 9 [c1]=some x1:=g1
  have g2:DataW.trod enc Tryz.prog w 0 (fun _=>true) held n 4 (([c0,c1,c2,c3,c4,c5,c6,c7].drop 2).take (Tryz.prog.cellsOf 4))=some x2:=hf 2 _ rfl
  rw [zpz] at g2
  have f2:DataW.trod enc Tryz.prog w 0 (fun _=>true) held n 4 [c2]=some x2:=g2
  have g3:DataW.trod enc Tryz.prog w 0 (fun _=>true) held n 24 (([c0,c1,c2,c3,c4,c5,c6,c7].drop 3).take (Tryz.prog.cellsOf 24))=some x3:=hf 3 _ rfl
  rw [zak] at g3
  have f3:DataW.trod enc Tryz.prog w 0 (fun _=>true) held n 24 [c3,c4,c5,c6]=some x3:=g3
  have g4:DataW.trod enc Tryz.prog w 0 (fun _=>true) held n 46 (([c0,c1,c2,c3,c4,c5,c6,c7].drop 7).take (Tryz.prog.cellsOf 46))=some x4:=hf 4 _ rfl
  rw [zfl] at g4
  have f4:DataW.trod enc Tryz.prog w 0 (fun _=>true) held n 46 [c7]=some x4:=g4
  obtain ⟨k,e0,rfl,w0⟩:=DataW.trod_int Tryz.underlying3 f0
  obtain ⟨t,e1,rfl,w1⟩:=z9y Tryz.underlying9 f1
  obtain ⟨b,e2,rfl⟩:=DataW.trod_bool Tryz.underlying4 f2
  obtain ⟨x,e3,z3⟩:=zoc n _ _ f3
  obtain ⟨v,l,e4,h4,hb⟩:=zgq f4
  simp only [List.cons.injEq,and_true] at e0 e1 e2 e4
  subst e0 e1 e2 e4
  rw [q01.z0b] at e3
  obtain ⟨v0,r0,q0,h0,v1,r1,q1,h1,v2,r2,q2,h2,v3,r3,q3,h3,q4⟩:=e3
  have q4:r3=[]:=q4
  subst q4 q3 q2 q1
  simp only [List.cons.injEq,and_true] at q0
  obtain ⟨rfl,rfl,rfl,rfl⟩:=q0
  unfold QE at z3
  refine ⟨⟨k,t,b,x,l⟩,?_,?_⟩
  ·rw [q00.z0b]
   exact ⟨_,_,rfl,rfl,_,_,rfl,rfl,_,_,rfl,rfl,_,_,rfl,h0,_,_,rfl,h1,_,_,rfl,h2,_,_,rfl,h3,_,_,rfl,h4,rfl⟩
  ·unfold QX
   simp only [q00.sz,Rows.uptoBulk,Rows.uptoBulkAll,ya,yb]
   omega
set_option maxRecDepth 100000 in
theorem zln {H:Type} {enc:TypeId × Value→H} {w:World} {held:Bool} {r:Reach} {b0:Nat} {v:Value} {d:DataW H} {ps:List MemPlace} (hval:Value.okWide Tryz.prog w r b0 40 v) (hd:DataW.Trod enc Tryz.prog w 0 (fun _=>true) held 40 v d ps):∃ l:List q00,RD w No (.sl 51 8 (l.map q00.enc)) v∧z6y l+1≤Rows.uptoBulk d:=by
 obtain ⟨a,n,c,rfl⟩:=okWide_slice Tryz.underlying40 hval
 obtain ⟨fuel,hf⟩:=hd
 obtain ⟨u,l,e,h3,-,h5⟩:=zrb Tryz.underlying40 zfn (by decide) q00.enc (QX (H:=H)) (fun g hg cs y hh=>zob g cs y hh) hf
 simp only [Value.cells,List.cons.injEq,and_true] at e
 subst e
 refine ⟨l,h3,?_⟩
 rcases h5 with ⟨h6,rfl⟩|⟨es,rest,h6,h7⟩
 ·simp only at h6;rw [h6];simp [z6y,Rows.uptoBulk]
 ·have h8:=zme h7
  simp only at h6
  rw [h6]
  simp only [Rows.uptoBulk];omega
theorem zwj (W:World) (O:Nat→Prop) (φ:Nat→Nat) (α:Nat→Value):Mm W O φ α [] (([]:List (Nat × Nat × List (List D))).map some) :=
 ⟨fun b e h=>by simp at h,fun a e h=>by simp at h,fun a b h=>by simp at h,fun a b e e' h=>by simp at h,fun a b e h=>by simp at h⟩
theorem zw2 {vs:List PV} {φ:Nat→Nat} {α:Nat→Value} {W W':World} (h:Ext (FI ⟨vs,[],[]⟩ φ α) W W'):Ext z0h W W' :=
 h.mono fun x hx hf=>by
  rcases hf with ⟨b,hb,_⟩|⟨a,ha,_⟩
  ·exact absurd hb (yd _)
  ·exact absurd ha (yd _)
theorem zuz:U8Extra Tryz.prog Tryz.z7r:=⟨by kernel_rfl,by kernel_rfl,by kernel_rfl,by kernel_rfl,by kernel_rfl,by kernel_rfl,by kernel_rfl⟩
theorem zjj:Rows.laid_unicode_utf8_first=Lib.firstData:=Pinned.utf8First_eq
theorem zfg:(Rows.laid_unicode_utf8_acceptRanges:DataW Unit)=Lib.acceptData:=by kernel_rfl
abbrev zlg:List (String × DataW Unit):=[("math/bits.deBruijn32tab",Rows.laid_math_bits_deBruijn32tab),("math/bits.deBruijn64tab",Rows.laid_math_bits_deBruijn64tab),("internal/strconv.uint64pow10",Rows.laid_internal_strconv_uint64pow10),("unicode/utf8.acceptRanges",Rows.laid_unicode_utf8_acceptRanges),("strconv.ErrRange",Rows.laid_strconv_ErrRange),("strconv.ErrSyntax",Rows.laid_strconv_ErrSyntax),("unicode/utf8.first",Rows.laid_unicode_utf8_first)]
theorem tabs {W:World} (hL:laidMetH Tryz.prog zlg W) (hS:W.ShapedOpen Tryz.prog):GG.p W No:=by
 have hL:laidMet Tryz.prog zlg W:=hL
 have h1:=Lib.laidMet.reads hL (n := "unicode/utf8.first") (d:=Rows.laid_unicode_utf8_first) (by simp [zlg])
 have h2:=Lib.laidMet.reads hL (n := "unicode/utf8.acceptRanges") (d:=Rows.laid_unicode_utf8_acceptRanges) (by simp [zlg])
 rw [zjj] at h1
 rw [zfg] at h2
 have h3:=cell_of_shapedOpen_int (P:=Tryz.prog) (g:=0) (t:=3) (zero := #[.int .i64 0]) hS (of_decide_eq_true (by kernel_rfl)) (by kernel_rfl) rfl (by kernel_rfl) (by kernel_rfl) Tryz.underlying3
 exact ⟨⟨utf8Tabs_of_readsT (ρ:=Tryz.z7r) (U8Types.of196 Tryz.znr) zuz h1 h2,h3⟩,fun _ _ h=>h,Nat.zero_le _⟩
def litV:DataW Unit→Value
 | .lit (.int k z) => .int k z
 | _=>Go.undef
def znw:DataW Unit→Array Value
 | .agg ds=>(ds.map litV).toArray
 | _ => #[]
noncomputable def z8g (os:Os):World :=
 let w0:=World.holding Tryz.prog os ⟨#[],#[],[]⟩
 let n:=w0.heap.size
 let put (h:Array Obj) (g:Nat) (cs:Array Value):Array Obj:=h.modify g fun
  | .cells _ t frozen => .cells cs t frozen
  | o=>o
 let h1:=put w0.heap 1 (Lib.firstTab.map fun z=>Value.int .u8 z).toArray
 let h2:=put h1 2 ((yc 16).flatMap fun i=>[Value.int .u8 (Lib.accLo i),Value.int .u8 (Lib.accHi i)]).toArray
 let h3:=put h2 3 #[.iface 253 (.pointer (some ⟨n,0,none⟩))]
 let h4:=put h3 4 #[.iface 253 (.pointer (some ⟨n+1,0,none⟩))]
 let h5:=put h4 5 (znw Rows.laid_internal_strconv_uint64pow10)
 let h6:=put h5 6 (znw Rows.laid_math_bits_deBruijn32tab)
 let h7:=put h6 7 (znw Rows.laid_math_bits_deBruijn64tab)
 { w0 with heap:=(h7.push (.cells #[.string ⟨#[105,110,118,97,108,105,100,32,115,121,110,116,97,120]⟩] 255 (0,0))).push (.cells #[.string ⟨#[118,97,108,117,101,32,111,117,116,32,111,102,32,114,97,110,103,101]⟩] 255 (0,0)) }
abbrev zyv:List (String × DataW Unit):=[("math/bits.deBruijn32tab",Rows.laid_math_bits_deBruijn32tab),("math/bits.deBruijn64tab",Rows.laid_math_bits_deBruijn64tab),("internal/strconv.uint64pow10",Rows.laid_internal_strconv_uint64pow10),("unicode/utf8.acceptRanges",Lib.acceptData),("strconv.ErrRange",Rows.laid_strconv_ErrRange),("strconv.ErrSyntax",Rows.laid_strconv_ErrSyntax),("unicode/utf8.first",Lib.firstData)]
theorem piece (os:Os) (args:Array Value):LaidIn Tryz.prog ((z8g os).forCall (fun _ _=>0) ⟨#[],args,[]⟩).memory zyv (yc 64) :=
 LaidIn.of_run (yc 64) 8 (by kernel_rfl) (by kernel_rfl) (by kernel_rfl) (by kernel_rfl)
theorem zqs (os:Os) (args:Array Value):laidMet Tryz.prog zlg ((z8g os).forCall (fun _ _=>0) ⟨#[],args,[]⟩).memory:=by
 have:=(piece os args).met
 unfold zlg
 rw [zjj,zfg]
 exact this
theorem zz5 (W:World):Bd No W:=fun _ h=>h.elim
theorem zpq {P:Program} {w:World} {r:Reach} {base:Nat} {t:TypeId} {v:Value} {fs:Array Field} (ht:P.underlying t=some (.struct fs)) (h:Value.okWide P w r base t v):∃ cs:List Value,v = .agg cs.toArray:=by
 unfold Value.okWide at h
 rw [ht] at h
 obtain ⟨cs,h1,_⟩:=h
 exact ⟨cs.toList,by simp [h1]⟩
end Go.Proofs.YtmmgdladipbedaaGreatDoor
