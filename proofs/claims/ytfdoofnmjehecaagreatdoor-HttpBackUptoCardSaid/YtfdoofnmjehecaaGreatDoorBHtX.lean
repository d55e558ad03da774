import Derived.Test.YtfdoofnmjehecaaGreatDoorCards
import Derived.Test.YtfdoofnmjehecaaGreatDoorTie
import Derived.Test.YtfdoofnmjehecaaGreatDoorBHtG
import Derived.Test.YtfdoofnmjehecaaGreatDoorBShI
import Derived.Test.YtfdoofnmjehecaaGreatDoorBShP
import Derived.WalkKit
import Derived.ProofKit
import Derived.OpenShut
import Derived.Deep.DeepHandedRow
import Derived.Deep.DeepLaidRun
import Derived.Deep.DeepWitnessRowRef
import Derived.Lib.LaidU8T
import Derived.Lib.LaidTab
import Derived.Lib.LaidIn
import Derived.Stop.LaidErr
import Derived.PinnedBridge
import Derived.Shelf.Vars
set_option linter.all false
namespace Go.Proofs.YtfdoofnmjehecaaGreatDoor
open _root_.List renaming map_cons → ya, map_nil → yb, range → yc, toArray → yd
open _root_.Nat renaming not_lt_zero → ye
open Go.Lk Go.Pe Go.Sen Go.ChangeShapes Go.WideShapes Go.ChangeAt Go.RowKit
open Go.ChangeMaps (open_string shut_string)
theorem own:ownKnob Tryz.prog.godebug=none:=by kernel_rfl
theorem laidOut:laidOutB Tryz.prog=true:=by kernel_rfl
theorem rowed:mapsRowed Tryz.prog=true:=by kernel_rfl
theorem zz023:true=Tryz.prog.looks []:=by kernel_rfl
theorem goes0:Tryz.prog.funcs.any Func.goes=false:=by kernel_rfl
theorem main0:Tryz.prog.mainIs=some (true, "bc81eb19e4f554f8384fa3bca87139c0af04db129f2d8a0c7d2b740d0e0bb8e7".toList):=by kernel_rfl
theorem zxy (f:FuncId):Tryz.prog.goes f=false:=by
 unfold Program.goes
 rw [goes0,Bool.and_false,Bool.or_false,List.any_eq_false]
 intro g _
 cases hg:Tryz.prog.funcs[g]? with
 | none=>simp
 | some fn =>
  have h:=Array.any_eq_false.1 goes0
  obtain ⟨hi,he⟩:=Array.getElem?_eq_some_iff.1 hg
  have:=h g hi
  rw [he] at this
  simpa using this
theorem zqj {c:OpenClaim} (h:c.start = .entering):false=c.goesBy Tryz.prog:=by
 unfold OpenClaim.goesBy Program.goesAt Program.goesFrom
 rw [h]
 cases Tryz.prog.funcNamed c.func with
 | none=>rfl
 | some f=>simp [zxy]
theorem z7i:Tryz.prog.cellsOf 3=1:=by kernel_rfl
theorem z2l:Tryz.prog.cellsOf 9=1:=by kernel_rfl
theorem zti:Tryz.prog.cellsOf 4=1:=by kernel_rfl
theorem zpt:Tryz.prog.cellsOf 26=1:=by kernel_rfl
theorem zat:Tryz.prog.cellsOf 22=1:=by kernel_rfl
theorem zpw:Tryz.prog.cellsOf 44=1:=by kernel_rfl
theorem zpu:Tryz.prog.cellsOf 38=1:=by kernel_rfl
theorem zfk:Tryz.prog.cellsOf 189=2:=by kernel_rfl
theorem zfj:Tryz.prog.cellsOf 123=4:=by kernel_rfl
theorem zi2:Tryz.prog.cellsOf 37=11:=by kernel_rfl
theorem zpv:Tryz.prog.cellsOf 40=25:=by kernel_rfl
def QS {H:Type} (s:Z) (d:DataW H):Prop:=s.length+1≤Rows.uptoBulk d
theorem zpg {H:Type}:∀ {l:List Z} {ds:List (DataW H)},Q2 QS l ds→kys l≤Rows.uptoBulkAll ds
 | [],[],_=>by simp [kys]
 | x::l,d::ds,h=>by
  obtain ⟨h3,h4⟩:=h
  have h7:=zpg h4
  simp only [QS] at h3
  rw [z4p]
  simp only [Rows.uptoBulkAll]
  omega
 | [],_::_,h=>h.elim
 | _::_,[],h=>h.elim
def Q189 {H:Type} (x:q02) (d:DataW H):Prop:=x.sz+1≤Rows.uptoBulk d
def Q123 {H:Type} (x:q07) (d:DataW H):Prop:=x.sz+1≤Rows.uptoBulk d
theorem zhw {H:Type}:∀ {l:List q02} {ds:List (DataW H)},Q2 Q189 l ds→zct l≤Rows.uptoBulkAll ds
 | [],[],_=>by simp [zct]
 | x::l,d::ds,h=>by
  obtain ⟨h3,h4⟩:=h
  have h7:=zhw h4
  simp only [Q189] at h3
  rw [zb2]
  simp only [Rows.uptoBulkAll]
  omega
 | [],_::_,h=>h.elim
 | _::_,[],h=>h.elim
theorem zhv {H:Type}:∀ {l:List q07} {ds:List (DataW H)},Q2 Q123 l ds→zk8 l≤Rows.uptoBulkAll ds
 | [],[],_=>by simp [zk8]
 | x::l,d::ds,h=>by
  obtain ⟨h3,h4⟩:=h
  have h7:=zhv h4
  simp only [Q123] at h3
  rw [zbo]
  simp only [Rows.uptoBulkAll]
  omega
 | [],_::_,h=>h.elim
 | _::_,[],h=>h.elim
theorem len_2 {α:Type} {l:List α} (h:l.length=2):∃ a0 a1,l=[a0,a1]:=by
 match l,h with
 | [a0,a1],_=>exact ⟨a0,a1,rfl⟩
theorem len_4 {α:Type} {l:List α} (h:l.length=4):∃ a0 a1 a2 a3,l=[a0,a1,a2,a3]:=by
 match l,h with
 | [a0,a1,a2,a3],_=>exact ⟨a0,a1,a2,a3,rfl⟩
theorem zwu {α:Type} {l:List α} (h:l.length=11):∃ a0 a1 a2 a3 a4 a5 a6 a7 a8 a9 a10,l=[a0,a1,a2,a3,a4,a5,a6,a7,a8,a9,a10]:=by
 match l,h with
 | [a0,a1,a2,a3,a4,a5,a6,a7,a8,a9,a10],_=>exact ⟨a0,a1,a2,a3,a4,a5,a6,a7,a8,a9,a10,rfl⟩
theorem zz01y {α:Type} {l:List α} (h:l.length=15):∃ a0 a1 a2 a3 a4 a5 a6 a7 a8 a9 a10 a11 a12 a13 a14,l=[a0,a1,a2,a3,a4,a5,a6,a7,a8,a9,a10,a11,a12,a13,a14]:=by
 match l,h with
 | [a0,a1,a2,a3,a4,a5,a6,a7,a8,a9,a10,a11,a12,a13,a14],_=>exact ⟨a0,a1,a2,a3,a4,a5,a6,a7,a8,a9,a10,a11,a12,a13,a14,rfl⟩
theorem zz020 {α:Type} {l:List α} (h:l.length=25):∃ a0 a1 a2 a3 a4 a5 a6 a7 a8 a9 a10 a11 a12 a13 a14 a15 a16 a17 a18 a19 a20 a21 a22 a23 a24,l=[a0,a1,a2,a3,a4,a5,a6,a7,a8,a9,a10,a11,a12,a13,a14,a15,a16,a17,a18,a19,a20,a21,a22,a23,a24]:=by
 match l,h with
 | [a0,a1,a2,a3,a4,a5,a6,a7,a8,a9,a10,a11,a12,a13,a14,a15,a16,a17,a18,a19,a20,a21,a22,a23,a24],_=>exact ⟨a0,a1,a2,a3,a4,a5,a6,a7,a8,a9,a10,a11,a12,a13,a14,a15,a16,a17,a18,a19,a20,a21,a22,a23,a24,rfl⟩
theorem zkb {w:World} {O:Nat→Prop}:∀ {a b:List D} {xs ys:List Value},RDs w O a xs→RDs w O b ys→RDs w O (a++b) (xs++ys)
 | [],b,xs,ys,h,k=>by cases h;exact k
 | d::a,b,xs,ys,h,k=>by
  obtain ⟨v,vs,rfl,h1,h2⟩:=h
  exact ⟨v,vs++ys,rfl,h1,zkb h2 k⟩
theorem zbg {H:Type} {enc:TypeId × Value→H} {w:World} {held:Bool} {n:Nat} {cs:List Value} {y:DataW H × List MemPlace} (h:DataW.trod enc Tryz.prog w 0 (fun _=>true) held n 22 cs=some y):∃ v,∃ l:List Z,cs=[v]∧RD w No (.sl 9 1 (l.map eS)) v∧kys l+1≤Rows.uptoBulk y.1:=by
 obtain ⟨v,l,e,h3,-,h5⟩:=zzd Tryz.underlying22 z2l (by decide) eS (QS (H:=H)) (fun g hg cs y hh=>by
  obtain ⟨s,e,rfl,_⟩:=z5c Tryz.underlying9 hh
  exact ⟨s,⟨_,_,e,rfl,rfl⟩,by simp [QS,Rows.uptoBulk]⟩) h
 refine ⟨v,l,e,h3,?_⟩
 rcases h5 with ⟨h6,rfl⟩|⟨es,rest,h6,h7⟩
 ·rw [h6];simp [kys,Rows.uptoBulk]
 ·have h8:=zpg h7
  rw [h6]
  simp only [Rows.uptoBulk];omega
theorem zci {n:Int} (h:(Lit.int .i64 n).wf=true):I64 n:=by
 unfold I64
 simp [Lit.wf,IntKind.min,IntKind.max,IntKind.signed,IntKind.bits] at h
 omega
theorem zv1 {H:Type} {enc:TypeId × Value→H} {w:World} {held:Bool} (fuel:Nat) (cs:List Value) (y:DataW H × List MemPlace) (h:DataW.trod enc Tryz.prog w 0 (fun _=>true) held fuel 189 cs=some y):∃ x:q02,RDs w No x.enc cs∧x.sz+1≤Rows.uptoBulk y.1:=by
 obtain ⟨xs,n,rfl,rfl,hl,hx,hf⟩:=DataW.trod_struct Tryz.underlying189 h
 rw [zfk] at hl
 obtain ⟨c0,c1,rfl⟩:=len_2 hl
 obtain ⟨x0,x1,rfl⟩:=len_2 (show xs.length=2 from hx)
 have g0:DataW.trod enc Tryz.prog w 0 (fun _=>true) held n 9 (([c0,c1].drop 0).take (Tryz.prog.cellsOf 9))=some x0:=hf 0 _ rfl
 rw [z2l] at g0
 have f0:DataW.trod enc Tryz.prog w 0 (fun _=>true) held n 9 [c0]=some x0:=g0
 have g1:DataW.trod enc Tryz.prog w 0 (fun _=>true) held n 22 (([c0,c1].drop 1).take (Tryz.prog.cellsOf 22))=some x1:=hf 1 _ rfl
 rw [zat] at g1
 have f1:DataW.trod enc Tryz.prog w 0 (fun _=>true) held n 22 [c1]=some x1:=g1
 obtain ⟨t0,e0,rfl,w0⟩:=z5c Tryz.underlying9 f0
 obtain ⟨v1,l1,e1,h1,hb1⟩:=zbg f1
 simp only [List.cons.injEq,and_true] at e0 e1
 subst e0 e1
 refine ⟨⟨t0,l1⟩,?_,?_⟩
 ·exact ⟨_,_,rfl,rfl,⟨_,_,rfl,h1,rfl⟩⟩
 ·simp only [q02.sz,Rows.uptoBulk,Rows.uptoBulkAll,ya,yb]
  omega
theorem zv0 {H:Type} {enc:TypeId × Value→H} {w:World} {held:Bool} (fuel:Nat) (cs:List Value) (y:DataW H × List MemPlace) (h:DataW.trod enc Tryz.prog w 0 (fun _=>true) held fuel 123 cs=some y):∃ x:q07,RDs w No x.enc cs∧x.sz+1≤Rows.uptoBulk y.1:=by
 obtain ⟨xs,n,rfl,rfl,hl,hx,hf⟩:=DataW.trod_struct Tryz.underlying123 h
 rw [zfj] at hl
 obtain ⟨c0,c1,c2,c3,rfl⟩:=len_4 hl
 obtain ⟨x0,x1,x2,x3,rfl⟩:=len_4 (show xs.length=4 from hx)
 have g0:DataW.trod enc Tryz.prog w 0 (fun _=>true) held n 9 (([c0,c1,c2,c3].drop 0).take (Tryz.prog.cellsOf 9))=some x0:=hf 0 _ rfl
 rw [z2l] at g0
 have f0:DataW.trod enc Tryz.prog w 0 (fun _=>true) held n 9 [c0]=some x0:=g0
 have g1:DataW.trod enc Tryz.prog w 0 (fun _=>true) held n 9 (([c0,c1,c2,c3].drop 1).take (Tryz.prog.cellsOf 9))=some x1:=hf 1 _ rfl
 rw [z2l] at g1
 have f1:DataW.trod enc Tryz.prog w 0 (fun _=>true) held n 9 [c1]=some x1:=g1
 have g2:DataW.trod enc Tryz.prog w 0 (fun _=>true) held n 9 (([c0,c1,c2,c3].drop 2).take (Tryz.prog.cellsOf 9))=some x2:=hf 2 _ rfl
 rw [z2l] at g2
 have f2:DataW.trod enc Tryz.prog w 0 (fun _=>true) held n 9 [c2]=some x2:=g2
 have g3:DataW.trod enc Tryz.prog w 0 (fun _=>true) held n 44 (([c0,c1,c2,c3].drop 3).take (Tryz.prog.cellsOf 44))=some x3:=hf 3 _ rfl
 rw [zpw] at g3
 have f3:DataW.trod enc Tryz.prog w 0 (fun _=>true) held n 44 [c3]=some x3:=g3
 obtain ⟨t0,e0,rfl,w0⟩:=z5c Tryz.underlying9 f0
 obtain ⟨t1,e1,rfl,w1⟩:=z5c Tryz.underlying9 f1
 obtain ⟨t2,e2,rfl,w2⟩:=z5c Tryz.underlying9 f2
 obtain ⟨v3,l3,e3,h3,h3_4,h3_5⟩:=zzd Tryz.underlying44 zfk (by decide) q02.enc (Q189 (H:=H)) (fun g hg cs y hh=>zv1 g cs y hh) f3
 have hb3:zct l3+1≤Rows.uptoBulk x3.1:=by
  rcases h3_5 with ⟨h6,rfl⟩|⟨es,rest,h6,h7⟩
  ·rw [h6];simp [zct,Rows.uptoBulk]
  ·have h8:=zhw h7
   rw [h6]
   simp only [Rows.uptoBulk];omega
 simp only [List.cons.injEq,and_true] at e0 e1 e2 e3
 subst e0 e1 e2 e3
 refine ⟨⟨t0,t1,t2,l3⟩,?_,?_⟩
 ·exact ⟨_,_,rfl,rfl,⟨_,_,rfl,rfl,⟨_,_,rfl,rfl,⟨_,_,rfl,h3,rfl⟩⟩⟩⟩
 ·simp only [q07.sz,Rows.uptoBulk,Rows.uptoBulkAll,ya,yb]
  omega
theorem zz5 {H:Type} {enc:TypeId × Value→H} {w:World} {held:Bool} (fuel:Nat) (cs:List Value) (y:DataW H × List MemPlace) (h:DataW.trod enc Tryz.prog w 0 (fun _=>true) held fuel 37 cs=some y):∃ x:q01,RDs w No x.enc cs∧x.sz+1≤Rows.uptoBulk y.1∧(I64 x.zc2∧I64 x.zc1∧I64 x.z0e):=by
 obtain ⟨xs,n,rfl,rfl,hl,hx,hf⟩:=DataW.trod_struct Tryz.underlying37 h
 rw [zi2] at hl
 obtain ⟨c0,c1,c2,c3,c4,c5,c6,c7,c8,c9,c10,rfl⟩:=zwu hl
 obtain ⟨x0,x1,x2,x3,x4,x5,x6,x7,x8,x9,x10,rfl⟩:=zwu (show xs.length=11 from hx)
 have g0:DataW.trod enc Tryz.prog w 0 (fun _=>true) held n 9 (([c0,c1,c2,c3,c4,c5,c6,c7,c8,c9,c10].drop 0).take (Tryz.prog.cellsOf 9))=some x0:=hf 0 _ rfl
 rw [z2l] at g0
 have f0:DataW.trod enc Tryz.prog w 0 (fun _=>true) held n 9 [c0]=some x0:=g0
 have g1:DataW.trod enc Tryz.prog w 0 (fun _=>true) held n 9 (([c0,c1,c2,c3,c4,c5,c6,c7,c8,c9,c10].drop 1).take (Tryz.prog.cellsOf 9))=some x1:=hf 1 _ rfl
 rw [z2l] at g1
 have f1:DataW.trod enc Tryz.prog w 0 (fun _=>true) held n 9 [c1]=some x1:=g1
 have g2:DataW.trod enc Tryz.prog w 0 (fun _=>true) held n 9 (([c0,c1,c2,c3,c4,c5,c6,c7,c8,c9,c10].drop 2).take (Tryz.prog.cellsOf 9))=some x2:=hf 2 _ rfl
 rw [z2l] at g2
 have f2:DataW.trod enc Tryz.prog w 0 (fun _=>true) held n 9 [c2]=some x2:=g2
 have g3:DataW.trod enc Tryz.prog w 0 (fun _=>true) held n 9 (([c0,c1,c2,c3,c4,c5,c6,c7,c8,c9,c10].drop 3).take (Tryz.prog.cellsOf 9))=some x3:=hf 3 _ rfl
 rw [z2l] at g3
 have f3:DataW.trod enc Tryz.prog w 0 (fun _=>true) held n 9 [c3]=some x3:=g3
 have g4:DataW.trod enc Tryz.prog w 0 (fun _=>true) held n 9 (([c0,c1,c2,c3,c4,c5,c6,c7,c8,c9,c10].drop 4).take (Tryz.prog.cellsOf 9))=some x4:=hf 4 _ rfl
 rw [z2l] at g4
 have f4:DataW.trod enc Tryz.prog w 0 (fun _=>true) held n 9 [c4]=some x4:=g4
 have g5:DataW.trod enc Tryz.prog w 0 (fun _=>true) held n 9 (([c0,c1,c2,c3,c4,c5,c6,c7,c8,c9,c10].drop 5).take (Tryz.prog.cellsOf 9))=some x5:=hf 5 _ rfl
 rw [z2l] at g5
 have f5:DataW.trod enc Tryz.prog w 0 (fun _=>true) held n 9 [c5]=some x5:=g5
 have g6:DataW.trod enc Tryz.prog w 0 (fun _=>true) held n 3 (([c0,c1,c2,c3,c4,c5,c6,c7,c8,c9,c10].drop 6).take (Tryz.prog.cellsOf 3))=some x6:=hf 6 _ rfl
 rw [z7i] at g6
 have f6:DataW.trod enc Tryz.prog w 0 (fun _=>true) held n 3 [c6]=some x6:=g6
 have g7:DataW.trod enc Tryz.prog w 0 (fun _=>true) held n 3 (([c0,c1,c2,c3,c4,c5,c6,c7,c8,c9,c10].drop 7).take (Tryz.prog.cellsOf 3))=some x7:=hf 7 _ rfl
 rw [z7i] at g7
 have f7:DataW.trod enc Tryz.prog w 0 (fun _=>true) held n 3 [c7]=some x7:=g7
 have g8:DataW.trod enc Tryz.prog w 0 (fun _=>true) held n 3 (([c0,c1,c2,c3,c4,c5,c6,c7,c8,c9,c10].drop 8).take (Tryz.prog.cellsOf 3))=some x8:=hf 8 _ rfl
 rw [z7i] at g8
 have f8:DataW.trod enc Tryz.prog w 0 (fun _=>true) held n 3 [c8]=some x8:=g8
 have g9:DataW.trod enc Tryz.prog w 0 (fun _=>true) held n 22 (([c0,c1,c2,c3,c4,c5,c6,c7,c8,c9,c10].drop 9).take (Tryz.prog.cellsOf 22))=some x9:=hf 9 _ rfl
 rw [zat] at g9
 have f9:DataW.trod enc Tryz.prog w 0 (fun _=>true) held n 22 [c9]=some x9:=g9
 have g10:DataW.trod enc Tryz.prog w 0 (fun _=>true) held n 22 (([c0,c1,c2,c3,c4,c5,c6,c7,c8,c9,c10].drop 10).take (Tryz.prog.cellsOf 22))=some x10:=hf 10 _ rfl
 rw [zat] at g10
 have f10:DataW.trod enc Tryz.prog w 0 (fun _=>true) held n 22 [c10]=some x10:=g10
 obtain ⟨t0,e0,rfl,w0⟩:=z5c Tryz.underlying9 f0
 obtain ⟨t1,e1,rfl,w1⟩:=z5c Tryz.underlying9 f1
 obtain ⟨t2,e2,rfl,w2⟩:=z5c Tryz.underlying9 f2
 obtain ⟨t3,e3,rfl,w3⟩:=z5c Tryz.underlying9 f3
 obtain ⟨t4,e4,rfl,w4⟩:=z5c Tryz.underlying9 f4
 obtain ⟨t5,e5,rfl,w5⟩:=z5c Tryz.underlying9 f5
 obtain ⟨k6,e6,rfl,w6⟩:=DataW.trod_int Tryz.underlying3 f6
 obtain ⟨k7,e7,rfl,w7⟩:=DataW.trod_int Tryz.underlying3 f7
 obtain ⟨k8,e8,rfl,w8⟩:=DataW.trod_int Tryz.underlying3 f8
 obtain ⟨v9,l9,e9,h9,hb9⟩:=zbg f9
 obtain ⟨v10,l10,e10,h10,hb10⟩:=zbg f10
 simp only [List.cons.injEq,and_true] at e0 e1 e2 e3 e4 e5 e6 e7 e8 e9 e10
 subst e0 e1 e2 e3 e4 e5 e6 e7 e8 e9 e10
 have i6:=zci w6
 have i7:=zci w7
 have i8:=zci w8
 refine ⟨⟨t0,t1,t2,t3,t4,t5,k6,k7,k8,l9,l10⟩,?_,?_,⟨i6,i7,i8⟩⟩
 ·exact ⟨_,_,rfl,rfl,⟨_,_,rfl,rfl,⟨_,_,rfl,rfl,⟨_,_,rfl,rfl,⟨_,_,rfl,rfl,⟨_,_,rfl,rfl,⟨_,_,rfl,rfl,⟨_,_,rfl,rfl,⟨_,_,rfl,rfl,⟨_,_,rfl,h9,⟨_,_,rfl,h10,rfl⟩⟩⟩⟩⟩⟩⟩⟩⟩⟩⟩
 ·simp only [q01.sz,Rows.uptoBulk,Rows.uptoBulkAll,ya,yb]
  omega
theorem zz6 {H:Type} {enc:TypeId × Value→H} {w:World} {held:Bool} (fuel:Nat) (cs:List Value) (y:DataW H × List MemPlace) (h:DataW.trod enc Tryz.prog w 0 (fun _=>true) held fuel 40 cs=some y):∃ x:q06,RDs w No x.enc cs∧x.sz+1≤Rows.uptoBulk y.1∧((I64 x.z1l∧I64 x.z10∧I64 x.z0i∧I64 x.z0e∧I64 x.z1p)∧I64 x.zl.zc2∧I64 x.zl.zc1∧I64 x.zl.z0e):=by
 obtain ⟨xs,n,rfl,rfl,hl,hx,hf⟩:=DataW.trod_struct Tryz.underlying40 h
 rw [zpv] at hl
 obtain ⟨c0,c1,c2,c3,c4,c5,c6,c7,c8,c9,c10,c11,c12,c13,c14,c15,c16,c17,c18,c19,c20,c21,c22,c23,c24,rfl⟩:=zz020 hl
 obtain ⟨x0,x1,x2,x3,x4,x5,x6,x7,x8,x9,x10,x11,x12,x13,x14,rfl⟩:=zz01y (show xs.length=15 from hx)
 have g0:DataW.trod enc Tryz.prog w 0 (fun _=>true) held n 3 (([c0,c1,c2,c3,c4,c5,c6,c7,c8,c9,c10,c11,c12,c13,c14,c15,c16,c17,c18,c19,c20,c21,c22,c23,c24].drop 0).take (Tryz.prog.cellsOf 3))=some x0:=hf 0 _ rfl
 rw [z7i] at g0
 have f0:DataW.trod enc Tryz.prog w 0 (fun _=>true) held n 3 [c0]=some x0:=g0
 have g1:DataW.trod enc Tryz.prog w 0 (fun _=>true) held n 26 (([c0,c1,c2,c3,c4,c5,c6,c7,c8,c9,c10,c11,c12,c13,c14,c15,c16,c17,c18,c19,c20,c21,c22,c23,c24].drop 1).take (Tryz.prog.cellsOf 26))=some x1:=hf 1 _ rfl
 rw [zpt] at g1
 have f1:DataW.trod enc Tryz.prog w 0 (fun _=>true) held n 26 [c1]=some x1:=g1
 have g2:DataW.trod enc Tryz.prog w 0 (fun _=>true) held n 9 (([c0,c1,c2,c3,c4,c5,c6,c7,c8,c9,c10,c11,c12,c13,c14,c15,c16,c17,c18,c19,c20,c21,c22,c23,c24].drop 2).take (Tryz.prog.cellsOf 9))=some x2:=hf 2 _ rfl
 rw [z2l] at g2
 have f2:DataW.trod enc Tryz.prog w 0 (fun _=>true) held n 9 [c2]=some x2:=g2
 have g3:DataW.trod enc Tryz.prog w 0 (fun _=>true) held n 9 (([c0,c1,c2,c3,c4,c5,c6,c7,c8,c9,c10,c11,c12,c13,c14,c15,c16,c17,c18,c19,c20,c21,c22,c23,c24].drop 3).take (Tryz.prog.cellsOf 9))=some x3:=hf 3 _ rfl
 rw [z2l] at g3
 have f3:DataW.trod enc Tryz.prog w 0 (fun _=>true) held n 9 [c3]=some x3:=g3
 have g4:DataW.trod enc Tryz.prog w 0 (fun _=>true) held n 9 (([c0,c1,c2,c3,c4,c5,c6,c7,c8,c9,c10,c11,c12,c13,c14,c15,c16,c17,c18,c19,c20,c21,c22,c23,c24].drop 4).take (Tryz.prog.cellsOf 9))=some x4:=hf 4 _ rfl
 rw [z2l] at g4
 have f4:DataW.trod enc Tryz.prog w 0 (fun _=>true) held n 9 [c4]=some x4:=g4
 have g5:DataW.trod enc Tryz.prog w 0 (fun _=>true) held n 9 (([c0,c1,c2,c3,c4,c5,c6,c7,c8,c9,c10,c11,c12,c13,c14,c15,c16,c17,c18,c19,c20,c21,c22,c23,c24].drop 5).take (Tryz.prog.cellsOf 9))=some x5:=hf 5 _ rfl
 rw [z2l] at g5
 have f5:DataW.trod enc Tryz.prog w 0 (fun _=>true) held n 9 [c5]=some x5:=g5
 have g6:DataW.trod enc Tryz.prog w 0 (fun _=>true) held n 9 (([c0,c1,c2,c3,c4,c5,c6,c7,c8,c9,c10,c11,c12,c13,c14,c15,c16,c17,c18,c19,c20,c21,c22,c23,c24].drop 6).take (Tryz.prog.cellsOf 9))=some x6:=hf 6 _ rfl
 rw [z2l] at g6
 have f6:DataW.trod enc Tryz.prog w 0 (fun _=>true) held n 9 [c6]=some x6:=g6
 have g7:DataW.trod enc Tryz.prog w 0 (fun _=>true) held n 9 (([c0,c1,c2,c3,c4,c5,c6,c7,c8,c9,c10,c11,c12,c13,c14,c15,c16,c17,c18,c19,c20,c21,c22,c23,c24].drop 7).take (Tryz.prog.cellsOf 9))=some x7:=hf 7 _ rfl
 rw [z2l] at g7
 have f7:DataW.trod enc Tryz.prog w 0 (fun _=>true) held n 9 [c7]=some x7:=g7
 have g8:DataW.trod enc Tryz.prog w 0 (fun _=>true) held n 22 (([c0,c1,c2,c3,c4,c5,c6,c7,c8,c9,c10,c11,c12,c13,c14,c15,c16,c17,c18,c19,c20,c21,c22,c23,c24].drop 8).take (Tryz.prog.cellsOf 22))=some x8:=hf 8 _ rfl
 rw [zat] at g8
 have f8:DataW.trod enc Tryz.prog w 0 (fun _=>true) held n 22 [c8]=some x8:=g8
 have g9:DataW.trod enc Tryz.prog w 0 (fun _=>true) held n 3 (([c0,c1,c2,c3,c4,c5,c6,c7,c8,c9,c10,c11,c12,c13,c14,c15,c16,c17,c18,c19,c20,c21,c22,c23,c24].drop 9).take (Tryz.prog.cellsOf 3))=some x9:=hf 9 _ rfl
 rw [z7i] at g9
 have f9:DataW.trod enc Tryz.prog w 0 (fun _=>true) held n 3 [c9]=some x9:=g9
 have g10:DataW.trod enc Tryz.prog w 0 (fun _=>true) held n 3 (([c0,c1,c2,c3,c4,c5,c6,c7,c8,c9,c10,c11,c12,c13,c14,c15,c16,c17,c18,c19,c20,c21,c22,c23,c24].drop 10).take (Tryz.prog.cellsOf 3))=some x10:=hf 10 _ rfl
 rw [z7i] at g10
 have f10:DataW.trod enc Tryz.prog w 0 (fun _=>true) held n 3 [c10]=some x10:=g10
 have g11:DataW.trod enc Tryz.prog w 0 (fun _=>true) held n 3 (([c0,c1,c2,c3,c4,c5,c6,c7,c8,c9,c10,c11,c12,c13,c14,c15,c16,c17,c18,c19,c20,c21,c22,c23,c24].drop 11).take (Tryz.prog.cellsOf 3))=some x11:=hf 11 _ rfl
 rw [z7i] at g11
 have f11:DataW.trod enc Tryz.prog w 0 (fun _=>true) held n 3 [c11]=some x11:=g11
 have g12:DataW.trod enc Tryz.prog w 0 (fun _=>true) held n 4 (([c0,c1,c2,c3,c4,c5,c6,c7,c8,c9,c10,c11,c12,c13,c14,c15,c16,c17,c18,c19,c20,c21,c22,c23,c24].drop 12).take (Tryz.prog.cellsOf 4))=some x12:=hf 12 _ rfl
 rw [zti] at g12
 have f12:DataW.trod enc Tryz.prog w 0 (fun _=>true) held n 4 [c12]=some x12:=g12
 have g13:DataW.trod enc Tryz.prog w 0 (fun _=>true) held n 37 (([c0,c1,c2,c3,c4,c5,c6,c7,c8,c9,c10,c11,c12,c13,c14,c15,c16,c17,c18,c19,c20,c21,c22,c23,c24].drop 13).take (Tryz.prog.cellsOf 37))=some x13:=hf 13 _ rfl
 rw [zi2] at g13
 have f13:DataW.trod enc Tryz.prog w 0 (fun _=>true) held n 37 [c13,c14,c15,c16,c17,c18,c19,c20,c21,c22,c23]=some x13:=g13
 have g14:DataW.trod enc Tryz.prog w 0 (fun _=>true) held n 38 (([c0,c1,c2,c3,c4,c5,c6,c7,c8,c9,c10,c11,c12,c13,c14,c15,c16,c17,c18,c19,c20,c21,c22,c23,c24].drop 24).take (Tryz.prog.cellsOf 38))=some x14:=hf 14 _ rfl
 rw [zpu] at g14
 have f14:DataW.trod enc Tryz.prog w 0 (fun _=>true) held n 38 [c24]=some x14:=g14
 obtain ⟨k0,e0,rfl,w0⟩:=DataW.trod_int Tryz.underlying3 f0
 obtain ⟨k1,e1,rfl,w1⟩:=DataW.trod_int Tryz.underlying26 f1
 obtain ⟨t2,e2,rfl,w2⟩:=z5c Tryz.underlying9 f2
 obtain ⟨t3,e3,rfl,w3⟩:=z5c Tryz.underlying9 f3
 obtain ⟨t4,e4,rfl,w4⟩:=z5c Tryz.underlying9 f4
 obtain ⟨t5,e5,rfl,w5⟩:=z5c Tryz.underlying9 f5
 obtain ⟨t6,e6,rfl,w6⟩:=z5c Tryz.underlying9 f6
 obtain ⟨t7,e7,rfl,w7⟩:=z5c Tryz.underlying9 f7
 obtain ⟨v8,l8,e8,h8,hb8⟩:=zbg f8
 obtain ⟨k9,e9,rfl,w9⟩:=DataW.trod_int Tryz.underlying3 f9
 obtain ⟨k10,e10,rfl,w10⟩:=DataW.trod_int Tryz.underlying3 f10
 obtain ⟨k11,e11,rfl,w11⟩:=DataW.trod_int Tryz.underlying3 f11
 obtain ⟨b12,e12,rfl⟩:=DataW.trod_bool Tryz.underlying4 f12
 obtain ⟨s13,e13,z13,y13⟩:=zz5 n _ _ f13
 obtain ⟨v14,l14,e14,h14,h14_4,h14_5⟩:=zzd Tryz.underlying38 zfj (by decide) q07.enc (Q123 (H:=H)) (fun g hg cs y hh=>zv0 g cs y hh) f14
 have hb14:zk8 l14+1≤Rows.uptoBulk x14.1:=by
  rcases h14_5 with ⟨h6,rfl⟩|⟨es,rest,h6,h7⟩
  ·rw [h6];simp [zk8,Rows.uptoBulk]
  ·have h8:=zhv h7
   rw [h6]
   simp only [Rows.uptoBulk];omega
 simp only [List.cons.injEq,and_true] at e0 e1 e2 e3 e4 e5 e6 e7 e8 e9 e10 e11 e12 e14
 subst e0 e1 e2 e3 e4 e5 e6 e7 e8 e9 e10 e11 e12 e14
 have i0:=zci w0
 have i1:=zci w1
 have i9:=zci w9
 have i10:=zci w10
 have i11:=zci w11
 refine ⟨⟨k0,k1,t2,t3,t4,t5,t6,t7,l8,k9,k10,k11,b12,s13,l14⟩,?_,?_,⟨⟨i0,i1,i9,i10,i11⟩,y13⟩⟩
 ·have p0:RDs w No (([D.int .i64 k0,D.int .i64 k1,D.str t2,D.str t3,D.str t4,D.str t5,D.str t6,D.str t7,D.sl 9 1 (l8.map eS),D.int .i64 k9,D.int .i64 k10,D.int .i64 k11,D.bool b12]++s13.enc)++[D.sl 123 4 (l14.map q07.enc)]) (([.int .i64 k0,.int .i64 k1,.string ⟨yd t2⟩,.string ⟨yd t3⟩,.string ⟨yd t4⟩,.string ⟨yd t5⟩,.string ⟨yd t6⟩,.string ⟨yd t7⟩,c8,.int .i64 k9,.int .i64 k10,.int .i64 k11,.bool b12]++[c13,c14,c15,c16,c17,c18,c19,c20,c21,c22,c23])++[c24]):=(zkb (zkb (⟨_,_,rfl,rfl,⟨_,_,rfl,rfl,⟨_,_,rfl,rfl,⟨_,_,rfl,rfl,⟨_,_,rfl,rfl,⟨_,_,rfl,rfl,⟨_,_,rfl,rfl,⟨_,_,rfl,rfl,⟨_,_,rfl,h8,⟨_,_,rfl,rfl,⟨_,_,rfl,rfl,⟨_,_,rfl,rfl,⟨_,_,rfl,rfl,rfl⟩⟩⟩⟩⟩⟩⟩⟩⟩⟩⟩⟩⟩) e13) (⟨_,_,rfl,h14,rfl⟩))
  exact p0
 ·simp only [q06.sz,Rows.uptoBulk,Rows.uptoBulkAll,ya,yb]
  omega
theorem zz015 {w:World} {O:Nat→Prop} {φ:Nat→Nat} {α:Nat→Value} {x:q06} {cs:List Value} (h:RDs w O x.enc cs):VRs w O φ α x.v cs:=by
 rw [q06.z29] at h
 exact zak h
theorem zfl:Tryz.prog.cellsOf 303=1:=by kernel_rfl
theorem zny:Tryz.prog.cellsOf 288=20:=by kernel_rfl
theorem znx:Tryz.prog.cellsOf 269=1:=by kernel_rfl
theorem zz028 (W:World) (O:Nat→Prop) (φ:Nat→Nat) (α:Nat→Value):Mm W O φ α [] (([]:List (Nat × Nat × List (List D))).map some) :=
 ⟨fun b e h=>by simp at h,fun a e h=>by simp at h,fun a b h=>by simp at h,fun a b e e' h=>by simp at h,fun a b e h=>by simp at h⟩
theorem zz01l {vs:List PV} {φ:Nat→Nat} {α:Nat→Value} {W W':World} (h:Ext (FI ⟨vs,[],[]⟩ φ α) W W'):Ext z1f W W' :=
 h.mono fun x hx hf=>by
  rcases hf with ⟨b,hb,_⟩|⟨a,ha,_⟩
  ·exact absurd hb (ye _)
  ·exact absurd ha (ye _)
theorem zz00b:U8Extra Tryz.prog Tryz.zai:=⟨by kernel_rfl,by kernel_rfl,by kernel_rfl,by kernel_rfl,by kernel_rfl,by kernel_rfl,by kernel_rfl⟩
theorem zmr:Rows.laid_unicode_utf8_first=Lib.firstData:=Pinned.utf8First_eq
theorem zhy:(Rows.laid_unicode_utf8_acceptRanges:DataW Unit)=Lib.acceptData:=by kernel_rfl
theorem pow_eq:(Rows.laid_internal_strconv_uint64pow10:DataW Unit)=Lib.tabData .u64 Lib.pow10Tab:=by kernel_rfl
theorem star : "*" ++ "errors.errorString" = "*errors.errorString":=by decide
theorem zwi (u:TypeId) (h:Tryz.prog.typeName? 3 u=some "*errors.errorString"):u=301 :=
 typeName_ptr_named (nm := "errors.errorString") (by rw [star];kernel_rfl) (by kernel_rfl) (by decide) u (by rw [star];exact h)
abbrev zkx:List (String × DataW Unit):=[("math/bits.deBruijn32tab",Rows.laid_math_bits_deBruijn32tab),("math/bits.deBruijn64tab",Rows.laid_math_bits_deBruijn64tab),("internal/strconv.uint64pow10",Rows.laid_internal_strconv_uint64pow10),("unicode/utf8.acceptRanges",Rows.laid_unicode_utf8_acceptRanges),("strconv.ErrRange",Rows.laid_strconv_ErrRange),("strconv.ErrSyntax",Rows.laid_strconv_ErrSyntax),("unicode/utf8.first",Rows.laid_unicode_utf8_first)]
theorem gES:Tryz.prog.globalNamed "strconv.ErrSyntax" = some 3:=by kernel_rfl
theorem gER:Tryz.prog.globalNamed "strconv.ErrRange" = some 4:=by kernel_rfl
theorem gPW:Tryz.prog.globalNamed "internal/strconv.uint64pow10" = some 5:=by kernel_rfl
theorem gEST:(Tryz.prog.globals[3]?).map (·.type)=some 91:=by kernel_rfl
theorem gERT:(Tryz.prog.globals[4]?).map (·.type)=some 91:=by kernel_rfl
theorem gPWT:(Tryz.prog.globals[5]?).map (·.type)=some 288:=by kernel_rfl
theorem tabs {W:World} (hL:laidMetH Tryz.prog zkx W) (hS:W.ShapedOpen Tryz.prog):GG.p W No:=by
 have hL:laidMet Tryz.prog zkx W:=hL
 have h1:=Lib.laidMet.reads hL (n := "unicode/utf8.first") (d:=Rows.laid_unicode_utf8_first) (by simp [zkx])
 have h2:=Lib.laidMet.reads hL (n := "unicode/utf8.acceptRanges") (d:=Rows.laid_unicode_utf8_acceptRanges) (by simp [zkx])
 have h3:=Lib.laidMet.reads hL (n := "internal/strconv.uint64pow10") (d:=Rows.laid_internal_strconv_uint64pow10) (by simp [zkx])
 rw [zmr] at h1
 rw [zhy] at h2
 rw [pow_eq] at h3
 obtain ⟨a0,s0,hv0,-,-,-⟩:=laid_sentinel hL.tail.tail.tail.tail gER gERT Tryz.underlying91 zwi Tryz.underlying301 Tryz.underlying303 rfl rfl Tryz.underlying9 zfl z2l
 obtain ⟨a1,s1,hv1,-,-,-⟩:=laid_sentinel hL.tail.tail.tail.tail.tail gES gEST Tryz.underlying91 zwi Tryz.underlying301 Tryz.underlying303 rfl rfl Tryz.underlying9 zfl z2l
 have hm:=cell_of_shapedOpen_int (P:=Tryz.prog) (g:=0) (t:=3) (zero := #[.int .i64 0]) hS (of_decide_eq_true (by kernel_rfl)) (by kernel_rfl) rfl (by kernel_rfl) (by kernel_rfl) Tryz.underlying3
 refine ⟨⟨utf8Tabs_of_readsT (ρ:=Tryz.zai) (U8Types.of196 Tryz.zr4) zz00b h1 h2,hm,⟨_,by have h0:=World.var?_cell gES hv1 0;simpa using h0,.inr ⟨_,_,rfl⟩⟩,⟨_,by have h0:=World.var?_cell gER hv0 0;simpa using h0,.inr ⟨_,_,rfl⟩⟩,?_⟩,fun _ _ h=>h⟩
 obtain ⟨g,t,cs,fuel,p,hg,hty,hvar,hd⟩:=h3
 obtain rfl:=Option.some.inj (gPW.symm.trans hg)
 obtain rfl:=Option.some.inj (gPWT.symm.trans hty)
 have hcs:=Lib.cells_of_tab Tryz.underlying288 Tryz.underlying269 znx zny hd
 unfold World.var? at hvar
 rw [gPW] at hvar
 simp only [Option.bind_some] at hvar
 split at hvar
 ·rename_i c e f hh
  cases hvar
  exact ⟨e,f,by rw [hh,←hcs]⟩
 ·cases hvar
def litV:DataW Unit→Value
 | .lit (.int k z) => .int k z
 | _=>Go.undef
def zr9:DataW Unit→Array Value
 | .agg ds=>(ds.map litV).toArray
 | _ => #[]
noncomputable def zbb (os:Os):World :=
 let w0:=World.holding Tryz.prog os ⟨#[],#[],[]⟩
 let n:=w0.heap.size
 let put (h:Array Obj) (g:Nat) (cs:Array Value):Array Obj:=h.modify g fun
  | .cells _ t frozen => .cells cs t frozen
  | o=>o
 let h1:=put w0.heap 1 (Lib.firstTab.map fun z=>Value.int .u8 z).toArray
 let h2:=put h1 2 ((yc 16).flatMap fun i=>[Value.int .u8 (Lib.accLo i),Value.int .u8 (Lib.accHi i)]).toArray
 let h3:=put h2 3 #[.iface 301 (.pointer (some ⟨n,0,none⟩))]
 let h4:=put h3 4 #[.iface 301 (.pointer (some ⟨n+1,0,none⟩))]
 let h5:=put h4 5 (zr9 Rows.laid_internal_strconv_uint64pow10)
 let h6:=put h5 6 (zr9 Rows.laid_math_bits_deBruijn32tab)
 let h7:=put h6 7 (zr9 Rows.laid_math_bits_deBruijn64tab)
 { w0 with heap:=(h7.push (.cells #[.string ⟨#[105,110,118,97,108,105,100,32,115,121,110,116,97,120]⟩] 303 (0,0))).push (.cells #[.string ⟨#[118,97,108,117,101,32,111,117,116,32,111,102,32,114,97,110,103,101]⟩] 303 (0,0)) }
abbrev laidM:List (String × DataW Unit):=[("math/bits.deBruijn32tab",Rows.laid_math_bits_deBruijn32tab),("math/bits.deBruijn64tab",Rows.laid_math_bits_deBruijn64tab),("internal/strconv.uint64pow10",Rows.laid_internal_strconv_uint64pow10),("unicode/utf8.acceptRanges",Lib.acceptData),("strconv.ErrRange",Rows.laid_strconv_ErrRange),("strconv.ErrSyntax",Rows.laid_strconv_ErrSyntax),("unicode/utf8.first",Lib.firstData)]
theorem piece (os:Os) (args:Array Value):LaidIn Tryz.prog ((zbb os).forCall (fun _ _=>0) ⟨#[],args,[]⟩).memory laidM (yc 64) :=
 LaidIn.of_run (yc 64) 8 (by kernel_rfl) (by kernel_rfl) (by kernel_rfl) (by kernel_rfl)
theorem zui (os:Os) (args:Array Value):laidMet Tryz.prog zkx ((zbb os).forCall (fun _ _=>0) ⟨#[],args,[]⟩).memory:=by
 have:=(piece os args).met
 unfold zkx
 rw [zmr,zhy]
 exact this
theorem no_bd (W:World):Bd No W:=fun _ h=>h.elim
theorem zt7 {P:Program} {w:World} {r:Reach} {base:Nat} {t:TypeId} {v:Value} {fs:Array Field} (ht:P.underlying t=some (.struct fs)) (h:Value.okWide P w r base t v):∃ cs:List Value,v = .agg cs.toArray:=by
 unfold Value.okWide at h
 rw [ht] at h
 obtain ⟨cs,h1,_⟩:=h
 exact ⟨cs.toList,by simp [h1]⟩
end Go.Proofs.YtfdoofnmjehecaaGreatDoor
