import Derived.Test.YtfdoofnmjehecaaGreatDoorPSiG
set_option linter.all false
namespace Go.Proofs.YtfdoofnmjehecaaGreatDoor
open Go.Lk Go.Pe Go.Sen Go.ChangeShapes Go.WideShapes Go.ChangeAt Go.RowKit
open Go.ChangeMaps (open_string shut_string)
def Q72 {H:Type} (x:q05) (d:DataW H):Prop:=x.sz+1≤Rows.uptoBulk d
theorem zci {H:Type}:∀ {l:List q05} {ds:List (DataW H)},Q2 Q72 l ds→zhq l≤Rows.uptoBulkAll ds
 | [],[],_=>by simp [zhq]
 | x::l,d::ds,h=>by
  obtain ⟨h3,h4⟩:=h
  have h7:=zci h4
  simp only [Q72] at h3
  rw [zf1]
  simp only [Rows.uptoBulkAll]
  omega
 | [],_::_,h=>h.elim
 | _::_,[],h=>h.elim
theorem zsc {α:Type} {l:List α} (h:l.length=5):∃ a0 a1 a2 a3 a4,l=[a0,a1,a2,a3,a4]:=by
 match l,h with
 | [a0,a1,a2,a3,a4],_=>exact ⟨a0,a1,a2,a3,a4,rfl⟩
theorem zku {H:Type} {enc:TypeId × Value→H} {w:World} {held:Bool} (fuel:Nat) (cs:List Value) (y:DataW H × List MemPlace) (h:DataW.trod enc Tryz.prog w 0 (fun _=>true) held fuel 72 cs=some y):∃ x:q05,RDs w No x.enc cs∧x.sz+1≤Rows.uptoBulk y.1:=by
 obtain ⟨xs,n,rfl,rfl,hl,hx,hf⟩:=DataW.trod_struct Tryz.underlying72 h
 rw [z9y] at hl
 obtain ⟨c0,c1,rfl⟩:=zsb hl
 obtain ⟨x0,x1,rfl⟩:=zsb (show xs.length=2 from hx)
 have g0:DataW.trod enc Tryz.prog w 0 (fun _=>true) held n 9 (([c0,c1].drop 0).take (Tryz.prog.cellsOf 9))=some x0:=hf 0 _ rfl
 rw [z5h] at g0
 have f0:DataW.trod enc Tryz.prog w 0 (fun _=>true) held n 9 [c0]=some x0:=g0
 have g1:DataW.trod enc Tryz.prog w 0 (fun _=>true) held n 9 (([c0,c1].drop 1).take (Tryz.prog.cellsOf 9))=some x1:=hf 1 _ rfl
 rw [z5h] at g1
 have f1:DataW.trod enc Tryz.prog w 0 (fun _=>true) held n 9 [c1]=some x1:=g1
 obtain ⟨t0,e0,rfl,w0⟩:=zf6 Tryz.underlying9 f0
 obtain ⟨t1,e1,rfl,w1⟩:=zf6 Tryz.underlying9 f1
 simp only [List.cons.injEq,and_true] at e0 e1
 subst e0 e1
 refine ⟨⟨t0,t1⟩,?_,?_⟩
 ·exact ⟨_,_,rfl,rfl,⟨_,_,rfl,rfl,rfl⟩⟩
 ·simp only [q05.sz,Rows.uptoBulk,Rows.uptoBulkAll,List.map_cons,List.map_nil]
  omega
theorem zq4 {H:Type} {enc:TypeId × Value→H} {w:World} {held:Bool} (fuel:Nat) (cs:List Value) (y:DataW H × List MemPlace) (h:DataW.trod enc Tryz.prog w 0 (fun _=>true) held fuel 25 cs=some y):∃ x:q03,RDs w No x.enc cs∧x.sz+1≤Rows.uptoBulk y.1:=by
 obtain ⟨xs,n,rfl,rfl,hl,hx,hf⟩:=DataW.trod_struct Tryz.underlying25 h
 rw [zjp] at hl
 obtain ⟨c0,c1,c2,c3,c4,rfl⟩:=zsc hl
 obtain ⟨x0,x1,x2,x3,x4,rfl⟩:=zsc (show xs.length=5 from hx)
 have g0:DataW.trod enc Tryz.prog w 0 (fun _=>true) held n 9 (([c0,c1,c2,c3,c4].drop 0).take (Tryz.prog.cellsOf 9))=some x0:=hf 0 _ rfl
 rw [z5h] at g0
 have f0:DataW.trod enc Tryz.prog w 0 (fun _=>true) held n 9 [c0]=some x0:=g0
 have g1:DataW.trod enc Tryz.prog w 0 (fun _=>true) held n 22 (([c0,c1,c2,c3,c4].drop 1).take (Tryz.prog.cellsOf 22))=some x1:=hf 1 _ rfl
 rw [zjo] at g1
 have f1:DataW.trod enc Tryz.prog w 0 (fun _=>true) held n 22 [c1]=some x1:=g1
 have g2:DataW.trod enc Tryz.prog w 0 (fun _=>true) held n 23 (([c0,c1,c2,c3,c4].drop 2).take (Tryz.prog.cellsOf 23))=some x2:=hf 2 _ rfl
 rw [zdw] at g2
 have f2:DataW.trod enc Tryz.prog w 0 (fun _=>true) held n 23 [c2]=some x2:=g2
 have g3:DataW.trod enc Tryz.prog w 0 (fun _=>true) held n 23 (([c0,c1,c2,c3,c4].drop 3).take (Tryz.prog.cellsOf 23))=some x3:=hf 3 _ rfl
 rw [zdw] at g3
 have f3:DataW.trod enc Tryz.prog w 0 (fun _=>true) held n 23 [c3]=some x3:=g3
 have g4:DataW.trod enc Tryz.prog w 0 (fun _=>true) held n 9 (([c0,c1,c2,c3,c4].drop 4).take (Tryz.prog.cellsOf 9))=some x4:=hf 4 _ rfl
 rw [z5h] at g4
 have f4:DataW.trod enc Tryz.prog w 0 (fun _=>true) held n 9 [c4]=some x4:=g4
 obtain ⟨t0,e0,rfl,w0⟩:=zf6 Tryz.underlying9 f0
 obtain ⟨v1,l1,e1,h1,hb1⟩:=zkv f1
 obtain ⟨v2,l2,e2,h2,h2_4,h2_5⟩:=zq6 Tryz.underlying23 z9y (by decide) q05.enc (Q72 (H:=H)) (fun g hg cs y hh=>zku g cs y hh) f2
 have hb2:zhq l2+1≤Rows.uptoBulk x2.1:=by
  rcases h2_5 with ⟨h6,rfl⟩|⟨es,rest,h6,h7⟩
  ·rw [h6];simp [zhq,Rows.uptoBulk]
  ·have h8:=zci h7
   rw [h6]
   simp only [Rows.uptoBulk];omega
 obtain ⟨v3,l3,e3,h3,h3_4,h3_5⟩:=zq6 Tryz.underlying23 z9y (by decide) q05.enc (Q72 (H:=H)) (fun g hg cs y hh=>zku g cs y hh) f3
 have hb3:zhq l3+1≤Rows.uptoBulk x3.1:=by
  rcases h3_5 with ⟨h6,rfl⟩|⟨es,rest,h6,h7⟩
  ·rw [h6];simp [zhq,Rows.uptoBulk]
  ·have h8:=zci h7
   rw [h6]
   simp only [Rows.uptoBulk];omega
 obtain ⟨t4,e4,rfl,w4⟩:=zf6 Tryz.underlying9 f4
 simp only [List.cons.injEq,and_true] at e0 e1 e2 e3 e4
 subst e0 e1 e2 e3 e4
 refine ⟨⟨t0,l1,l2,l3,t4⟩,?_,?_⟩
 ·exact ⟨_,_,rfl,rfl,⟨_,_,rfl,h1,⟨_,_,rfl,h2,⟨_,_,rfl,h3,⟨_,_,rfl,rfl,rfl⟩⟩⟩⟩⟩
 ·simp only [q03.sz,Rows.uptoBulk,Rows.uptoBulkAll,List.map_cons,List.map_nil]
  omega
theorem zrm {w:World} {O:Nat→Prop} {φ:Nat→Nat} {α:Nat→Value} {x:q03} {cs:List Value} (h:RDs w O x.enc cs):VRs w O φ α x.v cs:=by
 rw [q03.z1z] at h
 exact z7v h
end Go.Proofs.YtfdoofnmjehecaaGreatDoor
