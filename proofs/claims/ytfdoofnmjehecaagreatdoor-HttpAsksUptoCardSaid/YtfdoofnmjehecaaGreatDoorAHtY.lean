import Derived.Test.YtfdoofnmjehecaaGreatDoorAHtX
set_option linter.all false
namespace Go.Proofs.YtfdoofnmjehecaaGreatDoor
open Go.Lk Go.Pe Go.Sen Go.ChangeShapes Go.WideShapes Go.ChangeAt Go.RowKit
open Go.ChangeMaps (open_string shut_string)
def Q72 {H:Type} (x:q05) (d:DataW H):Prop:=x.sz+1≤Rows.uptoBulk d
theorem zio {H:Type}:∀ {l:List q05} {ds:List (DataW H)},Q2 Q72 l ds→zrj l≤Rows.uptoBulkAll ds
 | [],[],_=>by simp [zrj]
 | x::l,d::ds,h=>by
  obtain ⟨h3,h4⟩:=h
  have h7:=zio h4
  simp only [Q72] at h3
  rw [zme]
  simp only [Rows.uptoBulkAll]
  omega
 | [],_::_,h=>h.elim
 | _::_,[],h=>h.elim
theorem len_5 {α:Type} {l:List α} (h:l.length=5):∃ a0 a1 a2 a3 a4,l=[a0,a1,a2,a3,a4]:=by
 match l,h with
 | [a0,a1,a2,a3,a4],_=>exact ⟨a0,a1,a2,a3,a4,rfl⟩
theorem zwn {H:Type} {enc:TypeId × Value→H} {w:World} {held:Bool} (fuel:Nat) (cs:List Value) (y:DataW H × List MemPlace) (h:DataW.trod enc Tryz.prog w 0 (fun _=>true) held fuel 72 cs=some y):∃ x:q05,RDs w No x.enc cs∧x.sz+1≤Rows.uptoBulk y.1:=by
 obtain ⟨xs,n,rfl,rfl,hl,hx,hf⟩:=DataW.trod_struct Tryz.underlying72 h
 rw [zf1] at hl
 obtain ⟨c0,c1,rfl⟩:=len_2 hl
 obtain ⟨x0,x1,rfl⟩:=len_2 (show xs.length=2 from hx)
 have f0:TR enc w held n 9 [c0] x0:=by have g:=zpl z8k (hf 0 _ rfl);exact g
 have f1:TR enc w held n 9 [c1] x1:=by have g:=zpl z8k (hf 1 _ rfl);exact g
 obtain ⟨t0,e0,rfl,w0⟩:=zml Tryz.underlying9 f0
 obtain ⟨t1,e1,rfl,w1⟩:=zml Tryz.underlying9 f1
 simp only [List.cons.injEq,and_true] at e0 e1
 subst e0 e1
 refine ⟨⟨t0,t1⟩,?_,?_⟩
 ·exact ⟨_,_,rfl,rfl,⟨_,_,rfl,rfl,rfl⟩⟩
 ·simp only [q05.sz,Rows.uptoBulk,Rows.uptoBulkAll,List.map_cons,List.map_nil]
  omega
theorem zz04v {H:Type} {enc:TypeId × Value→H} {w:World} {held:Bool} (fuel:Nat) (cs:List Value) (y:DataW H × List MemPlace) (h:DataW.trod enc Tryz.prog w 0 (fun _=>true) held fuel 25 cs=some y):∃ x:q03,RDs w No x.enc cs∧x.sz+1≤Rows.uptoBulk y.1:=by
 obtain ⟨xs,n,rfl,rfl,hl,hx,hf⟩:=DataW.trod_struct Tryz.underlying25 h
 rw [zud] at hl
 obtain ⟨c0,c1,c2,c3,c4,rfl⟩:=len_5 hl
 obtain ⟨x0,x1,x2,x3,x4,rfl⟩:=len_5 (show xs.length=5 from hx)
 have f0:TR enc w held n 9 [c0] x0:=by have g:=zpl z8k (hf 0 _ rfl);exact g
 have f1:TR enc w held n 22 [c1] x1:=by have g:=zpl zuc (hf 1 _ rfl);exact g
 have f2:TR enc w held n 23 [c2] x2:=by have g:=zpl zku (hf 2 _ rfl);exact g
 have f3:TR enc w held n 23 [c3] x3:=by have g:=zpl zku (hf 3 _ rfl);exact g
 have f4:TR enc w held n 9 [c4] x4:=by have g:=zpl z8k (hf 4 _ rfl);exact g
 obtain ⟨t0,e0,rfl,w0⟩:=zml Tryz.underlying9 f0
 obtain ⟨v1,l1,e1,h1,hb1⟩:=zwo f1
 obtain ⟨v2,l2,e2,h2,h2_4,h2_5⟩:=rd_sl Tryz.underlying23 zf1 (by decide) q05.enc (Q72 (H:=H)) (fun g hg cs y hh=>zwn g cs y hh) f2
 have hb2:zrj l2+1≤Rows.uptoBulk x2.1:=by
  rcases h2_5 with ⟨h6,rfl⟩|⟨es,rest,h6,h7⟩
  ·rw [h6];simp [zrj,Rows.uptoBulk]
  ·have h8:=zio h7
   rw [h6]
   simp only [Rows.uptoBulk];omega
 obtain ⟨v3,l3,e3,h3,h3_4,h3_5⟩:=rd_sl Tryz.underlying23 zf1 (by decide) q05.enc (Q72 (H:=H)) (fun g hg cs y hh=>zwn g cs y hh) f3
 have hb3:zrj l3+1≤Rows.uptoBulk x3.1:=by
  rcases h3_5 with ⟨h6,rfl⟩|⟨es,rest,h6,h7⟩
  ·rw [h6];simp [zrj,Rows.uptoBulk]
  ·have h8:=zio h7
   rw [h6]
   simp only [Rows.uptoBulk];omega
 obtain ⟨t4,e4,rfl,w4⟩:=zml Tryz.underlying9 f4
 simp only [List.cons.injEq,and_true] at e0 e1 e2 e3 e4
 subst e0 e1 e2 e3 e4
 refine ⟨⟨t0,l1,l2,l3,t4⟩,?_,?_⟩
 ·exact ⟨_,_,rfl,rfl,⟨_,_,rfl,h1,⟨_,_,rfl,h2,⟨_,_,rfl,h3,⟨_,_,rfl,rfl,rfl⟩⟩⟩⟩⟩
 ·simp only [q03.sz,Rows.uptoBulk,Rows.uptoBulkAll,List.map_cons,List.map_nil]
  omega
theorem zz06q {w:World} {O:Nat→Prop} {φ:Nat→Nat} {α:Nat→Value} {x:q03} {cs:List Value} (h:RDs w O x.enc cs):VRs w O φ α x.v cs:=by
 rw [q03.z1i] at h
 exact zbp h
end Go.Proofs.YtfdoofnmjehecaaGreatDoor
