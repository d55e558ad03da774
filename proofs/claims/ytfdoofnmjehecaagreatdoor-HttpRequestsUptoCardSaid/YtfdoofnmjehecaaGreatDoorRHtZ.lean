import Derived.Test.YtfdoofnmjehecaaGreatDoorRHtX
import Derived.Test.YtfdoofnmjehecaaGreatDoorRShG
set_option linter.all false
namespace Go.Proofs.YtfdoofnmjehecaaGreatDoor
open Go.Lk Go.Pe Go.Sen Go.ChangeShapes Go.WideShapes Go.ChangeAt Go.RowKit
open Go.ChangeMaps (open_string shut_string)
theorem zz067{α:Type}{l:List α}(h:l.length=26):∃s t u v w x y z A B a b c d e f g i j k m n o p q r,l=[s,t,u,v,w,x,y,z,A,B,a,b,c,d,e,f,g,i,j,k,m,n,o,p,q,r]:=by match l,h with|[s,t,u,v,w,x,y,z,A,B,a,b,c,d,e,f,g,i,j,k,m,n,o,p,q,r],_=>exact⟨s,t,u,v,w,x,y,z,A,B,a,b,c,d,e,f,g,i,j,k,m,n,o,p,q,r,rfl⟩
theorem zz091{H:Type}{enc:TypeId×Value→H}{w:World}{a:Bool}(fuel:Nat)(cs:List Value)(y:DataW H×List MemPlace)(h:DataW.trod enc Tryz.prog w 0 (fun _=>true) a fuel 46 cs=some y):∃x:q00,RDs w No x.enc cs∧x.sz+1≤Rows.uptoBulk y.1∧I64 x.z2t∧I64 x.z11:=by
 obtain⟨xs,n,rfl,rfl,hl,hx,hf⟩:=DataW.trod_struct Tryz.underlying46 h;rw[zxn]at hl;obtain⟨c0,c1,c2,c3,c4,c5,c6,c7,c8,c9,z,A,B,C,D,E,F,G,I,J,K,L,M,N,O,P,rfl⟩:=zz067 hl;obtain⟨x0,x1,x2,x3,x4,x5,x6,x7,x8,x9,d6,d7,d8,d9,g0,g1,g2,g3,g4,g5,g6,g7,g8,v,g9,h0,rfl⟩:=zz067 (show xs.length=26 from hx);have f0:TR enc w a n 3 [c0] x0:=by have g:=z71 zls (hf 0 _ rfl);exact g
 have f1:TR enc w a n 9 [c1] x1:=by have g:=z71 z1x (hf 1 _ rfl);exact g
 have f2:TR enc w a n 9 [c2] x2:=by have g:=z71 z1x (hf 2 _ rfl);exact g
 have f3:TR enc w a n 9 [c3] x3:=by have g:=z71 z1x (hf 3 _ rfl);exact g
 have f4:TR enc w a n 9 [c4] x4:=by have g:=z71 z1x (hf 4 _ rfl);exact g
 have f5:TR enc w a n 9 [c5] x5:=by have g:=z71 z1x (hf 5 _ rfl);exact g
 have f6:TR enc w a n 9 [c6] x6:=by have g:=z71 z1x (hf 6 _ rfl);exact g
 have f7:TR enc w a n 9 [c7] x7:=by have g:=z71 z1x (hf 7 _ rfl);exact g
 have f8:TR enc w a n 9 [c8] x8:=by have g:=z71 z1x (hf 8 _ rfl);exact g
 have f9:TR enc w a n 9 [c9] x9:=by have g:=z71 z1x (hf 9 _ rfl);exact g
 have Q:TR enc w a n 9 [z] d6:=by have g:=z71 z1x (hf 10 _ rfl);exact g
 have R:TR enc w a n 9 [A] d7:=by have g:=z71 z1x (hf 11 _ rfl);exact g
 have S:TR enc w a n 9 [B] d8:=by have g:=z71 z1x (hf 12 _ rfl);exact g
 have T:TR enc w a n 9 [C] d9:=by have g:=z71 z1x (hf 13 _ rfl);exact g
 have U:TR enc w a n 9 [D] g0:=by have g:=z71 z1x (hf 14 _ rfl);exact g
 have V:TR enc w a n 9 [E] g1:=by have g:=z71 z1x (hf 15 _ rfl);exact g
 have W:TR enc w a n 9 [F] g2:=by have g:=z71 z1x (hf 16 _ rfl);exact g
 have X:TR enc w a n 9 [G] g3:=by have g:=z71 z1x (hf 17 _ rfl);exact g
 have Y:TR enc w a n 9 [I] g4:=by have g:=z71 z1x (hf 18 _ rfl);exact g
 have Z:TR enc w a n 9 [J] g5:=by have g:=z71 z1x (hf 19 _ rfl);exact g
 have a0:TR enc w a n 9 [K] g6:=by have g:=z71 z1x (hf 20 _ rfl);exact g
 have a1:TR enc w a n 9 [L] g7:=by have g:=z71 z1x (hf 21 _ rfl);exact g
 have a2:TR enc w a n 9 [M] g8:=by have g:=z71 z1x (hf 22 _ rfl);exact g
 have a3:TR enc w a n 44 [N] v:=by have g:=z71 zxm (hf 23 _ rfl);exact g
 have a4:TR enc w a n 3 [O] g9:=by have g:=z71 zls (hf 24 _ rfl);exact g
 have a5:TR enc w a n 3 [P] h0:=by have g:=z71 zls (hf 25 _ rfl);exact g
 obtain⟨k0,e0,rfl,w0⟩:=DataW.trod_int Tryz.underlying3 f0;obtain⟨t1,e1,rfl,w1⟩:=z5q Tryz.underlying9 f1;obtain⟨t2,e2,rfl,w2⟩:=z5q Tryz.underlying9 f2;obtain⟨t3,e3,rfl,w3⟩:=z5q Tryz.underlying9 f3;obtain⟨t4,e4,rfl,w4⟩:=z5q Tryz.underlying9 f4;obtain⟨t5,e5,rfl,w5⟩:=z5q Tryz.underlying9 f5;obtain⟨t6,e6,rfl,w6⟩:=z5q Tryz.underlying9 f6;obtain⟨t7,e7,rfl,w7⟩:=z5q Tryz.underlying9 f7;obtain⟨t8,e8,rfl,w8⟩:=z5q Tryz.underlying9 f8;obtain⟨t9,e9,rfl,w9⟩:=z5q Tryz.underlying9 f9;obtain⟨b1,b,rfl,h3⟩:=z5q Tryz.underlying9 Q;obtain⟨b2,c,rfl,h4⟩:=z5q Tryz.underlying9 R;obtain⟨b3,d,rfl,h5⟩:=z5q Tryz.underlying9 S;obtain⟨b4,e,rfl,h9⟩:=z5q Tryz.underlying9 T;obtain⟨b5,f,rfl,i1⟩:=z5q Tryz.underlying9 U;obtain⟨b6,i,rfl,i2⟩:=z5q Tryz.underlying9 V;obtain⟨b7,j,rfl,i3⟩:=z5q Tryz.underlying9 W;obtain⟨b8,k,rfl,i4⟩:=z5q Tryz.underlying9 X;obtain⟨b9,l,rfl,i5⟩:=z5q Tryz.underlying9 Y;obtain⟨d0,m,rfl,i6⟩:=z5q Tryz.underlying9 Z;obtain⟨d1,o,rfl,i7⟩:=z5q Tryz.underlying9 a0;obtain⟨d2,p,rfl,i8⟩:=z5q Tryz.underlying9 a1;obtain⟨d3,q,rfl,i9⟩:=z5q Tryz.underlying9 a2;obtain⟨h2,u,r,a6,h23_4,h23_5⟩:=rd_sl Tryz.underlying44 zkk (by decide) q02.enc (Q189 (H:=H)) (fun g hg cs y hh=>zz04a g cs y hh) a3;have h1:zgl u+1≤Rows.uptoBulk v.1:=by
  rcases h23_5 with⟨h6,rfl⟩|⟨es,rest,h6,h7⟩;·rw[h6];simp[zgl,Rows.uptoBulk]
  ·have h8:=zng h7;rw[h6];simp only[Rows.uptoBulk];omega
 obtain⟨a9,s,rfl,d4⟩:=DataW.trod_int Tryz.underlying3 a4;obtain⟨b0,t,rfl,d5⟩:=DataW.trod_int Tryz.underlying3 a5;simp only[List.cons.injEq,and_true]at e0 e1 e2 e3 e4 e5 e6 e7 e8 e9 b c d e f i j k l m o p q r s t;subst e0 e1 e2 e3 e4 e5 e6 e7 e8 e9 b c d e f i j k l m o p q r s t;have i0:=zys w0;have a7:=zys d4;have a8:=zys d5;refine⟨⟨k0,t1,t2,t3,t4,t5,t6,t7,t8,t9,b1,b2,b3,b4,b5,b6,b7,b8,b9,d0,d1,d2,d3,u,a9,b0⟩,?_,?_,⟨a7,a8⟩⟩;·exact⟨_,_,rfl,rfl,⟨_,_,rfl,rfl,⟨_,_,rfl,rfl,⟨_,_,rfl,rfl,⟨_,_,rfl,rfl,⟨_,_,rfl,rfl,⟨_,_,rfl,rfl,⟨_,_,rfl,rfl,⟨_,_,rfl,rfl,⟨_,_,rfl,rfl,⟨_,_,rfl,rfl,⟨_,_,rfl,rfl,⟨_,_,rfl,rfl,⟨_,_,rfl,rfl,⟨_,_,rfl,rfl,⟨_,_,rfl,rfl,⟨_,_,rfl,rfl,⟨_,_,rfl,rfl,⟨_,_,rfl,rfl,⟨_,_,rfl,rfl,⟨_,_,rfl,rfl,⟨_,_,rfl,rfl,⟨_,_,rfl,rfl,⟨_,_,rfl,a6,⟨_,_,rfl,rfl,⟨_,_,rfl,rfl,rfl⟩⟩⟩⟩⟩⟩⟩⟩⟩⟩⟩⟩⟩⟩⟩⟩⟩⟩⟩⟩⟩⟩⟩⟩⟩⟩
 ·simp only[q00.sz,Rows.uptoBulk,Rows.uptoBulkAll,List.map_cons,List.map_nil];omega
theorem zz0az{w:World}{O:Nat→Prop}{φ:Nat→Nat}{α:Nat→Value}{x:q00}{cs:List Value}(h:RDs w O x.enc cs):VRs w O φ α x.v cs:=by rw[q00.z0v]at h;exact zd9 h
end Go.Proofs.YtfdoofnmjehecaaGreatDoor
