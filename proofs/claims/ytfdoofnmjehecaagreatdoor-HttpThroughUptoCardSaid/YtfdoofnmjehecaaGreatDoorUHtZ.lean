import Derived.Test.YtfdoofnmjehecaaGreatDoorUHtX
import Derived.Test.YtfdoofnmjehecaaGreatDoorUShH
set_option linter.all false
namespace Go.Proofs.YtfdoofnmjehecaaGreatDoor
open Go.Lk Go.Pe Go.Sen Go.ChangeShapes Go.WideShapes Go.ChangeAt Go.RowKit
open Go.ChangeMaps (open_string shut_string)
theorem zz001 {α:Type} {l:List α} (h:l.length=26):∃ a0 a1 a2 a3 a4 a5 a6 a7 a8 a9 a10 a11 a12 a13 a14 a15 a16 a17 a18 a19 a20 a21 a22 a23 a24 a25,l=[a0,a1,a2,a3,a4,a5,a6,a7,a8,a9,a10,a11,a12,a13,a14,a15,a16,a17,a18,a19,a20,a21,a22,a23,a24,a25]:=by
 match l,h with
 | [a0,a1,a2,a3,a4,a5,a6,a7,a8,a9,a10,a11,a12,a13,a14,a15,a16,a17,a18,a19,a20,a21,a22,a23,a24,a25],_=>exact ⟨a0,a1,a2,a3,a4,a5,a6,a7,a8,a9,a10,a11,a12,a13,a14,a15,a16,a17,a18,a19,a20,a21,a22,a23,a24,a25,rfl⟩
theorem zua {H:Type} {enc:TypeId × Value→H} {w:World} {held:Bool} (fuel:Nat) (cs:List Value) (y:DataW H × List MemPlace) (h:DataW.trod enc Tryz.prog w 0 (fun _=>true) held fuel 46 cs=some y):∃ x:q00,RDs w No x.enc cs∧x.sz+1≤Rows.uptoBulk y.1∧(I64 x.z2l∧I64 x.z11):=by
 obtain ⟨xs,n,rfl,rfl,hl,hx,hf⟩:=DataW.trod_struct Tryz.underlying46 h
 rw [zry] at hl
 obtain ⟨c0,c1,c2,c3,c4,c5,c6,c7,c8,c9,c10,c11,c12,c13,c14,c15,c16,c17,c18,c19,c20,c21,c22,c23,c24,c25,rfl⟩:=zz001 hl
 obtain ⟨x0,x1,x2,x3,x4,x5,x6,x7,x8,x9,x10,x11,x12,x13,x14,x15,x16,x17,x18,x19,x20,x21,x22,x23,x24,x25,rfl⟩:=zz001 (show xs.length=26 from hx)
 have f0:TR enc w held n 3 [c0] x0:=by have g:=z4r zhk (hf 0 _ rfl);exact g
 have f1:TR enc w held n 9 [c1] x1:=by have g:=z4r z1b (hf 1 _ rfl);exact g
 have f2:TR enc w held n 9 [c2] x2:=by have g:=z4r z1b (hf 2 _ rfl);exact g
 have f3:TR enc w held n 9 [c3] x3:=by have g:=z4r z1b (hf 3 _ rfl);exact g
 have f4:TR enc w held n 9 [c4] x4:=by have g:=z4r z1b (hf 4 _ rfl);exact g
 have f5:TR enc w held n 9 [c5] x5:=by have g:=z4r z1b (hf 5 _ rfl);exact g
 have f6:TR enc w held n 9 [c6] x6:=by have g:=z4r z1b (hf 6 _ rfl);exact g
 have f7:TR enc w held n 9 [c7] x7:=by have g:=z4r z1b (hf 7 _ rfl);exact g
 have f8:TR enc w held n 9 [c8] x8:=by have g:=z4r z1b (hf 8 _ rfl);exact g
 have f9:TR enc w held n 9 [c9] x9:=by have g:=z4r z1b (hf 9 _ rfl);exact g
 have f10:TR enc w held n 9 [c10] x10:=by have g:=z4r z1b (hf 10 _ rfl);exact g
 have f11:TR enc w held n 9 [c11] x11:=by have g:=z4r z1b (hf 11 _ rfl);exact g
 have f12:TR enc w held n 9 [c12] x12:=by have g:=z4r z1b (hf 12 _ rfl);exact g
 have f13:TR enc w held n 9 [c13] x13:=by have g:=z4r z1b (hf 13 _ rfl);exact g
 have f14:TR enc w held n 9 [c14] x14:=by have g:=z4r z1b (hf 14 _ rfl);exact g
 have f15:TR enc w held n 9 [c15] x15:=by have g:=z4r z1b (hf 15 _ rfl);exact g
 have f16:TR enc w held n 9 [c16] x16:=by have g:=z4r z1b (hf 16 _ rfl);exact g
 have f17:TR enc w held n 9 [c17] x17:=by have g:=z4r z1b (hf 17 _ rfl);exact g
 have f18:TR enc w held n 9 [c18] x18:=by have g:=z4r z1b (hf 18 _ rfl);exact g
 have f19:TR enc w held n 9 [c19] x19:=by have g:=z4r z1b (hf 19 _ rfl);exact g
 have f20:TR enc w held n 9 [c20] x20:=by have g:=z4r z1b (hf 20 _ rfl);exact g
 have f21:TR enc w held n 9 [c21] x21:=by have g:=z4r z1b (hf 21 _ rfl);exact g
 have f22:TR enc w held n 9 [c22] x22:=by have g:=z4r z1b (hf 22 _ rfl);exact g
 have f23:TR enc w held n 44 [c23] x23:=by have g:=z4r zrx (hf 23 _ rfl);exact g
 have f24:TR enc w held n 3 [c24] x24:=by have g:=z4r zhk (hf 24 _ rfl);exact g
 have f25:TR enc w held n 3 [c25] x25:=by have g:=z4r zhk (hf 25 _ rfl);exact g
 obtain ⟨k0,e0,rfl,w0⟩:=DataW.trod_int Tryz.underlying3 f0
 obtain ⟨t1,e1,rfl,w1⟩:=z3t Tryz.underlying9 f1
 obtain ⟨t2,e2,rfl,w2⟩:=z3t Tryz.underlying9 f2
 obtain ⟨t3,e3,rfl,w3⟩:=z3t Tryz.underlying9 f3
 obtain ⟨t4,e4,rfl,w4⟩:=z3t Tryz.underlying9 f4
 obtain ⟨t5,e5,rfl,w5⟩:=z3t Tryz.underlying9 f5
 obtain ⟨t6,e6,rfl,w6⟩:=z3t Tryz.underlying9 f6
 obtain ⟨t7,e7,rfl,w7⟩:=z3t Tryz.underlying9 f7
 obtain ⟨t8,e8,rfl,w8⟩:=z3t Tryz.underlying9 f8
 obtain ⟨t9,e9,rfl,w9⟩:=z3t Tryz.underlying9 f9
 obtain ⟨t10,e10,rfl,w10⟩:=z3t Tryz.underlying9 f10
 obtain ⟨t11,e11,rfl,w11⟩:=z3t Tryz.underlying9 f11
 obtain ⟨t12,e12,rfl,w12⟩:=z3t Tryz.underlying9 f12
 obtain ⟨t13,e13,rfl,w13⟩:=z3t Tryz.underlying9 f13
 obtain ⟨t14,e14,rfl,w14⟩:=z3t Tryz.underlying9 f14
 obtain ⟨t15,e15,rfl,w15⟩:=z3t Tryz.underlying9 f15
 obtain ⟨t16,e16,rfl,w16⟩:=z3t Tryz.underlying9 f16
 obtain ⟨t17,e17,rfl,w17⟩:=z3t Tryz.underlying9 f17
 obtain ⟨t18,e18,rfl,w18⟩:=z3t Tryz.underlying9 f18
 obtain ⟨t19,e19,rfl,w19⟩:=z3t Tryz.underlying9 f19
 obtain ⟨t20,e20,rfl,w20⟩:=z3t Tryz.underlying9 f20
 obtain ⟨t21,e21,rfl,w21⟩:=z3t Tryz.underlying9 f21
 obtain ⟨t22,e22,rfl,w22⟩:=z3t Tryz.underlying9 f22
 obtain ⟨v23,l23,e23,h23,h23_4,h23_5⟩:=rd_sl Tryz.underlying44 zgg (by decide) q02.enc (Q189 (H:=H)) (fun g hg cs y hh=>zxv g cs y hh) f23
 have hb23:zfn l23+1≤Rows.uptoBulk x23.1:=by
  rcases h23_5 with ⟨h6,rfl⟩|⟨es,rest,h6,h7⟩
  ·rw [h6];simp [zfn,Rows.uptoBulk]
  ·have h8:=zj3 h7
   rw [h6]
   simp only [Rows.uptoBulk];omega
 obtain ⟨k24,e24,rfl,w24⟩:=DataW.trod_int Tryz.underlying3 f24
 obtain ⟨k25,e25,rfl,w25⟩:=DataW.trod_int Tryz.underlying3 f25
 simp only [List.cons.injEq,and_true] at e0 e1 e2 e3 e4 e5 e6 e7 e8 e9 e10 e11 e12 e13 e14 e15 e16 e17 e18 e19 e20 e21 e22 e23 e24 e25
 subst e0 e1 e2 e3 e4 e5 e6 e7 e8 e9 e10 e11 e12 e13 e14 e15 e16 e17 e18 e19 e20 e21 e22 e23 e24 e25
 have i0:=zt1 w0
 have i24:=zt1 w24
 have i25:=zt1 w25
 refine ⟨⟨k0,t1,t2,t3,t4,t5,t6,t7,t8,t9,t10,t11,t12,t13,t14,t15,t16,t17,t18,t19,t20,t21,t22,l23,k24,k25⟩,?_,?_,⟨i24,i25⟩⟩
 ·exact ⟨_,_,rfl,rfl,⟨_,_,rfl,rfl,⟨_,_,rfl,rfl,⟨_,_,rfl,rfl,⟨_,_,rfl,rfl,⟨_,_,rfl,rfl,⟨_,_,rfl,rfl,⟨_,_,rfl,rfl,⟨_,_,rfl,rfl,⟨_,_,rfl,rfl,⟨_,_,rfl,rfl,⟨_,_,rfl,rfl,⟨_,_,rfl,rfl,⟨_,_,rfl,rfl,⟨_,_,rfl,rfl,⟨_,_,rfl,rfl,⟨_,_,rfl,rfl,⟨_,_,rfl,rfl,⟨_,_,rfl,rfl,⟨_,_,rfl,rfl,⟨_,_,rfl,rfl,⟨_,_,rfl,rfl,⟨_,_,rfl,rfl,⟨_,_,rfl,h23,⟨_,_,rfl,rfl,⟨_,_,rfl,rfl,rfl⟩⟩⟩⟩⟩⟩⟩⟩⟩⟩⟩⟩⟩⟩⟩⟩⟩⟩⟩⟩⟩⟩⟩⟩⟩⟩
 ·simp only [q00.sz,Rows.uptoBulk,Rows.uptoBulkAll,List.map_cons,List.map_nil]
  omega
theorem zze {w:World} {O:Nat→Prop} {φ:Nat→Nat} {α:Nat→Value} {x:q00} {cs:List Value} (h:RDs w O x.enc cs):VRs w O φ α x.v cs:=by
 rw [q00.z2b] at h
 exact zac h
end Go.Proofs.YtfdoofnmjehecaaGreatDoor
