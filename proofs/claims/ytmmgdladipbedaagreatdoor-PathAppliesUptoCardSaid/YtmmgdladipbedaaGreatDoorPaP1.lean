import Derived.Test.YtmmgdladipbedaaGreatDoorPaShelf2
set_option linter.all false
set_option maxRecDepth 1000000
set_option maxHeartbeats 4000000
namespace Go.Proofs.YtmmgdladipbedaaGreatDoor
open IntKind renaming wrap → ya
open Go.Lk Go.Pe Go.Sen Go.RowKit
variable [Lb]
def A.q2m:Ann:={ seq:=[(7,{ L:=[2,3],B:=[1002,1003],A:=[3003],H:=[(.cell 1003 3,3003,48,2)] })],loop:=[(4,{ L:=[1,2,3,4],B:=[1002,1003],A:=[3005],H:=[(.cell 1003 3,3005,48,2)] })],reg:=[(2,[(3,0,{ L:=[1,2,3],B:=[1002,1003],A:=[100101],H:=[(.cell 1003 3,100101,48,2)] })]),(5,[(3,0,{ L:=[1,2,3,4],B:=[1002,1003],A:=[100251],H:=[(.cell 1003 3,100251,48,2)] })])],drw:=[(6,{ anc:=[0,1,0,4,0,28,60,124,0,0,512,0,3584,7680,15872,32512,65532,131068,262143,524287,1048575],E:=[8,15,17,18,20],qs:=[0,1,2,3,4,5,6,7,9,10,11,12,13,14],g:=.one 8 [0,1,2,3,4,5,6,7,9,10,11,12,13,14] [] (.one 15 [0,1,2,3,4,5,6,7] [16] (.one 17 [0,1] [] (.one 18 [] [19] (.one 20 [] [] (.fin))))) })],own:=[6,23],ro:=[1] }
theorem C.q2m {p0:q04}:Qs (M.q2m p0) 22 ⟨[.agg p0.v],[],[]⟩ fun r => .ok [.agg r.v] [] [] :=
 Kf Tryz.func22 A.q2m [.cell 2 33] (by unfold M.q2m;exact S.jp (⟨[(1,.z09 p0.d 0),(2,.p 1002),(3,.p 1003)],[(1002,⟨33,[.s [],.s [],.s [],.nil]⟩),(1003,⟨33,[.s p0.gId,.s p0.zc,.s p0.z2c,.ref 100101]⟩)],[(100101,⟨true,48,2,(([]:List q02).map q02.enc)⟩)],none⟩) (fun _=>rfl) (S.j (fun j16=>⟨[(2,.p 1002),(3,.p 1003)],[(1002,⟨33,[.s [],.s [],.s [],.nil]⟩),(1003,⟨33,[.s p0.gId,.s p0.zc,.s p0.z2c,.ref 3003]⟩)],[(3003,⟨true,48,2,(j16.map q02.enc)⟩)],none⟩) (fun _=>S.lw2 (L:=M.z2h p0) (fun x21 x22=>⟨[(1,.z09 p0.d 0),(2,.p 1002),(3,.p 1003),(4,.i x21)],[(1002,⟨33,[.s [],.s [],.s [],.nil]⟩),(1003,⟨33,[.s p0.gId,.s p0.zc,.s p0.z2c,.ref 3005]⟩)],[(3005,⟨true,48,2,(x22.map q02.enc)⟩)],none⟩) (M.z2h.partial_correctness _) rfl fun _ _ ih_z2h x21 x22=>(by exact S.m (S.cb (S.ixm q02.z0b fun x27=>S.ixm q02.z0b fun x28=>S.n (S.n (S.zc4 eS fun l29=>S.n (S.n (S.zc4 q02.enc (fun l30=>S.n (S.n (S.jp (⟨[(1,.z09 p0.d 0),(2,.p 1002),(3,.p 1003),(4,.i (ya .i64 (x21+1)))],[(1002,⟨33,[.s [],.s [],.s [],.nil]⟩),(1003,⟨33,[.s p0.gId,.s p0.zc,.s p0.z2c,.ref 100251]⟩)],[(100251,⟨true,48,2,(l30.map q02.enc)⟩)],none⟩) (fun _=>rfl) (ih_z2h _ _)))) (by first|rfl|simp only [List.map_cons,List.map_nil,q02.z0b])))))) S.zr))) fun j16=>S.q))
def A.q43:Ann:={ seq:=[(7,c1 [])],loop:=[(2,c1 [0,1,7,8])] }
theorem C.q43 {p0:List (List UInt8)} {p1:List UInt8}:Qs (M.q43 p0 p1) 129 ⟨[.l9 p0,.s p1],[],[]⟩ fun r => .ok [.i r] [] [] :=
 Kf Tryz.func129 A.q43 [.tmp 4] (by unfold M.q43;exact S.gn (fun _=>st []) (S.m (S.lw (L:=M.z02 p0 p1) (fun x7=>st [(0,.l9 p0),(1,.s p1),(7,.i (p0.length:Int)),(8,.i x7)]) (M.z02.partial_correctness _ _) rfl fun _ _ ih_z02 x7=>S.cb (S.ixf eS fun x9=>S.cb S.q (ih_z02 _)) S.zr)) fun j5=>S.q)
theorem C.q3n {p0:List (List UInt8)} {p1:List UInt8}:Qs (M.q3n p0 p1) 104 ⟨[.l9 p0,.s p1],[],[]⟩ fun r => .ok [.b r] [] [] :=
 Kf Tryz.func104 {} [.tmp 4] (by unfold M.q3n;exact S.k0 C.q43 fun a1=>S.n S.q)
def A.q1x:Ann:={ reg:=[(1,[(3,4,c1 [0,9]),(1,5,c1 [0,15]),(1,4,c1 [0,20]),(1,5,c1 [26])])] }
theorem C.q1x {p0:List UInt8}:Qs (M.q1x p0) 56 ⟨[.s p0],[],[]⟩ fun r => .ok [.b r] [] [] :=
 Kf Tryz.func56 A.q1x [.tmp 2] (by unfold M.q1x;exact S.ja0 (fun x1=>st [(0,.s p0),(9,.b x1)]) rfl (S.j (fun j7=>st [(0,.s p0),(15,.b j7)]) (fun _=>S.cb (S.e fun c8=>S.k0 (C.indexByte _ _) fun a9=>S.n S.zr) S.zr) fun j7=>S.j (fun j14=>st [(0,.s p0),(20,.b j14)]) (fun _=>S.cb (S.k0 (C.trim _ _) fun a15=>S.n S.zr) S.zr) fun j14=>S.j (fun j20=>st [(26,.b j20)]) (fun _=>S.cb (S.k0 C.q3n fun a21=>S.n S.zr) S.zr) fun j20=>S.q))
def A.q2e:Ann:={ reg:=[(1,[(4,3,c1 [9])])] }
theorem C.q2e {p0:List UInt8}:Qs (M.q2e p0) 88 ⟨[.s p0],[],[]⟩ fun r => .ok [.b r] [] [] :=
 Kf Tryz.func88 A.q2e [.tmp 2] (by unfold M.q2e;exact S.j (fun j4=>st [(9,.b j4)]) (fun _=>S.cb (S.k0 (C.z0c _) fun a5=>S.n S.zr) S.zr) fun j4=>S.q)
theorem C.q2d {p0:List UInt8}:Qs (M.q2d p0) 117 ⟨[.s p0],[],[]⟩ fun r => .ok [.b r] [] [] :=
 Kf Tryz.func117 {} [.tmp 2] (by unfold M.q2d;exact S.k0 C.q2e fun a1=>S.n S.q)
def A.q42:Ann:={ seq:=[(7,c1 [])],loop:=[(2,c1 [0,1,7,8])],reg:=[(5,[(2,0,c1 [4])]),(6,[(2,0,c1 [0,1,7,8])])] }
theorem C.q42 {p0:List (List UInt8)}:Qs (M.q42 p0) 105 ⟨[.l9 p0,.fn 117 [] []],[],[]⟩ fun r => .ok [.i r] [] [] :=
 Kf Tryz.func105 A.q42 [.tmp 4] (by unfold M.q42;exact S.gn (fun _=>st []) (S.m (S.lw (L:=M.zw p0) (fun x15=>st [(0,.l9 p0),(1,.fn 117 [] []),(7,.i (p0.length:Int)),(8,.i x15)]) (M.zw.partial_correctness _) rfl fun _ _ ih_zw x15=>S.cb (S.ixf eS fun x19=>S.k0 C.q2d fun a20=>S.n (S.cb (S.jp (st [(4,.i x15)]) (fun _=>rfl) S.q) (S.jp (st [(0,.l9 p0),(1,.fn 117 [] []),(7,.i (p0.length:Int)),(8,.i (ya .i64 (x15+1)))]) (fun _=>rfl) (ih_zw _)))) S.zr)) fun j11=>S.q)
theorem C.q3m {p0:List (List UInt8)}:Qs (M.q3m p0) 94 ⟨[.l9 p0,.fn 117 [] []],[],[]⟩ fun r => .ok [.b r] [] [] :=
 Kf Tryz.func94 {} [.tmp 4] (by unfold M.q3m;exact S.k0 C.q42 fun a1=>S.n S.q)
set_option maxRecDepth 1000000 in
theorem C.z1e (p0:List (List UInt8)):S (M.z1e p0) fun r=>Con Tryz.prog GG 57 (I.z1e p0) (O.z1e r):=by
 unfold M.z1e
 refine S.chk fun h0 => ?_
 have h0:=of_decide_eq_true h0
 intro r hm
 have key:∃ r94:Bool,(if p0.length≤64 then (if (Lib.compact (p0.mergeSort fun x y=>decide (x≤y))).length=p0.length then !r94 else false) else false)=r∧(p0.length≤64→(Lib.compact (p0.mergeSort fun x y=>decide (x≤y))).length=p0.length→M.q3m p0=some r94):=by
  split at hm
  ·rename_i h64
   split at hm
   ·rename_i hc
    obtain ⟨a,h1,h2⟩:=Option.bind_eq_some_iff.1 hm
    cases h2
    exact ⟨a,by rw [if_pos h64,if_pos hc],fun _ _=>h1⟩
   ·rename_i hc
    cases hm
    exact ⟨false,by rw [if_pos h64,if_neg hc],fun _ h=>(hc h).elim⟩
  ·rename_i h64
   cases hm
   exact ⟨false,by rw [if_neg h64],fun h=>(h64 h).elim⟩
 obtain ⟨r94,hr,hc⟩:=key
 subst hr
 refine Con.lib (fun _ _=>rfl) fun w O φ α us hv hB hG => ?_
 obtain ⟨v,us',rfl,h1,h2⟩:=hv
 obtain rfl:us'=[]:=h2
 have h1':=h1
 simp only [VR] at h1
 obtain ⟨a,cap,rfl,_,h3⟩:=za1.of h1
 refine (ziq w a _ cap p0 h0 rfl h3 r94 fun g1 g2 w' hb => ?_).mono ?_
 ·have ex:Ext z0h w w':=.z3u hb
  have tr:Tr O w O w':=Tr.z2p ex fun _ _ hx=>hx.elim
  have hcon:=(C.q3m (p0:=p0) r94 (hc g1 g2)).run w' O φ α [.slice a p0.length cap,.func (.func 117) #[] #[]] ⟨_,_,rfl,VR.tr tr _ _ h1',⟨_,_,rfl,⟨[],[],rfl,rfl,rfl⟩,rfl⟩⟩ ⟨fun b e he=>by simp at he,fun a e he=>by simp at he,fun a b la=>by simp at la,fun a b e e' he=>by simp at he,fun a b e he=>by simp at he⟩ (fun x hx=>Nat.lt_of_lt_of_le (hB x hx) ex.size) (GG.tr tr hG)
  refine hcon.mono ?_
  rintro e w2 ⟨us,O',φ',α',rfl,hd⟩
  obtain ⟨u,us',rfl,hu,hn⟩:=hd.res
  obtain rfl:us'=[]:=hn
  obtain rfl:u = .bool r94:=hu
  exact ⟨rfl,hd.ext.os,hd.ext.tape,hd.ext.output,hd.ext.size,fun k hk=>hd.ext.block k hk fun hf=>by simp [FI] at hf⟩
 ·rintro e w' ⟨rfl,hb⟩
  exact ⟨[_],rfl,fun _ _ _ => .zqf _,.z3u hb⟩
def A.q17:Ann:={ seq:=[(9,c1 [])],loop:=[(4,c1 [1,10,11,12])],drw:=[(6,{ anc:=[0,1,3,7,15,31,63,127,255,511,255,1279,4095,8191,16383,255,33023,131071,262143,524287,1048575,2097151,4194303,8388607,16777215,33554431,67108863,134217727,268435455,536870911,1073741823,2147483647],E:=[2,29],qs:=[0,1],g:=.one 2 [] [3,4,5,6,7,8,9,10,11,12,13,14,15,16,17,18,19,20,21,22,23,24,25,26,27,28] (.one 29 [] [30,31] (.fin)),lin:=some [(5,15,cu [1,4,10,11,12,36] [1004] []),(1,5,cu [1,4,10,11,12,42] [1004] []),(1,5,c1 [1,10,11,12,48])] })],ro:=[1] }
theorem C.q17 {p0:q04}:Qs (M.q17 p0) 25 ⟨[.agg p0.v],[],[]⟩ fun r => .ok [.i r] [] [] :=
 Kf Tryz.func25 A.q17 [.tmp 2] (by unfold M.q17;exact S.m (S.cb S.q (by exact S.gn (fun _=>st []) (S.m (S.lw (L:=M.z0k p0) (fun x63=>st [(1,.z09 p0.d 0),(10,.l48 p0.za),(11,.i (p0.za.length:Int)),(12,.i x63)]) (M.z0k.partial_correctness _) rfl fun _ _ ih_z0k x63=>S.cb (S.ixm q02.z0b fun x79=>S.k0 C.q1x fun a80=>S.n (S.j (fun j84=>sb [(1,.z09 p0.d 0),(4,.p 1004),(10,.l48 p0.za),(11,.i (p0.za.length:Int)),(12,.i x63),(36,.b j84)] [(1004,⟨48,x79.v⟩)]) (fun _=>S.cb S.zr (S.cb (S.ixm q02.z0b fun x85=>S.zr) S.zr)) fun j84=>S.ju (fun x86=>sb [(1,.z09 p0.d 0),(4,.p 1004),(10,.l48 p0.za),(11,.i (p0.za.length:Int)),(12,.i x63),(42,.b x86)] [(1004,⟨48,x79.v⟩)]) (fun _=>Ex.i z1x (jbI rfl rfl)) (S.j (fun j91=>st [(1,.z09 p0.d 0),(10,.l48 p0.za),(11,.i (p0.za.length:Int)),(12,.i x63),(48,.b j91)]) (fun _=>S.cb S.zr (S.k0 (C.z1e _) fun a92=>S.n S.zr)) fun j91=>S.cb S.q (ih_z0k _)))) S.zr)) fun j47=>S.q)))
@[reducible] def T.q1p (fuel:Nat):Prop := ∀ (p0:q01),Qs (M.q1p fuel p0) 39 ⟨[.agg p0.v],[],[]⟩ fun r => .ok [.b r] [] []
@[reducible] def T.q1q (fuel:Nat):Prop := ∀ (p0:q01),Qs (M.q1q fuel p0) 90 ⟨[.agg p0.v],[],[]⟩ fun r => .ok [.b r] [] []
@[reducible] def T.q3f (fuel:Nat):Prop := ∀ (p0:List q01),Qs (M.q3f fuel p0) 89 ⟨[.l24 p0,.fn 90 [] []],[],[]⟩ fun r => .ok [.b r] [] []
@[reducible] def T.q3r (fuel:Nat):Prop := ∀ (p0:List q01),Qs (M.q3r fuel p0) 154 ⟨[.l24 p0,.fn 90 [] []],[],[]⟩ fun r => .ok [.i r] [] []
def A.q1p:Ann:={ seq:=[(8,c1 [1,3,4])],reg:=[(2,[(4,4,c1 [1,3,4,16])]),(5,[(5,4,c1 [1,29]),(1,4,c1 [1,34]),(1,9,c1 [44])]),(8,[(7,6,c1 [1,4,61]),(1,6,c1 [1,68])])],drw:=[(1,{ anc:=[0,1,3,0,15],E:=[],qs:=[0,1,2,3,4],g:=.fin,lin:=some [] })],ro:=[1] }
theorem L.q1p (fuel:Nat) (ih_q1p:T.q1p fuel) (ih_q1q:T.q1q fuel) (ih_q3f:T.q3f fuel) (ih_q3r:T.q3r fuel):T.q1p (fuel+1):=fun p0 =>
 Kf Tryz.func39 A.q1p [.tmp 2] (by unfold M.q1p;exact S.eq (z1f q01.z03) (S.gn (fun j37=>st [(1,.z09 p0.d 0),(3,.i j37.1),(4,.i j37.2)]) (S.ju0 (fun x38=>st [(1,.z09 p0.d 0),(3,.i 2),(4,.i (p0.zh.length:Int)),(16,.b x38)]) rfl (S.cb S.q (S.cb (S.eq (z1f q01.z03) (S.j (fun j43=>st [(1,.z09 p0.d 0),(29,.b j43)]) (fun _=>S.cb (S.k0 C.q1x fun a44=>S.n S.zr) S.zr) fun j43=>S.j (fun j49=>st [(1,.z09 p0.d 0),(34,.b j49)]) (fun _=>S.cb (S.k0 C.q2e fun a50=>S.n S.zr) S.zr) fun j49=>S.ja (fun x52=>st [(44,.b x52)]) (fun _=>cnd (fun h54=>jbI rfl (zza h54)) (fun h54=>jbI rfl (zz9 h54 rfl))) (S.q))) (S.cb S.zr S.zr)))) fun j37=>S.e fun s55=>S.ju (fun x56=>st [(1,.z09 p0.d 0),(4,.i j37.2),(61,.b x56)]) (fun _=>Ex.i (z1f q01.z03) (jbI rfl rfl)) (S.ju (fun x58=>st [(1,.z09 p0.d 0),(68,.b x58)]) (fun _=>Ex.i (z1f q01.z03) (jbI rfl rfl)) (S.cb S.q (S.k0 (ih_q3f _) fun a60=>S.n S.q)))))
def A.q1q:Ann:={ ro:=[1] }
theorem L.q1q (fuel:Nat) (ih_q1p:T.q1p fuel) (ih_q1q:T.q1q fuel) (ih_q3f:T.q3f fuel) (ih_q3r:T.q3r fuel):T.q1q (fuel+1):=fun p0 =>
 Kf Tryz.func90 A.q1q [.tmp 2] (by unfold M.q1q;exact S.k0 (ih_q1p _) fun a1=>S.n S.q)
theorem L.q3f (fuel:Nat) (ih_q1p:T.q1p fuel) (ih_q1q:T.q1q fuel) (ih_q3f:T.q3f fuel) (ih_q3r:T.q3r fuel):T.q3f (fuel+1):=fun p0 =>
 Kf Tryz.func89 {} [.tmp 4] (by unfold M.q3f;exact S.k0 (ih_q3r _) fun a1=>S.n S.q)
def A.q3r:Ann:={ seq:=[(7,c1 [])],loop:=[(2,c1 [0,1,7,8])],reg:=[(5,[(2,0,c1 [4])]),(6,[(2,0,c1 [0,1,7,8])])] }
theorem L.q3r (fuel:Nat) (ih_q1p:T.q1p fuel) (ih_q1q:T.q1q fuel) (ih_q3f:T.q3f fuel) (ih_q3r:T.q3r fuel):T.q3r (fuel+1):=fun p0 =>
 Kf Tryz.func154 A.q3r [.tmp 4] (by unfold M.q3r;exact S.gn (fun _=>st []) (S.eq (z1f q01.z03) (S.lw (L:=M.zu p0 (M.q1q fuel)) (fun x15=>st [(0,.l24 p0),(1,.fn 90 [] []),(7,.i (p0.length:Int)),(8,.i x15)]) (M.zu.partial_correctness _ _) rfl fun _ _ ih_zu x15=>S.cb (S.ixs q01.z03 q01.z0b fun x19=>S.k0 (ih_q1q _) fun a20=>S.n (S.cb (S.jp (st [(4,.i x15)]) (fun _=>rfl) S.q) (S.jp (st [(0,.l24 p0),(1,.fn 90 [] []),(7,.i (p0.length:Int)),(8,.i (ya .i64 (x15+1)))]) (fun _=>rfl) (ih_zu _)))) S.zr)) fun j11=>S.q)
theorem C.q1p (fuel:Nat):T.q1p fuel∧T.q1q fuel∧T.q3f fuel∧T.q3r fuel:=by
 induction fuel with
 | zero=>exact ⟨fun _=>S.no,fun _=>S.no,fun _=>S.no,fun _=>S.no⟩
 | succ fuel ih=>exact ⟨L.q1p fuel ih.1 ih.2.1 ih.2.2.1 ih.2.2.2,L.q1q fuel ih.1 ih.2.1 ih.2.2.1 ih.2.2.2,L.q3f fuel ih.1 ih.2.1 ih.2.2.1 ih.2.2.2,L.q3r fuel ih.1 ih.2.1 ih.2.2.1 ih.2.2.2⟩
@[reducible] def T.q1e (fuel:Nat):Prop := ∀ (p0:q01),Qs (M.q1e fuel p0) 120 ⟨[.agg p0.v],[],[]⟩ fun r => .ok [.b r] [] []
@[reducible] def T.q1f (fuel:Nat):Prop := ∀ (p0:q01),Qs (M.q1f fuel p0) 186 ⟨[.agg p0.v],[],[]⟩ fun r => .ok [.b r] [] []
@[reducible] def T.q3e (fuel:Nat):Prop := ∀ (p0:List q01),Qs (M.q3e fuel p0) 89 ⟨[.l24 p0,.fn 186 [] []],[],[]⟩ fun r => .ok [.b r] [] []
@[reducible] def T.q3q (fuel:Nat):Prop := ∀ (p0:List q01),Qs (M.q3q fuel p0) 154 ⟨[.l24 p0,.fn 186 [] []],[],[]⟩ fun r => .ok [.i r] [] []
def A.q1e:Ann:={ reg:=[(3,[(5,0,c1 [2])])],ro:=[1] }
theorem L.q1e (fuel:Nat) (ih_q1e:T.q1e fuel) (ih_q1f:T.q1f fuel) (ih_q3e:T.q3e fuel) (ih_q3q:T.q3q fuel):T.q1e (fuel+1):=fun p0 =>
 Kf Tryz.func120 A.q1e [.tmp 2] (by unfold M.q1e;exact S.cb S.q (S.k0 (ih_q3e _) fun a1=>S.n (S.jp (st [(2,.b (!a1))]) (fun _=>rfl) S.q)))
def A.q1f:Ann:={ ro:=[1] }
theorem L.q1f (fuel:Nat) (ih_q1e:T.q1e fuel) (ih_q1f:T.q1f fuel) (ih_q3e:T.q3e fuel) (ih_q3q:T.q3q fuel):T.q1f (fuel+1):=fun p0 =>
 Kf Tryz.func186 A.q1f [.tmp 2] (by unfold M.q1f;exact S.k0 (ih_q1e _) fun a1=>S.n S.q)
theorem L.q3e (fuel:Nat) (ih_q1e:T.q1e fuel) (ih_q1f:T.q1f fuel) (ih_q3e:T.q3e fuel) (ih_q3q:T.q3q fuel):T.q3e (fuel+1):=fun p0 =>
 Kf Tryz.func89 {} [.tmp 4] (by unfold M.q3e;exact S.k0 (ih_q3q _) fun a1=>S.n S.q)
def A.q3q:Ann:={ seq:=[(7,c1 [])],loop:=[(2,c1 [0,1,7,8])],reg:=[(5,[(2,0,c1 [4])]),(6,[(2,0,c1 [0,1,7,8])])] }
theorem L.q3q (fuel:Nat) (ih_q1e:T.q1e fuel) (ih_q1f:T.q1f fuel) (ih_q3e:T.q3e fuel) (ih_q3q:T.q3q fuel):T.q3q (fuel+1):=fun p0 =>
 Kf Tryz.func154 A.q3q [.tmp 4] (by unfold M.q3q;exact S.gn (fun _=>st []) (S.eq (z1f q01.z03) (S.lw (L:=M.zt p0 (M.q1f fuel)) (fun x15=>st [(0,.l24 p0),(1,.fn 186 [] []),(7,.i (p0.length:Int)),(8,.i x15)]) (M.zt.partial_correctness _ _) rfl fun _ _ ih_zt x15=>S.cb (S.ixs q01.z03 q01.z0b fun x19=>S.k0 (ih_q1f _) fun a20=>S.n (S.cb (S.jp (st [(4,.i x15)]) (fun _=>rfl) S.q) (S.jp (st [(0,.l24 p0),(1,.fn 186 [] []),(7,.i (p0.length:Int)),(8,.i (ya .i64 (x15+1)))]) (fun _=>rfl) (ih_zt _)))) S.zr)) fun j11=>S.q)
theorem C.q1e (fuel:Nat):T.q1e fuel∧T.q1f fuel∧T.q3e fuel∧T.q3q fuel:=by
 induction fuel with
 | zero=>exact ⟨fun _=>S.no,fun _=>S.no,fun _=>S.no,fun _=>S.no⟩
 | succ fuel ih=>exact ⟨L.q1e fuel ih.1 ih.2.1 ih.2.2.1 ih.2.2.2,L.q1f fuel ih.1 ih.2.1 ih.2.2.1 ih.2.2.2,L.q3e fuel ih.1 ih.2.1 ih.2.2.1 ih.2.2.2,L.q3q fuel ih.1 ih.2.1 ih.2.2.1 ih.2.2.2⟩
def A.q1o:Ann:={ seq:=[(8,c1 [1])],reg:=[(1,[(5,4,c1 [1,12]),(1,4,c1 [1,17]),(1,5,c1 [1,23])]),(4,[(5,5,c1 [1,35])]),(6,[(5,9,c1 [1,49]),(1,6,c1 [1,56])]),(11,[(3,4,c1 [70])]),(15,[(3,8,c1 [87])])],ro:=[1] }
theorem C.q1o {fuel:Nat} {p0:q00}:Qs (M.q1o fuel p0) 62 ⟨[.agg p0.v],[],[]⟩ fun r => .ok [.b r] [] [] :=
 Kf Tryz.func62 A.q1o [.tmp 2] (by unfold M.q1o;exact S.k0 C.q1x fun a13=>(by exact S.n (S.ju0 (fun x15=>st [(1,.z09 p0.d 0),(12,.b x15)]) rfl (S.ju0 (fun x17=>st [(1,.z09 p0.d 0),(17,.b x17)]) rfl (S.j (fun j22=>st [(1,.z09 p0.d 0),(23,.b j22)]) (fun _=>S.cb S.zr (S.k0 (C.z1e _) fun a23=>S.n S.zr)) fun j22=>S.cb S.q (S.gn (fun _=>st [(1,.z09 p0.d 0)]) (S.cb (S.k0 ((C.q1p _).1 _) fun a54=>S.n (S.j (fun j59=>st [(1,.z09 p0.d 0),(35,.b j59)]) (fun _=>S.cb S.zr (S.k0 ((C.q1e _).1 _) fun a60=>S.n S.zr)) fun j59=>S.cb S.q S.zr)) (S.j (fun j64=>st [(1,.z09 p0.d 0),(49,.b j64)]) (fun _=>S.cb S.zr (S.e fun s65=>S.zr)) fun j64=>S.ju (fun x66=>st [(1,.z09 p0.d 0),(56,.b x66)]) (fun _=>Ex.i (z1f q01.z03) (jbI rfl rfl)) (S.cb S.q S.zr))) fun j53=>S.m (S.cb (S.ja0 (fun x68=>st [(70,.b x68)]) rfl (S.q)) (S.cb S.q (S.cb (S.ja (fun x70=>st [(87,.b x70)]) (fun _=>cnd (fun h72=>jbI rfl (zza h72)) (fun h72=>jbI rfl (zz9 h72 rfl))) (S.q)) S.q)))))))))
def A.q15:Ann:={ ro:=[1] }
theorem C.q15 {fuel:Nat} {p0:q00}:Qs (M.q15 fuel p0) 61 ⟨[.agg p0.v],[],[]⟩ fun r => .ok [.b r] [] [] :=
 Kf Tryz.func61 A.q15 [.tmp 2] (by unfold M.q15;exact S.k0 C.q1o fun a1=>S.n S.q)
def A.q3o:Ann:={ seq:=[(7,c1 [])],loop:=[(2,c1 [0,1,7,8])],reg:=[(5,[(2,0,c1 [4])]),(6,[(2,0,c1 [0,1,7,8])])] }
theorem C.q3o {fuel:Nat} {p0:List q00}:Qs (M.q3o fuel p0) 119 ⟨[.l51 p0,.fn 61 [] []],[],[]⟩ fun r => .ok [.i r] [] [] :=
 Kf Tryz.func119 A.q3o [.tmp 4] (by unfold M.q3o;exact S.gn (fun _=>st []) (S.m (S.lw (L:=M.zm p0 fuel) (fun x15=>st [(0,.l51 p0),(1,.fn 61 [] []),(7,.i (p0.length:Int)),(8,.i x15)]) (M.zm.partial_correctness _ _) rfl fun _ _ ih_zm x15=>S.cb (S.ixm q00.z0b fun x19=>S.k0 C.q15 fun a20=>S.n (S.cb (S.jp (st [(4,.i x15)]) (fun _=>rfl) S.q) (S.jp (st [(0,.l51 p0),(1,.fn 61 [] []),(7,.i (p0.length:Int)),(8,.i (ya .i64 (x15+1)))]) (fun _=>rfl) (ih_zm _)))) S.zr)) fun j11=>S.q)
theorem C.q3c {fuel:Nat} {p0:List q00}:Qs (M.q3c fuel p0) 60 ⟨[.l51 p0,.fn 61 [] []],[],[]⟩ fun r => .ok [.b r] [] [] :=
 Kf Tryz.func60 {} [.tmp 4] (by unfold M.q3c;exact S.k0 C.q3o fun a1=>S.n S.q)
theorem C.q0o {p0:Bool} {p1:Int}:Qs (M.q0o p0 p1) 128 ⟨[.b p0,.i p1],[],[]⟩ (ro 195 .i64 fun _ => .ok [] [] []) :=
 Kf Tryz.func128 {} [] (by unfold M.q0o;exact S.cb S.zr S.q)
theorem C.q0l {p0:List UInt8}:Qs (M.q0l p0) 223 ⟨[.s p0],[],[]⟩ fun r => .ok [.b r] [] [] :=
 Kf Tryz.func223 {} [.tmp 2] (by unfold M.q0l;exact S.k0 (C.z0c _) fun a1=>S.n S.q)
def A.q3x:Ann:={ seq:=[(7,c1 [])],loop:=[(2,c1 [0,1,7,8])],reg:=[(5,[(2,0,c1 [4])]),(6,[(2,0,c1 [0,1,7,8])])] }
theorem C.q3x {p0:List (List UInt8)}:Qs (M.q3x p0) 105 ⟨[.l9 p0,.fn 223 [] []],[],[]⟩ fun r => .ok [.i r] [] [] :=
 Kf Tryz.func105 A.q3x [.tmp 4] (by unfold M.q3x;exact S.gn (fun _=>st []) (S.m (S.lw (L:=M.zp p0) (fun x15=>st [(0,.l9 p0),(1,.fn 223 [] []),(7,.i (p0.length:Int)),(8,.i x15)]) (M.zp.partial_correctness _) rfl fun _ _ ih_zp x15=>S.cb (S.ixf eS fun x19=>S.k0 C.q0l fun a20=>S.n (S.cb (S.jp (st [(4,.i x15)]) (fun _=>rfl) S.q) (S.jp (st [(0,.l9 p0),(1,.fn 223 [] []),(7,.i (p0.length:Int)),(8,.i (ya .i64 (x15+1)))]) (fun _=>rfl) (ih_zp _)))) S.zr)) fun j11=>S.q)
theorem C.q3j {p0:List (List UInt8)}:Qs (M.q3j p0) 94 ⟨[.l9 p0,.fn 223 [] []],[],[]⟩ fun r => .ok [.b r] [] [] :=
 Kf Tryz.func94 {} [.tmp 4] (by unfold M.q3j;exact S.k0 C.q3x fun a1=>S.n S.q)
def A.q0d:Ann:={ reg:=[(1,[(6,7,c1 [17])])] }
theorem C.q0d {p0 p1:List UInt8}:Qs (M.q0d p0 p1) 206 ⟨[.s p0,.s p1],[],[]⟩ fun r => .ok [.b r] [] [] :=
 Kf Tryz.func206 A.q0d [.tmp 4] (by unfold M.q0d;exact S.j (fun j3=>st [(17,.b j3)]) (fun _=>S.cb (S.e fun s4=>S.zr) S.zr) fun j3=>S.q)
theorem C.q4d {p0 p1:List UInt8}:Qs (M.q4d p0 p1) 145 ⟨[.s p0,.s p1],[],[]⟩ fun r => .ok [.b r] [] [] :=
 Kf Tryz.func145 {} [.tmp 4] (by unfold M.q4d;exact S.k0 C.q0d fun a1=>S.n S.q)
def A.q0m:Ann:={ reg:=[(1,[(7,0,c1 [2])])] }
theorem C.q0m {p0:List UInt8}:Qs (M.q0m p0) 227 ⟨[.s p0],[],[]⟩ fun r => .ok [.i r] [] [] :=
 Kf Tryz.func227 A.q0m [.tmp 2] (by unfold M.q0m;exact S.k0 (C.trimLeft _ _) fun a1=>S.n (S.jp (st [(2,.i (ya .i64 ((p0.length:Int) - (a1.length:Int))))]) (fun _=>rfl) S.q))
def A.q0p:Ann:={ seq:=[(4,c1 [0,3]),(9,c1 [0,3,4]),(14,c1 [0,3]),(18,c1 [0,3,6])],reg:=[(7,[(4,0,c1 [0,3,4,19])]),(11,[(6,0,c1 [0,3,5])]),(14,[(5,11,c1 [0,3,53])]),(16,[(5,11,c1 [0,3,6,71])]),(20,[(4,0,c1 [3])])] }
theorem C.q0p {p0:List UInt8}:Qs (M.q0p p0) 193 ⟨[.s p0],[],[]⟩ fun r => .ok [.i r] [] [] :=
 Kf Tryz.func193 A.q0p [.tmp 2] (by unfold M.q0p;exact S.j (fun j6=>st [(0,.s p0),(3,.i j6)]) (fun _=>S.k0 C.q4d fun a7=>S.n (S.cb S.zr S.zr)) fun j6=>S.e fun s9=>S.k0 C.q0m fun a10=>(by exact S.n (S.cb S.q (S.j (fun j15=>st [(0,.s p0),(3,.i j6),(4,.i j15)]) (fun _=>S.e fun c16=>S.jp (st [(0,.s p0),(3,.i j6),(4,.i a10),(19,.b (decide ((c16.toNat:Int)=48)))]) (fun _=>rfl) (S.cb S.zr S.zr)) fun j15=>S.j (fun j30=>st [(0,.s p0),(3,.i j30)]) (fun _=>S.e fun s31=>S.k0 C.q4d fun a32=>S.n (S.cb (S.e fun s34=>S.k0 C.q0m fun a35=>S.n (S.jp (st [(0,.s p0),(3,.i (ya .i64 (j6+j15))),(5,.i a35)]) (fun _=>rfl) (S.cb S.zr S.zr))) S.zr)) fun j30=>S.j (fun j40=>st [(0,.s p0),(3,.i j30),(53,.b j40)]) (fun _=>S.cb (S.e fun c41=>S.cb S.zr (S.e fun c42=>S.zr)) S.zr) fun j40=>S.cb (S.j (fun j56=>st [(0,.s p0),(3,.i j30),(6,.i j56)]) (fun _=>S.j (fun j60=>st [(0,.s p0),(3,.i j30),(6,.i (ya .i64 (j30+1))),(71,.b j60)]) (fun _=>S.cb (S.e fun c61=>S.cb S.zr (S.e fun c62=>S.zr)) S.zr) fun j60=>S.cb S.zr S.zr) fun j56=>S.e fun s63=>S.k0 C.q0m fun a64=>S.n (S.cb (S.jp (st [(3,.i (ya .i64 (j56+a64)))]) (fun _=>rfl) S.q) S.q)) S.q))))
@[reducible] def T.q0k (fuel:Nat):Prop := ∀ (p0:q03) (p1:Int),Qs (M.q0k fuel p0 p1) 187 ⟨[.agg p0.v,.i p1],[],[]⟩ (ro 195 .i64 fun _ => .ok [] [] [])
def A.q0k:Ann:={ seq:=[(13,c1 [1,2])],loop:=[(14,c1 [1,101,102,103])],reg:=[(1,[(4,4,c1 [1,2,14])]),(2,[(3,3,c1 [1,2,4,20])]),(3,[(4,4,c1 [1,2,4,29])]),(4,[(2,5,c1 [1,2,37])]),(5,[(4,8,c1 [1,2,50]),(1,10,c1 [1,2,61])]),(6,[(5,4,c1 [1,2,71])]),(8,[(4,0,c1 [1,2])]),(12,[(4,0,c1 [1,2])]),(16,[(4,0,c1 [1,101,102,103])])],drw:=[(10,{ anc:=[0,1,3,7,15,31,63,15,143,399,1023,2047,4095],E:=[6,12],qs:=[0,1,2,3,4,5,7,8,9],g:=.one 6 [7,8,9] [10,11] (.one 12 [] [] (.fin)),lin:=some [(4,8,c1 [1,2,92])] })],ro:=[2] }
theorem L.q0k (fuel:Nat) (ih_q0k:T.q0k fuel):T.q0k (fuel+1):=fun p0 p1 =>
 Kf Tryz.func187 A.q0k [] (by unfold M.q0k;exact S.ju0 (fun x1=>st [(1,.i p1),(2,.z09 p0.d 0),(14,.b x1)]) rfl (S.ju0 (fun x3=>st [(1,.i p1),(2,.z09 p0.d 0),(4,.b ((decide (p0.zc=5))||(decide (p0.zc=6)))),(20,.b x3)]) rfl (S.k0 C.q0o fun a5=>(match a5 with | .pan e8=>S.n S.zr | .ok a7=>S.n (S.ja0 (fun x9=>st [(1,.i p1),(2,.z09 p0.d 0),(4,.b ((decide (p0.zc=5))||(decide (p0.zc=6)))),(29,.b x9)]) rfl (S.k0 C.q0o fun a11=>(by exact (match a11 with | .pan e14=>S.n S.zr | .ok a13=>S.n (S.ju (fun x15=>st [(1,.i p1),(2,.z09 p0.d 0),(37,.b x15)]) (fun _=>Ex.i (z1f q03.z03) (jbI rfl rfl)) (S.k0 C.q0o fun a17=>(match a17 with | .pan e20=>S.n S.zr | .ok a19=>S.n (S.ja (fun x21=>st [(1,.i p1),(2,.z09 p0.d 0),(50,.b x21)]) (fun _=>Ex.i z1x (Ex.i (z1f q03.z03) (jbI rfl rfl))) (S.ju (fun x23=>st [(1,.i p1),(2,.z09 p0.d 0),(61,.b x23)]) (fun _=>Ex.i z1x (cnd (fun h25=>jbI rfl (zhi h25 rfl)) (fun h25=>jbI rfl (zhh h25)))) (S.k0 C.q0o fun a26=>(match a26 with | .pan e29=>S.n S.zr | .ok a28=>S.n (S.k0 C.q3j fun a30=>S.n (by exact S.j (fun j35=>st [(1,.i p1),(2,.z09 p0.d 0),(71,.b j35)]) (fun _=>S.cb (S.k0 (C.single _) fun a36=>S.n S.zr) S.zr) fun j35=>S.k0 C.q0o fun a38=>(match a38 with | .pan e41=>S.n S.zr | .ok a40=>S.n (S.gn (fun _=>st [(1,.i p1),(2,.z09 p0.d 0)]) (S.cb (S.j (fun j86=>st [(1,.i p1),(2,.z09 p0.d 0),(92,.b j86)]) (fun _=>S.cb (S.k0 C.q0p fun a87=>S.n S.zr) S.zr) fun j86=>S.k0 C.q0o fun a89=>(match a89 with | .pan e92=>S.n S.zr | .ok a91=>S.n S.zr)) (S.cb (S.k0 (C.z0c _) fun a93=>S.n (S.k0 C.q0o fun a95=>(match a95 with | .pan e98=>S.n S.zr | .ok a97=>S.n (S.jp (st [(1,.i p1),(2,.z09 p0.d 0)]) (fun _=>rfl) S.zr)))) (S.k0 C.q0o fun a99=>(match a99 with | .pan e102=>S.n S.zr | .ok a101=>S.n (S.jp (st [(1,.i p1),(2,.z09 p0.d 0)]) (fun _=>rfl) S.zr))))) fun j82=>S.eq (z1f q03.z03) (S.lw (L:=M.z0z p0 (M.q0k fuel) p1) (fun x108=>st [(1,.i p1),(101,.l91 p0.zh),(102,.i (p0.zh.length:Int)),(103,.i x108)]) (M.z0z.partial_correctness _ _ _) rfl fun _ _ ih_z0z x108=>S.cb (S.ixs q03.z03 q03.z0b fun x114=>S.k0 (ih_q0k _ _) fun a115=>(match a115 with | .pan e118=>S.n S.zr | .ok a117=>S.n (S.jp (st [(1,.i p1),(101,.l91 p0.zh),(102,.i (p0.zh.length:Int)),(103,.i x108)]) (fun _=>rfl) (ih_z0z _)))) S.q))))))))))))))))))))
theorem C.q0k (fuel:Nat):T.q0k fuel:=by
 induction fuel with
 | zero=>exact fun _ _=>S.no
 | succ fuel ih=>exact L.q0k fuel ih
def A.q0f:Ann:={ reg:=[(2,[(2,0,cu [2] [999] [])])],ro:=[1] }
theorem C.q0f {fuel:Nat} {p0:q03}:Qs (M.q0f fuel p0) 121 ⟨[.agg p0.v],[],[]⟩ fun r => .ok [.i r] [] [] :=
 Kd C.zs5 Tryz.func121 A.q0f [.cell 2 25] (by unfold M.q0f;exact S.k0 (C.q0k _ _ _) fun a1=>(match a1 with | .pan e4=>S.n S.q | .ok a3=>S.n (S.jp (sb [(2,.p 999)] [(999,⟨25,[.i 0]⟩)]) (fun _=>rfl) S.q)))
def A.q4a:Ann:={ reg:=[(2,[(10,0,{ L:=[1],B:=[0],A:=[100101],H:=[(.cell 0 1,100101,5,1)] })])],fin:=[(.cell 0 1,0,5,1)],nb:=1 }
theorem C.q4a {p0:List Int} {p1:List UInt8}:Qs (M.q4a p0 p1) 152 ⟨[.p 0,.s p1],[⟨141,[.z0g 0,.ref 0]⟩],[(5,1,(p0.map (eI .u8)))]⟩ fun r => .ok [.i r.1,.zc7] [⟨141,[.z0g 0,.ref 0]⟩] [some (5,1,(r.2.map (eI .u8)))] :=
 Kf Tryz.func152 A.q4a [.tmp 4,.tmp 5] (by unfold M.q4a;exact S.kk [0] [0] [5020] (C.z1p _) fun a1=>S.n (S.zc4 (eI .u8) fun l3=>S.jp (⟨[(1,.s p1)],[(0,⟨141,[.z0g 0,.ref 100101]⟩)],[(100101,⟨false,5,1,(l3.map (eI .u8))⟩)],none⟩) (fun _=>rfl) S.q))
def A.q48:Ann:={ reg:=[(2,[(11,0,{ L:=[],B:=[0],A:=[100101],H:=[(.cell 0 1,100101,5,1)] })])],fin:=[(.cell 0 1,0,5,1)],nb:=1 }
theorem C.q48 {p0:List Int} {p1:Int}:Qs (M.q48 p0 p1) 189 ⟨[.p 0,.int .u8 p1],[⟨141,[.z0g 0,.ref 0]⟩],[(5,1,(p0.map (eI .u8)))]⟩ fun r => .ok [.zc7] [⟨141,[.z0g 0,.ref 0]⟩] [some (5,1,(r.map (eI .u8)))] :=
 Kf Tryz.func189 A.q48 [.tmp 4] (by unfold M.q48;exact S.kk [0] [0] [5020] (C.z1p _) fun a1=>S.n (S.zc4 (eI .u8) fun l3=>S.jp (⟨[],[(0,⟨141,[.z0g 0,.ref 100101]⟩)],[(100101,⟨false,5,1,(l3.map (eI .u8))⟩)],none⟩) (fun _=>rfl) S.q))
def A.q0q:Ann:={ seq:=[(11,{ L:=[0],B:=[0],A:=[3003],H:=[(.cell 0 1,3003,5,1)] })],loop:=[(2,{ L:=[0,10,11,12],B:=[0],A:=[3005],H:=[(.cell 0 1,3005,5,1)] })],reg:=[(6,[(7,0,{ L:=[0,10,11,12],B:=[0],A:=[100301],H:=[(.cell 0 1,100301,5,1)] })]),(7,[(2,0,{ L:=[0,5,10,11,12,28],B:=[0],A:=[100351],H:=[(.cell 0 1,100351,5,1)] })])],drw:=[(8,{ anc:=[0,0,2,0,8,24,62,126,0,256,0,1024,3072,7936,16382,32767],E:=[15],qs:=[0,1,2,3,4,5,6,7,8,9,10,11,12,13,14],g:=.one 15 [] [] (.fin),lin:=some [(16,0,{ L:=[0,10,11,12],B:=[0],A:=[140801],H:=[(.cell 0 1,140801,5,1)] })] })],fin:=[(.cell 0 1,0,5,1)],nb:=1 }
theorem C.q0q {p0:List Int} {p1:List UInt8}:Qs (M.q0q p0 p1) 188 ⟨[.p 0,.s p1],[⟨141,[.z0g 0,.ref 0]⟩],[(5,1,(p0.map (eI .u8)))]⟩ fun r => .ok [] [⟨141,[.z0g 0,.ref 0]⟩] [some (5,1,(r.map (eI .u8)))] :=
 Kf Tryz.func188 A.q0q [] (by unfold M.q0q;exact S.kk [0] [0] [5020] C.q48 fun a1=>S.n (S.j (fun j51=>⟨[(0,.p 0)],[(0,⟨141,[.z0g 0,.ref 3003]⟩)],[(3003,⟨false,5,1,(j51.map (eI .u8))⟩)],none⟩) (fun _=>S.e fun _=>S.m (S.lw2 (L:=M.z0n p1) (fun x67 x68=>⟨[(0,.p 0),(10,.l5 (unb p1)),(11,.i ((unb p1).length:Int)),(12,.i x67)],[(0,⟨141,[.z0g 0,.ref 3005]⟩)],[(3005,⟨false,5,1,(x68.map (eI .u8))⟩)],none⟩) (M.z0n.partial_correctness _) rfl fun _ _ ih_z0n x67 x68=>S.cb (S.ixf (eI .u8) fun x84=>S.k0 (C.indexByte _ _) fun a85=>(by exact S.n (S.cb (S.e fun s87=>S.e fun s88=>S.kk [0] [3005] [5900] C.q4a fun a89=>S.n (S.jp (⟨[(0,.p 0),(10,.l5 (unb p1)),(11,.i ((unb p1).length:Int)),(12,.i x67)],[(0,⟨141,[.z0g 0,.ref 100301]⟩)],[(100301,⟨false,5,1,(a89.2.map (eI .u8))⟩)],none⟩) (fun _=>rfl) (ih_z0n _ _))) (S.jp (⟨[(0,.p 0),(5,.int .u8 x84),(10,.l5 (unb p1)),(11,.i ((unb p1).length:Int)),(12,.i x67),(28,.b (decide (x84<32)))],[(0,⟨141,[.z0g 0,.ref 100351]⟩)],[(100351,⟨false,5,1,(x68.map (eI .u8))⟩)],none⟩) (fun _=>rfl) (S.cb (S.eq (by decide:chk _=some ()) (S.eq (by decide:chk _=some ()) (S.e fun s91=>S.e fun s92=>S.e fun s93=>S.e fun s94=>S.kk [0] [100351] [5960] C.q4a fun a95=>S.n (S.jp (⟨[(0,.p 0),(10,.l5 (unb p1)),(11,.i ((unb p1).length:Int)),(12,.i x67)],[(0,⟨141,[.z0g 0,.ref 140801]⟩)],[(140801,⟨false,5,1,(a95.2.map (eI .u8))⟩)],none⟩) (fun _=>rfl) (ih_z0n _ _))))) (S.kk [0] [100351] [5980] C.q48 fun a97=>S.n (ih_z0n _ _))))))) S.zr)) fun j51=>S.kk [0] [3003] [6000] C.q48 fun a99=>S.n S.q))
@[reducible] def T.q0n (fuel:Nat):Prop := ∀ (p0:List Int) (p1:q03),Qs (M.q0n fuel p0 p1) 122 ⟨[.p 0,.agg p1.v],[⟨141,[.z0g 0,.ref 0]⟩],[(5,1,(p0.map (eI .u8)))]⟩ fun r => .ok [] [⟨141,[.z0g 0,.ref 0]⟩] [some (5,1,(r.map (eI .u8)))]
def A.q0n:Ann:={ seq:=[(5,{ L:=[0,3,4],B:=[0],A:=[0],H:=[(.cell 0 1,0,5,1)] }),(11,{ L:=[0,3,4,5,6,17,18,19],B:=[0,1006],A:=[3011],H:=[(.cell 0 1,3011,5,1)] }),(16,{ L:=[0,4],B:=[0],A:=[3006],H:=[(.cell 0 1,3006,5,1)] })],loop:=[(7,{ L:=[0,3,4,17,18,19],B:=[0],A:=[3009],H:=[(.cell 0 1,3009,5,1)] })],reg:=[(6,[(4,0,{ L:=[0,3,4,17,18,19],B:=[0],A:=[100301],H:=[(.cell 0 1,100301,5,1)] })]),(10,[(2,0,{ L:=[0,3,4,5,6,17,18,19],B:=[0,1006],A:=[100501],H:=[(.cell 0 1,100501,5,1)] })]),(13,[(2,0,{ L:=[0,3,4,6,17,18,19],B:=[0,1006],A:=[100651],H:=[(.cell 0 1,100651,5,1)] })]),(18,[(2,0,{ L:=[],B:=[0],A:=[100901],H:=[(.cell 0 1,100901,5,1)] })]),(20,[(2,0,{ L:=[],B:=[0],A:=[101001],H:=[(.cell 0 1,101001,5,1)] })]),(22,[(2,0,{ L:=[],B:=[0],A:=[101101],H:=[(.cell 0 1,101101,5,1)] })]),(24,[(4,0,{ L:=[],B:=[0],A:=[101201],H:=[(.cell 0 1,101201,5,1)] })]),(26,[(4,0,{ L:=[],B:=[0],A:=[101301],H:=[(.cell 0 1,101301,5,1)] })])],ro:=[3],fin:=[(.cell 0 1,0,5,1)],nb:=1 }
theorem L.q0n (fuel:Nat) (ih_q0n:T.q0n fuel):T.q0n (fuel+1):=fun p0 p1 =>
 Kf Tryz.func122 A.q0n [] (by unfold M.q0n;exact S.cb (S.kk [0] [0] [5020] C.q4a fun a1=>S.n (S.jp (⟨[],[(0,⟨141,[.z0g 0,.ref 100901]⟩)],[(100901,⟨false,5,1,(a1.2.map (eI .u8))⟩)],none⟩) (fun _=>rfl) S.q)) (S.cb (S.kk [0] [0] [5040] C.q4a fun a3=>S.n (S.jp (⟨[],[(0,⟨141,[.z0g 0,.ref 101001]⟩)],[(101001,⟨false,5,1,(a3.2.map (eI .u8))⟩)],none⟩) (fun _=>rfl) S.q)) (S.cb (S.kk [0] [0] [5060] C.q4a fun a5=>S.n (S.jp (⟨[],[(0,⟨141,[.z0g 0,.ref 101101]⟩)],[(101101,⟨false,5,1,(a5.2.map (eI .u8))⟩)],none⟩) (fun _=>rfl) S.q)) (S.cb (S.kk [0] [0] [5080] C.q4a fun a7=>S.n (S.jp (⟨[],[(0,⟨141,[.z0g 0,.ref 101201]⟩)],[(101201,⟨false,5,1,(a7.2.map (eI .u8))⟩)],none⟩) (fun _=>rfl) S.q)) (S.cb (S.kk [0] [0] [5100] C.q0q fun a9=>S.n (S.jp (⟨[],[(0,⟨141,[.z0g 0,.ref 101301]⟩)],[(101301,⟨false,5,1,(a9.map (eI .u8))⟩)],none⟩) (fun _=>rfl) S.q)) (S.j (fun j12=>⟨[(0,.p 0),(3,.z09 p1.d 0),(4,.s j12)],[(0,⟨141,[.z0g 0,.ref 0]⟩)],[(0,⟨false,5,1,(p0.map (eI .u8))⟩)],none⟩) (fun _=>S.cb S.zr S.zr) fun j12=>S.e fun c13=>S.kk [0] [0] [5150] C.q48 fun a14=>S.n (S.j (fun j73=>⟨[(0,.p 0),(4,.s j12)],[(0,⟨141,[.z0g 0,.ref 3006]⟩)],[(3006,⟨false,5,1,(j73.map (eI .u8))⟩)],none⟩) (fun _=>S.eq (z1f q03.z03) (S.jp (⟨[(0,.p 0),(3,.z09 p1.d 0),(4,.s j12),(17,.l91 p1.zh),(18,.i (p1.zh.length:Int)),(19,.i 0)],[(0,⟨141,[.z0g 0,.ref 100301]⟩)],[(100301,⟨false,5,1,(a14.map (eI .u8))⟩)],none⟩) (fun _=>rfl) (by exact S.lw2 (L:=M.z1a p1 (M.q0n fuel)) (fun x92 x93=>⟨[(0,.p 0),(3,.z09 p1.d 0),(4,.s j12),(17,.l91 p1.zh),(18,.i (p1.zh.length:Int)),(19,.i x92)],[(0,⟨141,[.z0g 0,.ref 3009]⟩)],[(3009,⟨false,5,1,(x93.map (eI .u8))⟩)],none⟩) (M.z1a.partial_correctness _ _) rfl fun _ _ ih_z1a x92 x93=>S.cb (S.ixs q03.z03 q03.z0b fun x112=>S.j (fun j118=>⟨[(0,.p 0),(3,.z09 p1.d 0),(4,.s j12),(5,.i x92),(6,.p 1006),(17,.l91 p1.zh),(18,.i (p1.zh.length:Int)),(19,.i x92)],[(0,⟨141,[.z0g 0,.ref 3011]⟩),(1006,⟨91,x112.v⟩)],[(3011,⟨false,5,1,(j118.map (eI .u8))⟩)],none⟩) (fun _=>S.cb (S.kk [0] [3009] [6200] C.q48 fun a119=>S.n (S.jp (⟨[(0,.p 0),(3,.z09 p1.d 0),(4,.s j12),(5,.i x92),(6,.p 1006),(17,.l91 p1.zh),(18,.i (p1.zh.length:Int)),(19,.i x92)],[(0,⟨141,[.z0g 0,.ref 100501]⟩),(1006,⟨91,x112.v⟩)],[(100501,⟨false,5,1,(a119.map (eI .u8))⟩)],none⟩) (fun _=>rfl) S.zr)) S.zr) fun j118=>S.cb (S.ixf eS fun x121=>S.kk [0] [3011] [6230] C.q0q fun a122=>S.n (S.kk [0] [6230] [6250] C.q48 fun a124=>S.n (S.jp (⟨[(0,.p 0),(3,.z09 p1.d 0),(4,.s j12),(6,.p 1006),(17,.l91 p1.zh),(18,.i (p1.zh.length:Int)),(19,.i x92)],[(0,⟨141,[.z0g 0,.ref 100651]⟩),(1006,⟨91,x112.v⟩)],[(100651,⟨false,5,1,(a124.map (eI .u8))⟩)],none⟩) (fun _=>rfl) (S.kk [0] [100651] [6270] (ih_q0n _ _) fun a126=>S.n (ih_z1a _ _))))) (S.kk [0] [3011] [6290] (ih_q0n _ _) fun a128=>S.n (ih_z1a _ _))) S.zr))) fun j73=>S.e fun c130=>S.kk [0] [3006] [6320] C.q48 fun a131=>S.n S.q)))))))
theorem C.q0n (fuel:Nat):T.q0n fuel:=by
 induction fuel with
 | zero=>exact fun _ _=>S.no
 | succ fuel ih=>exact L.q0n fuel ih
def A.q46:Ann:={ nb:=1 }
theorem C.q46 {p0:List Int}:Qs (M.q46 p0) 123 ⟨[.p 0],[⟨141,[.z0g 0,.ref 0]⟩],[(5,1,(p0.map (eI .u8)))]⟩ fun r => .ok [.i r] [⟨141,[.z0g 0,.ref 0]⟩] [some (5,1,(p0.map (eI .u8)))] :=
 Kf Tryz.func123 A.q46 [.tmp 2] (by unfold M.q46;exact S.m S.q)
def A.q0i:Ann:={ reg:=[(2,[(2,0,c1 [1,4,9])]),(6,[(2,0,{ L:=[5,14],B:=[1005],A:=[100301],H:=[(.cell 1005 1,100301,5,1)] })])],ro:=[1] }
theorem C.q0i {fuel:Nat} {p0:q03}:Qs (M.q0i fuel p0) 66 ⟨[.agg p0.v],[],[]⟩ fun r => .ok [.s r.1,.i r.2] [] [] :=
 Kf Tryz.func66 A.q0i [.tmp 2,.tmp 3] (by unfold M.q0i;exact S.k0 C.q0f fun a3=>S.n (S.jp (st [(1,.z09 p0.d 0),(4,.i a3),(9,.b (!decide (a3=0)))]) (fun _=>rfl) (S.cb S.q (S.kk [1005] [1005] [5060] (C.q0n _ _ _) fun a5=>S.n (S.kk [1005] [5060] [5080] C.q46 fun a7=>S.n (S.jp (⟨[(5,.p 1005),(14,.b (decide (16384<a7)))],[(1005,⟨141,[.z0g 1005,.ref 100301]⟩)],[(100301,⟨true,5,1,(a5.map (eI .u8))⟩)],none⟩) (fun _=>rfl) (S.cb S.q (S.kk [1005] [100301] [5100] (C.z08 _) fun a9=>S.n S.q))))))))
theorem C.q1g:Qs (M.q1g) 83 ⟨[],[],[]⟩ fun r => .ok [.zxw r] [] [] :=
 Kf Tryz.func83 {} [.tmp 0] (by unfold M.q1g;exact S.q)
@[reducible] def T.q2f (fuel:Nat):Prop := ∀ (p0:q01),Qs (M.q2f fuel p0) 37 ⟨[.agg p0.v],[],[]⟩ fun r => .ok [.s r.1,.i r.2] [] []
def A.q2f:Ann:={ seq:=[(14,{ L:=[1,6,7,10,11,45,46,47],B:=[],A:=[3029],H:=[(.slot 6 none,3029,9,1)] }),(17,{ L:=[1,6,7],B:=[],A:=[3016],H:=[(.slot 6 none,3016,9,1)] })],loop:=[(9,{ L:=[1,6,7,45,46,47],B:=[],A:=[3017],H:=[(.slot 6 none,3017,9,1)] })],reg:=[(4,[(9,0,c1 [1,4])]),(8,[(4,0,c1 [1,6,7,45,46,47])]),(12,[(4,4,{ L:=[1,6,7,9,10,11,45,46,47,63],B:=[1009],A:=[3030],H:=[(.slot 6 none,3030,9,1)] }),(1,9,{ L:=[1,6,7,10,11,45,46,47,73],B:=[],A:=[3031],H:=[(.slot 6 none,3031,9,1)] })]),(19,[(10,0,c1 [2,3])])],drw:=[(5,{ anc:=[0,1,3,0,0,16,48,120,248,504,1023,2047,0,8191,16383,32767],E:=[3],qs:=[0,1,2,4,5,6,12],g:=.one 3 [0,1,2,4,5,6,12] [7,8,9,10,11,13,14,15] (.fin),lin:=some [(16,0,c1 [2,3])] })],ro:=[1] }
theorem L.q2f (fuel:Nat) (ih_q2f:T.q2f fuel):T.q2f (fuel+1):=fun p0 =>
 Kf Tryz.func37 A.q2f [.tmp 2,.tmp 3] (by unfold M.q2f;exact S.cb (S.e fun s11=>S.q) (S.cb (S.k0 C.q0i fun a12=>S.n (S.jp (st [(1,.z09 p0.d 0),(4,.s a12.1)]) (fun _=>rfl) (S.e fun s14=>S.k0 C.q1g fun a15=>S.n (S.ixm q06.z0b fun x17=>S.e fun s18=>S.e fun s19=>S.e fun s20=>S.jp (st [(2,.s s20),(3,.i 0)]) (fun _=>rfl) S.q)))) (S.j (fun j110=>⟨[(1,.z09 p0.d 0),(6,.ref 3016),(7,.i j110.2)],[],[(3016,⟨true,9,1,(j110.1.map eS)⟩)],none⟩) (fun _=>(by exact S.eq (z1f q01.z03) (S.jp (st [(1,.z09 p0.d 0),(6,.nil),(7,.i 0),(45,.l24 p0.zh),(46,.i (p0.zh.length:Int)),(47,.i 0)]) (fun _=>rfl) (S.lw3 (L:=M.z1u p0 (M.q2f fuel)) (fun x139 x140 x141=>⟨[(1,.z09 p0.d 0),(6,.ref 3017),(7,.i x140),(45,.l24 p0.zh),(46,.i (p0.zh.length:Int)),(47,.i x141)],[],[(3017,⟨true,9,1,(x139.map eS)⟩)],none⟩) (M.z1u.partial_correctness _ _) rfl fun _ _ ih_z1u x139 x140 x141=>S.cb (S.ixs q01.z03 q01.z0b fun x170=>S.k0 (ih_q2f _) fun a171=>S.n (S.j (fun j189=>⟨[(1,.z09 p0.d 0),(6,.ref 3029),(7,.i x140),(10,.s j189.1),(11,.i j189.2),(45,.l24 p0.zh),(46,.i (p0.zh.length:Int)),(47,.i x141)],[],[(3029,⟨true,9,1,(x139.map eS)⟩)],none⟩) (fun _=>S.ju0 (fun x190=>⟨[(1,.z09 p0.d 0),(6,.ref 3030),(7,.i x140),(9,.p 1009),(10,.s a171.1),(11,.i a171.2),(45,.l24 p0.zh),(46,.i (p0.zh.length:Int)),(47,.i x141),(63,.b x190)],[(1009,⟨24,x170.v⟩)],[(3030,⟨true,9,1,(x139.map eS)⟩)],none⟩) rfl (S.ju (fun x192=>⟨[(1,.z09 p0.d 0),(6,.ref 3031),(7,.i x140),(10,.s a171.1),(11,.i a171.2),(45,.l24 p0.zh),(46,.i (p0.zh.length:Int)),(47,.i x141),(73,.b x192)],[],[(3031,⟨true,9,1,(x139.map eS)⟩)],none⟩) (fun _=>cnd (fun h194=>jbI rfl (zhi h194 rfl)) (fun h194=>jbI rfl (zhh h194))) (S.cb (S.e fun s195=>S.e fun s196=>S.zr) S.zr))) fun j189=>S.zc4 eS fun l197=>ih_z1u _ _ _)) S.zr)))) fun j110=>S.cb (S.ixf eS fun x201=>S.ixf eS fun x202=>S.e fun s203=>S.q) (S.ixf eS fun x204=>S.k0 (C.join _ _) fun a205=>S.n (S.jp (st [(2,.s a205),(3,.i j110.2)]) (fun _=>rfl) S.q)))))
theorem C.q2f (fuel:Nat):T.q2f fuel:=by
 induction fuel with
 | zero=>exact fun _=>S.no
 | succ fuel ih=>exact L.q2f fuel ih
def A.q12:Ann:={ reg:=[(3,[(7,0,c1 [4])])],ro:=[1] }
theorem C.q12 {fuel:Nat} {p0:q01}:Qs (M.q12 fuel p0) 16 ⟨[.agg p0.v],[],[]⟩ fun r => .ok [.i r] [] [] :=
 Kf Tryz.func16 A.q12 [.tmp 2] (by unfold M.q12;exact S.k0 ((C.q1p _).1 _) fun a3=>S.n (S.cb S.q (S.k0 (C.q2f _ _) fun a5=>S.n (S.jp (st [(4,.i a5.2)]) (fun _=>rfl) (S.cb S.q S.q)))))
def A.q16:Ann:={ reg:=[(1,[(3,5,c1 [10])])],ro:=[1] }
theorem C.q16 {fuel:Nat} {p0:q00}:Qs (M.q16 fuel p0) 63 ⟨[.agg p0.v],[],[]⟩ fun r => .ok [.b r] [] [] :=
 Kf Tryz.func63 A.q16 [.tmp 2] (by unfold M.q16;exact S.j (fun j4=>st [(10,.b j4)]) (fun _=>S.cb (S.k0 C.q12 fun a5=>S.n S.zr) S.zr) fun j4=>S.q)
def A.q3p:Ann:={ seq:=[(7,c1 [])],loop:=[(2,c1 [0,1,7,8])],reg:=[(5,[(2,0,c1 [4])]),(6,[(2,0,c1 [0,1,7,8])])] }
theorem C.q3p {fuel:Nat} {p0:List q00}:Qs (M.q3p fuel p0) 119 ⟨[.l51 p0,.fn 63 [] []],[],[]⟩ fun r => .ok [.i r] [] [] :=
 Kf Tryz.func119 A.q3p [.tmp 4] (by unfold M.q3p;exact S.gn (fun _=>st []) (S.m (S.lw (L:=M.zn p0 fuel) (fun x15=>st [(0,.l51 p0),(1,.fn 63 [] []),(7,.i (p0.length:Int)),(8,.i x15)]) (M.zn.partial_correctness _ _) rfl fun _ _ ih_zn x15=>S.cb (S.ixm q00.z0b fun x19=>S.k0 C.q16 fun a20=>S.n (S.cb (S.jp (st [(4,.i x15)]) (fun _=>rfl) S.q) (S.jp (st [(0,.l51 p0),(1,.fn 63 [] []),(7,.i (p0.length:Int)),(8,.i (ya .i64 (x15+1)))]) (fun _=>rfl) (ih_zn _)))) S.zr)) fun j11=>S.q)
theorem C.q3d {fuel:Nat} {p0:List q00}:Qs (M.q3d fuel p0) 60 ⟨[.l51 p0,.fn 63 [] []],[],[]⟩ fun r => .ok [.b r] [] [] :=
 Kf Tryz.func60 {} [.tmp 4] (by unfold M.q3d;exact S.k0 C.q3p fun a1=>S.n S.q)
def A.q14:Ann:={ reg:=[(4,[(1,0,c1 [2])]),(5,[(2,0,c1 [9])])] }
theorem C.q14 {fuel:Nat} {p0:List q00}:Qs (M.q14 fuel p0) 29 ⟨[.l51 p0],[],[]⟩ fun r => .ok [.i r] [] [] :=
 Kf Tryz.func29 A.q14 [.tmp 2] (by unfold M.q14;exact S.m (S.cb S.q (S.k0 C.q3c fun a1=>S.n (S.cb (S.jp (st [(2,.i 194)]) (fun _=>rfl) S.q) (S.k0 C.q3d fun a3=>S.n (S.jp (st [(9,.b a3)]) (fun _=>rfl) (S.cb S.q S.q)))))))
def A.q2h:Ann:={ ro:=[2],nb:=1 }
theorem C.q2h {p0:q02} {p1:List UInt8}:Qs (M.q2h p0 p1) 156 ⟨[.agg p0.v,.p 0],[⟨9,[.s p1]⟩],[]⟩ fun r => .ok [.b r] [⟨9,[.s p1]⟩] [] :=
 Kf Tryz.func156 A.q2h [.tmp 3] (by unfold M.q2h;exact S.q)
def A.q3u:Ann:={ seq:=[(7,cu [] [0] [])],loop:=[(2,cu [0,1,7,8] [0] [])],reg:=[(5,[(2,0,cu [4] [0] [])]),(6,[(2,0,cu [0,1,7,8] [0] [])])],nb:=1 }
theorem C.q3u {p0:List q02} {p1:List UInt8}:Qs (M.q3u p0 p1) 155 ⟨[.l48 p0,.fn 156 [] [.p 0]],[⟨9,[.s p1]⟩],[]⟩ fun r => .ok [.i r] [⟨9,[.s p1]⟩] [] :=
 Kf Tryz.func155 A.q3u [.tmp 4] (by unfold M.q3u;exact S.gn (fun _=>sb [] [(0,⟨9,[.s p1]⟩)]) (S.m (S.lw (L:=M.zq p0 p1) (fun x15=>sb [(0,.l48 p0),(1,.fn 156 [] [.p 0]),(7,.i (p0.length:Int)),(8,.i x15)] [(0,⟨9,[.s p1]⟩)]) (M.zq.partial_correctness _ _) rfl fun _ _ ih_zq x15=>S.cb (S.ixm q02.z0b fun x19=>S.kk [0] [] [] C.q2h fun a20=>S.n (S.cb (S.jp (sb [(4,.i x15)] [(0,⟨9,[.s p1]⟩)]) (fun _=>rfl) S.q) (S.jp (sb [(0,.l48 p0),(1,.fn 156 [] [.p 0]),(7,.i (p0.length:Int)),(8,.i (ya .i64 (x15+1)))] [(0,⟨9,[.s p1]⟩)]) (fun _=>rfl) (ih_zq _)))) S.zr)) fun j11=>S.q)
def A.q2g:Ann:={ reg:=[(6,[(5,0,c1 [2,5])])],ro:=[2] }
theorem C.q2g {p0:q04} {p1:List UInt8}:Qs (M.q2g p0 p1) 95 ⟨[.agg p0.v,.s p1],[],[]⟩ fun r => .ok [.l9 r] [] [] :=
 Kf Tryz.func95 A.q2g [.tmp 4] (by unfold M.q2g;exact S.cb S.q (S.cb S.q (S.kk [1003] [] [] C.q3u fun a1=>S.n (S.jp (st [(2,.z09 p0.d 0),(5,.i a1)]) (fun _=>rfl) (S.cb (S.ixm q02.z0b fun x3=>S.q) S.q)))))
theorem C.q1u {p0:List UInt8}:Qs (M.q1u p0) 96 ⟨[.s p0],[],[]⟩ fun r => .ok [.b r] [] [] :=
 Kf Tryz.func96 {} [.tmp 2] (by unfold M.q1u;exact S.q)
def A.q3z:Ann:={ seq:=[(7,c1 [])],loop:=[(2,c1 [0,1,7,8])],reg:=[(5,[(2,0,c1 [4])]),(6,[(2,0,c1 [0,1,7,8])])] }
theorem C.q3z {p0:List (List UInt8)}:Qs (M.q3z p0) 105 ⟨[.l9 p0,.fn 96 [] []],[],[]⟩ fun r => .ok [.i r] [] [] :=
 Kf Tryz.func105 A.q3z [.tmp 4] (by unfold M.q3z;exact S.gn (fun _=>st []) (S.m (S.lw (L:=M.zx p0) (fun x15=>st [(0,.l9 p0),(1,.fn 96 [] []),(7,.i (p0.length:Int)),(8,.i x15)]) (M.zx.partial_correctness _) rfl fun _ _ ih_zx x15=>S.cb (S.ixf eS fun x19=>S.k0 C.q1u fun a20=>S.n (S.cb (S.jp (st [(4,.i x15)]) (fun _=>rfl) S.q) (S.jp (st [(0,.l9 p0),(1,.fn 96 [] []),(7,.i (p0.length:Int)),(8,.i (ya .i64 (x15+1)))]) (fun _=>rfl) (ih_zx _)))) S.zr)) fun j11=>S.q)
theorem C.q3k {p0:List (List UInt8)}:Qs (M.q3k p0) 94 ⟨[.l9 p0,.fn 96 [] []],[],[]⟩ fun r => .ok [.b r] [] [] :=
 Kf Tryz.func94 {} [.tmp 4] (by unfold M.q3k;exact S.k0 C.q3z fun a1=>S.n S.q)
theorem C.q1h {p0 p1:List UInt8}:Qs (M.q1h p0 p1) 143 ⟨[.s p0,.s p1],[],[]⟩ fun r => .ok [.b r] [] [] :=
 Kf Tryz.func143 {} [.tmp 4] (by unfold M.q1h;exact S.q)
def A.q0e:Ann:={ reg:=[(1,[(6,10,c1 [20])])] }
theorem C.q0e {p0 p1:List UInt8}:Qs (M.q0e p0 p1) 207 ⟨[.s p0,.s p1],[],[]⟩ fun r => .ok [.b r] [] [] :=
 Kf Tryz.func207 A.q0e [.tmp 4] (by unfold M.q0e;exact S.j (fun j3=>st [(20,.b j3)]) (fun _=>S.cb (S.e fun s4=>S.zr) S.zr) fun j3=>S.q)
theorem C.q4e {p0 p1:List UInt8}:Qs (M.q4e p0 p1) 146 ⟨[.s p0,.s p1],[],[]⟩ fun r => .ok [.b r] [] [] :=
 Kf Tryz.func146 {} [.tmp 4] (by unfold M.q4e;exact S.k0 C.q0e fun a1=>S.n S.q)
theorem C.q1i {p0 p1:List UInt8}:Qs (M.q1i p0 p1) 147 ⟨[.s p0,.s p1],[],[]⟩ fun r => .ok [.b r] [] [] :=
 Kf Tryz.func147 {} [.tmp 4] (by unfold M.q1i;exact S.q)
theorem C.q1j {p0 p1:List UInt8}:Qs (M.q1j p0 p1) 148 ⟨[.s p0,.s p1],[],[]⟩ fun r => .ok [.b r] [] [] :=
 Kf Tryz.func148 {} [.tmp 4] (by unfold M.q1j;exact S.q)
theorem C.q1k {p0 p1:List UInt8}:Qs (M.q1k p0 p1) 149 ⟨[.s p0,.s p1],[],[]⟩ fun r => .ok [.b r] [] [] :=
 Kf Tryz.func149 {} [.tmp 4] (by unfold M.q1k;exact S.q)
theorem C.q1l {p0 p1:List UInt8}:Qs (M.q1l p0 p1) 150 ⟨[.s p0,.s p1],[],[]⟩ fun r => .ok [.b r] [] [] :=
 Kf Tryz.func150 {} [.tmp 4] (by unfold M.q1l;exact S.q)
theorem C.q08 {p0:Nat} {p1 p2:List UInt8}:Qs (M.q08 p0 p1 p2) p0 ⟨[.s p1,.s p2],[],[]⟩ fun r => .ok [.b r] [] []:=by
 unfold M.q08
 refine S.di (fun h => ?_) ?_
 ·subst h;exact C.q1h
 refine S.di (fun h => ?_) ?_
 ·subst h;exact (C.contains _ _)
 refine S.di (fun h => ?_) ?_
 ·subst h;exact C.q4d
 refine S.di (fun h => ?_) ?_
 ·subst h;exact C.q4e
 refine S.di (fun h => ?_) ?_
 ·subst h;exact C.q1i
 refine S.di (fun h => ?_) ?_
 ·subst h;exact C.q1j
 refine S.di (fun h => ?_) ?_
 ·subst h;exact C.q1k
 refine S.di (fun h => ?_) ?_
 ·subst h;exact C.q1l
 exact fun _ h=>by cases h
def A.q1v:Ann:={ nb:=2 }
theorem C.q1v {p0:List UInt8} {p1:Nat} {p2:q01}:Qs (M.q1v p0 p1 p2) 97 ⟨[.s p0,.p 0,.p 1],[⟨111,[.fn p1 [] []]⟩,⟨24,p2.v⟩],[]⟩ fun r => .ok [.b r] [⟨111,[.fn p1 [] []]⟩,⟨24,p2.v⟩] [] :=
 Kf Tryz.func97 A.q1v [.tmp 4] (by unfold M.q1v;exact S.k0 C.q08 fun a1=>S.n S.q)
def A.q41:Ann:={ seq:=[(7,cu [] [0,1] [])],loop:=[(2,cu [0,1,7,8] [0,1] [])],reg:=[(5,[(2,0,cu [4] [0,1] [])]),(6,[(2,0,cu [0,1,7,8] [0,1] [])])],nb:=2 }
theorem C.q41 {p0:List (List UInt8)} {p1:Nat} {p2:q01}:Qs (M.q41 p0 p1 p2) 105 ⟨[.l9 p0,.fn 97 [] [.p 0,.p 1]],[⟨111,[.fn p1 [] []]⟩,⟨24,p2.v⟩],[]⟩ fun r => .ok [.i r] [⟨111,[.fn p1 [] []]⟩,⟨24,p2.v⟩] [] :=
 Kf Tryz.func105 A.q41 [.tmp 4] (by unfold M.q41;exact S.gn (fun _=>sb [] [(0,⟨111,[.fn p1 [] []]⟩),(1,⟨24,p2.v⟩)]) (S.m (S.lw (L:=M.zy p0 p1 p2) (fun x15=>sb [(0,.l9 p0),(1,.fn 97 [] [.p 0,.p 1]),(7,.i (p0.length:Int)),(8,.i x15)] [(0,⟨111,[.fn p1 [] []]⟩),(1,⟨24,p2.v⟩)]) (M.zy.partial_correctness _ _ _) rfl fun _ _ ih_zy x15=>S.cb (S.ixf eS fun x19=>S.kk [0,1] [] [] C.q1v fun a20=>S.n (S.cb (S.jp (sb [(4,.i x15)] [(0,⟨111,[.fn p1 [] []]⟩),(1,⟨24,p2.v⟩)]) (fun _=>rfl) S.q) (S.jp (sb [(0,.l9 p0),(1,.fn 97 [] [.p 0,.p 1]),(7,.i (p0.length:Int)),(8,.i (ya .i64 (x15+1)))] [(0,⟨111,[.fn p1 [] []]⟩),(1,⟨24,p2.v⟩)]) (fun _=>rfl) (ih_zy _)))) S.zr)) fun j11=>S.q)
def A.q3l:Ann:={ nb:=2 }
theorem C.q3l {p0:List (List UInt8)} {p1:Nat} {p2:q01}:Qs (M.q3l p0 p1 p2) 94 ⟨[.l9 p0,.fn 97 [] [.p 0,.p 1]],[⟨111,[.fn p1 [] []]⟩,⟨24,p2.v⟩],[]⟩ fun r => .ok [.b r] [⟨111,[.fn p1 [] []]⟩,⟨24,p2.v⟩] [] :=
 Kf Tryz.func94 A.q3l [.tmp 4] (by unfold M.q3l;exact S.kk [0,1] [] [] C.q41 fun a1=>S.n S.q)
end Go.Proofs.YtmmgdladipbedaaGreatDoor
