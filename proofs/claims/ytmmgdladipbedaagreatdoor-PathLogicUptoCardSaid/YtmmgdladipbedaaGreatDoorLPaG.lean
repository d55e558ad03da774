import Derived.Test.YtmmgdladipbedaaGreatDoorLPaT
import Derived.Test.YtmmgdladipbedaaGreatDoorLPaShelf
import Derived.Test.YtmmgdladipbedaaGreatDoorLPeV
import Derived.Test.YtmmgdladipbedaaGreatDoorLPeW
import Derived.Test.YtmmgdladipbedaaGreatDoorLPaM
set_option linter.all false
section
set_option maxRecDepth 1000000
namespace Go.Proofs.YtmmgdladipbedaaGreatDoor
open _root_.Option renaming bind_eq_some_iff → ya
open _root_.Bool renaming and_eq_true_iff → yb
open _root_.List renaming getElem?_eq_some_iff → yc, length_map → yd
open _root_.Nat renaming le_refl → ye, lt_of_lt_of_le → yf, zero_lt_one → yg
open _root_.Array renaming getElem?_eq_some_iff → yh
open Go.Lk Go.Pe Go.Sen Go.RowKit Go.Shelf
theorem S.chk {A:Type} {b:Bool} {y:Unit→Option A} {F:A→Prop} (h:b=true→S (y ()) F):S (Go.Lk.chk b >>= y) F:=fun r hm=>by
 obtain ⟨_,h1,h2⟩:=ya.1 hm
 exact h (z7d h1) r h2
structure zw7 (w:World):Prop where
 utf:Lib.Utf8Tabs 1 2 w
 max:∃ m,w.cell? ⟨0,0,none⟩=some (.int .i64 m)
def GG:GI:=⟨fun w O=>zw7 w∧∀ b,b≤2→¬O b,fun {O w O' w'} t h=>by
 obtain ⟨h,k⟩:=h
 have hlt:∀ b,b≤2→b<w.heap.size:=fun b hb=>by
  have h2:∃ v,w.cell? ⟨2,0,none⟩=some v:=⟨_,(h.utf.2 0 (by decide)).1⟩
  obtain ⟨v,hv⟩:=h2
  unfold World.cell? at hv
  split at hv
  ·rename_i e
   have:=(yh.1 e).1
   simp only at this
   omega
  ·cases hv
 refine ⟨⟨zs4 t (k 1 (by decide)) (k 2 (by decide)) h.utf,?_⟩,fun b hb=>t.owned b (hlt b hb) (k b hb)⟩
 obtain ⟨m,h1⟩:=h.max
 exact ⟨m,zcp t h1 (k 0 (by decide))⟩⟩
theorem C.z1d (p0:List Int):S (M.z1d p0) fun r=>Con Tryz.prog GG 208 (I.z1d p0) (O.z1d p0 r):=by
 intro r hm
 refine ⟨fun _ _=>rfl,fun w O φ α us hv hm hB hG => ?_⟩
 obtain ⟨u,us',rfl,hu,hus⟩:=hv
 have hus:us'=[]:=hus
 subst hus
 simp only [VR] at hu
 subst hu
 obtain ⟨hO,us,hbx,p,us2,rfl,hp,v,us3,rfl,hv,h3⟩:=hm.box 0 _ rfl
 have hbx:=hbx.un (by decide)
 have h3:us3=[]:=h3
 subst h3
 simp only [VR] at hp hv
 obtain ⟨rfl,hone⟩:=hv
 refine (zcu w (φ 0) p (α 0) hbx hp hone).mono fun e w' ⟨h1,h2,h3⟩ => ?_
 have hne:=hm.ab 0 0 _ rfl (yg)
 have tr:Tr O w O w':=Tr.z2o h3 fun x _ hx=>by cases hx;exact hO
 have hown:=(hm.arr 0 _ rfl).keep h3 (fun b hb hx=>hne (by rw [hb];exact congrArg some hx)) tr (fun _ h=>h)
 refine ⟨[],O,φ,α,h1,⟨rfl,⟨fun b e he => ?_,fun a e he => ?_,fun a b la lb' hn => ?_,fun a b e e' ha hb hn => ?_,fun a b e ha hb => ?_⟩,fun _ _=>rfl,ye _,fun x hx=>yf (hB x hx) h3.size,tr,fun _ hx=>hx,fun _ hx => .inl hx,h3.mono fun x _ hx => .inl ⟨0,yg,hx.symm⟩,fun b h1 h2 => ?_,fun a e x he hx => ?_⟩⟩
 ·match b,he with
  | 0,he =>
   cases he
   exact ⟨hO,_,.inl ⟨by decide,h2⟩,_,_,rfl,.inr rfl,_,[],rfl,⟨rfl,hone⟩,rfl⟩
 ·match a,he with
  | 0,he=>cases he;exact hown
 ·simp at la lb'
  omega
 ·match a,b,ha,hb with
  | 0,0,_,_=>exact (hn rfl).elim
 ·match a,ha with
  | 0,ha =>
   have:b=0:=by simpa using hb
   subst this
   exact hm.ab 0 0 _ rfl (yg)
 ·simp at h1 h2
  omega
 ·match a,he with
  | 0,he=>exact .inl ⟨0,yg,hx⟩
theorem C.z0b (p0:List UInt8):S (M.z0b p0) fun r=>Con Tryz.prog GG 153 (I.z0b p0) (O.z0b r):=by
 unfold M.z0b
 refine S.chk fun h0 => ?_
 have h0:=of_decide_eq_true h0
 intro r hm
 cases hm
 refine Con.lib (fun _ _=>rfl) fun w O φ α us hv hB hG => ?_
 obtain ⟨us1,rfl,hv1⟩:=hv.str
 obtain rfl:=hv1.nil
 refine (Any.utf8_ValidString Tryz.zm3 ⟨p0.toArray⟩ w (by simpa [ByteArray.size] using h0) hG.1.utf).mono ?_
 rintro e w' ⟨rfl,hb⟩
 exact ⟨[_],rfl,fun _ _ _ => .zo9 _,.z36 hb⟩
theorem C.indexByte (p0:List UInt8) (p1:Int):S (M.indexByte p0 p1) fun r=>Con Tryz.prog GG 112 (I.indexByte p0 p1) (O.indexByte r):=by
 intro r hm
 cases hm
 refine Con.lib (fun _ _=>rfl) fun w O φ α us hv hB hG => ?_
 obtain ⟨us1,rfl,hv1⟩:=hv.str
 obtain ⟨us2,rfl,hv2⟩:=hv1.int
 obtain rfl:=hv2.nil
 refine (Any.strings_IndexByte Tryz.zr7 ⟨p0.toArray⟩ p1 w).mono ?_
 rintro e w' ⟨rfl,rfl⟩
 exact ⟨[_],rfl,fun _ _ _ => .zx5 _ _,.refl _ _⟩
theorem asc {l:List UInt8} (h:(l.all fun b=>decide (b.toNat<128))=true):∀ (j:Nat) b,l[j]? = some b→b.toNat<128:=fun j b hb=>by
 have:=List.all_eq_true.1 h b (List.mem_of_getElem? hb)
 simpa using this
theorem C.trimLeft (p0 p1:List UInt8):S (M.trimLeft p0 p1) fun r=>Con Tryz.prog GG 103 (I.trimLeft p0 p1) (O.trimLeft r):=by
 unfold M.trimLeft
 intro r hm
 obtain ⟨_,hc,hm⟩:=ya.1 hm
 obtain ⟨h1,h2⟩:=yb.1 (z7d hc)
 cases hm
 refine Con.lib (fun _ _=>rfl) fun w O φ α us hv hB hG => ?_
 obtain ⟨us1,rfl,hv1⟩:=hv.str
 obtain ⟨us2,rfl,hv2⟩:=hv1.str
 obtain rfl:=hv2.nil
 refine (Any.strings_TrimLeft_laid Tryz.zrb (by kernel_rfl) ⟨p0.toArray⟩ ⟨p1.toArray⟩ w (by simpa [ByteArray.size] using h1) (by simpa using asc h2)).mono ?_
 rintro e w' ⟨rfl,hb⟩
 exact ⟨[_],rfl,fun _ _ _ => .zuk _,.z36 hb⟩
theorem C.trim (p0 p1:List UInt8):S (M.trim p0 p1) fun r=>Con Tryz.prog GG 113 (I.trim p0 p1) (O.trim r):=by
 unfold M.trim
 intro r hm
 obtain ⟨_,hc,hm⟩:=ya.1 hm
 obtain ⟨h0,h2⟩:=yb.1 (z7d hc)
 obtain ⟨h1,h2⟩:=yb.1 h2
 cases hm
 refine Con.lib (fun _ _=>rfl) fun w O φ α us hv hB hG => ?_
 obtain ⟨us1,rfl,hv1⟩:=hv.str
 obtain ⟨us2,rfl,hv2⟩:=hv1.str
 obtain rfl:=hv2.nil
 refine (Any.strings_Trim_laid Tryz.zra (by kernel_rfl) ⟨p0.toArray⟩ ⟨p1.toArray⟩ w (by simpa [ByteArray.size] using h0) (by simpa [ByteArray.size] using h1) (by simpa using asc h2)).mono ?_
 rintro e w' ⟨rfl,hb⟩
 exact ⟨[_],rfl,fun _ _ _ => .zuk _,.z36 hb⟩
theorem C.z08 (p0:List Int):S (M.z08 p0) fun r=>Con Tryz.prog GG 124 (I.z08 p0) (O.z08 p0 r):=by
 unfold M.z08
 refine S.chk fun h0 => ?_
 have h0:=of_decide_eq_true h0
 intro r hm
 cases hm
 exact Con.string Tryz.zm1 Tryz.z3w (fun _ _=>rfl) (by decide) (by decide) (.inl rfl) p0 h0
@[reducible] def I.z3g (p0:List Int):CIn:=⟨[.ptr 0 0],[⟨141,[.z0g 0,.ref 0]⟩],[(1000005,1,(p0.map (eI .u8)))]⟩
theorem C.z3g (p0:List Int):S (M.z08 p0) fun r=>Con Tryz.prog GG 124 (I.z3g p0) (O.z08 p0 r):=by
 unfold M.z08
 refine S.chk fun h0 => ?_
 have h0:=of_decide_eq_true h0
 intro r hm
 cases hm
 exact Con.string Tryz.zm1 Tryz.z3w (fun _ _=>rfl) (by decide) (by decide) (.inr rfl) p0 h0
theorem z96.of {w:World} {O:Nat→Prop} {zs:List (List UInt8)} {v:Value} (h:RD w O (.sl 9 1 (zs.map eS)) v):∃ a cap,v = .slice a zs.length cap∧zs.length≤cap∧z96 w v zs:=by
 rcases h with ⟨⟨p,rfl⟩,h⟩|⟨b,off,cap,cs,fr,rfl,hcap,_,_,h1,h2,h3⟩
 ·obtain rfl:zs=[]:=by simpa using h
  exact ⟨p,0,rfl,ye _,.inl ⟨p,rfl,rfl⟩⟩
 ·refine ⟨some ⟨b,off,none⟩,cap,by simp,by simpa using hcap,.inr ⟨b,off,cap,by simp,(yh.1 h1).1,fun j hj => ?_⟩⟩
  obtain ⟨x,hx⟩:∃ x,zs[j]? = some x:=⟨zs[j],by simp [hj]⟩
  have h4:=RDl.at h3 (i:=j) (x:=eS x) (by simp [hx])
  have h5:=zrj h4
  rw [cell_of_row w b (off+j) cs fr.1 fr.2 h1,hx]
  have h6:((cs.toList.drop off).drop (j*1)).take 1=[Value.string ⟨x.toArray⟩]:=h5
  have:=congrArg (fun l=>l[0]?) h6
  simpa [List.getElem?_take,List.getElem?_drop] using this
theorem C.single (p0:List (List UInt8)):S (M.single p0) fun r=>Con Tryz.prog GG 224 (I.single p0) (O.single r):=by
 unfold M.single
 refine S.chk fun h0 => ?_
 have h0:=of_decide_eq_true h0
 intro r hm
 cases hm
 refine Con.lib (fun _ _=>rfl) fun w O φ α us hv hB hG => ?_
 obtain ⟨v,us',rfl,h1,h2⟩:=hv
 obtain rfl:us'=[]:=h2
 simp only [VR] at h1
 obtain ⟨a,cap,rfl,_,h3⟩:=z96.of h1
 refine (zkc w a _ cap p0 h0 rfl h3).mono ?_
 rintro e w' ⟨rfl,hb⟩
 exact ⟨[_],rfl,fun _ _ _ => .zo9 _,.z36 hb⟩
theorem C.cut (p0 p1:List UInt8):S (M.cut p0 p1) fun r=>Con Tryz.prog GG 131 (I.cut p0 p1) (O.cut r):=by
 unfold M.cut
 refine S.chk fun h0 => ?_
 have h0:=of_decide_eq_true h0
 intro r hm
 cases hm
 refine Con.lib (fun _ _=>rfl) fun w O φ α us hv hB hG => ?_
 obtain ⟨us1,rfl,hv1⟩:=hv.str
 obtain ⟨us2,rfl,hv2⟩:=hv1.str
 obtain rfl:=hv2.nil
 obtain ⟨m,hm⟩:=hG.1.max
 refine (Any.strings_Cut Tryz.zr9 ⟨p0.toArray⟩ ⟨p1.toArray⟩ m w (by simpa [ByteArray.size] using h0) hm).mono ?_
 rintro e w' ⟨rfl,n,rfl⟩
 exact ⟨[_,_,_],rfl,fun _ _ _=>⟨_,_,rfl,rfl,_,_,rfl,rfl,_,[],rfl,rfl,rfl⟩,⟨rfl,rfl,rfl,ye _,fun _ _ _=>rfl⟩⟩
theorem C.contains (p0 p1:List UInt8):S (M.contains p0 p1) fun r=>Con Tryz.prog GG 144 (I.contains p0 p1) (O.contains r):=by
 unfold M.contains
 refine S.chk fun h0 => ?_
 have h0:=of_decide_eq_true h0
 intro r hm
 cases hm
 refine Con.lib (fun _ _=>rfl) fun w O φ α us hv hB hG => ?_
 obtain ⟨us1,rfl,hv1⟩:=hv.str
 obtain ⟨us2,rfl,hv2⟩:=hv1.str
 obtain rfl:=hv2.nil
 obtain ⟨m,hm⟩:=hG.1.max
 refine (Any.strings_Contains Tryz.zr8 ⟨p0.toArray⟩ ⟨p1.toArray⟩ m w (by simpa [ByteArray.size] using h0) hm).mono ?_
 rintro e w' ⟨rfl,rfl⟩
 exact ⟨[_],rfl,fun _ _ _ => .zo9 _,.refl _ _⟩
theorem C.join (p0:List (List UInt8)) (p1:List UInt8):S (M.join p0 p1) fun r=>Con Tryz.prog GG 84 (I.join p0 p1) (O.join r):=by
 unfold M.join
 refine S.chk fun h0 => ?_
 obtain ⟨h1,h2⟩:=yb.1 h0
 have h1:=of_decide_eq_true h1
 have h2:=of_decide_eq_true h2
 intro r hm
 cases hm
 refine Con.lib (fun _ _=>rfl) fun w O φ α us hv hB hG => ?_
 obtain ⟨v,us',rfl,k1,hv⟩:=hv
 obtain ⟨us2,rfl,hv2⟩:=VRs.str hv
 obtain rfl:=hv2.nil
 simp only [VR] at k1
 obtain ⟨a,cap,rfl,kc,k3⟩:=z96.of k1
 have hmap:(p0.map fun x=>(⟨x.toArray⟩:ByteArray)).map (·.data.toList)=p0:=by
  rw [List.map_map]
  conv=>rhs;rw [←List.map_id p0]
  exact List.map_congr_left fun x _=>by simp
 rcases k3 with ⟨p,e,rfl⟩|⟨b,off,cap',e,hb,hc⟩
 ·cases e
  refine (Any.strings_Join_none Tryz.zm0 Tryz.z3v _ _ ⟨p1.toArray⟩ w).mono ?_
  rintro e w' ⟨rfl,rfl⟩
  exact ⟨[_],rfl,fun _ _ _=>by first|exact .zuk _|exact ⟨_,[],rfl,by simp [VR,Lib.join],rfl⟩,.refl _ _⟩
 ·cases e
  have hj:=Any.strings_Join Tryz.zm0 Tryz.z3v b off cap (p0.map fun x=>(⟨x.toArray⟩:ByteArray)) ⟨p1.toArray⟩ w (fun j x hx=>by
   rw [List.getElem?_map] at hx
   obtain ⟨y,hy,rfl⟩:=Option.map_eq_some_iff.1 hx
   have hj:=(yc.1 hy).1
   rw [hc j hj,hy]
   rfl) hb (by simpa using h1) (by simpa using kc) (by rw [hmap];simpa using h2)
  rw [hmap] at hj
  simp only [yd] at hj
  refine hj.mono ?_
  rintro e w' ⟨rfl,hb'⟩
  exact ⟨[_],rfl,fun _ _ _=>by simpa using .zuk _,.z36 hb'⟩
theorem Con.zth {P:Program} {G:GI} {f:Nat} {vs:List PV} {T n:Nat} {l:List (List D)} (hT:T<1000000) (ent:∀ args w,(callFunc f args).run P w = .ok (.enter f args) w)
  (h:∀ w O φ α us,VRs w O φ α vs us→Bd O w→G.p w O→Calls P f us.toArray w fun e w'=>∃ v xs,e = .returned v∧w'.ownsRow w.heap.size T n v l.length xs∧(∀ O',RDl w' O' n l xs)∧(∀ x∈xs,x.oneCell'=true)∧Ext z0e w w'):Con P G f ⟨vs,[],[]⟩ (.ok [.ref 0] [] [some (T,n,l)]):=by
 refine ⟨ent,fun w O φ α us hv hm hB hG=>(h w O φ α us hv hB hG).mono fun e w' ⟨v,xs,h1,h2,h3,h4,h5⟩ => ?_⟩
 have hnew:∀ x,v.ownBlock=some x→w.heap.size≤x∧x<w'.heap.size:=fun x hx=>by
  rcases h2.2 with ⟨rfl,_⟩|⟨g,cap,cur,rfl,k1,k2,_⟩
  ·simp [Value.ownBlock] at hx
  ·simp only [Value.ownBlock,Option.some.injEq] at hx
   subst hx
   exact ⟨k1,(yh.1 k2).1⟩
 have own:z71 w' (fun x=>O x∨v.ownBlock=some x) T n v l:=.inl ⟨hT,xs,⟨h2.1,h2.2.imp id fun ⟨g,cap,cur,e,_,r⟩=>⟨g,cap,cur,e,Nat.zero_le _,r⟩⟩,h3 _,h4,fun b hb => .inr hb⟩
 refine ⟨[v],fun x=>O x∨v.ownBlock=some x,φ,fun _=>v,h1,⟨v,[],rfl,⟨rfl,own.zwi⟩,rfl⟩,⟨fun b e he => ?_,fun a e he => ?_,fun a b la _ _ => ?_,fun a b e e' ha hb hn => ?_,fun a b e ha lb => ?_⟩,fun _ _=>rfl,ye _,fun x hx => ?_,⟨h5.size,fun c hc _=>h5.block c hc fun hh=>hh,fun c hc ho hh => ?_⟩,fun _ hx => .inl hx,fun x hx => ?_,h5.mono fun _ _ hx=>hx.elim,fun b h1 h2 => ?_,fun a e x he hx => ?_⟩
 ·simp at he
 ·match a,he with
  | 0,he=>cases he;exact own
 ·simp at la
 ·match a,b,ha,hb with
  | 0,0,_,_=>exact (hn rfl).elim
 ·simp at lb
 ·rcases hx with hx|hx
  ·exact yf (hB x hx) h5.size
  ·exact (hnew x hx).2
 ·rcases hh with hh|hh
  ·exact ho hh
  ·have:=(hnew c hh).1
   omega
 ·rcases hx with hx|hx
  ·exact .inl hx
  ·exact .inr (hnew x hx).1
 ·simp at h1
 ·exact .inr (hnew x hx).1
theorem RDl.strs {w:World} {O:Nat→Prop}:∀ (zs:List (List UInt8)),RDl w O 1 (zs.map eS) (zs.map encStr)
 | []=>trivial
 | z::zs=>⟨⟨_,[],rfl,rfl,rfl⟩,by simpa using RDl.strs zs⟩
theorem C.z0s (p0:List (List UInt8)):S (M.z0s p0) fun r=>Con Tryz.prog GG 48 (I.z0s p0) (O.z0s r):=by
 unfold M.z0s
 refine S.chk fun h0 => ?_
 have h0:=of_decide_eq_true h0
 intro r hm
 cases hm
 refine Con.zth (by decide) (fun _ _=>rfl) fun w O φ α us hv hB hG => ?_
 obtain ⟨v,us',rfl,k1,hv⟩:=hv
 obtain rfl:us'=[]:=hv
 simp only [VR] at k1
 obtain ⟨a,cap,rfl,kc,k3⟩:=z96.of k1
 rcases k3 with ⟨p,e,rfl⟩|⟨b,off,cap',e,hb,hc⟩
 ·cases e
  rcases a with _|a
  ·refine (AnyG.slices_Clone_string_nil Tryz.zg3 0 0 w).mono ?_
   rintro e w' ⟨rfl,rfl⟩
   exact ⟨_,[],rfl,World.ownsRow_nil _ _ _ _,fun _=>trivial,by simp,Ext.refl _ _⟩
  ·refine (AnyG.slices_Clone_string_zero Tryz.zg3 a 0 w).mono ?_
   rintro e w' ⟨v',rfl,h1,_,h3⟩
   exact ⟨v',[],rfl,h1,fun _=>trivial,by simp,.z36 h3⟩
 ·cases e
  refine (AnyG.slices_Clone_string Tryz.zg3 b off p0.length cap (p0.map fun x=>(⟨x.toArray⟩:ByteArray)) w (by simp) h0 (fun j hj => ?_)).mono ?_
  ·rw [yd] at hj
   rw [hc j hj]
   simp [encStr,hj]
  ·rintro e w' ⟨v',rfl,h1,_,h3⟩
   have e1:((p0.map fun x=>(⟨x.toArray⟩:ByteArray)).take p0.length).map Value.string=p0.map encStr:=by
    rw [List.take_of_length_le (by simp),List.map_map]
    rfl
   rw [e1] at h1
   refine ⟨v',_,rfl,by rw [yd];exact h1,fun _=>RDl.strs p0,fun x hx => ?_,.z36 h3⟩
   obtain ⟨y,_,rfl⟩:=List.mem_map.1 hx
   rfl
theorem z6y {w:World} {b q:Nat} {u:Value} (h:w.cell? ⟨b,q,none⟩=some u):∃ r T fr,w.heap[b]? = some (.cells r T fr)∧r[q]? = some u:=by
 unfold World.cell? at h
 split at h
 ·rename_i c T fr e
  exact ⟨c,T,fr,e,h⟩
 ·cases h
theorem TBG:TbG Tryz.prog TB GG:=⟨zwm,fun w O h g e he=>by
 obtain ⟨hv,ho⟩:=h
 obtain ⟨h1,h2⟩:=hv.utf
 rcases z1m he with ⟨rfl,rfl⟩|⟨_,he⟩
 ·refine ⟨by simp [utf8First],fun i x hx => ?_⟩
  have hi:i<256:=by
   have:=(yc.1 hx).1
   simpa [utf8First] using this
  have hx:x=eI .u8 ((Lib.firstT i:Nat):Int):=by
   simp [utf8First,hi] at hx
   exact hx.symm
  subst hx
  obtain ⟨r,T,fr,k1,k2⟩:=z6y (h1 i hi)
  refine ⟨[.int .u8 ((Lib.firstT i:Nat):Int)],rfl,⟨ho 1 (by decide),r,T,fr,k1,fun j u hj => ?_⟩,⟨_,_,rfl,rfl,rfl⟩⟩
  match j,hj with
  | 0,hj=>cases hj;simpa using k2
 ·rcases z1m he with ⟨rfl,rfl⟩|⟨_,he⟩
  ·refine ⟨by simp [zdx],fun i x hx => ?_⟩
   have hi:i<16:=by
    have:=(yc.1 hx).1
    simpa [zdx] using this
   have hx:x=[.int .u8 ((Lib.accLo i:Nat):Int),.int .u8 ((Lib.accHi i:Nat):Int)]:=by
    simp [zdx,hi] at hx
    exact hx.symm
   subst hx
   obtain ⟨q1,q2⟩:=h2 i hi
   obtain ⟨r,T,fr,k1,k2⟩:=z6y q1
   obtain ⟨r',T',fr',k3,k4⟩:=z6y q2
   rw [k1] at k3
   cases k3
   refine ⟨[.int .u8 ((Lib.accLo i:Nat):Int),.int .u8 ((Lib.accHi i:Nat):Int)],rfl,⟨ho 2 (by decide),r,T,fr,k1,fun j u hj => ?_⟩,⟨_,_,rfl,rfl,_,_,rfl,rfl,rfl⟩⟩
   match j,hj with
   | 0,hj=>cases hj;rw [show i*2+0=2*i by omega];exact k2
   | 1,hj=>cases hj;rw [show i*2+1=2*i+1 by omega];exact k4
  ·cases he⟩
end Go.Proofs.YtmmgdladipbedaaGreatDoor
end
section
namespace Go.Proofs.YtmmgdladipbedaaGreatDoor
open _root_.Nat renaming ble → ya
open Go.Lk Go.Pe Go.Sen Go.RowKit
@[reducible] def Qs {α:Type} (y:Option α) (f:Nat) (i:CIn) (o:α→z2l):Prop:=S y fun r=>Con Tryz.prog GG f i (o r)
theorem Kf {α:Type} {y:Option α} {f:Nat} {fn:Func} {i:CIn} {o:α→z2l} (hf:Tryz.prog.funcs[f]? = some fn) (ann:Ann) (res:List ResultVar) (hw:S y fun r=>ex TB CT ann (Con Tryz.prog GG) (z1v fn) (entry i) (fin TB ann res (o r))) (hok:okC ann fn.ntmps (z1v fn)=true:=by kernel_rfl)
  (hb:fn.body=some (z1v fn):=by exact rfl) (ent:∀ args w,(callFunc f args).run Tryz.prog w = .ok (.enter f args) w:=by exact fun _ _=>rfl) (hres:fn.results=res.toArray:=by exact rfl) (hl:ya i.vs.length fn.ntmps=true:=by exact rfl) (hnb:ann.nb=i.B.length:=by exact rfl) (h1000:ya i.B.length 1000=true:=by exact rfl):Qs y f i o :=
 Con.oS TBG hf ann res hw hok hb ent hres hl hnb h1000
theorem Kd {α:Type} {y:Option α} {f:Nat} {fn:Func} {i:CIn} {o:α→z2l} {fc T:Nat} {ik:IntKind} {Te:Nat} (hct:ze2 Tryz.prog fc T ik Te) (hf:Tryz.prog.funcs[f]? = some fn) (ann:Ann) (res:List ResultVar) (hw:S y fun r=>exD TB CT ann (Con Tryz.prog GG) (fin TB ann res (o r)) (zuj TB ann res (o r) fc T ik Te) (z1v fn) (entry i)) (hok:okC ann fn.ntmps (z1v fn)=true:=by kernel_rfl)
  (hb:fn.body=some (z1v fn):=by exact rfl) (ent:∀ args w,(callFunc f args).run Tryz.prog w = .ok (.enter f args) w:=by exact fun _ _=>rfl) (hnd:z1y (z1v fn)=true:=by exact rfl) (hres:fn.results=res.toArray:=by exact rfl) (hl:ya i.vs.length fn.ntmps=true:=by exact rfl) (hnb:ann.nb=i.B.length:=by exact rfl) (h1000:ya i.B.length 900=true:=by exact rfl):Qs y f i o :=
 Con.oD hct TBG hf ann res hw hok hb ent hnd hres hl hnb h1000
end Go.Proofs.YtmmgdladipbedaaGreatDoor
end
section
namespace Go.Sen
open Go.Lk Go.Pe
def M.z0q (fuel:Nat) (p0 p1:q01) (p2:q04):Option Bool:=do
 let a3←M.q1d fuel
 if (!a3) then
  some false
 else
  let a5←M.q1k fuel p0 p2
  let a7←M.q1k fuel p1 p2
  let a37←M.q1f fuel (q01.mk 0 ([]:List UInt8) ([]:List UInt8) [(q01.mk p0.zb p0.zk p0.z03 p0.zc),(q01.mk p1.zb p1.zk p1.z03 p1.zc)])
  let j42←(do
    if (decide (a37=0)) then
     let a43←M.q1k fuel (q01.mk 0 ([]:List UInt8) ([]:List UInt8) [(q01.mk p0.zb p0.zk p0.z03 p0.zc),(q01.mk p1.zb p1.zk p1.z03 p1.zc)]) p2
     if a5 then
      some (!(a43==a7))
     else
      some (!(a43==false))
    else
     some false:Option Bool)
  let j50←(do
    if j42 then
     some true
    else
     let a51←M.q1f fuel (q01.mk 1 ([]:List UInt8) ([]:List UInt8) [(q01.mk p0.zb p0.zk p0.z03 p0.zc),(q01.mk p1.zb p1.zk p1.z03 p1.zc)])
     if (decide (a51=0)) then
      let a53←M.q1k fuel (q01.mk 1 ([]:List UInt8) ([]:List UInt8) [(q01.mk p0.zb p0.zk p0.z03 p0.zc),(q01.mk p1.zb p1.zk p1.z03 p1.zc)]) p2
      if a5 then
       some (!(a53==true))
      else
       some (!(a53==a7))
     else
      some false:Option Bool)
  let j60←(do
    if j50 then
     some true
    else
     let a61←M.q1f fuel (q01.mk 2 ([]:List UInt8) ([]:List UInt8) [(q01.mk p0.zb p0.zk p0.z03 p0.zc)])
     if (decide (a61=0)) then
      let a63←M.q1k fuel (q01.mk 2 ([]:List UInt8) ([]:List UInt8) [(q01.mk p0.zb p0.zk p0.z03 p0.zc)]) p2
      some (a63==a5)
     else
      some false:Option Bool)
  if j60 then
   some false
  else
   let j74←(do
     if (!decide (p0.zb=4)) then
      some true
     else
      let a75←M.q1f fuel p0
      some (!decide (a75=0)):Option Bool)
   if j74 then
    some true
   else
    let a77←M.q1k fuel (q01.mk 5 p0.zk p0.z03 p0.zc) p2
    some (!(a77==a5))
end Go.Sen
end
