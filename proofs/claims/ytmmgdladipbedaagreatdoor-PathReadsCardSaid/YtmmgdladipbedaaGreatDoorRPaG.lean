import Derived.Test.YtmmgdladipbedaaGreatDoorRPaT
import Derived.Test.YtmmgdladipbedaaGreatDoorRPaShelf
import Derived.Test.YtmmgdladipbedaaGreatDoorRPeV
import Derived.Test.YtmmgdladipbedaaGreatDoorRPeW
import Derived.Shelf.SlSortCmp.WholeK
import Derived.Ground.SlsfProg
import Derived.Test.YtmmgdladipbedaaGreatDoorProg
import Derived.Test.YtmmgdladipbedaaGreatDoorRPaM
set_option linter.all false
section
set_option maxRecDepth 1000000
namespace Go.Proofs.YtmmgdladipbedaaGreatDoor
open _root_.Option renaming bind_eq_some_iff → ya
open _root_.Bool renaming and_eq_true_iff → yb
open _root_.List renaming getElem?_eq_some_iff → yc, length_map → yd
open _root_.Nat renaming le_refl → ye, lt_of_lt_of_le → yf, zero_lt_one → yg
open _root_.Array renaming getElem?_eq_some_iff → yh
open Go.Lk Go.Pe Go.Sen Go.RowKit Go.Shelf
theorem S.chk {A:Type} {b:Bool} {y:Unit→Option A} {F:A→Prop} (h:b=true→S (y ()) F):S (Go.Lk.chk b >>= y) F:=fun r hm=>by
 obtain ⟨_,h1,h2⟩:=ya.1 hm
 exact h (z8j h1) r h2
structure zyx (w:World):Prop where
 utf:Lib.Utf8Tabs 1 2 w
 max:∃ m,w.cell? ⟨0,0,none⟩=some (.int .i64 m)
def GG:GI:=⟨fun w O=>zyx w∧∀ b,b≤2→¬O b,fun {O w O' w'} t h=>by
 obtain ⟨h,k⟩:=h
 have hlt:∀ b,b≤2→b<w.heap.size:=fun b hb=>by
  have h2:∃ v,w.cell? ⟨2,0,none⟩=some v:=⟨_,(h.utf.2 0 (by decide)).1⟩
  obtain ⟨v,hv⟩:=h2
  unfold World.cell? at hv
  split at hv
  ·rename_i e
   have:=(yh.1 e).1
   simp only at this
   omega
  ·cases hv
 refine ⟨⟨zub t (k 1 (by decide)) (k 2 (by decide)) h.utf,?_⟩,fun b hb=>t.owned b (hlt b hb) (k b hb)⟩
 obtain ⟨m,h1⟩:=h.max
 exact ⟨m,zdv t h1 (k 0 (by decide))⟩⟩
theorem C.z1u (p0:List Int):S (M.z1u p0) fun r=>Con Tryz.prog GG 208 (I.z1u p0) (O.z1u p0 r):=by
 intro r hm
 refine ⟨fun _ _=>rfl,fun w O φ α us hv hm hB hG => ?_⟩
 obtain ⟨u,us',rfl,hu,hus⟩:=hv
 have hus:us'=[]:=hus
 subst hus
 simp only [VR] at hu
 subst hu
 obtain ⟨hO,us,hbx,p,us2,rfl,hp,v,us3,rfl,hv,h3⟩:=hm.box 0 _ rfl
 have hbx:=hbx.un (by decide)
 have h3:us3=[]:=h3
 subst h3
 simp only [VR] at hp hv
 obtain ⟨rfl,hone⟩:=hv
 refine (zdy w (φ 0) p (α 0) hbx hp hone).mono fun e w' ⟨h1,h2,h3⟩ => ?_
 have hne:=hm.ab 0 0 _ rfl (yg)
 have tr:Tr O w O w':=Tr.z3g h3 fun x _ hx=>by cases hx;exact hO
 have hown:=(hm.arr 0 _ rfl).keep h3 (fun b hb hx=>hne (by rw [hb];exact congrArg some hx)) tr (fun _ h=>h)
 refine ⟨[],O,φ,α,h1,⟨rfl,⟨fun b e he => ?_,fun a e he => ?_,fun a b la lb' hn => ?_,fun a b e e' ha hb hn => ?_,fun a b e ha hb => ?_⟩,fun _ _=>rfl,ye _,fun x hx=>yf (hB x hx) h3.size,tr,fun _ hx=>hx,fun _ hx => .inl hx,h3.mono fun x _ hx => .inl ⟨0,yg,hx.symm⟩,fun b h1 h2 => ?_,fun a e x he hx => ?_⟩⟩
 ·match b,he with
  | 0,he =>
   cases he
   exact ⟨hO,_,.inl ⟨by decide,h2⟩,_,_,rfl,.inr rfl,_,[],rfl,⟨rfl,hone⟩,rfl⟩
 ·match a,he with
  | 0,he=>cases he;exact hown
 ·simp at la lb'
  omega
 ·match a,b,ha,hb with
  | 0,0,_,_=>exact (hn rfl).elim
 ·match a,ha with
  | 0,ha =>
   have:b=0:=by simpa using hb
   subst this
   exact hm.ab 0 0 _ rfl (yg)
 ·simp at h1 h2
  omega
 ·match a,he with
  | 0,he=>exact .inl ⟨0,yg,hx⟩
theorem C.z0i (p0:List UInt8):S (M.z0i p0) fun r=>Con Tryz.prog GG 153 (I.z0i p0) (O.z0i r):=by
 unfold M.z0i
 refine S.chk fun h0 => ?_
 have h0:=of_decide_eq_true h0
 intro r hm
 cases hm
 refine Con.lib (fun _ _=>rfl) fun w O φ α us hv hB hG => ?_
 obtain ⟨us1,rfl,hv1⟩:=hv.str
 obtain rfl:=hv1.nil
 refine (Any.utf8_ValidString Tryz.zo0 ⟨p0.toArray⟩ w (by simpa [ByteArray.size] using h0) hG.1.utf).mono ?_
 rintro e w' ⟨rfl,hb⟩
 exact ⟨[_],rfl,fun _ _ _ => .zqe _,.z3u hb⟩
theorem C.indexByte (p0:List UInt8) (p1:Int):S (M.indexByte p0 p1) fun r=>Con Tryz.prog GG 112 (I.indexByte p0 p1) (O.indexByte r):=by
 intro r hm
 cases hm
 refine Con.lib (fun _ _=>rfl) fun w O φ α us hv hB hG => ?_
 obtain ⟨us1,rfl,hv1⟩:=hv.str
 obtain ⟨us2,rfl,hv2⟩:=hv1.int
 obtain rfl:=hv2.nil
 refine (Any.strings_IndexByte Tryz.zte ⟨p0.toArray⟩ p1 w).mono ?_
 rintro e w' ⟨rfl,rfl⟩
 exact ⟨[_],rfl,fun _ _ _ => .zzw _ _,.refl _ _⟩
theorem asc {l:List UInt8} (h:(l.all fun b=>decide (b.toNat<128))=true):∀ (j:Nat) b,l[j]? = some b→b.toNat<128:=fun j b hb=>by
 have:=List.all_eq_true.1 h b (List.mem_of_getElem? hb)
 simpa using this
theorem C.trimLeft (p0 p1:List UInt8):S (M.trimLeft p0 p1) fun r=>Con Tryz.prog GG 103 (I.trimLeft p0 p1) (O.trimLeft r):=by
 unfold M.trimLeft
 intro r hm
 obtain ⟨_,hc,hm⟩:=ya.1 hm
 obtain ⟨h1,h2⟩:=yb.1 (z8j hc)
 cases hm
 refine Con.lib (fun _ _=>rfl) fun w O φ α us hv hB hG => ?_
 obtain ⟨us1,rfl,hv1⟩:=hv.str
 obtain ⟨us2,rfl,hv2⟩:=hv1.str
 obtain rfl:=hv2.nil
 refine (Any.strings_TrimLeft_laid Tryz.zti (by kernel_rfl) ⟨p0.toArray⟩ ⟨p1.toArray⟩ w (by simpa [ByteArray.size] using h1) (by simpa using asc h2)).mono ?_
 rintro e w' ⟨rfl,hb⟩
 exact ⟨[_],rfl,fun _ _ _ => .zx7 _,.z3u hb⟩
theorem C.trim (p0 p1:List UInt8):S (M.trim p0 p1) fun r=>Con Tryz.prog GG 113 (I.trim p0 p1) (O.trim r):=by
 unfold M.trim
 intro r hm
 obtain ⟨_,hc,hm⟩:=ya.1 hm
 obtain ⟨h0,h2⟩:=yb.1 (z8j hc)
 obtain ⟨h1,h2⟩:=yb.1 h2
 cases hm
 refine Con.lib (fun _ _=>rfl) fun w O φ α us hv hB hG => ?_
 obtain ⟨us1,rfl,hv1⟩:=hv.str
 obtain ⟨us2,rfl,hv2⟩:=hv1.str
 obtain rfl:=hv2.nil
 refine (Any.strings_Trim_laid Tryz.zth (by kernel_rfl) ⟨p0.toArray⟩ ⟨p1.toArray⟩ w (by simpa [ByteArray.size] using h0) (by simpa [ByteArray.size] using h1) (by simpa using asc h2)).mono ?_
 rintro e w' ⟨rfl,hb⟩
 exact ⟨[_],rfl,fun _ _ _ => .zx7 _,.z3u hb⟩
theorem C.z0a (p0:List Int):S (M.z0a p0) fun r=>Con Tryz.prog GG 124 (I.z0a p0) (O.z0a p0 r):=by
 unfold M.z0a
 refine S.chk fun h0 => ?_
 have h0:=of_decide_eq_true h0
 intro r hm
 cases hm
 exact Con.string Tryz.zny Tryz.z4x (fun _ _=>rfl) (by decide) (by decide) (.inl rfl) p0 h0
@[reducible] def I.z47 (p0:List Int):CIn:=⟨[.ptr 0 0],[⟨141,[.z0q 0,.ref 0]⟩],[(1000005,1,(p0.map (eI .u8)))]⟩
theorem C.z47 (p0:List Int):S (M.z0a p0) fun r=>Con Tryz.prog GG 124 (I.z47 p0) (O.z0a p0 r):=by
 unfold M.z0a
 refine S.chk fun h0 => ?_
 have h0:=of_decide_eq_true h0
 intro r hm
 cases hm
 exact Con.string Tryz.zny Tryz.z4x (fun _ _=>rfl) (by decide) (by decide) (.inr rfl) p0 h0
theorem zag.of {w:World} {O:Nat→Prop} {zs:List (List UInt8)} {v:Value} (h:RD w O (.sl 9 1 (zs.map eS)) v):∃ a cap,v = .slice a zs.length cap∧zs.length≤cap∧zag w v zs:=by
 rcases h with ⟨⟨p,rfl⟩,h⟩|⟨b,off,cap,cs,fr,rfl,hcap,_,_,h1,h2,h3⟩
 ·obtain rfl:zs=[]:=by simpa using h
  exact ⟨p,0,rfl,ye _,.inl ⟨p,rfl,rfl⟩⟩
 ·refine ⟨some ⟨b,off,none⟩,cap,by simp,by simpa using hcap,.inr ⟨b,off,cap,by simp,(yh.1 h1).1,fun j hj => ?_⟩⟩
  obtain ⟨x,hx⟩:∃ x,zs[j]? = some x:=⟨zs[j],by simp [hj]⟩
  have h4:=RDl.at h3 (i:=j) (x:=eS x) (by simp [hx])
  have h5:=ztq h4
  rw [cell_of_row w b (off+j) cs fr.1 fr.2 h1,hx]
  have h6:((cs.toList.drop off).drop (j*1)).take 1=[Value.string ⟨x.toArray⟩]:=h5
  have:=congrArg (fun l=>l[0]?) h6
  simpa [List.getElem?_take,List.getElem?_drop] using this
theorem C.single (p0:List (List UInt8)):S (M.single p0) fun r=>Con Tryz.prog GG 224 (I.single p0) (O.single r):=by
 unfold M.single
 refine S.chk fun h0 => ?_
 have h0:=of_decide_eq_true h0
 intro r hm
 cases hm
 refine Con.lib (fun _ _=>rfl) fun w O φ α us hv hB hG => ?_
 obtain ⟨v,us',rfl,h1,h2⟩:=hv
 obtain rfl:us'=[]:=h2
 simp only [VR] at h1
 obtain ⟨a,cap,rfl,_,h3⟩:=zag.of h1
 refine (zmb w a _ cap p0 h0 rfl h3).mono ?_
 rintro e w' ⟨rfl,hb⟩
 exact ⟨[_],rfl,fun _ _ _ => .zqe _,.z3u hb⟩
theorem C.cut (p0 p1:List UInt8):S (M.cut p0 p1) fun r=>Con Tryz.prog GG 131 (I.cut p0 p1) (O.cut r):=by
 unfold M.cut
 refine S.chk fun h0 => ?_
 have h0:=of_decide_eq_true h0
 intro r hm
 cases hm
 refine Con.lib (fun _ _=>rfl) fun w O φ α us hv hB hG => ?_
 obtain ⟨us1,rfl,hv1⟩:=hv.str
 obtain ⟨us2,rfl,hv2⟩:=hv1.str
 obtain rfl:=hv2.nil
 obtain ⟨m,hm⟩:=hG.1.max
 refine (Any.strings_Cut Tryz.ztg ⟨p0.toArray⟩ ⟨p1.toArray⟩ m w (by simpa [ByteArray.size] using h0) hm).mono ?_
 rintro e w' ⟨rfl,n,rfl⟩
 exact ⟨[_,_,_],rfl,fun _ _ _=>⟨_,_,rfl,rfl,_,_,rfl,rfl,_,[],rfl,rfl,rfl⟩,⟨rfl,rfl,rfl,ye _,fun _ _ _=>rfl⟩⟩
theorem C.contains (p0 p1:List UInt8):S (M.contains p0 p1) fun r=>Con Tryz.prog GG 144 (I.contains p0 p1) (O.contains r):=by
 unfold M.contains
 refine S.chk fun h0 => ?_
 have h0:=of_decide_eq_true h0
 intro r hm
 cases hm
 refine Con.lib (fun _ _=>rfl) fun w O φ α us hv hB hG => ?_
 obtain ⟨us1,rfl,hv1⟩:=hv.str
 obtain ⟨us2,rfl,hv2⟩:=hv1.str
 obtain rfl:=hv2.nil
 obtain ⟨m,hm⟩:=hG.1.max
 refine (Any.strings_Contains Tryz.ztf ⟨p0.toArray⟩ ⟨p1.toArray⟩ m w (by simpa [ByteArray.size] using h0) hm).mono ?_
 rintro e w' ⟨rfl,rfl⟩
 exact ⟨[_],rfl,fun _ _ _ => .zqe _,.refl _ _⟩
theorem C.join (p0:List (List UInt8)) (p1:List UInt8):S (M.join p0 p1) fun r=>Con Tryz.prog GG 84 (I.join p0 p1) (O.join r):=by
 unfold M.join
 refine S.chk fun h0 => ?_
 obtain ⟨h1,h2⟩:=yb.1 h0
 have h1:=of_decide_eq_true h1
 have h2:=of_decide_eq_true h2
 intro r hm
 cases hm
 refine Con.lib (fun _ _=>rfl) fun w O φ α us hv hB hG => ?_
 obtain ⟨v,us',rfl,k1,hv⟩:=hv
 obtain ⟨us2,rfl,hv2⟩:=VRs.str hv
 obtain rfl:=hv2.nil
 simp only [VR] at k1
 obtain ⟨a,cap,rfl,kc,k3⟩:=zag.of k1
 have hmap:(p0.map fun x=>(⟨x.toArray⟩:ByteArray)).map (·.data.toList)=p0:=by
  rw [List.map_map]
  conv=>rhs;rw [←List.map_id p0]
  exact List.map_congr_left fun x _=>by simp
 rcases k3 with ⟨p,e,rfl⟩|⟨b,off,cap',e,hb,hc⟩
 ·cases e
  refine (Any.strings_Join_none Tryz.znx Tryz.z4w _ _ ⟨p1.toArray⟩ w).mono ?_
  rintro e w' ⟨rfl,rfl⟩
  exact ⟨[_],rfl,fun _ _ _=>by first|exact .zx7 _|exact ⟨_,[],rfl,by simp [VR,Lib.join],rfl⟩,.refl _ _⟩
 ·cases e
  have hj:=Any.strings_Join Tryz.znx Tryz.z4w b off cap (p0.map fun x=>(⟨x.toArray⟩:ByteArray)) ⟨p1.toArray⟩ w (fun j x hx=>by
   rw [List.getElem?_map] at hx
   obtain ⟨y,hy,rfl⟩:=Option.map_eq_some_iff.1 hx
   have hj:=(yc.1 hy).1
   rw [hc j hj,hy]
   rfl) hb (by simpa using h1) (by simpa using kc) (by rw [hmap];simpa using h2)
  rw [hmap] at hj
  simp only [yd] at hj
  refine hj.mono ?_
  rintro e w' ⟨rfl,hb'⟩
  exact ⟨[_],rfl,fun _ _ _=>by simpa using .zx7 _,.z3u hb'⟩
theorem Con.zvy {P:Program} {G:GI} {f:Nat} {vs:List PV} {T n:Nat} {l:List (List D)} (hT:T<1000000) (ent:∀ args w,(callFunc f args).run P w = .ok (.enter f args) w)
  (h:∀ w O φ α us,VRs w O φ α vs us→Bd O w→G.p w O→Calls P f us.toArray w fun e w'=>∃ v xs,e = .returned v∧w'.ownsRow w.heap.size T n v l.length xs∧(∀ O',RDl w' O' n l xs)∧(∀ x∈xs,x.oneCell'=true)∧Ext z0l w w'):Con P G f ⟨vs,[],[]⟩ (.ok [.ref 0] [] [some (T,n,l)]):=by
 refine ⟨ent,fun w O φ α us hv hm hB hG=>(h w O φ α us hv hB hG).mono fun e w' ⟨v,xs,h1,h2,h3,h4,h5⟩ => ?_⟩
 have hnew:∀ x,v.ownBlock=some x→w.heap.size≤x∧x<w'.heap.size:=fun x hx=>by
  rcases h2.2 with ⟨rfl,_⟩|⟨g,cap,cur,rfl,k1,k2,_⟩
  ·simp [Value.ownBlock] at hx
  ·simp only [Value.ownBlock,Option.some.injEq] at hx
   subst hx
   exact ⟨k1,(yh.1 k2).1⟩
 have own:z8e w' (fun x=>O x∨v.ownBlock=some x) T n v l:=.inl ⟨hT,xs,⟨h2.1,h2.2.imp id fun ⟨g,cap,cur,e,_,r⟩=>⟨g,cap,cur,e,Nat.zero_le _,r⟩⟩,h3 _,h4,fun b hb => .inr hb⟩
 refine ⟨[v],fun x=>O x∨v.ownBlock=some x,φ,fun _=>v,h1,⟨v,[],rfl,⟨rfl,own.zz7⟩,rfl⟩,⟨fun b e he => ?_,fun a e he => ?_,fun a b la _ _ => ?_,fun a b e e' ha hb hn => ?_,fun a b e ha lb => ?_⟩,fun _ _=>rfl,ye _,fun x hx => ?_,⟨h5.size,fun c hc _=>h5.block c hc fun hh=>hh,fun c hc ho hh => ?_⟩,fun _ hx => .inl hx,fun x hx => ?_,h5.mono fun _ _ hx=>hx.elim,fun b h1 h2 => ?_,fun a e x he hx => ?_⟩
 ·simp at he
 ·match a,he with
  | 0,he=>cases he;exact own
 ·simp at la
 ·match a,b,ha,hb with
  | 0,0,_,_=>exact (hn rfl).elim
 ·simp at lb
 ·rcases hx with hx|hx
  ·exact yf (hB x hx) h5.size
  ·exact (hnew x hx).2
 ·rcases hh with hh|hh
  ·exact ho hh
  ·have:=(hnew c hh).1
   omega
 ·rcases hx with hx|hx
  ·exact .inl hx
  ·exact .inr (hnew x hx).1
 ·simp at h1
 ·exact .inr (hnew x hx).1
theorem RDl.strs {w:World} {O:Nat→Prop}:∀ (zs:List (List UInt8)),RDl w O 1 (zs.map eS) (zs.map encStr)
 | []=>trivial
 | z::zs=>⟨⟨_,[],rfl,rfl,rfl⟩,by simpa using RDl.strs zs⟩
theorem C.z16 (p0:List (List UInt8)):S (M.z16 p0) fun r=>Con Tryz.prog GG 48 (I.z16 p0) (O.z16 r):=by
 unfold M.z16
 refine S.chk fun h0 => ?_
 have h0:=of_decide_eq_true h0
 intro r hm
 cases hm
 refine Con.zvy (by decide) (fun _ _=>rfl) fun w O φ α us hv hB hG => ?_
 obtain ⟨v,us',rfl,k1,hv⟩:=hv
 obtain rfl:us'=[]:=hv
 simp only [VR] at k1
 obtain ⟨a,cap,rfl,kc,k3⟩:=zag.of k1
 rcases k3 with ⟨p,e,rfl⟩|⟨b,off,cap',e,hb,hc⟩
 ·cases e
  rcases a with _|a
  ·refine (AnyG.slices_Clone_string_nil Tryz.zhq 0 0 w).mono ?_
   rintro e w' ⟨rfl,rfl⟩
   exact ⟨_,[],rfl,World.ownsRow_nil _ _ _ _,fun _=>trivial,by simp,Ext.refl _ _⟩
  ·refine (AnyG.slices_Clone_string_zero Tryz.zhq a 0 w).mono ?_
   rintro e w' ⟨v',rfl,h1,_,h3⟩
   exact ⟨v',[],rfl,h1,fun _=>trivial,by simp,.z3u h3⟩
 ·cases e
  refine (AnyG.slices_Clone_string Tryz.zhq b off p0.length cap (p0.map fun x=>(⟨x.toArray⟩:ByteArray)) w (by simp) h0 (fun j hj => ?_)).mono ?_
  ·rw [yd] at hj
   rw [hc j hj]
   simp [encStr,hj]
  ·rintro e w' ⟨v',rfl,h1,_,h3⟩
   have e1:((p0.map fun x=>(⟨x.toArray⟩:ByteArray)).take p0.length).map Value.string=p0.map encStr:=by
    rw [List.take_of_length_le (by simp),List.map_map]
    rfl
   rw [e1] at h1
   refine ⟨v',_,rfl,by rw [yd];exact h1,fun _=>RDl.strs p0,fun x hx => ?_,.z3u h3⟩
   obtain ⟨y,_,rfl⟩:=List.mem_map.1 hx
   rfl
theorem z8a {w:World} {b q:Nat} {u:Value} (h:w.cell? ⟨b,q,none⟩=some u):∃ r T fr,w.heap[b]? = some (.cells r T fr)∧r[q]? = some u:=by
 unfold World.cell? at h
 split at h
 ·rename_i c T fr e
  exact ⟨c,T,fr,e,h⟩
 ·cases h
theorem TBG:TbG Tryz.prog TB GG:=⟨zzd,fun w O h g e he=>by
 obtain ⟨hv,ho⟩:=h
 obtain ⟨h1,h2⟩:=hv.utf
 rcases z2b he with ⟨rfl,rfl⟩|⟨_,he⟩
 ·refine ⟨by simp [utf8First],fun i x hx => ?_⟩
  have hi:i<256:=by
   have:=(yc.1 hx).1
   simpa [utf8First] using this
  have hx:x=eI .u8 ((Lib.firstT i:Nat):Int):=by
   simp [utf8First,hi] at hx
   exact hx.symm
  subst hx
  obtain ⟨r,T,fr,k1,k2⟩:=z8a (h1 i hi)
  refine ⟨[.int .u8 ((Lib.firstT i:Nat):Int)],rfl,⟨ho 1 (by decide),r,T,fr,k1,fun j u hj => ?_⟩,⟨_,_,rfl,rfl,rfl⟩⟩
  match j,hj with
  | 0,hj=>cases hj;simpa using k2
 ·rcases z2b he with ⟨rfl,rfl⟩|⟨_,he⟩
  ·refine ⟨by simp [z8c],fun i x hx => ?_⟩
   have hi:i<16:=by
    have:=(yc.1 hx).1
    simpa [z8c] using this
   have hx:x=[.int .u8 ((Lib.accLo i:Nat):Int),.int .u8 ((Lib.accHi i:Nat):Int)]:=by
    simp [z8c,hi] at hx
    exact hx.symm
   subst hx
   obtain ⟨q1,q2⟩:=h2 i hi
   obtain ⟨r,T,fr,k1,k2⟩:=z8a q1
   obtain ⟨r',T',fr',k3,k4⟩:=z8a q2
   rw [k1] at k3
   cases k3
   refine ⟨[.int .u8 ((Lib.accLo i:Nat):Int),.int .u8 ((Lib.accHi i:Nat):Int)],rfl,⟨ho 2 (by decide),r,T,fr,k1,fun j u hj => ?_⟩,⟨_,_,rfl,rfl,_,_,rfl,rfl,rfl⟩⟩
   match j,hj with
   | 0,hj=>cases hj;rw [show i*2+0=2*i by omega];exact k2
   | 1,hj=>cases hj;rw [show i*2+1=2*i+1 by omega];exact k4
  ·cases he⟩
end Go.Proofs.YtmmgdladipbedaaGreatDoor
end
section
namespace Go.Proofs.YtmmgdladipbedaaGreatDoor
open _root_.Nat renaming ble → ya
open Go.Lk Go.Pe Go.Sen Go.RowKit
@[reducible] def Qs {α:Type} (y:Option α) (f:Nat) (i:CIn) (o:α→z3z):Prop:=S y fun r=>Con Tryz.prog GG f i (o r)
theorem Kf {α:Type} {y:Option α} {f:Nat} {fn:Func} {i:CIn} {o:α→z3z} (hf:Tryz.prog.funcs[f]? = some fn) (ann:Ann) (res:List ResultVar) (hw:S y fun r=>ex TB CT ann (Con Tryz.prog GG) (z4h fn) (entry i) (fin TB ann res (o r))) (hok:okC ann fn.ntmps (z4h fn)=true:=by kernel_rfl)
  (hb:fn.body=some (z4h fn):=by exact rfl) (ent:∀ args w,(callFunc f args).run Tryz.prog w = .ok (.enter f args) w:=by exact fun _ _=>rfl) (hres:fn.results=res.toArray:=by exact rfl) (hl:ya i.vs.length fn.ntmps=true:=by exact rfl) (hnb:ann.nb=i.B.length:=by exact rfl) (h1000:ya i.B.length 1000=true:=by exact rfl):Qs y f i o :=
 Con.oS TBG hf ann res hw hok hb ent hres hl hnb h1000
theorem Kd {α:Type} {y:Option α} {f:Nat} {fn:Func} {i:CIn} {o:α→z3z} {fc T:Nat} {ik:IntKind} {Te:Nat} (hct:zfa Tryz.prog fc T ik Te) (hf:Tryz.prog.funcs[f]? = some fn) (ann:Ann) (res:List ResultVar) (hw:S y fun r=>exD TB CT ann (Con Tryz.prog GG) (fin TB ann res (o r)) (zx6 TB ann res (o r) fc T ik Te) (z4h fn) (entry i)) (hok:okC ann fn.ntmps (z4h fn)=true:=by kernel_rfl)
  (hb:fn.body=some (z4h fn):=by exact rfl) (ent:∀ args w,(callFunc f args).run Tryz.prog w = .ok (.enter f args) w:=by exact fun _ _=>rfl) (hnd:z2s (z4h fn)=true:=by exact rfl) (hres:fn.results=res.toArray:=by exact rfl) (hl:ya i.vs.length fn.ntmps=true:=by exact rfl) (hnb:ann.nb=i.B.length:=by exact rfl) (h1000:ya i.B.length 900=true:=by exact rfl):Qs y f i o :=
 Con.oD hct TBG hf ann res hw hok hb ent hnd hres hl hnb h1000
end Go.Proofs.YtmmgdladipbedaaGreatDoor
end
section
namespace Go.Proofs
open Go.Shelf
def Tryz.zj0:Go.Shelf.Ren:=⟨fun|6=>50|15=>109|14=>108|28=>176|29=>177|20=>168|21=>169|22=>170|23=>171|24=>172|25=>173|26=>174|27=>175|46=>214|47=>215|48=>216|49=>217|50=>218|57=>237|n=>n,fun|22=>31|24=>48|25=>81|3=>3|39=>130|0=>0|53=>186|55=>188|4=>4|46=>179|45=>178|50=>183|5=>5|9=>9|66=>210|70=>214|76=>223|77=>224|n=>n,fun|n=>n⟩
theorem Tryz.zp6:Go.Proofs.SlLaysF0.n6 Tryz.prog Tryz.zj0:={
 mixed:=by kernel_rfl
 f6:=⟨Tryz.f50.name,by decide,Tryz.func50.trans (congrArg some (by kernel_rfl))⟩
 f14:=⟨Tryz.f108.name,by decide,Tryz.func108.trans (congrArg some (by kernel_rfl))⟩
 f15:=Tryz.func109.trans (congrArg some (by kernel_rfl))
 f20:=⟨Tryz.f168.name,by decide,Tryz.func168.trans (congrArg some (by kernel_rfl))⟩
 f21:=⟨Tryz.f169.name,by decide,Tryz.func169.trans (congrArg some (by kernel_rfl))⟩
 f22:=⟨Tryz.f170.name,by decide,Tryz.func170.trans (congrArg some (by kernel_rfl))⟩
 f23:=⟨Tryz.f171.name,by decide,Tryz.func171.trans (congrArg some (by kernel_rfl))⟩
 f24:=⟨Tryz.f172.name,by decide,Tryz.func172.trans (congrArg some (by kernel_rfl))⟩
 f25:=⟨Tryz.f173.name,by decide,Tryz.func173.trans (congrArg some (by kernel_rfl))⟩
 f26:=⟨Tryz.f174.name,by decide,Tryz.func174.trans (congrArg some (by kernel_rfl))⟩
 f27:=⟨Tryz.f175.name,by decide,Tryz.func175.trans (congrArg some (by kernel_rfl))⟩
 f28:=Tryz.func176.trans (congrArg some (by kernel_rfl))
 f29:=Tryz.func177.trans (congrArg some (by kernel_rfl))
 f46:=⟨Tryz.f214.name,by decide,Tryz.func214.trans (congrArg some (by kernel_rfl))⟩
 f47:=Tryz.func215.trans (congrArg some (by kernel_rfl))
 f48:=Tryz.func216.trans (congrArg some (by kernel_rfl))
 f49:=⟨Tryz.f217.name,by decide,Tryz.func217.trans (congrArg some (by kernel_rfl))⟩
 f50:=⟨Tryz.f218.name,by decide,Tryz.func218.trans (congrArg some (by kernel_rfl))⟩
 f57:=⟨Tryz.f237.name,by decide,Tryz.func237.trans (congrArg some (by kernel_rfl))⟩
 t0:=Tryz.underlying0
 a0:=Tryz.isAgg0
 z0:=Tryz.sizeOf0
 v0:=Tryz.zeroValue0
 t3:=Tryz.underlying3
 a3:=Tryz.isAgg3
 z3:=Tryz.sizeOf3
 v3:=Tryz.zeroValue3
 t4:=Tryz.underlying4
 a4:=Tryz.isAgg4
 z4:=Tryz.sizeOf4
 v4:=Tryz.zeroValue4
 t5:=Tryz.underlying5
 a5:=Tryz.isAgg5
 z5:=Tryz.sizeOf5
 v5:=Tryz.zeroValue5
 t9:=Tryz.underlying9
 a9:=Tryz.isAgg9
 z9:=Tryz.sizeOf9
 v9:=Tryz.zeroValue9
 t22:=Tryz.underlying31
 a22:=Tryz.isAgg31
 z22:=Tryz.sizeOf31
 v22:=Tryz.zeroValue31
 t25:=Tryz.underlying81
 a25:=Tryz.isAgg81
 z25:=Tryz.sizeOf81
 v25:=Tryz.zeroValue81
 t39:=Tryz.underlying130
 a39:=Tryz.isAgg130
 z39:=Tryz.sizeOf130
 v39:=Tryz.zeroValue130
 t45:=Tryz.underlying178
 a45:=Tryz.isAgg178
 z45:=Tryz.sizeOf178
 v45:=Tryz.zeroValue178
 t46:=Tryz.underlying179
 a46:=Tryz.isAgg179
 z46:=Tryz.sizeOf179
 v46:=Tryz.zeroValue179
 t50:=Tryz.underlying183
 a50:=Tryz.isAgg183
 z50:=Tryz.sizeOf183
 v50:=Tryz.zeroValue183
 t53:=Tryz.underlying186
 a53:=Tryz.isAgg186
 z53:=Tryz.sizeOf186
 v53:=Tryz.zeroValue186
 t55:=Tryz.underlying188
 a55:=Tryz.isAgg188
 z55:=Tryz.sizeOf188
 v55:=Tryz.zeroValue188
 t66:=Tryz.underlying210
 a66:=Tryz.isAgg210
 z66:=Tryz.sizeOf210
 v66:=Tryz.zeroValue210
 t70:=Tryz.underlying214
 a70:=Tryz.isAgg214
 z70:=Tryz.sizeOf214
 v70:=Tryz.zeroValue214
 t76:=Tryz.underlying223
 a76:=Tryz.isAgg223
 z76:=Tryz.sizeOf223
 v76:=Tryz.zeroValue223
 t77:=Tryz.underlying224
 a77:=Tryz.isAgg224
 z77:=Tryz.sizeOf224
 v77:=Tryz.zeroValue224 }
end Go.Proofs
end
section
namespace Go.Sen
open _root_.List renaming length_cons → ya, length_nil → yb, mem_map_of_mem → yc, mem_mergeSort → yd, mergeSort_perm → ye, pairwise_mergeSort → yf
open _root_.Nat renaming zero_add → yg
open Go.Lk Go.Pe
theorem zyf (a b c:List UInt8) (h1:a≤b) (h2:b≤c):a≤c:=List.le_trans h1 h2
theorem zhy {l l':List q02} (h:l.Perm l') (hn:(l.map (·.zk)).Nodup) :
  l.mergeSort (fun x y=>decide (x.zk≤y.zk))=l'.mergeSort (fun x y=>decide (x.zk≤y.zk)):=by
 have tr:∀ a b c:q02,decide (a.zk≤b.zk)=true→decide (b.zk≤c.zk)=true→decide (a.zk≤c.zk)=true:=fun a b c h1 h2=>decide_eq_true (zyf _ _ _ (of_decide_eq_true h1) (of_decide_eq_true h2))
 have tot:∀ a b:q02,(decide (a.zk≤b.zk)||decide (b.zk≤a.zk))=true:=fun a b=>by
  rcases List.le_total a.zk b.zk with h|h<;>simp [h]
 have p1:=yf tr tot l
 have p2:=yf tr tot l'
 have hp:(l.mergeSort fun x y=>decide (x.zk≤y.zk)).Perm (l'.mergeSort fun x y=>decide (x.zk≤y.zk)):=(ye l _).trans (h.trans (ye l' _).symm)
 refine List.Perm.eq_of_pairwise (fun a b ha hb h1 h2 => ?_) p1 p2 hp
 have e:a.zk=b.zk:=List.le_antisymm (of_decide_eq_true h1) (of_decide_eq_true h2)
 have ha:a∈l:=yd.1 ha
 have hb:b∈l:=h.mem_iff.2 (yd.1 hb)
 have key:∀ (l:List q02),(l.map (·.zk)).Nodup→a∈l→b∈l→a=b:=by
  intro l
  induction l with
  | nil=>intro _ h;cases h
  | cons x l ih =>
   intro hn ha hb
   simp only [List.map_cons,List.nodup_cons] at hn
   rcases List.mem_cons.1 ha with ha1|ha1<;>rcases List.mem_cons.1 hb with hb1|hb1
   ·rw [ha1,hb1]
   ·subst ha1
    exact (hn.1 (e▸yc hb1)).elim
   ·subst hb1
    exact (hn.1 (e▸yc ha1)).elim
   ·exact ih hn.2 ha1 hb1
 exact key l hn ha hb
theorem zmu {l l':List q02} (h:l.Perm l'):M.q5t l=M.q5t l':=by
 unfold M.q5t
 have e1:l.length=l'.length:=h.length_eq
 have e2:(l.map (·.zk)).Nodup↔(l'.map (·.zk)).Nodup:=(h.map _).nodup_iff
 by_cases hn:(l.map (·.zk)).Nodup
 ·rw [zhy h hn,e1]
  simp only [decide_eq_decide.2 e2]
 ·have hn':¬(l'.map (·.zk)).Nodup:=fun q=>hn (e2.2 q)
  simp [hn,hn',Go.Lk.chk]
theorem zqm (p1:q04):∀ (l:List ((List UInt8) × (List (List UInt8)))) (acc:List q02),
  M.z0f p1 l acc=if l=[]∨(acc.length+l.length)*40≤140737488355328 then (M.q5t (acc++l.map fun x=>q02.mk x.1 x.2)).bind (fun a=>some (q04.mk p1.gId p1.zc p1.z7b a,0)) else none
 | [],acc=>by
  rw [M.z0f.eq_1]
  simp
 | x::l,acc=>by
  rw [M.z0f.eq_2]
  unfold app
  have ih:=zqm p1 l (acc++[q02.mk x.1 x.2])
  by_cases h0:(acc.length+1)*40≤140737488355328
  ·simp only [ya,yb,yg,h0,if_true]
   show M.z0f p1 l (acc++[q02.mk x.1 x.2])=_
   rw [ih]
   simp only [List.length_append,ya,yb,List.append_assoc,List.map_cons,List.singleton_append,reduceCtorEq,false_or,yg]
   rw [show acc.length+(l.length+1)=acc.length+1+l.length by omega]
   by_cases h1:l=[]
   ·subst h1
    simp [h0]
   ·simp only [h1,false_or]
  ·simp only [ya,yb,yg,h0,if_false,reduceCtorEq,false_or]
   rw [if_neg (by omega)]
   rfl
theorem zdm {X:Type}:∀ (l:List X) (i:Nat) (x:X),l[i]? = some x→l.Perm (x::l.eraseIdx i)
 | y::l,0,x,h=>by
  simp at h
  subst h
  simp
 | y::l,i+1,x,h=>by
  simp only [List.getElem?_cons_succ] at h
  simp only [List.eraseIdx_cons_succ]
  exact ((zdm l i x h).cons y).trans (List.Perm.swap x y _)
 | [],i,x,h=>by simp at h
theorem Ord.z0f (p1:q04) (l:List ((List UInt8) × (List (List UInt8)))) (acc:List q02) (i:Nat) (x:(List UInt8) × (List (List UInt8))) (h:l[i]? = some x):M.z0f p1 l acc=M.z0f p1 (x::l.eraseIdx i) acc:=by
 have hp:=zdm l i x h
 rw [zqm,zqm]
 have e1:l.length=(x::l.eraseIdx i).length:=hp.length_eq
 have h1:l≠[]:=fun q=>by subst q;simp at h
 simp only [h1,false_or,reduceCtorEq,←e1]
 rw [zmu ((hp.map _).append_left acc)]
end Go.Sen
end
