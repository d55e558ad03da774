import Derived.Test.YtfdoofnmjehecaaGreatDoorPShN
import Derived.Test.YtfdoofnmjehecaaGreatDoorPPfK
import Derived.Test.YtfdoofnmjehecaaGreatDoorPHtShelf
import Derived.Test.YtfdoofnmjehecaaGreatDoorPLmU
set_option linter.all false
set_option maxRecDepth 1000000
namespace Go.Proofs.YtfdoofnmjehecaaGreatDoor
open _root_.Option renaming bind_eq_some_iff → ya
open _root_.Bool renaming and_eq_true_iff → yb
open _root_.List renaming getElem?_eq_some_iff → yc, length_map → yd, map_congr_left → ye
open _root_.Nat renaming le_refl → yf, lt_of_lt_of_le → yg, not_lt_zero → yh, zero_lt_one → yi
open _root_.Array renaming getElem?_eq_some_iff → yj
open Go.Lk Go.Pe Go.Sen Go.RowKit Go.Shelf Go.Proofs
theorem S.chk {A:Type} {b:Bool} {y:Unit→Option A} {F:A→Prop} (h:b=true→S (y ()) F):S (Go.Lk.chk b >>= y) F:=fun r hm=>by
 obtain ⟨_,h1,h2⟩:=ya.1 hm
 exact h (z4a h1) r h2
def Er (v:Value):Prop:=v = .nilIface∨∃ t p,v = .iface t p
structure zuy (w:World):Prop where
 utf:Lib.Utf8Tabs 1 2 w
 max:∃ m,w.cell? ⟨0,0,none⟩=some (.int .i64 m)
 syn:∃ v,w.cell? ⟨3,0,none⟩=some v∧Er v
 rng:∃ v,w.cell? ⟨4,0,none⟩=some v∧Er v
 pow:∃ e f,w.heap[5]? = some (.cells (Lib.pow10Tab.map fun z=>Value.int .u64 z).toArray e f)
def GG:GI:=⟨fun w O=>zuy w∧∀ b,b≤5→¬O b,fun {O w O' w'} t h=>by
 obtain ⟨h,k⟩:=h
 have h4:5<w.heap.size:=by
  obtain ⟨e,f,h4⟩:=h.pow
  exact (yj.1 h4).1
 refine ⟨⟨zr4 t (k 1 (by decide)) (k 2 (by decide)) h.utf,?_,?_,?_,?_⟩,fun b hb=>t.owned b (by omega) (k b hb)⟩
 ·obtain ⟨m,h1⟩:=h.max
  exact ⟨m,z8x t h1 (k 0 (by decide))⟩
 ·obtain ⟨v,h1,h2⟩:=h.syn
  exact ⟨v,z8x t h1 (k 3 (by decide)),h2⟩
 ·obtain ⟨v,h1,h2⟩:=h.rng
  exact ⟨v,z8x t h1 (k 4 (by decide)),h2⟩
 ·obtain ⟨e,f,h1⟩:=h.pow
  exact ⟨e,f,(t.block 5 h4 (k 5 (by decide))).trans h1⟩⟩
theorem C.z2k (p0:List Int):S (M.z2k p0) fun r=>Con Tryz.prog GG 122 (I.z2k p0) (O.z2k p0 r):=by
 intro r hm
 refine ⟨fun _ _=>rfl,rfl,fun w O φ α us hv hm hB hG => ?_⟩
 obtain ⟨u,us',rfl,hu,hus⟩:=hv
 have hus:us'=[]:=hus
 subst hus
 simp only [VR] at hu
 subst hu
 obtain ⟨hO,us,hbx,p,us2,rfl,hp,v,us3,rfl,hv,h3⟩:=hm.box 0 _ rfl
 have hbx:=hbx.un (by decide)
 have h3:us3=[]:=h3
 subst h3
 simp only [VR] at hp hv
 obtain ⟨rfl,hone⟩:=hv
 refine (zcr w (φ 0) p (α 0) hbx hp hone).mono fun e w' ⟨h1,h2,h3⟩ => ?_
 have hne:=hm.ab 0 0 _ rfl (yi)
 have tr:Tr O w O w':=Tr.z3r h3 fun x _ hx=>by cases hx;exact hO
 have hown:=(hm.arr 0 _ rfl).keep h3 (fun b hb hx=>hne (by rw [hb];exact congrArg some hx)) tr (fun _ h=>h)
 refine ⟨[],O,φ,α,h1,⟨rfl,⟨fun b e he => ?_,fun a e he => ?_,fun a b la lb' hn => ?_,fun a b e e' ha hb hn => ?_,fun a b e ha hb => ?_⟩,fun _ _=>rfl,yf _,fun x hx=>yg (hB x hx) h3.size,tr,fun _ hx=>hx,fun _ hx => .inl hx,h3.mono fun x _ hx => .inl ⟨0,yi,hx.symm⟩,fun b h1 h2 => ?_,fun a e x he hx => ?_⟩⟩
 ·match b,he with
  | 0,he =>
   cases he
   exact ⟨hO,_,.inl ⟨by decide,h2⟩,_,_,rfl,.inr rfl,_,[],rfl,⟨rfl,hone⟩,rfl⟩
 ·match a,he with
  | 0,he=>cases he;exact hown
 ·simp at la lb'
  omega
 ·match a,b,ha,hb with
  | 0,0,_,_=>exact (hn rfl).elim
 ·match a,ha with
  | 0,ha =>
   have:b=0:=by simpa using hb
   subst this
   exact hm.ab 0 0 _ rfl (yi)
 ·simp at h1 h2
  omega
 ·match a,he with
  | 0,he=>exact .inl ⟨0,yi,hx⟩
theorem C.z1h (p0:Z):S (M.z1h p0) fun r=>Con Tryz.prog GG 228 (I.z1h p0) (O.z1h r):=by
 unfold M.z1h
 refine S.chk fun h0 => ?_
 have h0:=of_decide_eq_true h0
 intro r hm
 cases hm
 refine Con.lib (fun _ _=>rfl) fun w O φ α us hv hB hG => ?_
 obtain ⟨us1,rfl,hv1⟩:=hv.str
 obtain rfl:=hv1.nil
 refine (Any.utf8_ValidString Tryz.zkg ⟨p0.toArray⟩ w (by simpa [ByteArray.size] using h0) hG.1.utf).mono ?_
 rintro e w' ⟨rfl,hb⟩
 exact ⟨[_],rfl,fun _ _ _ => .zk5 _,.z3a hb⟩
theorem C.indexByte (p0:Z) (p1:Int):S (M.indexByte p0 p1) fun r=>Con Tryz.prog GG 285 (I.indexByte p0 p1) (O.indexByte r):=by
 intro r hm
 cases hm
 refine Con.lib (fun _ _=>rfl) fun w O φ α us hv hB hG => ?_
 obtain ⟨us1,rfl,hv1⟩:=hv.str
 obtain ⟨us2,rfl,hv2⟩:=hv1.int
 obtain rfl:=hv2.nil
 refine (Any.strings_IndexByte Tryz.zpm ⟨p0.toArray⟩ p1 w).mono ?_
 rintro e w' ⟨rfl,rfl⟩
 exact ⟨[_],rfl,fun _ _ _ => .zuc _ _,.refl _ _⟩
theorem asc {l:Z} (h:(l.all fun b=>decide (b.toNat<128))=true):∀ (j:Nat) b,l[j]? = some b→b.toNat<128:=fun j b hb=>by
 have:=List.all_eq_true.1 h b (List.mem_of_getElem? hb)
 simpa using this
theorem C.trimLeft (p0 p1:Z):S (M.trimLeft p0 p1) fun r=>Con Tryz.prog GG 244 (I.trimLeft p0 p1) (O.trimLeft r):=by
 unfold M.trimLeft
 intro r hm
 obtain ⟨_,hc,hm⟩:=ya.1 hm
 obtain ⟨h1,h2⟩:=yb.1 (z4a hc)
 cases hm
 refine Con.lib (fun _ _=>rfl) fun w O φ α us hv hB hG => ?_
 obtain ⟨us1,rfl,hv1⟩:=hv.str
 obtain ⟨us2,rfl,hv2⟩:=hv1.str
 obtain rfl:=hv2.nil
 refine (Any.strings_TrimLeft_laid Tryz.zpu (by kernel_rfl) ⟨p0.toArray⟩ ⟨p1.toArray⟩ w (by simpa [ByteArray.size] using h1) (by simpa using asc h2)).mono ?_
 rintro e w' ⟨rfl,hb⟩
 exact ⟨[_],rfl,fun _ _ _ => .zpe _,.z3a hb⟩
theorem C.trim (p0 p1:Z):S (M.trim p0 p1) fun r=>Con Tryz.prog GG 38 (I.trim p0 p1) (O.trim r):=by
 unfold M.trim
 intro r hm
 obtain ⟨_,hc,hm⟩:=ya.1 hm
 obtain ⟨h0,h2⟩:=yb.1 (z4a hc)
 obtain ⟨h1,h2⟩:=yb.1 h2
 cases hm
 refine Con.lib (fun _ _=>rfl) fun w O φ α us hv hB hG => ?_
 obtain ⟨us1,rfl,hv1⟩:=hv.str
 obtain ⟨us2,rfl,hv2⟩:=hv1.str
 obtain rfl:=hv2.nil
 refine (Any.strings_Trim_laid Tryz.zpt (by kernel_rfl) ⟨p0.toArray⟩ ⟨p1.toArray⟩ w (by simpa [ByteArray.size] using h0) (by simpa [ByteArray.size] using h1) (by simpa using asc h2)).mono ?_
 rintro e w' ⟨rfl,hb⟩
 exact ⟨[_],rfl,fun _ _ _ => .zpe _,.z3a hb⟩
theorem C.zj (p0:List Int):S (M.zj p0) fun r=>Con Tryz.prog GG 60 (I.zj p0) (O.zj p0 r):=by
 unfold M.zj
 refine S.chk fun h0 => ?_
 have h0:=of_decide_eq_true h0
 intro r hm
 cases hm
 exact Con.string Tryz.zkd Tryz.z52 (fun _ _=>rfl) (by decide) (by decide) (.inl rfl) p0 h0
@[reducible] def I.z4j (p0:List Int):CIn:=⟨[.ptr 0 0],[⟨89,[.z0m 0,.ref 0]⟩],[(1000005,1,(p0.map (eI .u8)))]⟩
theorem C.z4j (p0:List Int):S (M.zj p0) fun r=>Con Tryz.prog GG 60 (I.z4j p0) (O.zj p0 r):=by
 unfold M.zj
 refine S.chk fun h0 => ?_
 have h0:=of_decide_eq_true h0
 intro r hm
 cases hm
 exact Con.string Tryz.zkd Tryz.z52 (fun _ _=>rfl) (by decide) (by decide) (.inr rfl) p0 h0
theorem zdp.of {w:World} {O:Nat→Prop} {zs:List Z} {v:Value} (h:RD w O (.sl 9 1 (zs.map eS)) v):∃ a cap,v = .slice a zs.length cap∧zs.length≤cap∧zdp w v zs:=by
 rcases h with ⟨⟨p,rfl⟩,h⟩|⟨b,off,cap,cs,fr,rfl,hcap,_,_,h1,h2,h3⟩
 ·obtain rfl:zs=[]:=by simpa using h
  exact ⟨p,0,rfl,yf _,.inl ⟨p,rfl,rfl⟩⟩
 ·refine ⟨some ⟨b,off,none⟩,cap,by simp,by simpa using hcap,.inr ⟨b,off,cap,by simp,(yj.1 h1).1,fun j hj => ?_⟩⟩
  obtain ⟨x,hx⟩:∃ x,zs[j]? = some x:=⟨zs[j],by simp [hj]⟩
  have h4:=RDl.at h3 (i:=j) (x:=eS x) (by simp [hx])
  have h5:=zq3 h4
  rw [cell_of_row w b (off+j) cs fr.1 fr.2 h1,hx]
  have h6:((cs.toList.drop off).drop (j*1)).take 1=[Value.string ⟨x.toArray⟩]:=h5
  have:=congrArg (fun l=>l[0]?) h6
  simpa [List.getElem?_take,List.getElem?_drop] using this
theorem C.single (p0:List Z):S (M.single p0) fun r=>Con Tryz.prog GG 284 (I.single p0) (O.single r):=by
 unfold M.single
 refine S.chk fun h0 => ?_
 have h0:=of_decide_eq_true h0
 intro r hm
 cases hm
 refine Con.lib (fun _ _=>rfl) fun w O φ α us hv hB hG => ?_
 obtain ⟨v,us',rfl,h1,h2⟩:=hv
 obtain rfl:us'=[]:=h2
 simp only [VR] at h1
 obtain ⟨a,cap,rfl,_,h3⟩:=zdp.of h1
 refine (zj3 w a _ cap p0 h0 rfl h3).mono ?_
 rintro e w' ⟨rfl,hb⟩
 exact ⟨[_],rfl,fun _ _ _ => .zk5 _,.z3a hb⟩
theorem C.cut (p0 p1:Z):S (M.cut p0 p1) fun r=>Con Tryz.prog GG 35 (I.cut p0 p1) (O.cut r):=by
 unfold M.cut
 refine S.chk fun h0 => ?_
 have h0:=of_decide_eq_true h0
 intro r hm
 cases hm
 refine Con.lib (fun _ _=>rfl) fun w O φ α us hv hB hG => ?_
 obtain ⟨us1,rfl,hv1⟩:=hv.str
 obtain ⟨us2,rfl,hv2⟩:=hv1.str
 obtain rfl:=hv2.nil
 obtain ⟨m,hm⟩:=hG.1.max
 refine (Any.strings_Cut Tryz.zpp ⟨p0.toArray⟩ ⟨p1.toArray⟩ m w (by simpa [ByteArray.size] using h0) hm).mono ?_
 rintro e w' ⟨rfl,n,rfl⟩
 exact ⟨[_,_,_],rfl,fun _ _ _=>⟨_,_,rfl,rfl,_,_,rfl,rfl,_,[],rfl,rfl,rfl⟩,⟨rfl,rfl,rfl,yf _,fun _ _ _=>rfl⟩⟩
theorem C.contains (p0 p1:Z):S (M.contains p0 p1) fun r=>Con Tryz.prog GG 238 (I.contains p0 p1) (O.contains r):=by
 unfold M.contains
 refine S.chk fun h0 => ?_
 have h0:=of_decide_eq_true h0
 intro r hm
 cases hm
 refine Con.lib (fun _ _=>rfl) fun w O φ α us hv hB hG => ?_
 obtain ⟨us1,rfl,hv1⟩:=hv.str
 obtain ⟨us2,rfl,hv2⟩:=hv1.str
 obtain rfl:=hv2.nil
 obtain ⟨m,hm⟩:=hG.1.max
 refine (Any.strings_Contains Tryz.zpo ⟨p0.toArray⟩ ⟨p1.toArray⟩ m w (by simpa [ByteArray.size] using h0) hm).mono ?_
 rintro e w' ⟨rfl,rfl⟩
 exact ⟨[_],rfl,fun _ _ _ => .zk5 _,.refl _ _⟩
theorem C.join (p0:List Z) (p1:Z):S (M.join p0 p1) fun r=>Con Tryz.prog GG 121 (I.join p0 p1) (O.join r):=by
 unfold M.join
 refine S.chk fun h0 => ?_
 obtain ⟨h1,h2⟩:=yb.1 h0
 have h1:=of_decide_eq_true h1
 have h2:=of_decide_eq_true h2
 intro r hm
 cases hm
 refine Con.lib (fun _ _=>rfl) fun w O φ α us hv hB hG => ?_
 obtain ⟨v,us',rfl,k1,hv⟩:=hv
 obtain ⟨us2,rfl,hv2⟩:=VRs.str hv
 obtain rfl:=hv2.nil
 simp only [VR] at k1
 obtain ⟨a,cap,rfl,kc,k3⟩:=zdp.of k1
 have hmap:(p0.map fun x=>(⟨x.toArray⟩:ByteArray)).map (·.data.toList)=p0:=by
  rw [List.map_map]
  conv=>rhs;rw [←List.map_id p0]
  exact ye fun x _=>by simp
 rcases k3 with ⟨p,e,rfl⟩|⟨b,off,cap',e,hb,hc⟩
 ·cases e
  refine (Any.strings_Join_none Tryz.zkc Tryz.z50 _ _ ⟨p1.toArray⟩ w).mono ?_
  rintro e w' ⟨rfl,rfl⟩
  exact ⟨[_],rfl,fun _ _ _=>by first|exact .zpe _|exact ⟨_,[],rfl,by simp [VR,Lib.join],rfl⟩,.refl _ _⟩
 ·cases e
  have hj:=Any.strings_Join Tryz.zkc Tryz.z50 b off cap (p0.map fun x=>(⟨x.toArray⟩:ByteArray)) ⟨p1.toArray⟩ w (fun j x hx=>by
   rw [List.getElem?_map] at hx
   obtain ⟨y,hy,rfl⟩:=Option.map_eq_some_iff.1 hx
   have hj:=(yc.1 hy).1
   rw [hc j hj,hy]
   rfl) hb (by simpa using h1) (by simpa using kc) (by rw [hmap];simpa using h2)
  rw [hmap] at hj
  simp only [yd] at hj
  refine hj.mono ?_
  rintro e w' ⟨rfl,hb'⟩
  exact ⟨[_],rfl,fun _ _ _=>by simpa using .zpe _,.z3a hb'⟩
theorem C.atoi (p0:Z):S (M.atoi p0) fun r=>Con Tryz.prog GG 116 (I.atoi p0) (O.atoi r):=by
 unfold M.atoi
 refine S.chk fun h0 => ?_
 have h0:=of_decide_eq_true h0
 have hs:(⟨p0.toArray⟩:ByteArray).size≤281474976710656:=by simpa [ByteArray.size] using h0
 intro r hm
 rcases hv0:Lib.atoiAll p0 with v|_|_<;>rw [hv0] at hm<;>dsimp only at hm
 ·cases hm
  refine Con.lib (fun _ _=>rfl) fun w O φ α us hv hB hG => ?_
  obtain ⟨us1,rfl,hv1⟩:=hv.str
  obtain rfl:=hv1.nil
  refine (Any.strconv_Atoi_ok Tryz.zd3 ⟨p0.toArray⟩ (by omega) v (by simpa using hv0) w).mono ?_
  rintro e w' ⟨rfl,hw⟩
  refine ⟨[_,_],rfl,fun _ _ _=>⟨_,_,rfl,rfl,_,[],rfl,.inl ⟨rfl,rfl⟩,rfl⟩,?_⟩
  rcases hw with rfl|⟨t,rfl⟩
  ·exact .refl _ _
  ·exact Go.Pe.Ext.bytes _ _ _
 ·cases hm
  refine Con.lib (fun _ _=>rfl) fun w O φ α us hv hB hG => ?_
  obtain ⟨us1,rfl,hv1⟩:=hv.str
  obtain rfl:=hv1.nil
  obtain ⟨ev,h1,h2⟩:=hG.1.syn
  refine (Any.strconv_Atoi_syntax Tryz.zd3 ⟨p0.toArray⟩ hs (by simpa using hv0) ev w h1 h2).mono ?_
  rintro e w' ⟨N,rfl,_,_,hb⟩
  exact ⟨[_,_],rfl,fun _ _ _=>⟨_,_,rfl,rfl,_,[],rfl,.inr ⟨rfl,_,_,rfl⟩,rfl⟩,.z3a hb⟩
 ·cases hm
  refine Con.lib (fun _ _=>rfl) fun w O φ α us hv hB hG => ?_
  obtain ⟨us1,rfl,hv1⟩:=hv.str
  obtain rfl:=hv1.nil
  obtain ⟨ev,h1,h2⟩:=hG.1.rng
  refine (Any.strconv_Atoi_range Tryz.zd3 ⟨p0.toArray⟩ hs (by simpa using hv0) ev w h1 h2).mono ?_
  rintro e w' ⟨N,rfl,_,_,hb⟩
  exact ⟨[_,_],rfl,fun _ _ _=>⟨_,_,rfl,by simp [VR],_,[],rfl,.inr ⟨rfl,_,_,rfl⟩,rfl⟩,.z3a hb⟩
theorem C.itoa (p0:Int):S (M.itoa p0) fun r=>Con Tryz.prog GG 58 (I.itoa p0) (O.itoa r):=by
 unfold M.itoa
 intro r hm
 obtain ⟨_,hc,hm⟩:=ya.1 hm
 obtain ⟨h1,h2⟩:=yb.1 (z4a hc)
 cases hm
 refine Con.lib (fun _ _=>rfl) fun w O φ α us hv hB hG => ?_
 obtain ⟨us1,rfl,hv1⟩:=hv.int
 obtain rfl:=hv1.nil
 obtain ⟨e,f,h4⟩:=hG.1.pow
 have htab:Lib.TabIs Tryz.prog w "internal/strconv.uint64pow10" .u64 Lib.pow10Tab:=by
  unfold Lib.TabIs World.var?
  rw [show Tryz.prog.globalNamed "internal/strconv.uint64pow10" = some 5 from by kernel_rfl]
  simp [h4]
 refine (Any.strconv_Itoa Tryz.zms p0 (of_decide_eq_true h1) (of_decide_eq_true h2) w htab).mono ?_
 rintro e w' ⟨rfl,k,os,rfl⟩
 exact ⟨[_],rfl,fun _ _ _ => .zpe _,.z3a (below_grown w k os)⟩
theorem C.z4e (p0:Z) (p1:Z):S (M.z4e p0 p1) fun r=>Con Tryz.prog GG 96 (I.z4e p0 p1) (O.z4e r):=by
 unfold M.z4e
 refine S.chk fun h0 => ?_
 have h0:=of_decide_eq_true h0
 intro r hm
 cases hm
 refine Con.lib (fun _ _=>rfl) fun w O φ α us hv hB hG => ?_
 obtain ⟨us1,rfl,hv1⟩:=hv.str
 obtain ⟨us2,rfl,hv2⟩:=hv1.str
 obtain rfl:=hv2.nil
 obtain ⟨m,hm⟩:=hG.1.max
 refine (Any.strings_Index Tryz.zpn ⟨p0.toArray⟩ ⟨p1.toArray⟩ m w (by simpa [ByteArray.size] using h0) hm).mono ?_
 rintro e w' ⟨rfl,rfl⟩
 exact ⟨[_],rfl,fun _ _ _ => .zuc _ _,.refl _ _⟩
theorem C.containsAny (p0:Z) (p1:Z):S (M.containsAny p0 p1) fun r=>Con Tryz.prog GG 211 (I.containsAny p0 p1) (O.containsAny r):=by
 unfold M.containsAny
 intro r hm
 obtain ⟨_,hc,hm⟩:=ya.1 hm
 obtain ⟨h0,h1⟩:=yb.1 (z4a hc)
 obtain ⟨h1,h2⟩:=yb.1 h1
 obtain ⟨h2,h3⟩:=yb.1 h2
 cases hm
 refine Con.lib (fun _ _=>rfl) fun w O φ α us hv hB hG => ?_
 obtain ⟨us1,rfl,hv1⟩:=hv.str
 obtain ⟨us2,rfl,hv2⟩:=hv1.str
 obtain rfl:=hv2.nil
 refine (Any.strings_ContainsAny_laid Tryz.zpr (by kernel_rfl) ⟨p0.toArray⟩ ⟨p1.toArray⟩ w (by simpa [ByteArray.size] using h0) (by simpa [ByteArray.size] using h2) (by simpa using asc h1) (by simpa using asc h3)).mono ?_
 rintro e w' ⟨rfl,hb⟩
 exact ⟨[_],rfl,fun _ _ _ => .zk5 _,.z3a hb⟩
theorem C.replaceAll (p0:Z) (p1:Z) (p2:Z):S (M.replaceAll p0 p1 p2) fun r=>Con Tryz.prog GG 212 (I.replaceAll p0 p1 p2) (O.replaceAll r):=by
 unfold M.replaceAll
 intro r hm
 obtain ⟨_,hc,hm⟩:=ya.1 hm
 obtain ⟨h0,h1⟩:=yb.1 (z4a hc)
 obtain ⟨h1,h2⟩:=yb.1 h1
 have h0:=of_decide_eq_true h0
 have h1:=of_decide_eq_true h1
 have h2:=of_decide_eq_true h2
 cases hm
 refine Con.lib (fun _ _=>rfl) fun w O φ α us hv hB hG => ?_
 obtain ⟨us1,rfl,hv1⟩:=hv.str
 obtain ⟨us2,rfl,hv2⟩:=hv1.str
 obtain ⟨us3,rfl,hv3⟩:=hv2.str
 obtain rfl:=hv3.nil
 obtain ⟨m,hm⟩:=hG.1.max
 have hsz:∀ l:Z,(⟨l.toArray⟩:ByteArray).size=l.length:=fun l=>by simp [ByteArray.size]
 have hcb:=Lib.countB_le ⟨p1.toArray⟩ (by rw [hsz];omega) _ ⟨p0.toArray⟩ (yf _)
 rw [hsz] at hcb
 refine (Any.strings_ReplaceAll Tryz.zps Tryz.z8u ⟨p0.toArray⟩ ⟨p1.toArray⟩ ⟨p2.toArray⟩ m w (by rw [hsz];exact h0) hm (by rw [hsz];omega) (by rw [hsz,hsz,h2];omega)).mono ?_
 rintro e w' ⟨rfl,hb⟩
 exact ⟨[_],rfl,fun _ _ _ => .zpe _,.z3a hb⟩
theorem zkm (w:World):MapAtRunes Tryz.prog 37 #[] zsf w:=fun W r hr _=>by
 unfold FnGives
 by_cases h1:65≤r<;>by_cases h2:r≤90
 all_goals
  have z1:(65:Int)≤(r:Int)↔65≤r:=by omega
  have z2:(r:Int)≤90↔r≤90:=by omega
  go_enter Tryz.func37,Tryz.ntmps37
  go_wp2
  all_goals first|(exfalso;omega)|(go_ret;exact ⟨by simp [zsf,h1,h2,IntKind.wrap,IntKind.bits,IntKind.signed]<;>omega,0,rfl⟩)
theorem zj4 (w:World):PredAtRunes Tryz.prog 231 #[] zo1 w:=fun W r hr _=>by
 unfold FnGives
 by_cases h1:r<33<;>by_cases h2:126<r<;>by_cases h3:r=34<;>by_cases h4:r=92
 all_goals
  have z1:(r:Int)<33↔r<33:=by omega
  have z2:(126:Int)<(r:Int)↔126<r:=by omega
  have z3:(r:Int)=34↔r=34:=by omega
  have z4:(r:Int)=92↔r=92:=by omega
  go_enter Tryz.func231,Tryz.ntmps231
  go_wp2
  all_goals first|(exfalso;omega)|(go_ret;exact ⟨by simp [zo1,h1,h2,h3,h4]<;>omega,0,rfl⟩)
theorem C.z3y (p1:Z):S (M.z3y p1) fun r=>Con Tryz.prog GG 36 (I.z3y p1) (O.z3y r):=by
 unfold M.z3y
 refine S.chk fun h0 => ?_
 have h0:=of_decide_eq_true h0
 intro r hm
 cases hm
 refine Con.lib (fun _ _=>rfl) fun w O φ α us hv hB hG => ?_
 obtain ⟨u,us1,rfl,hu,hv1⟩:=hv
 obtain ⟨us2,rfl,hv2⟩:=VRs.str hv1
 obtain rfl:=hv2.nil
 obtain ⟨a,b,rfl,ha,hb⟩:=hu
 obtain rfl:a=[]:=ha
 obtain rfl:b=[]:=hb
 refine (Any.strings_Map_runes Tryz.zpv Tryz.z8v 37 #[] (enters_of Tryz.func37 (by kernel_rfl) rfl) zsf ⟨p1.toArray⟩ w (by simpa [ByteArray.size] using h0) (zkm w) (fun x hx=>by unfold zsf;split<;>omega) hG.1.utf).mono ?_
 rintro e w' ⟨rfl,hb⟩
 exact ⟨[_],rfl,fun _ _ _ => .zpe _,.z3a hb⟩
theorem C.z2d (p0:Z):S (M.z2d p0) fun r=>Con Tryz.prog GG 230 (I.z2d p0) (O.z2d r):=by
 unfold M.z2d
 intro r hm
 cases hm
 refine Con.lib (fun _ _=>rfl) fun w O φ α us hv hB hG => ?_
 obtain ⟨us1,rfl,hv1⟩:=hv.str
 obtain ⟨u,us2,rfl,hu,hv2⟩:=hv1
 obtain rfl:=VRs.nil hv2
 obtain ⟨a,b,rfl,ha,hb⟩:=hu
 obtain rfl:a=[]:=ha
 obtain rfl:b=[]:=hb
 refine (Any.strings_ContainsFunc_runes Tryz.zmr 231 #[] (enters_of Tryz.func231 (by kernel_rfl) rfl) zo1 ⟨p0.toArray⟩ w (zj4 w)).mono ?_
 rintro e w' ⟨rfl,hb⟩
 exact ⟨[_],rfl,fun _ _ _ => .zk5 _,.z3a hb⟩
theorem Con.zvy {P:Program} {G:GI} {f:Nat} {vs rs:List PV} (ent:∀ args w,(callFunc f args).run P w = .ok (.enter f args) w)
  (h:∀ w O φ α us,VRs w O φ α vs us→Bd O w→G.p w O→Calls P f us.toArray w fun e w'=>∃ us',e = .returned (zlt us')∧VRs w' O φ α rs us'∧Ext z18 w w') (hnn:Nat.beq f NF=false:=by exact rfl):Con P G f ⟨vs,[],[]⟩ (.ok rs [] []):=by
 refine ⟨ent,hnn,fun w O φ α us hv hm hB hG=>(h w O φ α us hv hB hG).mono fun e w' ⟨us',h1,h2,h3⟩ => ?_⟩
 have tr:Tr O w O w':=Tr.z3r h3 fun _ _ hx=>hx.elim
 refine ⟨us',O,φ,α,h1,h2,⟨fun b e he => ?_,fun a e he => ?_,fun a b la _ _ => ?_,fun a b e e' ha _ _ => ?_,fun a b e ha _ => ?_⟩,fun _ _=>rfl,yf _,fun x hx=>yg (hB x hx) h3.size,tr,fun _ hx=>hx,fun _ hx => .inl hx,h3.mono fun _ _ hx=>hx.elim,fun b h1 _ => ?_,fun a e x he _ => ?_⟩
 ·simp at he
 ·simp at he
 ·exact absurd la (yh _)
 ·simp at ha
 ·simp at ha
 ·exact absurd h1 (yh _)
 ·simp at he
theorem RDl.strs {w:World} {O:Nat→Prop}:∀ (zs:List Z),RDl w O 1 (zs.map eS) (zs.map encStr)
 | []=>trivial
 | z::zs=>⟨⟨_,[],rfl,rfl,rfl⟩,by simpa using RDl.strs zs⟩
theorem C.split (p0 p1:Z):S (M.split p0 p1) fun r=>Con Tryz.prog GG 33 (I.split p0 p1) (O.split r):=by
 unfold M.split
 intro r hm
 obtain ⟨_,hc,hm⟩:=ya.1 hm
 obtain ⟨h0,h1⟩:=yb.1 (z4a hc)
 have h0:=of_decide_eq_true h0
 have h1:=of_decide_eq_true h1
 cases hm
 refine Con.zvy (fun _ _=>rfl) fun w O φ α us hv hB hG => ?_
 obtain ⟨us1,rfl,hv1⟩:=hv.str
 obtain ⟨us2,rfl,hv2⟩:=hv1.str
 obtain rfl:=hv2.nil
 obtain ⟨m,hm⟩:=hG.1.max
 have hsz:∀ l:Z,(⟨l.toArray⟩:ByteArray).size=l.length:=fun l=>by simp [ByteArray.size]
 have h1':1≤(⟨p1.toArray⟩:ByteArray).size:=by rw [hsz];exact h1
 have hcb:=Lib.countB_le ⟨p1.toArray⟩ h1' _ ⟨p0.toArray⟩ (yf _)
 rw [hsz] at hcb
 have hl:=Lib.splitB_all ⟨p1.toArray⟩ h1' 0 _ ⟨p0.toArray⟩ rfl
 refine (Any.strings_Split Tryz.zpq (by kernel_rfl) ⟨p0.toArray⟩ ⟨p1.toArray⟩ m w (by rw [hsz];exact h0) hm h1').mono ?_
 rintro e w' ⟨rfl,rfl⟩
 have x:Ext z18 w (w.alloc (.cells ((Lib.splitB ⟨p1.toArray⟩ 0 (Lib.countB ⟨p0.toArray⟩ ⟨p1.toArray⟩) ⟨p0.toArray⟩).map Value.string).toArray (Tryz.zaf.t 9))):=.z3a ((Below.refl _ w).alloc (yf _) _)
 refine ⟨[_],rfl,⟨_,[],rfl,?_,rfl⟩,x⟩
 simp only [VR]
 have hlen:(zfd p0 p1).length=Lib.countB ⟨p0.toArray⟩ ⟨p1.toArray⟩+1:=by unfold zfd;rw [yd,hl]
 refine .inr ⟨w.heap.size,0,Lib.countB ⟨p0.toArray⟩ ⟨p1.toArray⟩+1,_,(_,_),by rw [yd,hlen],by rw [yd,hlen];exact yf _,by unfold maxLen;omega,fun ho=>Nat.lt_irrefl _ (hB _ ho),heap_alloc_new w _,?_,?_⟩
 ·simp [hl]
 ·have e1:((Lib.splitB ⟨p1.toArray⟩ 0 (Lib.countB ⟨p0.toArray⟩ ⟨p1.toArray⟩) ⟨p0.toArray⟩).map Value.string)=(zfd p0 p1).map encStr:=by
   unfold zfd
   rw [List.map_map]
   exact ye fun y _=>by simp [encStr]
  simp only [List.drop_zero,e1]
  exact RDl.strs _
theorem C.z1k (p0:Z) (p1:Int):S (M.z1k p0 p1) fun r=>Con Tryz.prog GG 223 (I.z1k p0 p1) (O.z1k r):=by
 unfold M.z1k
 intro r hm
 cases hm
 refine Con.lib (fun _ _=>rfl) fun w O φ α us hv hB hG => ?_
 obtain ⟨us1,rfl,hv1⟩:=hv.str
 obtain ⟨us2,rfl,hv2⟩:=hv1.int
 obtain rfl:=hv2.nil
 refine (zb9 ⟨p0.toArray⟩ p1 w).mono ?_
 rintro e w' ⟨rfl,hb⟩
 exact ⟨[_],rfl,fun _ _ _ => .zuc _ _,.z3a hb⟩
theorem z7y {w:World} {b q:Nat} {u:Value} (h:w.cell? ⟨b,q,none⟩=some u):∃ r T fr,w.heap[b]? = some (.cells r T fr)∧r[q]? = some u:=by
 unfold World.cell? at h
 split at h
 ·rename_i c T fr e
  exact ⟨c,T,fr,e,h⟩
 ·cases h
theorem TBG:TbG Tryz.prog TB GG:=⟨zvg,fun w O h g e he=>by
 obtain ⟨hv,ho⟩:=h
 obtain ⟨h1,h2⟩:=hv.utf
 rcases z2w he with ⟨rfl,rfl⟩|⟨_,he⟩
 ·refine ⟨by simp [utf8First],fun i x hx => ?_⟩
  have hi:i<256:=by
   have:=(yc.1 hx).1
   simpa [utf8First] using this
  have hx:x=eI .u8 ((Lib.firstT i:Nat):Int):=by
   simp [utf8First,hi] at hx
   exact hx.symm
  subst hx
  obtain ⟨r,T,fr,k1,k2⟩:=z7y (h1 i hi)
  refine ⟨[.int .u8 ((Lib.firstT i:Nat):Int)],rfl,⟨ho 1 (by decide),r,T,fr,k1,fun j u hj => ?_⟩,⟨_,_,rfl,rfl,rfl⟩⟩
  match j,hj with
  | 0,hj=>cases hj;simpa using k2
 ·rcases z2w he with ⟨rfl,rfl⟩|⟨_,he⟩
  ·refine ⟨by simp [zdh],fun i x hx => ?_⟩
   have hi:i<16:=by
    have:=(yc.1 hx).1
    simpa [zdh] using this
   have hx:x=[.int .u8 ((Lib.accLo i:Nat):Int),.int .u8 ((Lib.accHi i:Nat):Int)]:=by
    simp [zdh,hi] at hx
    exact hx.symm
   subst hx
   obtain ⟨q1,q2⟩:=h2 i hi
   obtain ⟨r,T,fr,k1,k2⟩:=z7y q1
   obtain ⟨r',T',fr',k3,k4⟩:=z7y q2
   rw [k1] at k3
   cases k3
   refine ⟨[.int .u8 ((Lib.accLo i:Nat):Int),.int .u8 ((Lib.accHi i:Nat):Int)],rfl,⟨ho 2 (by decide),r,T,fr,k1,fun j u hj => ?_⟩,⟨_,_,rfl,rfl,_,_,rfl,rfl,rfl⟩⟩
   match j,hj with
   | 0,hj=>cases hj;rw [show i*2+0=2*i by omega];exact k2
   | 1,hj=>cases hj;rw [show i*2+1=2*i+1 by omega];exact k4
  ·cases he⟩
end Go.Proofs.YtfdoofnmjehecaaGreatDoor
