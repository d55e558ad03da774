import Derived.Test.YtfdoofnmjehecaaGreatDoorAHtShelf
import Derived.OwnWalkIn
import Derived.TacticsInMore
import Derived.LoopNIn
import Derived.LoopIn
import Derived.Test.YtfdoofnmjehecaaGreatDoorAHtT
import Derived.Test.YtfdoofnmjehecaaGreatDoorAHtC
set_option linter.all false
set_option maxRecDepth 1000000
namespace Go.Proofs.YtfdoofnmjehecaaGreatDoor
open _root_.Option renaming bind_eq_some_iff → ya
open _root_.Bool renaming and_eq_true_iff → yb
open _root_.List renaming append_toArray → yc, cons_append → yd, getElem?_eq_some_iff → ye, length_cons → yf, length_map → yg, length_nil → yh, map_congr_left → yi, nil_append → yj, push_toArray → yk, size_toArray → yl
open _root_.Nat renaming beq → ym, ble → yn, le_refl → yo, lt_of_lt_of_le → yp, not_lt_zero → yq, reduceAdd → yr, reduceSub → yt, zero_lt_one → yu
open _root_.Array renaming getElem?_eq_some_iff → yv, replicate_succ → yw, replicate_zero → yx, toArray_toList → yy
section
open Go.Proofs Go.Lk Go.Pe Go.RowKit Go.Shelf Go.Maps Go.Sort
attribute [local go_sem] Oper.semAt_some
theorem take_succ (zs:List Z) {k:Nat} (h:k<zs.length):zs.take (k+1)=zs.take k++[zs[k]?.getD []]:=by
 rw [List.take_add_one]
 simp [h]
set_option maxRecDepth 100000 in
set_option maxHeartbeats 2000000 in
theorem zz05x (F:Fence) (n:Nat) (h7:F.fn 323) (hro:F.round=none) (hn:1≤n) (l Bs n₀ b off cap:Nat) (zs:List Z) (hreach:zs.length*16≤140737488355328) (hb:b<n₀) (w0:World) (J:List Z→World→Prop)
  (hY:∀ pre x W,J pre W→pre.length<zs.length→YieldAt F (n - 1) Tryz.prog l #[encStr x] W fun e W'=>e = .returned (.bool true)∧J (pre++[x]) W'∧KeepsWalks W W')
  (hJB:∀ pre W,J pre W→Below n₀ w0 W)
  (W:World) (hBs:W.cell? ⟨Bs,0,none⟩=some (.slice (some ⟨b,off,none⟩) zs.length cap)) (hc:∀ j,j<zs.length→w0.cell? ⟨b,off+j,none⟩=some (encStr (zs[j]?.getD []))) (h0:J [] W) :
  CallsIn F n Tryz.prog 323 #[.func (.yield l) #[] #[],.pointer (some ⟨Bs,0,none⟩)] W fun e W'=>(∃ v,e = .returned v)∧∃ xs,xs=zs∧J xs W':=by
 refine callsIn_of_wp Tryz.func323 rfl h7 ?_ hro
 simp only [Tryz.ntmps323,yl,yf,yh,yr,yt,yw,yx,yk,yc,yj,yd]
 gi_wp2
 gi_loopw [7] (fun i wr=>∃ k:Nat,k≤zs.length∧i = .int .i64 k∧J (zs.take k) wr)
  (fun i _=>zs.length - (intOf i).toNat)
 case atStart=>exact ⟨0,Nat.zero_le _,rfl,h0⟩
 case round =>
  obtain ⟨k,hk,rfl,hJs⟩:=hrel
  have hcx:k<zs.length→wr.cell? ⟨b,off+k,none⟩=some (encStr (zs[k]?.getD [])):=fun h=>((hJB _ _ hJs).cell (p:=⟨b,off+k,none⟩) hb).trans (hc k h)
  by_cases hlt:k<zs.length
  ·have hcx':=hcx hlt
   have hts:=take_succ zs hlt
   obtain ⟨x,hx⟩:∃ x,zs[k]?.getD []=x:=⟨_,rfl⟩
   rw [hx] at hcx' hts
   clear hcx hx
   obtain ⟨fn,tmps,assign,body,hy,hR⟩:=hY _ x wr hJs (by rw [List.length_take];omega)
   gi_wp2
   refine hR.mono ?_
   rintro e W3 ⟨rfl,hJ3,hk3⟩
   gi_wp2
   go_roundw
   case rel=>exact ⟨k+1,by omega,by simp,by rw [hts];exact hJ3⟩
   case measure=>simp [intOf];omega
  ·obtain rfl:k=zs.length:=by omega
   gi_wp2
   go_end0
   exact ⟨⟨_,rfl⟩,zs,rfl,by rw [List.take_length] at hJs;exact hJs⟩
set_option maxRecDepth 100000 in
set_option maxHeartbeats 1000000 in
theorem zpr (F:Fence) (n:Nat) (h7:F.fn 323) (hro:F.round=none) (l Bs:Nat) (p:Option Addr) (J:List Z→World→Prop) (W:World) (hBs:W.cell? ⟨Bs,0,none⟩=some (.slice p 0 0)) (h0:J [] W) :
  CallsIn F n Tryz.prog 323 #[.func (.yield l) #[] #[],.pointer (some ⟨Bs,0,none⟩)] W fun e W'=>(∃ v,e = .returned v)∧J [] W':=by
 refine callsIn_of_wp Tryz.func323 rfl h7 ?_ hro
 simp only [Tryz.ntmps323,yl,yf,yh,yr,yt,yw,yx,yk,yc,yj,yd]
 gi_wp2
 gi_loopw [7] (fun i wr=>i = .int .i64 0∧J [] wr) (fun _ _=>0)
 case atStart=>exact ⟨rfl,h0⟩
 case round =>
  obtain ⟨rfl,hJs⟩:=hrel
  gi_wp2
  go_end0
  exact ⟨⟨_,rfl⟩,hJs⟩
set_option maxHeartbeats 1000000 in
theorem values (F:Fence) (n:Nat) (h5:F.fn 311) (hro:F.round=none) (a:Option Addr) (len cap:Nat) (w:World) :
  CallsIn F n Tryz.prog 311 #[.slice a len cap] w fun e w'=>e = .returned (.func (.func 323) #[] #[.pointer (some ⟨w.heap.size,0,none⟩)])∧w'=w.alloc (.cells #[.slice a len cap] 22):=by
 refine callsIn_of_wp Tryz.func311 rfl h5 ?_ hro
 simp only [Tryz.ntmps311,yl,yf,yh,yr,yt,yw,yx,yk,yc,yj,yd]
 gi_wp2
 go_ret
 exact ⟨rfl,rfl⟩
theorem sorts (m:Nat):AnyZ.SortsIn Tryz.prog Tryz.z92 Fence.wide m :=
 ⟨fun blk off cap ss W hH hblk hsz=>callsIn_wide.2 (Any.slices_Sort_string Tryz.zw0 blk off cap ss W hH hblk hsz),
  fun p cap W=>callsIn_wide.2 (Any.slices_Sort_string_none Tryz.zw0 p cap W)⟩
def ziq (w:World) (v:Value) (zs:List Z):Prop :=
 (∃ p,v = .slice p 0 0∧zs=[])∨∃ b off cap,v = .slice (some ⟨b,off,none⟩) zs.length cap∧b<w.heap.size∧∀ j,j<zs.length→w.cell? ⟨b,off+j,none⟩=some (encStr (zs[j]?.getD []))
theorem zna (w:World) (n:Nat) (hn:1≤n) (a:Option Addr) (len cap:Nat) (zs:List Z) (hreach:zs.length*16≤140737488355328) (h:ziq w (.slice a len cap) zs) :
  SeqB Fence.wide n Tryz.prog 323 #[.pointer (some ⟨w.heap.size,0,none⟩)] encStr zs (w.alloc (.cells #[.slice a len cap] 22)):=fun l J W hW hJ hY hJB h0=>by
 have hnew:(w.alloc (.cells #[.slice a len cap] 22)).cell? ⟨w.heap.size,0,none⟩=some (.slice a len cap):=by simp
 have hBs:=(hW.cell (p:=⟨w.heap.size,0,none⟩) (by simp)).trans hnew
 rcases h with ⟨p,e,rfl⟩|⟨b,off,cap',e,hb,hc⟩
 ·cases e
  exact (zpr Fence.wide n trivial rfl l w.heap.size _ J W hBs h0).mono fun e W' ⟨he,hj⟩=>⟨he,_,rfl,hj⟩
 ·cases e
  refine zz05x Fence.wide n trivial rfl hn l w.heap.size _ b off cap zs hreach (by simp;omega) (w.alloc (.cells #[.slice (some ⟨b,off,none⟩) zs.length cap] 22)) J hY hJB W hBs (fun j hj => ?_) h0
  exact ((Below.refl w.heap.size w).alloc (yo _) _).cell (p:=⟨b,off+j,none⟩) hb |>.trans (hc j hj)
set_option maxRecDepth 100000 in
set_option maxHeartbeats 2000000 in
theorem ztb (w:World) (a:Option Addr) (len cap:Nat) (zs:List Z) (hreach:zs.length*16≤140737488355328) (hlen:len=zs.length) (h:ziq w (.slice a len cap) zs) :
  Calls Tryz.prog 284 #[.slice a len cap] w fun e w'=>e = .returned (.bool (decide (((Lib.compact (zs.mergeSort fun x y=>decide (x≤y))).length:Int)=zs.length)))∧Below w.heap.size w w':=by
 refine (callsIn_wide (n:=6)).1 ?_
 subst hlen
 obtain ⟨N,hN⟩:∃ N,(Lib.compact (zs.mergeSort fun x y=>decide (x≤y))).length=N:=⟨_,rfl⟩
 rw [hN]
 have cS:=zpe (ρ:=Tryz.z92) Tryz.zxp Fence.wide 5 trivial trivial trivial trivial rfl (by omega) (sorts _) (enters_of Tryz.func322 (by kernel_rfl) rfl) 323 #[.pointer (some ⟨w.heap.size,0,none⟩)] trivial (enters_of Tryz.func323 (by kernel_rfl) rfl) zs (by unfold maxLen;omega) (by omega) _ (zna w 2 (by omega) a zs.length cap zs hreach h)
 change CallsIn _ _ Tryz.prog 310 _ _ _ at cS
 have hf69:Fence.wide.fn 311:=trivial
 have hf68:Fence.wide.fn 310:=trivial
 have hf70:Fence.wide.fn 312:=trivial
 refine callsIn_of_wp Tryz.func284 rfl trivial ?_ rfl
 simp only [Tryz.ntmps284,yl,yf,yh,yr,yt,yw,yx,yk,yc,yj,yd]
 gi_wp2_with (first
  | (gi_at_call 311;refine (values Fence.wide 5 trivial rfl a zs.length cap w).mono ?_;rintro e w' ⟨rfl,rfl⟩)
  | (gi_at_call 310;refine cS.mono ?_;rintro e w1 ⟨v,ss,rfl,hS,hrow,hnil,hb⟩;subst ss))
 have b1:Below w.heap.size w w1:=((Below.refl _ w).alloc (yo _) _).trans (hb.mono (by simp))
 rcases hrow.2 with ⟨rfl,hz⟩|⟨gb,cap2,cur,rfl,hbase,hgb,r1,r2,r3,r4⟩
 ·obtain rfl:zs=[]:=List.eq_nil_of_length_eq_zero (by simpa using hz)
  gi_wp2_with (gi_at_call 312;refine (callsIn_wide.2 (Any.slices_Compact_string_empty Tryz.zw1 none 0 w1)).mono ?_;rintro e w' ⟨rfl,rfl⟩)
  go_ret
  refine ⟨?_,b1⟩
  have e0:Lib.compact (([]:List Z).mergeSort fun x y=>decide (x≤y))=[]:=by rw [List.mergeSort_nil];rfl
  rw [e0] at hN
  subst hN
  rfl
 ·obtain ⟨ys,hys⟩:∃ ys,zs.mergeSort (fun x y=>decide (x≤y))=ys:=⟨_,rfl⟩
  have hyl:ys.length=zs.length:=by rw [←hys];exact List.length_mergeSort _
  rw [hys] at hN r4
  have hH:Holds encStr w1 gb 0 ys.toArray:=holds_of_block hgb (by rw [hyl];simpa using r4)
  have cC:=Any.slices_Compact_string Tryz.zw1 gb 0 cap2 ys w1 hH (by omega) (by omega)
  rw [hyl,hN] at cC
  gi_wp2_with (gi_at_call 312;refine (callsIn_wide.2 cC).mono ?_;rintro e w' ⟨rfl,q,rfl⟩)
  go_ret
  refine ⟨rfl,?_⟩
  have hg:w1.grownBy (putRow encStr (Sort.ahead w1 q) gb 0 (Lib.compact ys++List.replicate (ys.length - (Lib.compact ys).length) []).toArray) (some gb):=by
   refine ⟨rfl,rfl,rfl,by simp,fun k hk hne => ?_⟩
   have:gb≠k:=fun e=>hne (by rw [e])
   simp [putRow,mapBlock,Sort.ahead,Array.getElem?_modify,this]
  have:=b1.grown hg b1.size (fun j hj=>by cases hj;have:=hbase;simp at this;omega)
  rw [hyl,hN] at this
  exact this
end
section
open Go.Lk Go.Pe Go.Sen Go.RowKit Go.Shelf Go.Proofs
theorem S.chk {A:Type} {b:Bool} {y:Unit→Option A} {F:A→Prop} (h:b=true→S (y ()) F):S (Go.Lk.chk b >>= y) F:=fun r hm=>by
 obtain ⟨_,h1,h2⟩:=ya.1 hm
 exact h (z6h h1) r h2
def Er (v:Value):Prop:=v = .nilIface∨∃ t p,v = .iface t p
structure Vars (w:World):Prop where
 utf:Lib.Utf8Tabs 1 2 w
 max:∃ m,w.cell? ⟨0,0,none⟩=some (.int .i64 m)
 syn:∃ v,w.cell? ⟨3,0,none⟩=some v∧Er v
 rng:∃ v,w.cell? ⟨4,0,none⟩=some v∧Er v
 pow:∃ e f,w.heap[5]? = some (.cells (Lib.pow10Tab.map fun z=>Value.int .u64 z).toArray e f)
def GG:GI:=⟨fun w O=>Vars w∧∀ b,b≤5→¬O b,fun {O w O' w'} t h=>by
 obtain ⟨h,k⟩:=h
 have h4:5<w.heap.size:=by
  obtain ⟨e,f,h4⟩:=h.pow
  exact (yv.1 h4).1
 refine ⟨⟨zz05u t (k 1 (by decide)) (k 2 (by decide)) h.utf,?_,?_,?_,?_⟩,fun b hb=>t.owned b (by omega) (k b hb)⟩
 ·obtain ⟨m,h1⟩:=h.max
  exact ⟨m,zd8 t h1 (k 0 (by decide))⟩
 ·obtain ⟨v,h1,h2⟩:=h.syn
  exact ⟨v,zd8 t h1 (k 3 (by decide)),h2⟩
 ·obtain ⟨v,h1,h2⟩:=h.rng
  exact ⟨v,zd8 t h1 (k 4 (by decide)),h2⟩
 ·obtain ⟨e,f,h1⟩:=h.pow
  exact ⟨e,f,(t.block 5 h4 (k 5 (by decide))).trans h1⟩⟩
theorem C.z4g (p0:List Int):S (M.z4g p0) fun r=>Con Tryz.prog GG 122 (I.z4g p0) (O.z4g p0 r):=by
 intro r hm
 refine ⟨fun _ _=>rfl,rfl,fun w O φ α us hv hm hB hG => ?_⟩
 obtain ⟨u,us',rfl,hu,hus⟩:=hv
 have hus:us'=[]:=hus
 subst hus
 simp only [VR] at hu
 subst hu
 obtain ⟨hO,us,hbx,p,us2,rfl,hp,v,us3,rfl,hv,h3⟩:=hm.box 0 _ rfl
 have hbx:=hbx.un (by decide)
 have h3:us3=[]:=h3
 subst h3
 simp only [VR] at hp hv
 obtain ⟨rfl,hone⟩:=hv
 refine (zj1 w (φ 0) p (α 0) hbx hp hone).mono fun e w' ⟨h1,h2,h3⟩ => ?_
 have hne:=hm.ab 0 0 _ rfl (yu)
 have tr:Tr O w O w':=Tr.z5n h3 fun x _ hx=>by cases hx;exact hO
 have hown:=(hm.arr 0 _ rfl).keep h3 (fun b hb hx=>hne (by rw [hb];exact congrArg some hx)) tr (fun _ h=>h)
 refine ⟨[],O,φ,α,h1,⟨rfl,⟨fun b e he => ?_,fun a e he => ?_,fun a b la lb' hn => ?_,fun a b e e' ha hb hn => ?_,fun a b e ha hb => ?_⟩,fun _ _=>rfl,yo _,fun x hx=>yp (hB x hx) h3.size,tr,fun _ hx=>hx,fun _ hx => .inl hx,h3.mono fun x _ hx => .inl ⟨0,yu,hx.symm⟩,fun b h1 h2 => ?_,fun a e x he hx => ?_⟩⟩
 ·match b,he with
  | 0,he =>
   cases he
   exact ⟨hO,_,.inl ⟨by decide,h2⟩,_,_,rfl,.inr rfl,_,[],rfl,⟨rfl,hone⟩,rfl⟩
 ·match a,he with
  | 0,he=>cases he;exact hown
 ·simp at la lb'
  omega
 ·match a,b,ha,hb with
  | 0,0,_,_=>exact (hn rfl).elim
 ·match a,ha with
  | 0,ha =>
   have:b=0:=by simpa using hb
   subst this
   exact hm.ab 0 0 _ rfl (yu)
 ·simp at h1 h2
  omega
 ·match a,he with
  | 0,he=>exact .inl ⟨0,yu,hx⟩
theorem C.z1f (p0:Z):S (M.z1f p0) fun r=>Con Tryz.prog GG 228 (I.z1f p0) (O.z1f r):=by
 unfold M.z1f
 refine S.chk fun h0 => ?_
 have h0:=of_decide_eq_true h0
 intro r hm
 cases hm
 refine Con.lib (fun _ _=>rfl) fun w O φ α us hv hB hG => ?_
 obtain ⟨us1,rfl,hv1⟩:=hv.str
 obtain rfl:=hv1.nil
 refine (Any.utf8_ValidString Tryz.zw2 ⟨p0.toArray⟩ w (by simpa [ByteArray.size] using h0) hG.1.utf).mono ?_
 rintro e w' ⟨rfl,hb⟩
 exact ⟨[_],rfl,fun _ _ _ => .zva _,.z4q hb⟩
theorem C.indexByte (p0:Z) (p1:Int):S (M.indexByte p0 p1) fun r=>Con Tryz.prog GG 285 (I.indexByte p0 p1) (O.indexByte r):=by
 intro r hm
 cases hm
 refine Con.lib (fun _ _=>rfl) fun w O φ α us hv hB hG => ?_
 obtain ⟨us1,rfl,hv1⟩:=hv.str
 obtain ⟨us2,rfl,hv2⟩:=hv1.int
 obtain rfl:=hv2.nil
 refine (Any.strings_IndexByte Tryz.zz048 ⟨p0.toArray⟩ p1 w).mono ?_
 rintro e w' ⟨rfl,rfl⟩
 exact ⟨[_],rfl,fun _ _ _ => .gInt _ _,.refl _ _⟩
theorem asc {l:Z} (h:(l.all fun b=>decide (b.toNat<128))=true):∀ (j:Nat) b,l[j]? = some b→b.toNat<128:=fun j b hb=>by
 have:=List.all_eq_true.1 h b (List.mem_of_getElem? hb)
 simpa using this
theorem C.trimLeft (p0 p1:Z):S (M.trimLeft p0 p1) fun r=>Con Tryz.prog GG 244 (I.trimLeft p0 p1) (O.trimLeft r):=by
 unfold M.trimLeft
 intro r hm
 obtain ⟨_,hc,hm⟩:=ya.1 hm
 obtain ⟨h1,h2⟩:=yb.1 (z6h hc)
 cases hm
 refine Con.lib (fun _ _=>rfl) fun w O φ α us hv hB hG => ?_
 obtain ⟨us1,rfl,hv1⟩:=hv.str
 obtain ⟨us2,rfl,hv2⟩:=hv1.str
 obtain rfl:=hv2.nil
 refine (Any.strings_TrimLeft_laid Tryz.zz04g (by kernel_rfl) ⟨p0.toArray⟩ ⟨p1.toArray⟩ w (by simpa [ByteArray.size] using h1) (by simpa using asc h2)).mono ?_
 rintro e w' ⟨rfl,hb⟩
 exact ⟨[_],rfl,fun _ _ _ => .gStr _,.z4q hb⟩
theorem C.trim (p0 p1:Z):S (M.trim p0 p1) fun r=>Con Tryz.prog GG 38 (I.trim p0 p1) (O.trim r):=by
 unfold M.trim
 intro r hm
 obtain ⟨_,hc,hm⟩:=ya.1 hm
 obtain ⟨h0,h2⟩:=yb.1 (z6h hc)
 obtain ⟨h1,h2⟩:=yb.1 h2
 cases hm
 refine Con.lib (fun _ _=>rfl) fun w O φ α us hv hB hG => ?_
 obtain ⟨us1,rfl,hv1⟩:=hv.str
 obtain ⟨us2,rfl,hv2⟩:=hv1.str
 obtain rfl:=hv2.nil
 refine (Any.strings_Trim_laid Tryz.zz04f (by kernel_rfl) ⟨p0.toArray⟩ ⟨p1.toArray⟩ w (by simpa [ByteArray.size] using h0) (by simpa [ByteArray.size] using h1) (by simpa using asc h2)).mono ?_
 rintro e w' ⟨rfl,hb⟩
 exact ⟨[_],rfl,fun _ _ _ => .gStr _,.z4q hb⟩
theorem C.zn (p0:List Int):S (M.zn p0) fun r=>Con Tryz.prog GG 60 (I.zn p0) (O.zn p0 r):=by
 unfold M.zn
 refine S.chk fun h0 => ?_
 have h0:=of_decide_eq_true h0
 intro r hm
 cases hm
 exact Con.string Tryz.zvz Tryz.z7w (fun _ _=>rfl) (by decide) (by decide) (.inl rfl) p0 h0
@[reducible] def I.z6s (p0:List Int):CIn:=⟨[.ptr 0 0],[⟨89,[.z1l 0,.ref 0]⟩],[(1000005,1,(p0.map (eI .u8)))]⟩
theorem C.z6s (p0:List Int):S (M.zn p0) fun r=>Con Tryz.prog GG 60 (I.z6s p0) (O.zn p0 r):=by
 unfold M.zn
 refine S.chk fun h0 => ?_
 have h0:=of_decide_eq_true h0
 intro r hm
 cases hm
 exact Con.string Tryz.zvz Tryz.z7w (fun _ _=>rfl) (by decide) (by decide) (.inr rfl) p0 h0
theorem ziq.of {w:World} {O:Nat→Prop} {zs:List Z} {v:Value} (h:RD w O (.sl 9 1 (zs.map eS)) v):∃ a cap,v = .slice a zs.length cap∧zs.length≤cap∧ziq w v zs:=by
 rcases h with ⟨⟨p,rfl⟩,h⟩|⟨b,off,cap,cs,fr,rfl,hcap,_,_,h1,h2,h3⟩
 ·obtain rfl:zs=[]:=by simpa using h
  exact ⟨p,0,rfl,yo _,.inl ⟨p,rfl,rfl⟩⟩
 ·refine ⟨some ⟨b,off,none⟩,cap,by simp,by simpa using hcap,.inr ⟨b,off,cap,by simp,(yv.1 h1).1,fun j hj => ?_⟩⟩
  obtain ⟨x,hx⟩:∃ x,zs[j]? = some x:=⟨zs[j],by simp [hj]⟩
  have h4:=RDl.at h3 (i:=j) (x:=eS x) (by simp [hx])
  have h5:=zz04u h4
  rw [cell_of_row w b (off+j) cs fr.1 fr.2 h1,hx]
  have h6:((cs.toList.drop off).drop (j*1)).take 1=[Value.string ⟨x.toArray⟩]:=h5
  have:=congrArg (fun l=>l[0]?) h6
  simpa [List.getElem?_take,List.getElem?_drop] using this
theorem C.single (p0:List Z):S (M.single p0) fun r=>Con Tryz.prog GG 284 (I.single p0) (O.single r):=by
 unfold M.single
 refine S.chk fun h0 => ?_
 have h0:=of_decide_eq_true h0
 intro r hm
 cases hm
 refine Con.lib (fun _ _=>rfl) fun w O φ α us hv hB hG => ?_
 obtain ⟨v,us',rfl,h1,h2⟩:=hv
 obtain rfl:us'=[]:=h2
 simp only [VR] at h1
 obtain ⟨a,cap,rfl,_,h3⟩:=ziq.of h1
 refine (ztb w a _ cap p0 h0 rfl h3).mono ?_
 rintro e w' ⟨rfl,hb⟩
 exact ⟨[_],rfl,fun _ _ _ => .zva _,.z4q hb⟩
theorem C.cut (p0 p1:Z):S (M.cut p0 p1) fun r=>Con Tryz.prog GG 35 (I.cut p0 p1) (O.cut r):=by
 unfold M.cut
 refine S.chk fun h0 => ?_
 have h0:=of_decide_eq_true h0
 intro r hm
 cases hm
 refine Con.lib (fun _ _=>rfl) fun w O φ α us hv hB hG => ?_
 obtain ⟨us1,rfl,hv1⟩:=hv.str
 obtain ⟨us2,rfl,hv2⟩:=hv1.str
 obtain rfl:=hv2.nil
 obtain ⟨m,hm⟩:=hG.1.max
 refine (Any.strings_Cut Tryz.zz04b ⟨p0.toArray⟩ ⟨p1.toArray⟩ m w (by simpa [ByteArray.size] using h0) hm).mono ?_
 rintro e w' ⟨rfl,n,rfl⟩
 exact ⟨[_,_,_],rfl,fun _ _ _=>⟨_,_,rfl,rfl,_,_,rfl,rfl,_,[],rfl,rfl,rfl⟩,⟨rfl,rfl,rfl,yo _,fun _ _ _=>rfl⟩⟩
theorem C.contains (p0 p1:Z):S (M.contains p0 p1) fun r=>Con Tryz.prog GG 238 (I.contains p0 p1) (O.contains r):=by
 unfold M.contains
 refine S.chk fun h0 => ?_
 have h0:=of_decide_eq_true h0
 intro r hm
 cases hm
 refine Con.lib (fun _ _=>rfl) fun w O φ α us hv hB hG => ?_
 obtain ⟨us1,rfl,hv1⟩:=hv.str
 obtain ⟨us2,rfl,hv2⟩:=hv1.str
 obtain rfl:=hv2.nil
 obtain ⟨m,hm⟩:=hG.1.max
 refine (Any.strings_Contains Tryz.zz04a ⟨p0.toArray⟩ ⟨p1.toArray⟩ m w (by simpa [ByteArray.size] using h0) hm).mono ?_
 rintro e w' ⟨rfl,rfl⟩
 exact ⟨[_],rfl,fun _ _ _ => .zva _,.refl _ _⟩
theorem C.join (p0:List Z) (p1:Z):S (M.join p0 p1) fun r=>Con Tryz.prog GG 121 (I.join p0 p1) (O.join r):=by
 unfold M.join
 refine S.chk fun h0 => ?_
 obtain ⟨h1,h2⟩:=yb.1 h0
 have h1:=of_decide_eq_true h1
 have h2:=of_decide_eq_true h2
 intro r hm
 cases hm
 refine Con.lib (fun _ _=>rfl) fun w O φ α us hv hB hG => ?_
 obtain ⟨v,us',rfl,k1,hv⟩:=hv
 obtain ⟨us2,rfl,hv2⟩:=VRs.str hv
 obtain rfl:=hv2.nil
 simp only [VR] at k1
 obtain ⟨a,cap,rfl,kc,k3⟩:=ziq.of k1
 have hmap:(p0.map fun x=>(⟨x.toArray⟩:ByteArray)).map (·.data.toList)=p0:=by
  rw [List.map_map]
  conv=>rhs;rw [←List.map_id p0]
  exact yi fun x _=>by simp
 rcases k3 with ⟨p,e,rfl⟩|⟨b,off,cap',e,hb,hc⟩
 ·cases e
  refine (Any.strings_Join_none Tryz.zvy Tryz.z7v _ _ ⟨p1.toArray⟩ w).mono ?_
  rintro e w' ⟨rfl,rfl⟩
  exact ⟨[_],rfl,fun _ _ _=>by first|exact .gStr _|exact ⟨_,[],rfl,by simp [VR,Lib.join],rfl⟩,.refl _ _⟩
 ·cases e
  have hj:=Any.strings_Join Tryz.zvy Tryz.z7v b off cap (p0.map fun x=>(⟨x.toArray⟩:ByteArray)) ⟨p1.toArray⟩ w (fun j x hx=>by
   rw [List.getElem?_map] at hx
   obtain ⟨y,hy,rfl⟩:=Option.map_eq_some_iff.1 hx
   have hj:=(ye.1 hy).1
   rw [hc j hj,hy]
   rfl) hb (by simpa using h1) (by simpa using kc) (by rw [hmap];simpa using h2)
  rw [hmap] at hj
  simp only [yg] at hj
  refine hj.mono ?_
  rintro e w' ⟨rfl,hb'⟩
  exact ⟨[_],rfl,fun _ _ _=>by simpa using .gStr _,.z4q hb'⟩
theorem C.atoi (p0:Z):S (M.atoi p0) fun r=>Con Tryz.prog GG 116 (I.atoi p0) (O.atoi r):=by
 unfold M.atoi
 refine S.chk fun h0 => ?_
 have h0:=of_decide_eq_true h0
 have hs:(⟨p0.toArray⟩:ByteArray).size≤281474976710656:=by simpa [ByteArray.size] using h0
 intro r hm
 rcases hv0:Lib.atoiAll p0 with v|_|_<;>rw [hv0] at hm<;>dsimp only at hm
 ·cases hm
  refine Con.lib (fun _ _=>rfl) fun w O φ α us hv hB hG => ?_
  obtain ⟨us1,rfl,hv1⟩:=hv.str
  obtain rfl:=hv1.nil
  refine (Any.strconv_Atoi_ok Tryz.zjq ⟨p0.toArray⟩ (by omega) v (by simpa using hv0) w).mono ?_
  rintro e w' ⟨rfl,hw⟩
  refine ⟨[_,_],rfl,fun _ _ _=>⟨_,_,rfl,rfl,_,[],rfl,.inl ⟨rfl,rfl⟩,rfl⟩,?_⟩
  rcases hw with rfl|⟨t,rfl⟩
  ·exact .refl _ _
  ·exact Go.Pe.Ext.bytes _ _ _
 ·cases hm
  refine Con.lib (fun _ _=>rfl) fun w O φ α us hv hB hG => ?_
  obtain ⟨us1,rfl,hv1⟩:=hv.str
  obtain rfl:=hv1.nil
  obtain ⟨ev,h1,h2⟩:=hG.1.syn
  refine (Any.strconv_Atoi_syntax Tryz.zjq ⟨p0.toArray⟩ hs (by simpa using hv0) ev w h1 h2).mono ?_
  rintro e w' ⟨N,rfl,_,_,hb⟩
  exact ⟨[_,_],rfl,fun _ _ _=>⟨_,_,rfl,rfl,_,[],rfl,.inr ⟨rfl,_,_,rfl⟩,rfl⟩,.z4q hb⟩
 ·cases hm
  refine Con.lib (fun _ _=>rfl) fun w O φ α us hv hB hG => ?_
  obtain ⟨us1,rfl,hv1⟩:=hv.str
  obtain rfl:=hv1.nil
  obtain ⟨ev,h1,h2⟩:=hG.1.rng
  refine (Any.strconv_Atoi_range Tryz.zjq ⟨p0.toArray⟩ hs (by simpa using hv0) ev w h1 h2).mono ?_
  rintro e w' ⟨N,rfl,_,_,hb⟩
  exact ⟨[_,_],rfl,fun _ _ _=>⟨_,_,rfl,by simp [VR],_,[],rfl,.inr ⟨rfl,_,_,rfl⟩,rfl⟩,.z4q hb⟩
theorem C.itoa (p0:Int):S (M.itoa p0) fun r=>Con Tryz.prog GG 58 (I.itoa p0) (O.itoa r):=by
 unfold M.itoa
 intro r hm
 obtain ⟨_,hc,hm⟩:=ya.1 hm
 obtain ⟨h1,h2⟩:=yb.1 (z6h hc)
 cases hm
 refine Con.lib (fun _ _=>rfl) fun w O φ α us hv hB hG => ?_
 obtain ⟨us1,rfl,hv1⟩:=hv.int
 obtain rfl:=hv1.nil
 obtain ⟨e,f,h4⟩:=hG.1.pow
 have htab:Lib.TabIs Tryz.prog w "internal/strconv.uint64pow10" .u64 Lib.pow10Tab:=by
  unfold Lib.TabIs World.var?
  rw [show Tryz.prog.globalNamed "internal/strconv.uint64pow10" = some 5 from by kernel_rfl]
  simp [h4]
 refine (Any.strconv_Itoa Tryz.zzx p0 (of_decide_eq_true h1) (of_decide_eq_true h2) w htab).mono ?_
 rintro e w' ⟨rfl,k,os,rfl⟩
 exact ⟨[_],rfl,fun _ _ _ => .gStr _,.z4q (below_grown w k os)⟩
theorem C.z5q (p0:Z) (p1:Z):S (M.z5q p0 p1) fun r=>Con Tryz.prog GG 96 (I.z5q p0 p1) (O.z5q r):=by
 unfold M.z5q
 refine S.chk fun h0 => ?_
 have h0:=of_decide_eq_true h0
 intro r hm
 cases hm
 refine Con.lib (fun _ _=>rfl) fun w O φ α us hv hB hG => ?_
 obtain ⟨us1,rfl,hv1⟩:=hv.str
 obtain ⟨us2,rfl,hv2⟩:=hv1.str
 obtain rfl:=hv2.nil
 obtain ⟨m,hm⟩:=hG.1.max
 refine (Any.strings_Index Tryz.zz049 ⟨p0.toArray⟩ ⟨p1.toArray⟩ m w (by simpa [ByteArray.size] using h0) hm).mono ?_
 rintro e w' ⟨rfl,rfl⟩
 exact ⟨[_],rfl,fun _ _ _ => .gInt _ _,.refl _ _⟩
theorem C.containsAny (p0:Z) (p1:Z):S (M.containsAny p0 p1) fun r=>Con Tryz.prog GG 211 (I.containsAny p0 p1) (O.containsAny r):=by
 unfold M.containsAny
 intro r hm
 obtain ⟨_,hc,hm⟩:=ya.1 hm
 obtain ⟨h0,h1⟩:=yb.1 (z6h hc)
 obtain ⟨h1,h2⟩:=yb.1 h1
 obtain ⟨h2,h3⟩:=yb.1 h2
 cases hm
 refine Con.lib (fun _ _=>rfl) fun w O φ α us hv hB hG => ?_
 obtain ⟨us1,rfl,hv1⟩:=hv.str
 obtain ⟨us2,rfl,hv2⟩:=hv1.str
 obtain rfl:=hv2.nil
 refine (Any.strings_ContainsAny_laid Tryz.zz04d (by kernel_rfl) ⟨p0.toArray⟩ ⟨p1.toArray⟩ w (by simpa [ByteArray.size] using h0) (by simpa [ByteArray.size] using h2) (by simpa using asc h1) (by simpa using asc h3)).mono ?_
 rintro e w' ⟨rfl,hb⟩
 exact ⟨[_],rfl,fun _ _ _ => .zva _,.z4q hb⟩
theorem C.replaceAll (p0:Z) (p1:Z) (p2:Z):S (M.replaceAll p0 p1 p2) fun r=>Con Tryz.prog GG 212 (I.replaceAll p0 p1 p2) (O.replaceAll r):=by
 unfold M.replaceAll
 intro r hm
 obtain ⟨_,hc,hm⟩:=ya.1 hm
 obtain ⟨h0,h1⟩:=yb.1 (z6h hc)
 obtain ⟨h1,h2⟩:=yb.1 h1
 have h0:=of_decide_eq_true h0
 have h1:=of_decide_eq_true h1
 have h2:=of_decide_eq_true h2
 cases hm
 refine Con.lib (fun _ _=>rfl) fun w O φ α us hv hB hG => ?_
 obtain ⟨us1,rfl,hv1⟩:=hv.str
 obtain ⟨us2,rfl,hv2⟩:=hv1.str
 obtain ⟨us3,rfl,hv3⟩:=hv2.str
 obtain rfl:=hv3.nil
 obtain ⟨m,hm⟩:=hG.1.max
 have hsz:∀ l:Z,(⟨l.toArray⟩:ByteArray).size=l.length:=fun l=>by simp [ByteArray.size]
 have hcb:=Lib.countB_le ⟨p1.toArray⟩ (by rw [hsz];omega) _ ⟨p0.toArray⟩ (yo _)
 rw [hsz] at hcb
 refine (Any.strings_ReplaceAll Tryz.zz04e Tryz.zd2 ⟨p0.toArray⟩ ⟨p1.toArray⟩ ⟨p2.toArray⟩ m w (by rw [hsz];exact h0) hm (by rw [hsz];omega) (by rw [hsz,hsz,h2];omega)).mono ?_
 rintro e w' ⟨rfl,hb⟩
 exact ⟨[_],rfl,fun _ _ _ => .gStr _,.z4q hb⟩
theorem zw9 (w:World):MapAtRunes Tryz.prog 37 #[] zoj w:=fun W r hr _=>by
 unfold FnGives
 by_cases h1:65≤r<;>by_cases h2:r≤90
 all_goals
  have z1:(65:Int)≤(r:Int)↔65≤r:=by omega
  have z2:(r:Int)≤90↔r≤90:=by omega
  go_enter Tryz.func37,Tryz.ntmps37
  go_wp2
  all_goals first|(exfalso;omega)|(go_ret;exact ⟨by simp [zoj,h1,h2,IntKind.wrap,IntKind.bits,IntKind.signed]<;>omega,0,rfl⟩)
theorem zth (w:World):PredAtRunes Tryz.prog 231 #[] wordP w:=fun W r hr _=>by
 unfold FnGives
 by_cases h1:r<33<;>by_cases h2:126<r<;>by_cases h3:r=34<;>by_cases h4:r=92
 all_goals
  have z1:(r:Int)<33↔r<33:=by omega
  have z2:(126:Int)<(r:Int)↔126<r:=by omega
  have z3:(r:Int)=34↔r=34:=by omega
  have z4:(r:Int)=92↔r=92:=by omega
  go_enter Tryz.func231,Tryz.ntmps231
  go_wp2
  all_goals first|(exfalso;omega)|(go_ret;exact ⟨by simp [wordP,h1,h2,h3,h4]<;>omega,0,rfl⟩)
theorem C.z5m (p1:Z):S (M.z5m p1) fun r=>Con Tryz.prog GG 36 (I.z5m p1) (O.z5m r):=by
 unfold M.z5m
 refine S.chk fun h0 => ?_
 have h0:=of_decide_eq_true h0
 intro r hm
 cases hm
 refine Con.lib (fun _ _=>rfl) fun w O φ α us hv hB hG => ?_
 obtain ⟨u,us1,rfl,hu,hv1⟩:=hv
 obtain ⟨us2,rfl,hv2⟩:=VRs.str hv1
 obtain rfl:=hv2.nil
 obtain ⟨a,b,rfl,ha,hb⟩:=hu
 obtain rfl:a=[]:=ha
 obtain rfl:b=[]:=hb
 refine (Any.strings_Map_runes Tryz.zz04h Tryz.zd3 37 #[] (enters_of Tryz.func37 (by kernel_rfl) rfl) zoj ⟨p1.toArray⟩ w (by simpa [ByteArray.size] using h0) (zw9 w) (fun x hx=>by unfold zoj;split<;>omega) hG.1.utf).mono ?_
 rintro e w' ⟨rfl,hb⟩
 exact ⟨[_],rfl,fun _ _ _ => .gStr _,.z4q hb⟩
theorem C.z3d (p0:Z):S (M.z3d p0) fun r=>Con Tryz.prog GG 230 (I.z3d p0) (O.z3d r):=by
 unfold M.z3d
 intro r hm
 cases hm
 refine Con.lib (fun _ _=>rfl) fun w O φ α us hv hB hG => ?_
 obtain ⟨us1,rfl,hv1⟩:=hv.str
 obtain ⟨u,us2,rfl,hu,hv2⟩:=hv1
 obtain rfl:=VRs.nil hv2
 obtain ⟨a,b,rfl,ha,hb⟩:=hu
 obtain rfl:a=[]:=ha
 obtain rfl:b=[]:=hb
 refine (Any.strings_ContainsFunc_runes Tryz.zzw 231 #[] (enters_of Tryz.func231 (by kernel_rfl) rfl) wordP ⟨p0.toArray⟩ w (zth w)).mono ?_
 rintro e w' ⟨rfl,hb⟩
 exact ⟨[_],rfl,fun _ _ _ => .zva _,.z4q hb⟩
theorem Con.libD {P:Program} {G:GI} {f:Nat} {vs rs:List PV} (ent:∀ args w,(callFunc f args).run P w = .ok (.enter f args) w)
  (h:∀ w O φ α us,VRs w O φ α vs us→Bd O w→G.p w O→Calls P f us.toArray w fun e w'=>∃ us',e = .returned (zy8 us')∧VRs w' O φ α rs us'∧Ext z14 w w') (hnn:ym f NF=false:=by exact rfl):Con P G f ⟨vs,[],[]⟩ (.ok rs [] []):=by
 refine ⟨ent,hnn,fun w O φ α us hv hm hB hG=>(h w O φ α us hv hB hG).mono fun e w' ⟨us',h1,h2,h3⟩ => ?_⟩
 have tr:Tr O w O w':=Tr.z5n h3 fun _ _ hx=>hx.elim
 refine ⟨us',O,φ,α,h1,h2,⟨fun b e he => ?_,fun a e he => ?_,fun a b la _ _ => ?_,fun a b e e' ha _ _ => ?_,fun a b e ha _ => ?_⟩,fun _ _=>rfl,yo _,fun x hx=>yp (hB x hx) h3.size,tr,fun _ hx=>hx,fun _ hx => .inl hx,h3.mono fun _ _ hx=>hx.elim,fun b h1 _ => ?_,fun a e x he _ => ?_⟩
 ·simp at he
 ·simp at he
 ·exact absurd la (yq _)
 ·simp at ha
 ·simp at ha
 ·exact absurd h1 (yq _)
 ·simp at he
theorem RDl.strs {w:World} {O:Nat→Prop}:∀ (zs:List Z),RDl w O 1 (zs.map eS) (zs.map encStr)
 | []=>trivial
 | z::zs=>⟨⟨_,[],rfl,rfl,rfl⟩,by simpa using RDl.strs zs⟩
theorem C.split (p0 p1:Z):S (M.split p0 p1) fun r=>Con Tryz.prog GG 33 (I.split p0 p1) (O.split r):=by
 unfold M.split
 intro r hm
 obtain ⟨_,hc,hm⟩:=ya.1 hm
 obtain ⟨h0,h1⟩:=yb.1 (z6h hc)
 have h0:=of_decide_eq_true h0
 have h1:=of_decide_eq_true h1
 cases hm
 refine Con.libD (fun _ _=>rfl) fun w O φ α us hv hB hG => ?_
 obtain ⟨us1,rfl,hv1⟩:=hv.str
 obtain ⟨us2,rfl,hv2⟩:=hv1.str
 obtain rfl:=hv2.nil
 obtain ⟨m,hm⟩:=hG.1.max
 have hsz:∀ l:Z,(⟨l.toArray⟩:ByteArray).size=l.length:=fun l=>by simp [ByteArray.size]
 have h1':1≤(⟨p1.toArray⟩:ByteArray).size:=by rw [hsz];exact h1
 have hcb:=Lib.countB_le ⟨p1.toArray⟩ h1' _ ⟨p0.toArray⟩ (yo _)
 rw [hsz] at hcb
 have hl:=Lib.splitB_all ⟨p1.toArray⟩ h1' 0 _ ⟨p0.toArray⟩ rfl
 refine (Any.strings_Split Tryz.zz04c (by kernel_rfl) ⟨p0.toArray⟩ ⟨p1.toArray⟩ m w (by rw [hsz];exact h0) hm h1').mono ?_
 rintro e w' ⟨rfl,rfl⟩
 have x:Ext z14 w (w.alloc (.cells ((Lib.splitB ⟨p1.toArray⟩ 0 (Lib.countB ⟨p0.toArray⟩ ⟨p1.toArray⟩) ⟨p0.toArray⟩).map Value.string).toArray (Tryz.zg2.t 9))):=.z4q ((Below.refl _ w).alloc (yo _) _)
 refine ⟨[_],rfl,⟨_,[],rfl,?_,rfl⟩,x⟩
 simp only [VR]
 have hlen:(zgt p0 p1).length=Lib.countB ⟨p0.toArray⟩ ⟨p1.toArray⟩+1:=by unfold zgt;rw [yg,hl]
 refine .inr ⟨w.heap.size,0,Lib.countB ⟨p0.toArray⟩ ⟨p1.toArray⟩+1,_,(_,_),by rw [yg,hlen],by rw [yg,hlen];exact yo _,by unfold maxLen;omega,fun ho=>Nat.lt_irrefl _ (hB _ ho),heap_alloc_new w _,?_,?_⟩
 ·simp [hl]
 ·have e1:((Lib.splitB ⟨p1.toArray⟩ 0 (Lib.countB ⟨p0.toArray⟩ ⟨p1.toArray⟩) ⟨p0.toArray⟩).map Value.string)=(zgt p0 p1).map encStr:=by
   unfold zgt
   rw [List.map_map]
   exact yi fun y _=>by simp [encStr]
  simp only [List.drop_zero,e1]
  exact RDl.strs _
theorem C.z1b (p0:Z) (p1:Int):S (M.z1b p0 p1) fun r=>Con Tryz.prog GG 223 (I.z1b p0 p1) (O.z1b r):=by
 unfold M.z1b
 intro r hm
 cases hm
 refine Con.lib (fun _ _=>rfl) fun w O φ α us hv hB hG => ?_
 obtain ⟨us1,rfl,hv1⟩:=hv.str
 obtain ⟨us2,rfl,hv2⟩:=hv1.int
 obtain rfl:=hv2.nil
 refine (zh6 ⟨p0.toArray⟩ p1 w).mono ?_
 rintro e w' ⟨rfl,hb⟩
 exact ⟨[_],rfl,fun _ _ _ => .gInt _ _,.z4q hb⟩
theorem zbs {w:World} {b q:Nat} {u:Value} (h:w.cell? ⟨b,q,none⟩=some u):∃ r T fr,w.heap[b]? = some (.cells r T fr)∧r[q]? = some u:=by
 unfold World.cell? at h
 split at h
 ·rename_i c T fr e
  exact ⟨c,T,fr,e,h⟩
 ·cases h
theorem TBG:TbG Tryz.prog TB GG:=⟨TBok,fun w O h g e he=>by
 obtain ⟨hv,ho⟩:=h
 obtain ⟨h1,h2⟩:=hv.utf
 rcases z4c he with ⟨rfl,rfl⟩|⟨_,he⟩
 ·refine ⟨by simp [utf8First],fun i x hx => ?_⟩
  have hi:i<256:=by
   have:=(ye.1 hx).1
   simpa [utf8First] using this
  have hx:x=eI .u8 ((Lib.firstT i:Nat):Int):=by
   simp [utf8First,hi] at hx
   exact hx.symm
  subst hx
  obtain ⟨r,T,fr,k1,k2⟩:=zbs (h1 i hi)
  refine ⟨[.int .u8 ((Lib.firstT i:Nat):Int)],rfl,⟨ho 1 (by decide),r,T,fr,k1,fun j u hj => ?_⟩,⟨_,_,rfl,rfl,rfl⟩⟩
  match j,hj with
  | 0,hj=>cases hj;simpa using k2
 ·rcases z4c he with ⟨rfl,rfl⟩|⟨_,he⟩
  ·refine ⟨by simp [zbu],fun i x hx => ?_⟩
   have hi:i<16:=by
    have:=(ye.1 hx).1
    simpa [zbu] using this
   have hx:x=[.int .u8 ((Lib.accLo i:Nat):Int),.int .u8 ((Lib.accHi i:Nat):Int)]:=by
    simp [zbu,hi] at hx
    exact hx.symm
   subst hx
   obtain ⟨q1,q2⟩:=h2 i hi
   obtain ⟨r,T,fr,k1,k2⟩:=zbs q1
   obtain ⟨r',T',fr',k3,k4⟩:=zbs q2
   rw [k1] at k3
   cases k3
   refine ⟨[.int .u8 ((Lib.accLo i:Nat):Int),.int .u8 ((Lib.accHi i:Nat):Int)],rfl,⟨ho 2 (by decide),r,T,fr,k1,fun j u hj => ?_⟩,⟨_,_,rfl,rfl,_,_,rfl,rfl,rfl⟩⟩
   match j,hj with
   | 0,hj=>cases hj;rw [show i*2+0=2*i by omega];exact k2
   | 1,hj=>cases hj;rw [show i*2+1=2*i+1 by omega];exact k4
  ·cases he⟩
end
section
open Go.Lk Go.Pe Go.Sen Go.RowKit
@[reducible] def Qs {α:Type} (y:Option α) (f:Nat) (i:CIn) (o:α→z3x):Prop:=S y fun r=>Con Tryz.prog GG f i (o r)
@[reducible] def Q1 {α:Type} (y:Option α) (f:Nat) (vs:List PV) (o:α→List PV):Prop:=Qs y f ⟨vs,[],[]⟩ fun r => .ok (o r) [] []
theorem Kf {α:Type} {y:Option α} {f:Nat} {fn:Func} {i:CIn} {o:α→z3x} (hf:Tryz.prog.funcs[f]? = some fn) (ann:Ann) (hw:S y fun r=>ex TB CT ann (Con Tryz.prog GG) (z2q fn) (entry i) (fin TB ann fn.results.toList (o r))) (hok:okC ann fn.ntmps (z2q fn)=true:=by kernel_rfl)
  (hb:fn.body=some (z2q fn):=by exact rfl) (ent:∀ args w,(callFunc f args).run Tryz.prog w = .ok (.enter f args) w:=by exact fun _ _=>rfl) (hnn:ym f NF=false:=by exact rfl) (hl:yn i.vs.length fn.ntmps=true:=by exact rfl) (hnb:ann.nb=i.B.length:=by exact rfl) (h1000:yn i.B.length 1000=true:=by exact rfl):Qs y f i o :=
 Con.oS TBG hf ann _ hw hok hb ent yy.symm hnn hl hnb h1000
theorem Kd {α:Type} {y:Option α} {f:Nat} {fn:Func} {i:CIn} {o:α→z3x} {fc T:Nat} {ik:IntKind} {Te:Nat} (hct:zki Tryz.prog fc T ik Te) (hf:Tryz.prog.funcs[f]? = some fn) (ann:Ann) (hw:S y fun r=>exD TB CT ann (Con Tryz.prog GG) (fin TB ann fn.results.toList (o r)) (finD TB ann fn.results.toList (o r) fc T ik Te) (z2q fn) (entry i)) (hok:okC ann fn.ntmps (z2q fn)=true:=by kernel_rfl)
  (hb:fn.body=some (z2q fn):=by exact rfl) (ent:∀ args w,(callFunc f args).run Tryz.prog w = .ok (.enter f args) w:=by exact fun _ _=>rfl) (hnd:z3w fn (z2q fn)=true:=by exact rfl) (hnn:ym f NF=false:=by exact rfl) (hl:yn i.vs.length fn.ntmps=true:=by exact rfl) (hnb:ann.nb=i.B.length:=by exact rfl) (h1000:yn i.B.length 900=true:=by exact rfl):Qs y f i o :=
 Con.oD hct TBG hf ann _ hw hok hb ent hnd yy.symm hnn hl hnb h1000
theorem Ke {α:Type} {y:Option α} {f:Nat} {fn:Func} {i:CIn} {o:α→z3x} {fc:Nat} {ts:List (Nat × Nat)} {T:Nat} {ik:IntKind} {B0:Int→List Bx} (hct:zev Tryz.prog GG fc ts T ik B0) (hf:Tryz.prog.funcs[f]? = some fn) (ann:Ann) (hw:S y fun r=>exE TB CT ann (Con Tryz.prog GG) (fin TB ann fn.results.toList (o r)) (finE TB ann fn.results.toList (o r) fc ts T ik B0) (z2q fn) (entry i)) (hok:okC ann fn.ntmps (z2q fn)=true:=by kernel_rfl)
  (hb:fn.body=some (z2q fn):=by exact rfl) (ent:∀ args w,(callFunc f args).run Tryz.prog w = .ok (.enter f args) w:=by exact fun _ _=>rfl) (hnd:z3w fn (z2q fn)=true:=by exact rfl) (hnn:ym f NF=false:=by exact rfl) (hl:yn i.vs.length fn.ntmps=true:=by exact rfl) (hnb:ann.nb=i.B.length:=by exact rfl) (h1000:yn i.B.length 900=true:=by exact rfl):Qs y f i o :=
 Con.oE hct TBG hf ann _ hw hok hb ent hnd yy.symm hnn hl hnb h1000
theorem Kr {f:Nat} {fn:Func} {m:Option PV} {i:CIn} {o:z3x} (hf:Tryz.prog.funcs[f]? = some fn) (ann:Ann) (hw:S (some ()) fun _=>exR TB CT ann (Con Tryz.prog GG) (recP m) (z2q fn) (entry i) (fin TB ann [] o)) (hok:okC ann fn.ntmps (z2q fn)=true:=by kernel_rfl)
  (hb:fn.body=some (z2q fn):=by exact rfl) (ent:∀ args w,(callFunc f args).run Tryz.prog w = .ok (.enter f args) w:=by exact fun _ _=>rfl) (hres:fn.results = #[]:=by exact rfl) (hl:yn i.vs.length fn.ntmps=true:=by exact rfl) (hnb:ann.nb=i.B.length:=by exact rfl) (h1000:yn i.B.length 1000=true:=by exact rfl) (hkv:z56 (fun _=>False) (fun _=>False) (recP m):=by exact (by repeat' first|exact trivial|apply And.intro)):ConD Tryz.prog GG f m i o :=
 ConD.of TBG ent hf hb rfl hres hok hl hnb h1000 hkv (hw () rfl)
theorem Kz {α:Type} {y:Option α} {f:Nat} {fn:Func} {i:CIn} {o:α→z3x} (hf:Tryz.prog.funcs[f]? = some fn) (ann:Ann) (dd:List (Nat × Dg)) (hw:S y fun r=>exY TB CT ann dd (Con Tryz.prog GG) (z2q fn) (entry i) (fin TB ann fn.results.toList (o r))) (hok:okY ann dd fn.ntmps (z2q fn)=true:=by kernel_rfl)
  (hb:fn.body=some (z2q fn):=by exact rfl) (ent:∀ args w,(callFunc f args).run Tryz.prog w = .ok (.enter f args) w:=by exact fun _ _=>rfl) (hnn:ym f NF=false:=by exact rfl) (hl:yn i.vs.length fn.ntmps=true:=by exact rfl) (hnb:ann.nb=i.B.length:=by exact rfl) (h1000:yn i.B.length 1000=true:=by exact rfl):Qs y f i o :=
 Con.oY TBG hf ann dd _ hw hok hb ent yy.symm hnn hl hnb h1000
end
end Go.Proofs.YtfdoofnmjehecaaGreatDoor
