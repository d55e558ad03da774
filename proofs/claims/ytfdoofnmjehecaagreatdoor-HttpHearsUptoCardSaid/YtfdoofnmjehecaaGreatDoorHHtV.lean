import Derived.Test.YtfdoofnmjehecaaGreatDoorHHtShelf
import Derived.OwnWalkIn
import Derived.TacticsInMore
import Derived.LoopNIn
import Derived.LoopIn
import Derived.Test.YtfdoofnmjehecaaGreatDoorHHtT
import Derived.Test.YtfdoofnmjehecaaGreatDoorHHtC
set_option linter.all false
set_option maxRecDepth 1000000
namespace Go.Proofs.YtfdoofnmjehecaaGreatDoor
open _root_.Option renaming bind_eq_some_iff → ya
open _root_.Bool renaming and_eq_true_iff → yb
open _root_.List renaming append_toArray → yc, cons_append → yd, getElem?_eq_some_iff → ye, length_cons → yf, length_map → yg, length_nil → yh, map_congr_left → yi, nil_append → yj, push_toArray → yk, size_toArray → yl
open _root_.Nat renaming beq → ym, ble → yn, le_refl → yo, lt_of_lt_of_le → yp, not_lt_zero → yq, reduceAdd → yr, reduceSub → yt, zero_lt_one → yu
open _root_.Array renaming getElem?_eq_some_iff → yv, replicate_succ → yw, replicate_zero → yx, toArray_toList → yy
section
open Go.Proofs Go.Lk Go.Pe Go.RowKit Go.Shelf Go.Maps Go.Sort
attribute[local go_sem]Oper.semAt_some
theorem take_succ(a:List Z){k:Nat}(h:k<a.length):a.take (k+1)=a.take k++[a[k]?.getD []]:=by rw[List.take_add_one];simp[h]
set_option maxRecDepth 100000 in
set_option maxHeartbeats 2000000 in
theorem zz08j(F:Fence)(n:Nat)(h7:F.fn 323)(hro:F.round=none)(hn:1≤n)(l Bs n₀ b off cap:Nat)(zs:List Z)(hreach:zs.length*16≤140737488355328)(hb:b<n₀)(w0:World)(J:List Z→World→Prop)(hY:∀pre x W,J pre W→pre.length<zs.length→YieldAt F (n-1) Tryz.prog l #[encStr x] W fun e W'=>e=.returned (.bool true)∧J (pre++[x]) W'∧KeepsWalks W W')(hJB:∀pre W,J pre W→Below n₀ w0 W)(W:World)(hBs:W.cell? ⟨Bs,0,none⟩=some (.slice (some ⟨b,off,none⟩) zs.length cap))(hc:∀j,j<zs.length→w0.cell? ⟨b,off+j,none⟩=some (encStr (zs[j]?.getD [])))(h0:J [] W):CallsIn F n Tryz.prog 323 #[.func (.yield l) #[] #[],.pointer (some ⟨Bs,0,none⟩)] W fun e W'=>(∃v,e=.returned v)∧∃xs,xs=zs∧J xs W':=by
 refine callsIn_of_wp Tryz.func323 rfl h7 ?_ hro;simp only[Tryz.ntmps323,yl,yf,yh,yr,yt,yw,yx,yk,yc,yj,yd];gi_wp2;gi_loopw[7](fun i wr=>∃k:Nat,k≤zs.length∧i=.int .i64 k∧J (zs.take k) wr)fun i _=>zs.length-(intOf i).toNat;case atStart=>exact⟨0,Nat.zero_le _,rfl,h0⟩
 case round=>
  obtain⟨k,hk,rfl,hJs⟩:=hrel;have hcx:k<zs.length→wr.cell? ⟨b,off+k,none⟩=some (encStr (zs[k]?.getD [])):=fun h=>((hJB _ _ hJs).cell (p:=⟨b,off+k,none⟩) hb).trans (hc k h);by_cases hlt:k<zs.length
  ·have hcx':=hcx hlt;have hts:=take_succ zs hlt;obtain⟨x,hx⟩:∃x,zs[k]?.getD []=x:=⟨_,rfl⟩;rw[hx]at hcx' hts;clear hcx hx;obtain⟨fn,tmps,assign,body,hy,hR⟩:=hY _ x wr hJs (by rw[List.length_take];omega);gi_wp2;refine hR.mono ?_;rintro e W3⟨rfl,hJ3,hk3⟩;gi_wp2;go_roundw;case rel=>exact⟨k+1,by omega,by simp,by rw[hts];exact hJ3⟩
   case measure=>simp[intOf];omega
  ·obtain rfl:k=zs.length:=by omega
   gi_wp2;go_end0;exact⟨⟨_,rfl⟩,zs,rfl,by rw[List.take_length]at hJs;exact hJs⟩
set_option maxRecDepth 100000 in
set_option maxHeartbeats 1000000 in
theorem zrp(F:Fence)(n:Nat)(h7:F.fn 323)(hro:F.round=none)(l Bs:Nat)(p:Option Addr)(J:List Z→World→Prop)(W:World)(hBs:W.cell? ⟨Bs,0,none⟩=some (.slice p 0 0))(h0:J [] W):CallsIn F n Tryz.prog 323 #[.func (.yield l) #[] #[],.pointer (some ⟨Bs,0,none⟩)] W fun e W'=>(∃v,e=.returned v)∧J [] W':=by
 refine callsIn_of_wp Tryz.func323 rfl h7 ?_ hro;simp only[Tryz.ntmps323,yl,yf,yh,yr,yt,yw,yx,yk,yc,yj,yd];gi_wp2;gi_loopw[7](fun i wr=>i=.int .i64 0∧J [] wr)fun _ _=>0;case atStart=>exact⟨rfl,h0⟩
 case round=>obtain⟨rfl,hJs⟩:=hrel;gi_wp2;go_end0;exact⟨⟨_,rfl⟩,hJs⟩
set_option maxHeartbeats 1000000 in
theorem values(F:Fence)(n:Nat)(h5:F.fn 311)(hro:F.round=none)(a:Option Addr)(len cap:Nat)(w:World):CallsIn F n Tryz.prog 311 #[.slice a len cap] w fun e w'=>e=.returned (.func (.func 323) #[] #[.pointer (some ⟨w.heap.size,0,none⟩)])∧w'=w.alloc (.cells #[.slice a len cap] 22):=by refine callsIn_of_wp Tryz.func311 rfl h5 ?_ hro;simp only[Tryz.ntmps311,yl,yf,yh,yr,yt,yw,yx,yk,yc,yj,yd];gi_wp2;go_ret;exact⟨rfl,rfl⟩
theorem sorts(m:Nat):AnyZ.SortsIn Tryz.prog Tryz.za5 Fence.wide m:=⟨fun blk off cap d W c a b=>callsIn_wide.2 (Any.slices_Sort_string Tryz.zy0 blk off cap d W c a b),fun p cap W=>callsIn_wide.2 (Any.slices_Sort_string_none Tryz.zy0 p cap W)⟩
def zku(w:World)(v:Value)(a:List Z):Prop:=(∃p,v=.slice p 0 0∧a=[])∨∃b off cap,v=.slice (some ⟨b,off,none⟩) a.length cap∧b<w.heap.size∧∀j,j<a.length→w.cell? ⟨b,off+j,none⟩=some (encStr (a[j]?.getD []))
theorem zp6(w:World)(n:Nat)(hn:1≤n)(a:Option Addr)(len cap:Nat)(g:List Z)(c:g.length*16≤140737488355328)(h:zku w (.slice a len cap) g):SeqB Fence.wide n Tryz.prog 323 #[.pointer (some ⟨w.heap.size,0,none⟩)] encStr g (w.alloc (.cells #[.slice a len cap] 22)):=fun l J W o v q i m=>by
 have f:(w.alloc (.cells #[.slice a len cap] 22)).cell? ⟨w.heap.size,0,none⟩=some (.slice a len cap):=by simp
 have d:=(o.cell (p:=⟨w.heap.size,0,none⟩) (by simp)).trans f;rcases h with⟨p,e,rfl⟩|⟨b,off,cap',e,r,s⟩;·cases e;exact(zrp Fence.wide n trivial rfl l w.heap.size _ J W d m).mono fun e u⟨t,k⟩=>⟨t,_,rfl,k⟩
 ·cases e;refine zz08j Fence.wide n trivial rfl hn l w.heap.size _ b off cap g c (by simp;omega) (w.alloc (.cells #[.slice (some ⟨b,off,none⟩) g.length cap] 22)) J q i W d (fun j k=>?_) m;exact((Below.refl w.heap.size w).alloc (yo _) _).cell (p:=⟨b,off+j,none⟩) r|>.trans (s j k)
set_option maxRecDepth 100000 in
set_option maxHeartbeats 2000000 in
theorem zvh(w:World)(a:Option Addr)(len cap:Nat)(zs:List Z)(hreach:zs.length*16≤140737488355328)(hlen:len=zs.length)(h:zku w (.slice a len cap) zs):Calls Tryz.prog 284 #[.slice a len cap] w fun e w'=>e=.returned (.bool (decide (((Lib.compact (zs.mergeSort fun x y=>decide (x≤y))).length:Int)=zs.length)))∧Below w.heap.size w w':=by
 refine callsIn_wide (n:=6).1 ?_;subst hlen;obtain⟨N,hN⟩:∃N,(Lib.compact (zs.mergeSort fun x y=>decide (x≤y))).length=N:=⟨_,rfl⟩;rw[hN];have cS:=zrd (ρ:=Tryz.za5) Tryz.zzt Fence.wide 5 trivial trivial trivial trivial rfl (by omega) (sorts _) (enters_of Tryz.func322 (by kernel_rfl) rfl) 323 #[.pointer (some ⟨w.heap.size,0,none⟩)] trivial (enters_of Tryz.func323 (by kernel_rfl) rfl) zs (by unfold maxLen;omega) (by omega) _ (zp6 w 2 (by omega) a zs.length cap zs hreach h);change CallsIn _ _ Tryz.prog 310 _ _ _ at cS;have hf69:Fence.wide.fn 311:=trivial;have hf68:Fence.wide.fn 310:=trivial;have hf70:Fence.wide.fn 312:=trivial;refine callsIn_of_wp Tryz.func284 rfl trivial ?_ rfl;simp only[Tryz.ntmps284,yl,yf,yh,yr,yt,yw,yx,yk,yc,yj,yd];gi_wp2_with(first|(gi_at_call 311;refine(values Fence.wide 5 trivial rfl a zs.length cap w).mono ?_;rintro e w'⟨rfl,rfl⟩)|(gi_at_call 310;refine cS.mono ?_;rintro e w1⟨v,ss,rfl,hS,hrow,hnil,hb⟩;subst ss));have b1:Below w.heap.size w w1:=((Below.refl _ w).alloc (yo _) _).trans (hb.mono (by simp));rcases hrow.2 with⟨rfl,hz⟩|⟨gb,cap2,cur,rfl,hbase,hgb,r1,r2,r3,r4⟩
 ·obtain rfl:zs=[]:=List.eq_nil_of_length_eq_zero (by simpa using hz);gi_wp2_with(gi_at_call 312;refine(callsIn_wide.2 (Any.slices_Compact_string_empty Tryz.zy1 none 0 w1)).mono ?_;rintro e w'⟨rfl,rfl⟩);go_ret;refine⟨?_,b1⟩;have e0:Lib.compact (([]:List Z).mergeSort fun x y=>decide (x≤y))=[]:=by rw[List.mergeSort_nil];rfl
  rw[e0]at hN;subst hN;rfl
 ·obtain⟨ys,hys⟩:∃ys,zs.mergeSort (fun x y=>decide (x≤y))=ys:=⟨_,rfl⟩;have hyl:ys.length=zs.length:=by rw[←hys];exact List.length_mergeSort _
  rw[hys]at hN r4;have hH:Holds encStr w1 gb 0 ys.toArray:=holds_of_block hgb (by rw[hyl];simpa using r4);have cC:=Any.slices_Compact_string Tryz.zy1 gb 0 cap2 ys w1 hH (by omega) (by omega);rw[hyl,hN]at cC;gi_wp2_with(gi_at_call 312;refine(callsIn_wide.2 cC).mono ?_;rintro e w'⟨rfl,q,rfl⟩);go_ret;refine⟨rfl,?_⟩;have hg:w1.grownBy (putRow encStr (Sort.ahead w1 q) gb 0 (Lib.compact ys++List.replicate (ys.length-(Lib.compact ys).length) []).toArray) (some gb):=by refine⟨rfl,rfl,rfl,by simp,fun k hk hne=>?_⟩;have:gb≠k:=fun e=>hne (by rw[e]);simp[putRow,mapBlock,Sort.ahead,Array.getElem?_modify,this]
  have:=b1.grown hg b1.size (fun j hj=>by cases hj;have:=hbase;simp at this;omega);rw[hyl,hN]at this;exact this
end
section
open Go.Lk Go.Pe Go.Sen Go.RowKit Go.Shelf Go.Proofs
theorem S.chk{A:Type}{b:Bool}{y:Unit→Option A}{F:A→Prop}(h:b=true→S (y ()) F):S (Go.Lk.chk b>>=y) F:=fun r c=>by obtain⟨_,a,h2⟩:=ya.1 c;exact h (z7f a) r h2
def Er(v:Value):Prop:=v=.nilIface∨∃t p,v=.iface t p
structure Vars(w:World):Prop where
 utf:Lib.Utf8Tabs 1 2 w
 max:∃m,w.cell? ⟨0,0,none⟩=some (.int .i64 m)syn:∃v,w.cell? ⟨3,0,none⟩=some v∧Er v
 rng:∃v,w.cell? ⟨4,0,none⟩=some v∧Er v
 pow:∃e f,w.heap[5]?=some (.cells (Lib.pow10Tab.map fun z=>Value.int .u64 z).toArray e f)
def GG:GI:=⟨fun w O=>Vars w∧∀b,b≤5→¬O b,fun{O w O' w'}t h=>by
 obtain⟨h,k⟩:=h;have c:5<w.heap.size:=by obtain⟨e,f,c⟩:=h.pow;exact(yv.1 c).1
 refine⟨⟨zz08g t (k 1 (by decide)) (k 2 (by decide)) h.utf,?_,?_,?_,?_⟩,fun b d=>t.owned b (by omega) (k b d)⟩;·obtain⟨m,a⟩:=h.max;exact⟨m,zej t a (k 0 (by decide))⟩
 ·obtain⟨v,a,h2⟩:=h.syn;exact⟨v,zej t a (k 3 (by decide)),h2⟩
 ·obtain⟨v,a,h2⟩:=h.rng;exact⟨v,zej t a (k 4 (by decide)),h2⟩
 ·obtain⟨e,f,a⟩:=h.pow;exact⟨e,f,(t.block 5 c (k 5 (by decide))).trans a⟩⟩
theorem C.z4n(y:List Int):S (M.z4n y) fun r=>Con Tryz.prog GG 122 (I.z4n y) (O.z4n y r):=by
 intro r l;refine⟨fun _ _=>rfl,rfl,fun w O φ α us o l hB hG=>?_⟩;obtain⟨u,z,rfl,E,j⟩:=o;have j:z=[]:=j;subst j;simp only[VR]at E;subst E;obtain⟨B,us,i,p,G,rfl,D,v,A,rfl,o,f⟩:=l.box 0 _ rfl;have i:=i.un (by decide);have f:A=[]:=f;subst f;simp only[VR]at D o;obtain⟨rfl,g⟩:=o;refine(zl3 w (φ 0) p (α 0) i D g).mono fun e w'⟨q,h2,f⟩=>?_;have s:=l.ab 0 0 _ rfl yu;have tr:Tr O w O w':=Tr.z6e f fun x _ c=>by cases c;exact B
 have m:=(l.arr 0 _ rfl).keep f (fun b k c=>s (by rw[k];exact congrArg some c)) tr fun _ h=>h;refine⟨[],O,φ,α,q,⟨rfl,⟨fun b e d=>?_,fun a e d=>?_,fun a b F t hn=>?_,fun a b e e' n k hn=>?_,fun a b e n k=>?_⟩,fun _ _=>rfl,yo _,fun x c=>yp (hB x c) f.size,tr,fun _ c=>c,fun _ c=>.inl c,f.mono fun x _ c=>.inl ⟨0,yu,c.symm⟩,fun b q h2=>?_,fun a e x d c=>?_⟩⟩;·match b,d with|0,d=>cases d;exact⟨B,_,.inl ⟨by decide,h2⟩,_,_,rfl,.inr rfl,_,[],rfl,⟨rfl,g⟩,rfl⟩
 ·match a,d with|0,d=>cases d;exact m
 ·simp at F t;omega
 ·match a,b,n,k with|0,0,_,_=>exact(hn rfl).elim
 ·match a,n with
  |0,n=>
   have:b=0:=by simpa using k
   subst this;exact l.ab 0 0 _ rfl yu
 ·simp at q h2;omega
 ·match a,d with|0,d=>exact .inl ⟨0,yu,c⟩
theorem C.z0h(c:Z):S (M.z0h c) fun r=>Con Tryz.prog GG 228 (I.z0h c) (O.z0h r):=by unfold M.z0h;refine S.chk fun a=>?_;have a:=of_decide_eq_true a;intro r f;cases f;refine Con.lib (fun _ _=>rfl) fun w O φ α us g hB hG=>?_;obtain⟨h,rfl,b⟩:=g.str;obtain rfl:=b.nil;refine(Any.utf8_ValidString Tryz.zy2 ⟨c.toArray⟩ w (by simpa[ByteArray.size]using a) hG.1.utf).mono ?_;rintro e w'⟨rfl,d⟩;exact⟨[_],rfl,fun _ _ _=>.zx6 _,.z4u d⟩
theorem C.indexByte(c:Z)(d:Int):S (M.indexByte c d) fun r=>Con Tryz.prog GG 285 (I.indexByte c d) (O.indexByte r):=by intro r f;cases f;refine Con.lib (fun _ _=>rfl) fun w O φ α us g hB hG=>?_;obtain⟨h,rfl,a⟩:=g.str;obtain⟨i,rfl,b⟩:=a.int;obtain rfl:=b.nil;refine(Any.strings_IndexByte Tryz.zz06z ⟨c.toArray⟩ d w).mono ?_;rintro e w'⟨rfl,rfl⟩;exact⟨[_],rfl,fun _ _ _=>.gInt _ _,.refl _ _⟩
theorem asc{l:Z}(h:(l.all fun b=>decide (b.toNat<128))=true):∀(j:Nat)b,l[j]?=some b→b.toNat<128:=fun j b a=>by have:=List.all_eq_true.1 h b (List.mem_of_getElem? a);simpa using this
theorem C.trimLeft(d f:Z):S (M.trimLeft d f) fun r=>Con Tryz.prog GG 244 (I.trimLeft d f) (O.trimLeft r):=by unfold M.trimLeft;intro r a;obtain⟨_,i,a⟩:=ya.1 a;obtain⟨g,h2⟩:=yb.1 (z7f i);cases a;refine Con.lib (fun _ _=>rfl) fun w O φ α us j hB hG=>?_;obtain⟨k,rfl,b⟩:=j.str;obtain⟨l,rfl,c⟩:=b.str;obtain rfl:=c.nil;refine(Any.strings_TrimLeft_laid Tryz.zz077 (by kernel_rfl) ⟨d.toArray⟩ ⟨f.toArray⟩ w (by simpa[ByteArray.size]using g) (by simpa using asc h2)).mono ?_;rintro e w'⟨rfl,h⟩;exact⟨[_],rfl,fun _ _ _=>.gStr _,.z4u h⟩
theorem C.trim(d f:Z):S (M.trim d f) fun r=>Con Tryz.prog GG 38 (I.trim d f) (O.trim r):=by unfold M.trim;intro r a;obtain⟨_,j,a⟩:=ya.1 a;obtain⟨g,h2⟩:=yb.1 (z7f j);obtain⟨h,h2⟩:=yb.1 h2;cases a;refine Con.lib (fun _ _=>rfl) fun w O φ α us k hB hG=>?_;obtain⟨l,rfl,b⟩:=k.str;obtain⟨m,rfl,c⟩:=b.str;obtain rfl:=c.nil;refine(Any.strings_Trim_laid Tryz.zz076 (by kernel_rfl) ⟨d.toArray⟩ ⟨f.toArray⟩ w (by simpa[ByteArray.size]using g) (by simpa[ByteArray.size]using h) (by simpa using asc h2)).mono ?_;rintro e w'⟨rfl,i⟩;exact⟨[_],rfl,fun _ _ _=>.gStr _,.z4u i⟩
theorem C.zt(a:List Int):S (M.zt a) fun r=>Con Tryz.prog GG 60 (I.zt a) (O.zt a r):=by unfold M.zt;refine S.chk fun b=>?_;have b:=of_decide_eq_true b;intro r c;cases c;exact Con.string Tryz.zxz Tryz.z8v (fun _ _=>rfl) (by decide) (by decide) (.inl rfl) a b
@[reducible]def I.z7u(a:List Int):CIn:=⟨[.ptr 0 0],[⟨89,[.z1e 0,.ref 0]⟩],[(1000005,1,a.map (eI .u8))]⟩
theorem C.z7u(a:List Int):S (M.zt a) fun r=>Con Tryz.prog GG 60 (I.z7u a) (O.zt a r):=by unfold M.zt;refine S.chk fun b=>?_;have b:=of_decide_eq_true b;intro r c;cases c;exact Con.string Tryz.zxz Tryz.z8v (fun _ _=>rfl) (by decide) (by decide) (.inr rfl) a b
theorem zku.of{w:World}{O:Nat→Prop}{c:List Z}{v:Value}(h:RD w O (.sl 9 1 (c.map eS)) v):∃a cap,v=.slice a c.length cap∧c.length≤cap∧zku w v c:=by
 rcases h with⟨⟨p,rfl⟩,h⟩|⟨b,off,cap,cs,fr,rfl,d,_,_,e,h2,g⟩
 ·obtain rfl:c=[]:=by simpa using h
  exact⟨p,0,rfl,yo _,.inl ⟨p,rfl,rfl⟩⟩
 ·refine⟨some ⟨b,off,none⟩,cap,by simp,by simpa using d,.inr ⟨b,off,cap,by simp,(yv.1 e).1,fun j o=>?_⟩⟩;obtain⟨x,f⟩:∃x,c[j]?=some x:=⟨c[j],by simp[o]⟩;have k:=RDl.at g (i:=j) (x:=eS x) (by simp[f]);have m:=zz07k k;rw[cell_of_row w b (off+j) cs fr.1 fr.2 e,f];have n:((cs.toList.drop off).drop (j*1)).take 1=[Value.string ⟨x.toArray⟩]:=m;have:=congrArg (fun l=>l[0]?) n;simpa[List.getElem?_take,List.getElem?_drop]using this
theorem C.single(c:List Z):S (M.single c) fun r=>Con Tryz.prog GG 284 (I.single c) (O.single r):=by unfold M.single;refine S.chk fun b=>?_;have b:=of_decide_eq_true b;intro r i;cases i;refine Con.lib (fun _ _=>rfl) fun w O φ α us j hB hG=>?_;obtain⟨v,d,rfl,f,h2⟩:=j;obtain rfl:d=[]:=h2;simp only[VR]at f;obtain⟨a,cap,rfl,_,g⟩:=zku.of f;refine(zvh w a _ cap c b rfl g).mono ?_;rintro e w'⟨rfl,h⟩;exact⟨[_],rfl,fun _ _ _=>.zx6 _,.z4u h⟩
theorem C.cut(f g:Z):S (M.cut f g) fun r=>Con Tryz.prog GG 35 (I.cut f g) (O.cut r):=by unfold M.cut;refine S.chk fun a=>?_;have a:=of_decide_eq_true a;intro r b;cases b;refine Con.lib (fun _ _=>rfl) fun w O φ α us h hB hG=>?_;obtain⟨i,rfl,c⟩:=h.str;obtain⟨j,rfl,d⟩:=c.str;obtain rfl:=d.nil;obtain⟨m,b⟩:=hG.1.max;refine(Any.strings_Cut Tryz.zz072 ⟨f.toArray⟩ ⟨g.toArray⟩ m w (by simpa[ByteArray.size]using a) b).mono ?_;rintro e w'⟨rfl,n,rfl⟩;exact⟨[_,_,_],rfl,fun _ _ _=>⟨_,_,rfl,rfl,_,_,rfl,rfl,_,[],rfl,rfl,rfl⟩,⟨rfl,rfl,rfl,yo _,fun _ _ _=>rfl⟩⟩
theorem C.contains(f g:Z):S (M.contains f g) fun r=>Con Tryz.prog GG 238 (I.contains f g) (O.contains r):=by unfold M.contains;refine S.chk fun a=>?_;have a:=of_decide_eq_true a;intro r b;cases b;refine Con.lib (fun _ _=>rfl) fun w O φ α us h hB hG=>?_;obtain⟨i,rfl,c⟩:=h.str;obtain⟨j,rfl,d⟩:=c.str;obtain rfl:=d.nil;obtain⟨m,b⟩:=hG.1.max;refine(Any.strings_Contains Tryz.zz071 ⟨f.toArray⟩ ⟨g.toArray⟩ m w (by simpa[ByteArray.size]using a) b).mono ?_;rintro e w'⟨rfl,rfl⟩;exact⟨[_],rfl,fun _ _ _=>.zx6 _,.refl _ _⟩
theorem C.join(d:List Z)(g:Z):S (M.join d g) fun r=>Con Tryz.prog GG 121 (I.join d g) (O.join r):=by
 unfold M.join;refine S.chk fun o=>?_;obtain⟨h,h2⟩:=yb.1 o;have h:=of_decide_eq_true h;have h2:=of_decide_eq_true h2;intro r t;cases t;refine Con.lib (fun _ _=>rfl) fun w O φ α us k hB hG=>?_;obtain⟨v,z,rfl,k1,k⟩:=k;obtain⟨A,rfl,l⟩:=VRs.str k;obtain rfl:=l.nil;simp only[VR]at k1;obtain⟨a,cap,rfl,u,k3⟩:=zku.of k1;have c:(d.map fun x=>(⟨x.toArray⟩:ByteArray)).map (·.data.toList)=d:=by
  rw[List.map_map];conv=>rhs;rw[←List.map_id d]
  exact yi fun x _=>by simp
 rcases k3 with⟨p,e,rfl⟩|⟨b,off,cap',e,q,s⟩;·cases e;refine(Any.strings_Join_none Tryz.zxy Tryz.z8u _ _ ⟨g.toArray⟩ w).mono ?_;rintro e w'⟨rfl,rfl⟩;exact⟨[_],rfl,fun _ _ _=>by first|exact .gStr _|exact⟨_,[],rfl,by simp[VR,Lib.join],rfl⟩,.refl _ _⟩
 ·cases e;have f:=Any.strings_Join Tryz.zxy Tryz.z8u b off cap (d.map fun x=>(⟨x.toArray⟩:ByteArray)) ⟨g.toArray⟩ w fun j x m=>by rw[List.getElem?_map]at m;obtain⟨y,n,rfl⟩:=Option.map_eq_some_iff.1 m;have f:=(ye.1 n).1;rw[s j f,n];rfl q (by simpa using h) (by simpa using u) (by rw[c];simpa using h2);rw[c]at f;simp only[yg]at f;refine f.mono ?_;rintro e w'⟨rfl,i⟩;exact⟨[_],rfl,fun _ _ _=>by simpa using .gStr _,.z4u i⟩
theorem C.atoi(c:Z):S (M.atoi c) fun r=>Con Tryz.prog GG 116 (I.atoi c) (O.atoi r):=by
 unfold M.atoi;refine S.chk fun h=>?_;have h:=of_decide_eq_true h;have k:(⟨c.toArray⟩:ByteArray).size≤281474976710656:=by simpa[ByteArray.size]using h
 intro r d;rcases b:Lib.atoiAll c with v|_|_<;>rw[b]at d<;>dsimp only at d
 ·cases d;refine Con.lib (fun _ _=>rfl) fun w O φ α us f hB hG=>?_;obtain⟨g,rfl,a⟩:=f.str;obtain rfl:=a.nil;refine(Any.strconv_Atoi_ok Tryz.zls ⟨c.toArray⟩ (by omega) v (by simpa using b) w).mono ?_;rintro e w'⟨rfl,l⟩;refine⟨[_,_],rfl,fun _ _ _=>⟨_,_,rfl,rfl,_,[],rfl,.inl ⟨rfl,rfl⟩,rfl⟩,?_⟩;rcases l with rfl|⟨t,rfl⟩;·exact .refl _ _
  ·exact Go.Pe.Ext.bytes _ _ _
 ·cases d;refine Con.lib (fun _ _=>rfl) fun w O φ α us f hB hG=>?_;obtain⟨g,rfl,a⟩:=f.str;obtain rfl:=a.nil;obtain⟨ev,i,h2⟩:=hG.1.syn;refine(Any.strconv_Atoi_syntax Tryz.zls ⟨c.toArray⟩ k (by simpa using b) ev w i h2).mono ?_;rintro e w'⟨N,rfl,_,_,j⟩;exact⟨[_,_],rfl,fun _ _ _=>⟨_,_,rfl,rfl,_,[],rfl,.inr ⟨rfl,_,_,rfl⟩,rfl⟩,.z4u j⟩
 ·cases d;refine Con.lib (fun _ _=>rfl) fun w O φ α us f hB hG=>?_;obtain⟨g,rfl,a⟩:=f.str;obtain rfl:=a.nil;obtain⟨ev,i,h2⟩:=hG.1.rng;refine(Any.strconv_Atoi_range Tryz.zls ⟨c.toArray⟩ k (by simpa using b) ev w i h2).mono ?_;rintro e w'⟨N,rfl,_,_,j⟩;exact⟨[_,_],rfl,fun _ _ _=>⟨_,_,rfl,by simp[VR],_,[],rfl,.inr ⟨rfl,_,_,rfl⟩,rfl⟩,.z4u j⟩
theorem C.itoa(d:Int):S (M.itoa d) fun r=>Con Tryz.prog GG 58 (I.itoa d) (O.itoa r):=by
 unfold M.itoa;intro r b;obtain⟨_,i,b⟩:=ya.1 b;obtain⟨g,h2⟩:=yb.1 (z7f i);cases b;refine Con.lib (fun _ _=>rfl) fun w O φ α us j hB hG=>?_;obtain⟨l,rfl,c⟩:=j.int;obtain rfl:=c.nil;obtain⟨e,f,h⟩:=hG.1.pow;have a:Lib.TabIs Tryz.prog w "internal/strconv.uint64pow10" .u64 Lib.pow10Tab:=by unfold Lib.TabIs World.var?;rw[show Tryz.prog.globalNamed "internal/strconv.uint64pow10"=some 5 from by kernel_rfl];simp[h]
 refine(Any.strconv_Itoa Tryz.zz02f d (of_decide_eq_true g) (of_decide_eq_true h2) w a).mono ?_;rintro e w'⟨rfl,k,os,rfl⟩;exact⟨[_],rfl,fun _ _ _=>.gStr _,.z4u (below_grown w k os)⟩
theorem C.z6h(f:Z)(g:Z):S (M.z6h f g) fun r=>Con Tryz.prog GG 96 (I.z6h f g) (O.z6h r):=by unfold M.z6h;refine S.chk fun a=>?_;have a:=of_decide_eq_true a;intro r b;cases b;refine Con.lib (fun _ _=>rfl) fun w O φ α us h hB hG=>?_;obtain⟨i,rfl,c⟩:=h.str;obtain⟨j,rfl,d⟩:=c.str;obtain rfl:=d.nil;obtain⟨m,b⟩:=hG.1.max;refine(Any.strings_Index Tryz.zz070 ⟨f.toArray⟩ ⟨g.toArray⟩ m w (by simpa[ByteArray.size]using a) b).mono ?_;rintro e w'⟨rfl,rfl⟩;exact⟨[_],rfl,fun _ _ _=>.gInt _ _,.refl _ _⟩
theorem C.containsAny(f:Z)(g:Z):S (M.containsAny f g) fun r=>Con Tryz.prog GG 211 (I.containsAny f g) (O.containsAny r):=by unfold M.containsAny;intro r b;obtain⟨_,k,b⟩:=ya.1 b;obtain⟨h,a⟩:=yb.1 (z7f k);obtain⟨a,h2⟩:=yb.1 a;obtain⟨h2,i⟩:=yb.1 h2;cases b;refine Con.lib (fun _ _=>rfl) fun w O φ α us l hB hG=>?_;obtain⟨m,rfl,c⟩:=l.str;obtain⟨n,rfl,d⟩:=c.str;obtain rfl:=d.nil;refine(Any.strings_ContainsAny_laid Tryz.zz074 (by kernel_rfl) ⟨f.toArray⟩ ⟨g.toArray⟩ w (by simpa[ByteArray.size]using h) (by simpa[ByteArray.size]using h2) (by simpa using asc a) (by simpa using asc i)).mono ?_;rintro e w'⟨rfl,j⟩;exact⟨[_],rfl,fun _ _ _=>.zx6 _,.z4u j⟩
theorem C.replaceAll(d:Z)(f:Z)(n:Z):S (M.replaceAll d f n) fun r=>Con Tryz.prog GG 212 (I.replaceAll d f n) (O.replaceAll r):=by
 unfold M.replaceAll;intro r b;obtain⟨_,p,b⟩:=ya.1 b;obtain⟨g,c⟩:=yb.1 (z7f p);obtain⟨c,h2⟩:=yb.1 c;have g:=of_decide_eq_true g;have c:=of_decide_eq_true c;have h2:=of_decide_eq_true h2;cases b;refine Con.lib (fun _ _=>rfl) fun w O φ α us q hB hG=>?_;obtain⟨s,rfl,i⟩:=q.str;obtain⟨t,rfl,j⟩:=i.str;obtain⟨u,rfl,k⟩:=j.str;obtain rfl:=k.nil;obtain⟨m,b⟩:=hG.1.max;have a:∀l:Z,(⟨l.toArray⟩:ByteArray).size=l.length:=fun l=>by simp[ByteArray.size]
 have h:=Lib.countB_le ⟨f.toArray⟩ (by rw[a];omega) _ ⟨d.toArray⟩ (yo _);rw[a]at h;refine(Any.strings_ReplaceAll Tryz.zz075 Tryz.zee ⟨d.toArray⟩ ⟨f.toArray⟩ ⟨n.toArray⟩ m w (by rw[a];exact g) b (by rw[a];omega) (by rw[a,a,h2];omega)).mono ?_;rintro e w'⟨rfl,o⟩;exact⟨[_],rfl,fun _ _ _=>.gStr _,.z4u o⟩
theorem zy9(w:World):MapAtRunes Tryz.prog 37 #[] zqi w:=fun W r hr _=>by unfold FnGives;by_cases h1:65≤r<;>by_cases h2:r≤90;all_goals
  have z1:(65:Int)≤(r:Int)↔65≤r:=by omega
  have z2:(r:Int)≤90↔r≤90:=by omega
  go_enter Tryz.func37,Tryz.ntmps37;go_wp2;all_goals first|(exfalso;omega)|(go_ret;exact⟨by simp[zqi,h1,h2,IntKind.wrap,IntKind.bits,IntKind.signed]<;>omega,0,rfl⟩)
theorem zvo(w:World):PredAtRunes Tryz.prog 231 #[] zp8 w:=fun W r hr _=>by unfold FnGives;by_cases h1:r<33<;>by_cases h2:126<r<;>by_cases h3:r=34<;>by_cases h4:r=92;all_goals
  have z1:(r:Int)<33↔r<33:=by omega
  have z2:(126:Int)<(r:Int)↔126<r:=by omega
  have z3:(r:Int)=34↔r=34:=by omega
  have z4:(r:Int)=92↔r=92:=by omega
  go_enter Tryz.func231,Tryz.ntmps231;go_wp2;all_goals first|(exfalso;omega)|(go_ret;exact⟨by simp[zp8,h1,h2,h3,h4]<;>omega,0,rfl⟩)
theorem C.z6d(h:Z):S (M.z6d h) fun r=>Con Tryz.prog GG 36 (I.z6d h) (O.z6d r):=by unfold M.z6d;refine S.chk fun c=>?_;have c:=of_decide_eq_true c;intro r j;cases j;refine Con.lib (fun _ _=>rfl) fun w O φ α us l hB hG=>?_;obtain⟨u,m,rfl,k,f⟩:=l;obtain⟨n,rfl,g⟩:=VRs.str f;obtain rfl:=g.nil;obtain⟨a,b,rfl,i,d⟩:=k;obtain rfl:a=[]:=i;obtain rfl:b=[]:=d;refine(Any.strings_Map_runes Tryz.zz078 Tryz.zef 37 #[] (enters_of Tryz.func37 (by kernel_rfl) rfl) zqi ⟨h.toArray⟩ w (by simpa[ByteArray.size]using c) (zy9 w) fun x o=>by unfold zqi;split<;>omega hG.1.utf).mono ?_;rintro e w'⟨rfl,d⟩;exact⟨[_],rfl,fun _ _ _=>.gStr _,.z4u d⟩
theorem C.z2e(g:Z):S (M.z2e g) fun r=>Con Tryz.prog GG 230 (I.z2e g) (O.z2e r):=by unfold M.z2e;intro r i;cases i;refine Con.lib (fun _ _=>rfl) fun w O φ α us k hB hG=>?_;obtain⟨l,rfl,d⟩:=k.str;obtain⟨u,m,rfl,j,f⟩:=d;obtain rfl:=VRs.nil f;obtain⟨a,b,rfl,h,c⟩:=j;obtain rfl:a=[]:=h;obtain rfl:b=[]:=c;refine(Any.strings_ContainsFunc_runes Tryz.zz02e 231 #[] (enters_of Tryz.func231 (by kernel_rfl) rfl) zp8 ⟨g.toArray⟩ w (zvo w)).mono ?_;rintro e w'⟨rfl,c⟩;exact⟨[_],rfl,fun _ _ _=>.zx6 _,.z4u c⟩
theorem Con.libD{P:Program}{G:GI}{f:Nat}{vs rs:List PV}(ent:∀args w,(callFunc f args).run P w=.ok (.enter f args) w)(h:∀w O φ α us,VRs w O φ α vs us→Bd O w→G.p w O→Calls P f us.toArray w fun e w'=>∃d,e=.returned (retU d)∧VRs w' O φ α rs d∧Ext z0x w w')(l:ym f NF=false:=by exact rfl):Con P G f ⟨vs,[],[]⟩ (.ok rs [] []):=by
 refine⟨ent,l,fun w O φ α us m o hB hG=>(h w O φ α us m hB hG).mono fun e w'⟨d,i,h2,j⟩=>?_⟩;have tr:Tr O w O w':=Tr.z6e j fun _ _ c=>c.elim;refine⟨d,O,φ,α,i,h2,⟨fun b e g=>?_,fun a e g=>?_,fun a b n _ _=>?_,fun a b e e' k _ _=>?_,fun a b e k _=>?_⟩,fun _ _=>rfl,yo _,fun x c=>yp (hB x c) j.size,tr,fun _ c=>c,fun _ c=>.inl c,j.mono fun _ _ c=>c.elim,fun b i _=>?_,fun a e x g _=>?_⟩;·simp at g
 ·simp at g
 ·exact absurd n (yq _)
 ·simp at k
 ·simp at k
 ·exact absurd i (yq _)
 ·simp at g
theorem RDl.strs{w:World}{O:Nat→Prop}:∀(a:List Z),RDl w O 1 (a.map eS) (a.map encStr)|[]=>trivial|z::a=>⟨⟨_,[],rfl,rfl,rfl⟩,by simpa using RDl.strs a⟩
theorem C.split(b a:Z):S (M.split b a) fun r=>Con Tryz.prog GG 33 (I.split b a) (O.split r):=by
 unfold M.split;intro r g;obtain⟨_,p,g⟩:=ya.1 g;obtain⟨h,i⟩:=yb.1 (z7f p);have h:=of_decide_eq_true h;have i:=of_decide_eq_true i;cases g;refine Con.libD (fun _ _=>rfl) fun w O φ α us q hB hG=>?_;obtain⟨s,rfl,k⟩:=q.str;obtain⟨u,rfl,n⟩:=k.str;obtain rfl:=n.nil;obtain⟨m,g⟩:=hG.1.max;have f:∀l:Z,(⟨l.toArray⟩:ByteArray).size=l.length:=fun l=>by simp[ByteArray.size]
 have d:1≤(⟨a.toArray⟩:ByteArray).size:=by rw[f];exact i
 have j:=Lib.countB_le ⟨a.toArray⟩ d _ ⟨b.toArray⟩ (yo _);rw[f]at j;have hl:=Lib.splitB_all ⟨a.toArray⟩ d 0 _ ⟨b.toArray⟩ rfl;refine(Any.strings_Split Tryz.zz073 (by kernel_rfl) ⟨b.toArray⟩ ⟨a.toArray⟩ m w (by rw[f];exact h) g d).mono ?_;rintro e w'⟨rfl,rfl⟩;have x:Ext z0x w (w.alloc (.cells ((Lib.splitB ⟨a.toArray⟩ 0 (Lib.countB ⟨b.toArray⟩ ⟨a.toArray⟩) ⟨b.toArray⟩).map Value.string).toArray (Tryz.zi1.t 9))):=.z4u ((Below.refl _ w).alloc (yo _) _);refine⟨[_],rfl,⟨_,[],rfl,?_,rfl⟩,x⟩;simp only[VR];have c:(zit b a).length=Lib.countB ⟨b.toArray⟩ ⟨a.toArray⟩+1:=by unfold zit;rw[yg,hl]
 refine .inr ⟨w.heap.size,0,Lib.countB ⟨b.toArray⟩ ⟨a.toArray⟩+1,_,(_,_),by rw[yg,c],by rw[yg,c];exact yo _,by unfold maxLen;omega,fun ho=>Nat.lt_irrefl _ (hB _ ho),heap_alloc_new w _,?_,?_⟩;·simp[hl]
 ·have o:(Lib.splitB ⟨a.toArray⟩ 0 (Lib.countB ⟨b.toArray⟩ ⟨a.toArray⟩) ⟨b.toArray⟩).map Value.string=(zit b a).map encStr:=by unfold zit;rw[List.map_map];exact yi fun y _=>by simp[encStr]
  simp only[List.drop_zero,o];exact RDl.strs _
theorem C.z16(c:Z)(d:Int):S (M.z16 c d) fun r=>Con Tryz.prog GG 223 (I.z16 c d) (O.z16 r):=by unfold M.z16;intro r g;cases g;refine Con.lib (fun _ _=>rfl) fun w O φ α us h hB hG=>?_;obtain⟨i,rfl,a⟩:=h.str;obtain⟨j,rfl,b⟩:=a.int;obtain rfl:=b.nil;refine(zj9 ⟨c.toArray⟩ d w).mono ?_;rintro e w'⟨rfl,f⟩;exact⟨[_],rfl,fun _ _ _=>.gInt _ _,.z4u f⟩
theorem zd2{w:World}{b q:Nat}{u:Value}(h:w.cell? ⟨b,q,none⟩=some u):∃r T fr,w.heap[b]?=some (.cells r T fr)∧r[q]?=some u:=by
 unfold World.cell? at h;split at h;·rename_i c T fr e;exact⟨c,T,fr,e,h⟩
 ·cases h
theorem TBG:TbG Tryz.prog TB GG:=⟨TBok,fun w O h g e c=>by
 obtain⟨m,ho⟩:=h;obtain⟨l,h2⟩:=m.utf;rcases z4h c with⟨rfl,rfl⟩|⟨_,c⟩
 ·refine⟨by simp[utf8First],fun i x a=>?_⟩;have d:i<256:=by have:=(ye.1 a).1;simpa[utf8First]using this
  have a:x=eI .u8 ((Lib.firstT i:Nat):Int):=by simp[utf8First,d]at a;exact a.symm
  subst a;obtain⟨r,T,fr,k1,f⟩:=zd2 (l i d);refine⟨[.int .u8 ((Lib.firstT i:Nat):Int)],rfl,⟨ho 1 (by decide),r,T,fr,k1,fun j u b=>?_⟩,⟨_,_,rfl,rfl,rfl⟩⟩;match j,b with|0,b=>cases b;simpa using f
 ·rcases z4h c with⟨rfl,rfl⟩|⟨_,c⟩
  ·refine⟨by simp[zd4],fun i x a=>?_⟩;have d:i<16:=by have:=(ye.1 a).1;simpa[zd4]using this
   have a:x=[.int .u8 ((Lib.accLo i:Nat):Int),.int .u8 ((Lib.accHi i:Nat):Int)]:=by simp[zd4,d]at a;exact a.symm
   subst a;obtain⟨o,p⟩:=h2 i d;obtain⟨r,T,fr,k1,f⟩:=zd2 o;obtain⟨s,q,k,k3,n⟩:=zd2 p;rw[k1]at k3;cases k3;refine⟨[.int .u8 ((Lib.accLo i:Nat):Int),.int .u8 ((Lib.accHi i:Nat):Int)],rfl,⟨ho 2 (by decide),r,T,fr,k1,fun j u b=>?_⟩,⟨_,_,rfl,rfl,_,_,rfl,rfl,rfl⟩⟩;match j,b with|0,b=>cases b;rw[show i*2+0=2*i by omega];exact f|1,b=>cases b;rw[show i*2+1=2*i+1 by omega];exact n
  ·cases c⟩
end
section
open Go.Lk Go.Pe Go.Sen Go.RowKit
@[reducible]def Qs{α:Type}(y:Option α)(f:Nat)(i:CIn)(o:α→z3y):Prop:=S y fun r=>Con Tryz.prog GG f i (o r)
@[reducible]def Q1{α:Type}(y:Option α)(f:Nat)(vs:List PV)(o:α→List PV):Prop:=Qs y f ⟨vs,[],[]⟩ fun r=>.ok (o r) [] []
theorem Kf{α:Type}{y:Option α}{f:Nat}{fn:Func}{i:CIn}{o:α→z3y}(hf:Tryz.prog.funcs[f]?=some fn)(ann:Ann)(g:S y fun r=>ex TB CT ann (Con Tryz.prog GG) (z2l fn) (entry i) (fin TB ann fn.results.toList (o r)))(d:okC ann fn.ntmps (z2l fn)=true:=by kernel_rfl)(e:fn.body=some (z2l fn):=by exact rfl)(ent:∀args w,(callFunc f args).run Tryz.prog w=.ok (.enter f args) w:=by exact fun _ _=>rfl)(c:ym f NF=false:=by exact rfl)(hl:yn i.vs.length fn.ntmps=true:=by exact rfl)(b:ann.nb=i.B.length:=by exact rfl)(a:yn i.B.length 1000=true:=by exact rfl):Qs y f i o:=Con.oS TBG hf ann _ g d e ent yy.symm c hl b a
theorem Kd{α:Type}{y:Option α}{f:Nat}{fn:Func}{i:CIn}{o:α→z3y}{fc T:Nat}{ik:IntKind}{Te:Nat}(b:zmn Tryz.prog fc T ik Te)(hf:Tryz.prog.funcs[f]?=some fn)(ann:Ann)(j:S y fun r=>exD TB CT ann (Con Tryz.prog GG) (fin TB ann fn.results.toList (o r)) (finD TB ann fn.results.toList (o r) fc T ik Te) (z2l fn) (entry i))(g:okC ann fn.ntmps (z2l fn)=true:=by kernel_rfl)(h:fn.body=some (z2l fn):=by exact rfl)(ent:∀args w,(callFunc f args).run Tryz.prog w=.ok (.enter f args) w:=by exact fun _ _=>rfl)(d:z3v fn (z2l fn)=true:=by exact rfl)(e:ym f NF=false:=by exact rfl)(hl:yn i.vs.length fn.ntmps=true:=by exact rfl)(c:ann.nb=i.B.length:=by exact rfl)(a:yn i.B.length 900=true:=by exact rfl):Qs y f i o:=Con.oD b TBG hf ann _ j g h ent d yy.symm e hl c a
theorem Ke{α:Type}{y:Option α}{f:Nat}{fn:Func}{i:CIn}{o:α→z3y}{fc:Nat}{ts:List (Nat×Nat)}{T:Nat}{ik:IntKind}{B0:Int→List Bx}(b:zgq Tryz.prog GG fc ts T ik B0)(hf:Tryz.prog.funcs[f]?=some fn)(ann:Ann)(j:S y fun r=>exE TB CT ann (Con Tryz.prog GG) (fin TB ann fn.results.toList (o r)) (finE TB ann fn.results.toList (o r) fc ts T ik B0) (z2l fn) (entry i))(g:okC ann fn.ntmps (z2l fn)=true:=by kernel_rfl)(h:fn.body=some (z2l fn):=by exact rfl)(ent:∀args w,(callFunc f args).run Tryz.prog w=.ok (.enter f args) w:=by exact fun _ _=>rfl)(d:z3v fn (z2l fn)=true:=by exact rfl)(e:ym f NF=false:=by exact rfl)(hl:yn i.vs.length fn.ntmps=true:=by exact rfl)(c:ann.nb=i.B.length:=by exact rfl)(a:yn i.B.length 900=true:=by exact rfl):Qs y f i o:=Con.oE b TBG hf ann _ j g h ent d yy.symm e hl c a
theorem Kr{f:Nat}{fn:Func}{m:Option PV}{i:CIn}{o:z3y}(hf:Tryz.prog.funcs[f]?=some fn)(ann:Ann)(h:S (some ()) fun _=>exR TB CT ann (Con Tryz.prog GG) (recP m) (z2l fn) (entry i) (fin TB ann [] o))(e:okC ann fn.ntmps (z2l fn)=true:=by kernel_rfl)(g:fn.body=some (z2l fn):=by exact rfl)(ent:∀args w,(callFunc f args).run Tryz.prog w=.ok (.enter f args) w:=by exact fun _ _=>rfl)(b:fn.results=#[]:=by exact rfl)(hl:yn i.vs.length fn.ntmps=true:=by exact rfl)(d:ann.nb=i.B.length:=by exact rfl)(a:yn i.B.length 1000=true:=by exact rfl)(c:z5k (fun _=>False) (fun _=>False) (recP m):=by exact by repeat' first|exact trivial|apply And.intro):ConD Tryz.prog GG f m i o:=ConD.of TBG ent hf g rfl b e hl d a c (h () rfl)
theorem Kz{α:Type}{y:Option α}{f:Nat}{fn:Func}{i:CIn}{o:α→z3y}(hf:Tryz.prog.funcs[f]?=some fn)(ann:Ann)(b:List (Nat×Dg))(h:S y fun r=>exY TB CT ann b (Con Tryz.prog GG) (z2l fn) (entry i) (fin TB ann fn.results.toList (o r)))(e:okY ann b fn.ntmps (z2l fn)=true:=by kernel_rfl)(g:fn.body=some (z2l fn):=by exact rfl)(ent:∀args w,(callFunc f args).run Tryz.prog w=.ok (.enter f args) w:=by exact fun _ _=>rfl)(d:ym f NF=false:=by exact rfl)(hl:yn i.vs.length fn.ntmps=true:=by exact rfl)(c:ann.nb=i.B.length:=by exact rfl)(a:yn i.B.length 1000=true:=by exact rfl):Qs y f i o:=Con.oY TBG hf ann b _ h e g ent yy.symm d hl c a
end
end Go.Proofs.YtfdoofnmjehecaaGreatDoor
