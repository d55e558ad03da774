import Derived.Shelf.SlIter.Sorted
import Derived.Test.YtmmgdladipbedaaGreatDoorPaT
import Derived.WalkKit
import Derived.OwnWalkIn
import Derived.TacticsInMore
import Derived.LoopNIn
import Derived.LoopIn
import Derived.Test.YtmmgdladipbedaaGreatDoorProg
import Derived.Test.YtmmgdladipbedaaGreatDoorLkH
import Derived.Test.YtmmgdladipbedaaGreatDoorPeS6
set_option linter.all false
section
namespace Go.Pe
open _root_.List renaming append_toArray → ya, cons_append → yb, length_cons → yc, length_nil → yd, nil_append → ye, push_toArray → yf, size_toArray → yg
open _root_.Nat renaming reduceAdd → yh, reduceSub → yi
open _root_.Array renaming replicate_succ → yj, replicate_zero → yk
open Go.Proofs Go.RowKit Go.Maps Go.Sort Go.Shelf
variable {P:Program} {ρ:Ren}
def zxi (F:Fence) (n:Nat) (P:Program) (g:Nat) (lb:Array Value) (enc:List UInt8→Value) (zs:List (List UInt8)) (w:World):Prop :=
 ∀ (l:Nat) (J:List (List UInt8)→World→Prop) (W:World),Below w.heap.size w W→AbidesFrom W.heap.size J →
  (∀ pre x W1,J pre W1→pre.length<zs.length→YieldAt F (n - 1) P l #[enc x] W1 fun e W'=>e = .returned (.bool true)∧J (pre++[x]) W'∧KeepsWalks W1 W') →
  (∀ pre W1,J pre W1→Below w.heap.size w W1)→J [] W →
  CallsIn F n P g (#[.func (.yield l) #[] #[]]++lb) W fun e W'=>(∃ v,e = .returned v)∧∃ xs,xs=zs∧J xs W'
set_option maxRecDepth 100000 in
set_option maxHeartbeats 2000000 in
theorem zio (L:SlLaysZ.n11 P ρ) (F:Fence) (n:Nat) (h11:F.fn (ρ.f 11)) (hro:F.round=none) (hn:2≤n) (g:Nat) (lb:Array Value) (hFg:F.fn g) (eg:∀ args w,(callFunc g args).run P w = .ok (.enter g args) w)
  (zs:List (List UInt8)) (hN:zs.length≤maxLen) (hNb:zs.length*16≤140737488355328) (w:World) (hseq:zxi F (n - 1) P g lb encStr zs w) :
  CallsIn F n P (ρ.f 11) #[.slice none 0 0,.func (.func g) #[] lb] w fun e w'=>∃ (v:Value) (ss:List (List UInt8)),e = .returned v∧ss=zs∧w'.ownsRow w.heap.size (ρ.t 26) 1 v ss.length (ss.map encStr)∧(v = .slice none 0 0↔ss=[])∧Below w.heap.size w w':=by
 have h1:1≤n:=by omega
 have hne:ρ.t 24≠ρ.t 26:=fun e=>by have h:=L.t24;rw [e,L.t26] at h;cases h
 have mixed:=L.mixed;have t0:=L.t0;have a0:=L.a0;have z0:=L.z0;have v0:=L.v0;have t24:=L.t24;have a24:=L.a24;have z24:=L.z24;have v24:=L.v24;have t26:=L.t26;have a26:=L.a26;have z26:=L.z26;have v26:=L.v26;have t28:=L.t28;have a28:=L.a28;have z28:=L.z28;have v28:=L.v28
 have u0:=run_underlying L.t0;have u24:=run_underlying L.t24;have u26:=run_underlying L.t26;have u28:=run_underlying L.t28
 obtain ⟨_,_,FG⟩:=L.f11
 refine callsIn_of_wp_marks FG rfl h11 ?_ hro
 simp only [SlBodyZ.n11_ntmps ρ,yg,yc,yd,yh,yi,yj,yk,yf,ya,ye,yb]
 gi_wp2
 refine wpIn_rangeFunc ?_
 intro fn hfn
 rw [hro]
 obtain ⟨W0,hW0⟩:∃ W0,w.alloc (.cells #[.slice none 0 0] (ρ.t 24))=W0:=⟨_,rfl⟩
 have hs0:W0.heap.size=w.heap.size+1:=by rw [←hW0];simp
 have hv0:W0.heap[w.heap.size]? = some (.cells #[.slice none 0 0] (ρ.t 24) (0,0)):=by rw [←hW0];exact World.alloc_heap_new w _
 have hb0:Below w.heap.size w W0:=by rw [←hW0];exact (Below.refl _ w).alloc (Nat.le_refl _) _
 rw [hW0]
 obtain ⟨W1,hW1⟩:∃ W1,(W0.alloc (.deferred (some []))).alloc (.loop (AnyZ.apRec ρ fn (.func (.func g) #[] lb) w.heap.size W0.heap.size .ready none))=W1:=⟨_,rfl⟩
 have hold:∀ k,k<W0.heap.size→W1.heap[k]? = W0.heap[k]?:=fun k hk=>by
  rw [←hW1];exact (Below.heap_alloc _ _ k (by simp;omega)).trans (Below.heap_alloc _ _ k hk)
 have hb1:Below w.heap.size w W1:=by rw [←hW1];exact (hb0.alloc hb0.size _).alloc (by have:=hb0.size;simp;omega) _
 have hs1:W1.heap.size=W0.heap.size+2:=by rw [←hW1];simp
 have hM:AnyZ.ApAt ρ w fn (.func (.func g) #[] lb) w.heap.size (W0.heap.size+1) W0.heap.size [] W1 :=
  ⟨⟨_,(hold w.heap.size (by omega)).trans hv0,⟨rfl,.inl ⟨rfl,rfl⟩⟩,by simp⟩,
   by rw [←hW1];have:=World.alloc_heap_new (W0.alloc (.deferred (some []))) (.loop (AnyZ.apRec ρ fn (.func (.func g) #[] lb) w.heap.size W0.heap.size .ready none));rwa [World.size_alloc] at this,
   by rw [←hW1];exact (Below.heap_alloc _ _ _ (by simp)).trans (World.alloc_heap_new W0 _),hb1⟩
 refine ⟨W0.heap.size+1,[{ target:=.collected W0.heap.size,args := #[] }],W1,{ target:=.fn (.func g) lb,args := #[.func (.yield (W0.heap.size+1)) #[] #[]] },W1,g,
  #[.func (.yield (W0.heap.size+1)) #[] #[]]++lb,W1,?_,?_,?_,?_,fun _=>h1,?_⟩
 ·rw [←hW1];exact run_enterLoop_outer _ _ _ _ _
 ·simp [resolve,go_sem]
 ·intro f' hf';simp [Target.leads] at hf';subst hf';exact hFg
 ·simp [invoke,go_sem,eg]
 ·refine (hseq (W0.heap.size+1) (AnyZ.ApAt ρ w fn (.func (.func g) #[] lb) w.heap.size (W0.heap.size+1) W0.heap.size) W1 hb1 (AnyZ.ap_abides ρ _ _ _ _ _ _ _ hb1.size)
   (fun pre x W hJ hl=>AnyZ.apYield { L with } F (n - 1 - 1) w fn hfn _ w.heap.size (W0.heap.size+1) W0.heap.size (by omega) (by omega) (by omega) (Nat.le_refl _) (by omega) zs.length hN hNb pre x W hJ hl) (fun _ _ h=>h.below) hM).mono ?_
  rintro e W2 ⟨⟨v0,rfl⟩,ss,hS,h2⟩
  obtain ⟨v,hv,hrow,hnil⟩:=h2.box
  have hend:=run_endLoop (P:=P) h2.L (by simp [AnyZ.apRec])
  obtain ⟨W3,hW3⟩:∃ W3,W2.putObj (W0.heap.size+1) (.loop { AnyZ.apRec ρ fn (.func (.func g) #[] lb) w.heap.size W0.heap.size .ready none with state:=.exhausted })=W3:=⟨_,rfl⟩
  rw [hW3] at hend
  have hg3:W2.grownBy W3 (some (W0.heap.size+1)):=by rw [←hW3];exact grownBy_putObj_a _ _ _
  have hv3:W3.heap[w.heap.size]? = some (.cells #[v] (ρ.t 24) (0,0)):=by rw [←hW3];exact (World.putObj_heap_other (by omega)).trans hv
  have hK3:W3.heap[W0.heap.size]? = some (.deferred (some [])):=by rw [←hW3];exact (World.putObj_heap_other (by omega)).trans h2.K
  have hrow3:=hrow.kept hg3 (ownsRow_ne_a hrow h2.L (fun cur e=>by first|cases e|exact hne (Obj.cells.inj e).2.1))
  have hb3:Below w.heap.size w W3:=h2.below.grown hg3 h2.below.size (fun k e=>by cases e;omega)
  obtain ⟨hc3,hf3⟩:=cell_of_box_a hv3
  clear hW3
  refine ⟨none,W3,hend,?_⟩
  gi_wp2
  rw [←hs0]
  refine ⟨by simp,.inl ⟨_,_,rfl,run_takeDeferred hK3,?_⟩⟩
  exact ⟨_,results_tmp rfl _ _ _,v,ss,rfl,hS,hrow3.kept (grownBy_putObj_a _ _ _) (ownsRow_ne_a hrow3 hK3 (fun cur e=>by first|cases e|exact hne (Obj.cells.inj e).2.1)),hnil,hb3.grown (grownBy_putObj_a _ _ _) hb3.size (fun k e=>by cases e;omega)⟩
set_option maxRecDepth 100000 in
set_option maxHeartbeats 2000000 in
theorem zgz (L:SlLaysZ.n8 P ρ) (F:Fence) (n:Nat) (h8:F.fn (ρ.f 8)) (h11:F.fn (ρ.f 11)) (hro:F.round=none) (hn:3≤n) (g:Nat) (lb:Array Value) (hFg:F.fn g) (eg:∀ args w,(callFunc g args).run P w = .ok (.enter g args) w)
  (zs:List (List UInt8)) (hN:zs.length≤maxLen) (hNb:zs.length*16≤140737488355328) (w:World) (hseq:zxi F (n - 1 - 1) P g lb encStr zs w) :
  CallsIn F n P (ρ.f 8) #[.func (.func g) #[] lb] w fun e w'=>∃ (v:Value) (ss:List (List UInt8)),e = .returned v∧ss=zs∧w'.ownsRow w.heap.size (ρ.t 26) 1 v ss.length (ss.map encStr)∧(v = .slice none 0 0↔ss=[])∧Below w.heap.size w w':=by
 have h1:1≤n:=by omega
 have e11:∀ args w,(callFunc (ρ.f 11) args).run P w = .ok (.enter (ρ.f 11) args) w:=L.f11.enters rfl
 have mixed:=L.mixed;have t0:=L.t0;have a0:=L.a0;have z0:=L.z0;have v0:=L.v0;have t24:=L.t24;have a24:=L.a24;have z24:=L.z24;have v24:=L.v24;have t26:=L.t26;have a26:=L.a26;have z26:=L.z26;have v26:=L.v26;have t28:=L.t28;have a28:=L.a28;have z28:=L.z28;have v28:=L.v28
 have u0:=run_underlying L.t0;have u24:=run_underlying L.t24;have u26:=run_underlying L.t26;have u28:=run_underlying L.t28
 obtain ⟨_,_,FG⟩:=L.f8
 refine callsIn_of_wp FG rfl h8 ?_ hro
 simp only [SlBodyZ.n8_ntmps ρ,yg,yc,yd,yh,yi,yj,yk,yf,ya,ye,yb]
 gi_wp2_with (gi_at_fn (ρ.f 11);refine (zio { L with } F (n - 1) h11 hro (by omega) g lb hFg eg zs hN hNb _ hseq).mono ?_;rintro e w' ⟨v,ss,rfl,hS,hrow,hnil,hb⟩)
 go_ret
 exact ⟨v,ss,rfl,hS,hrow,hnil,hb⟩
set_option maxRecDepth 100000 in
set_option maxHeartbeats 2000000 in
theorem zbx (L:SlLaysZ.n6 P ρ) (F:Fence) (n:Nat) (h6:F.fn (ρ.f 6)) (h8:F.fn (ρ.f 8)) (h9:F.fn (ρ.f 9)) (h11:F.fn (ρ.f 11)) (hro:F.round=none) (hn:4≤n) (hsort:AnyZ.SortsIn P ρ F (n - 1)) (e9:∀ args w,(callFunc (ρ.f 9) args).run P w = .ok (.enter (ρ.f 9) args) w) (g:Nat) (lb:Array Value) (hFg:F.fn g) (eg:∀ args w,(callFunc g args).run P w = .ok (.enter g args) w)
  (zs:List (List UInt8)) (hN:zs.length≤maxLen) (hNb:zs.length*16≤140737488355328) (w:World) (hseq:zxi F (n - 1 - 1 - 1) P g lb encStr zs w) :
  CallsIn F n P (ρ.f 6) #[.func (.func g) #[] lb] w fun e w'=>∃ (v:Value) (ss:List (List UInt8)),e = .returned v∧ss=zs ∧
   w'.ownsRow w.heap.size (ρ.t 26) 1 v ss.length ((ss.mergeSort (fun x y=>decide (x≤y))).map encStr)∧(v = .slice none 0 0↔ss=[])∧Below w.heap.size w w':=by
 have h1:1≤n:=by omega
 have e8:∀ args w,(callFunc (ρ.f 8) args).run P w = .ok (.enter (ρ.f 8) args) w:=L.f8.enters rfl
 have mixed:=L.mixed;have t0:=L.t0;have a0:=L.a0;have z0:=L.z0;have v0:=L.v0;have t24:=L.t24;have a24:=L.a24;have z24:=L.z24;have v24:=L.v24;have t26:=L.t26;have a26:=L.a26;have z26:=L.z26;have v26:=L.v26;have t28:=L.t28;have a28:=L.a28;have z28:=L.z28;have v28:=L.v28
 have u0:=run_underlying L.t0;have u24:=run_underlying L.t24;have u26:=run_underlying L.t26;have u28:=run_underlying L.t28
 obtain ⟨_,_,FG⟩:=L.f6
 refine callsIn_of_wp FG rfl h6 ?_ hro
 simp only [SlBodyZ.n6_ntmps ρ,yg,yc,yd,yh,yi,yj,yk,yf,ya,ye,yb]
 gi_wp2_with (gi_at_fn (ρ.f 8);refine (zgz { L with } F (n - 1) h8 h11 hro (by omega) g lb hFg eg zs hN hNb _ hseq).mono ?_;rintro e W ⟨v,ss,rfl,rfl,hrow,hnil,hb⟩)
 rcases hrow.2 with ⟨rfl,hz⟩|⟨gb,cap,cur,rfl,hbase,hgb,r1,r2,r3,r4⟩
 ·-- nothing came: the nil slice is sorted and handed back
  have hss:ss=[]:=List.eq_nil_of_length_eq_zero hz
  subst hss
  gi_wp2_with (gi_at_fn (ρ.f 9);refine (hsort.2 none 0 W).mono ?_;rintro e w' ⟨rfl,rfl⟩)
  go_ret
  exact ⟨.slice none 0 0,[],rfl,rfl,by simpa using hrow,by simp,hb⟩
 ·have hH:Holds encStr W gb 0 ss.toArray:=holds_of_block hgb (by simpa using r4)
  have hgl:gb<W.heap.size:=(Array.getElem?_eq_some_iff.1 hgb).1
  have hsz:ss.length<4611686018427387904:=by omega
  have cS:=hsort.1 gb 0 cap ss W hH hgl hsz
  gi_wp2_with (gi_at_fn (ρ.f 9);refine cS.mono ?_;rintro e w' ⟨rfl,nn,os,rfl⟩)
  go_ret
  exact ⟨_,ss,rfl,rfl,ownsRow_sorted (by simp) hbase hgb r1 r2 r3,hnil,hb.grown (grownBy_sorted _) hb.size (fun j hj=>by cases hj;exact hbase)⟩
end Go.Pe
end
section
namespace Go.Proofs.YtmmgdladipbedaaGreatDoor
open _root_.List renaming append_toArray → ya, cons_append → yb, length_cons → yc, length_nil → yd, nil_append → ye, push_toArray → yf, size_toArray → yg
open _root_.Nat renaming reduceAdd → yh, reduceSub → yi
open _root_.Array renaming replicate_succ → yj, replicate_zero → yk
open Go.Proofs Go.Lk Go.Pe Go.RowKit Go.Shelf Go.Maps Go.Sort
attribute [local go_sem] Oper.semAt_some
theorem take_succ (zs:List (List UInt8)) {k:Nat} (h:k<zs.length):zs.take (k+1)=zs.take k++[zs[k]?.getD []]:=by
 rw [List.take_add_one]
 simp [h]
set_option maxRecDepth 100000 in
set_option maxHeartbeats 2000000 in
theorem zv5 (F:Fence) (n:Nat) (h7:F.fn 185) (hro:F.round=none) (hn:1≤n) (l Bs n₀ b off cap:Nat) (zs:List (List UInt8)) (hreach:zs.length*16≤140737488355328) (hb:b<n₀) (w0:World) (J:List (List UInt8)→World→Prop)
  (hY:∀ pre x W,J pre W→pre.length<zs.length→YieldAt F (n - 1) Tryz.prog l #[encStr x] W fun e W'=>e = .returned (.bool true)∧J (pre++[x]) W'∧KeepsWalks W W')
  (hJB:∀ pre W,J pre W→Below n₀ w0 W)
  (W:World) (hBs:W.cell? ⟨Bs,0,none⟩=some (.slice (some ⟨b,off,none⟩) zs.length cap)) (hc:∀ j,j<zs.length→w0.cell? ⟨b,off+j,none⟩=some (encStr (zs[j]?.getD []))) (h0:J [] W) :
  CallsIn F n Tryz.prog 185 #[.func (.yield l) #[] #[],.pointer (some ⟨Bs,0,none⟩)] W fun e W'=>(∃ v,e = .returned v)∧∃ xs,xs=zs∧J xs W':=by
 refine callsIn_of_wp Tryz.func185 rfl h7 ?_ hro
 simp only [Tryz.ntmps185,yg,yc,yd,yh,yi,yj,yk,yf,ya,ye,yb]
 gi_wp2
 gi_loopw [7] (fun i wr=>∃ k:Nat,k≤zs.length∧i = .int .i64 k∧J (zs.take k) wr)
  (fun i _=>zs.length - (intOf i).toNat)
 case atStart=>exact ⟨0,Nat.zero_le _,rfl,h0⟩
 case round =>
  obtain ⟨k,hk,rfl,hJs⟩:=hrel
  have hcx:k<zs.length→wr.cell? ⟨b,off+k,none⟩=some (encStr (zs[k]?.getD [])):=fun h=>((hJB _ _ hJs).cell (p:=⟨b,off+k,none⟩) hb).trans (hc k h)
  by_cases hlt:k<zs.length
  ·have hcx':=hcx hlt
   have hts:=take_succ zs hlt
   obtain ⟨x,hx⟩:∃ x,zs[k]?.getD []=x:=⟨_,rfl⟩
   rw [hx] at hcx' hts
   clear hcx hx
   obtain ⟨fn,tmps,assign,body,hy,hR⟩:=hY _ x wr hJs (by rw [List.length_take];omega)
   gi_wp2
   refine hR.mono ?_
   rintro e W3 ⟨rfl,hJ3,hk3⟩
   gi_wp2
   go_roundw
   case rel=>exact ⟨k+1,by omega,by simp,by rw [hts];exact hJ3⟩
   case measure=>simp [intOf];omega
  ·obtain rfl:k=zs.length:=by omega
   gi_wp2
   go_end0
   exact ⟨⟨_,rfl⟩,zs,rfl,by rw [List.take_length] at hJs;exact hJs⟩
set_option maxRecDepth 100000 in
set_option maxHeartbeats 1000000 in
theorem zix (F:Fence) (n:Nat) (h7:F.fn 185) (hro:F.round=none) (l Bs:Nat) (p:Option Addr) (J:List (List UInt8)→World→Prop) (W:World) (hBs:W.cell? ⟨Bs,0,none⟩=some (.slice p 0 0)) (h0:J [] W) :
  CallsIn F n Tryz.prog 185 #[.func (.yield l) #[] #[],.pointer (some ⟨Bs,0,none⟩)] W fun e W'=>(∃ v,e = .returned v)∧J [] W':=by
 refine callsIn_of_wp Tryz.func185 rfl h7 ?_ hro
 simp only [Tryz.ntmps185,yg,yc,yd,yh,yi,yj,yk,yf,ya,ye,yb]
 gi_wp2
 gi_loopw [7] (fun i wr=>i = .int .i64 0∧J [] wr) (fun _ _=>0)
 case atStart=>exact ⟨rfl,h0⟩
 case round =>
  obtain ⟨rfl,hJs⟩:=hrel
  gi_wp2
  go_end0
  exact ⟨⟨_,rfl⟩,hJs⟩
set_option maxHeartbeats 1000000 in
theorem values (F:Fence) (n:Nat) (h5:F.fn 115) (hro:F.round=none) (a:Option Addr) (len cap:Nat) (w:World) :
  CallsIn F n Tryz.prog 115 #[.slice a len cap] w fun e w'=>e = .returned (.func (.func 185) #[] #[.pointer (some ⟨w.heap.size,0,none⟩)])∧w'=w.alloc (.cells #[.slice a len cap] 46):=by
 refine callsIn_of_wp Tryz.func115 rfl h5 ?_ hro
 simp only [Tryz.ntmps115,yg,yc,yd,yh,yi,yj,yk,yf,ya,ye,yb]
 gi_wp2
 go_ret
 exact ⟨rfl,rfl⟩
theorem zx4 (m:Nat):AnyZ.SortsIn Tryz.prog Tryz.z3w Fence.wide m :=
 ⟨fun blk off cap ss W hH hblk hsz=>callsIn_wide.2 (Any.slices_Sort_string Tryz.znq blk off cap ss W hH hblk hsz),
  fun p cap W=>callsIn_wide.2 (Any.slices_Sort_string_none Tryz.znq p cap W)⟩
def za1 (w:World) (v:Value) (zs:List (List UInt8)):Prop :=
 (∃ p,v = .slice p 0 0∧zs=[])∨∃ b off cap,v = .slice (some ⟨b,off,none⟩) zs.length cap∧b<w.heap.size∧∀ j,j<zs.length→w.cell? ⟨b,off+j,none⟩=some (encStr (zs[j]?.getD []))
theorem za0 (w:World) (n:Nat) (hn:1≤n) (a:Option Addr) (len cap:Nat) (zs:List (List UInt8)) (hreach:zs.length*16≤140737488355328) (h:za1 w (.slice a len cap) zs) :
  zxi Fence.wide n Tryz.prog 185 #[.pointer (some ⟨w.heap.size,0,none⟩)] encStr zs (w.alloc (.cells #[.slice a len cap] 46)):=fun l J W hW hJ hY hJB h0=>by
 have hnew:(w.alloc (.cells #[.slice a len cap] 46)).cell? ⟨w.heap.size,0,none⟩=some (.slice a len cap):=by simp
 have hBs:=(hW.cell (p:=⟨w.heap.size,0,none⟩) (by simp)).trans hnew
 rcases h with ⟨p,e,rfl⟩|⟨b,off,cap',e,hb,hc⟩
 ·cases e
  exact (zix Fence.wide n trivial rfl l w.heap.size _ J W hBs h0).mono fun e W' ⟨he,hj⟩=>⟨he,_,rfl,hj⟩
 ·cases e
  refine zv5 Fence.wide n trivial rfl hn l w.heap.size _ b off cap zs hreach (by simp;omega) (w.alloc (.cells #[.slice (some ⟨b,off,none⟩) zs.length cap] 46)) J hY hJB W hBs (fun j hj => ?_) h0
  exact ((Below.refl w.heap.size w).alloc (Nat.le_refl _) _).cell (p:=⟨b,off+j,none⟩) hb |>.trans (hc j hj)
set_option maxRecDepth 100000 in
set_option maxHeartbeats 2000000 in
theorem zm0 (w:World) (a:Option Addr) (len cap:Nat) (zs:List (List UInt8)) (hreach:zs.length*16≤140737488355328) (hlen:len=zs.length) (h:za1 w (.slice a len cap) zs) :
  Calls Tryz.prog 224 #[.slice a len cap] w fun e w'=>e = .returned (.bool (decide (((Lib.compact (zs.mergeSort fun x y=>decide (x≤y))).length:Int)=zs.length)))∧Below w.heap.size w w':=by
 refine (callsIn_wide (n:=6)).1 ?_
 subst hlen
 obtain ⟨N,hN⟩:∃ N,(Lib.compact (zs.mergeSort fun x y=>decide (x≤y))).length=N:=⟨_,rfl⟩
 rw [hN]
 have cS:=zbx (ρ:=Tryz.z3w) Tryz.zh4 Fence.wide 5 trivial trivial trivial trivial rfl (by omega) (zx4 _) (enters_of Tryz.func184 (by kernel_rfl) rfl) 185 #[.pointer (some ⟨w.heap.size,0,none⟩)] trivial (enters_of Tryz.func185 (by kernel_rfl) rfl) zs (by unfold maxLen;omega) (by omega) _ (za0 w 2 (by omega) a zs.length cap zs hreach h)
 change CallsIn _ _ Tryz.prog 114 _ _ _ at cS
 have hf69:Fence.wide.fn 115:=trivial
 have hf68:Fence.wide.fn 114:=trivial
 have hf70:Fence.wide.fn 116:=trivial
 refine callsIn_of_wp Tryz.func224 rfl trivial ?_ rfl
 simp only [Tryz.ntmps224,yg,yc,yd,yh,yi,yj,yk,yf,ya,ye,yb]
 gi_wp2_with (first
  | (gi_at_call 115;refine (values Fence.wide 5 trivial rfl a zs.length cap w).mono ?_;rintro e w' ⟨rfl,rfl⟩)
  | (gi_at_call 114;refine cS.mono ?_;rintro e w1 ⟨v,ss,rfl,hS,hrow,hnil,hb⟩;subst ss))
 have b1:Below w.heap.size w w1:=((Below.refl _ w).alloc (Nat.le_refl _) _).trans (hb.mono (by simp))
 rcases hrow.2 with ⟨rfl,hz⟩|⟨gb,cap2,cur,rfl,hbase,hgb,r1,r2,r3,r4⟩
 ·obtain rfl:zs=[]:=List.eq_nil_of_length_eq_zero (by simpa using hz)
  gi_wp2_with (gi_at_call 116;refine (callsIn_wide.2 (Any.slices_Compact_string_empty Tryz.zee none 0 w1)).mono ?_;rintro e w' ⟨rfl,rfl⟩)
  go_ret
  refine ⟨?_,b1⟩
  have e0:Lib.compact (([]:List (List UInt8)).mergeSort fun x y=>decide (x≤y))=[]:=by rw [List.mergeSort_nil];rfl
  rw [e0] at hN
  subst hN
  rfl
 ·obtain ⟨ys,hys⟩:∃ ys,zs.mergeSort (fun x y=>decide (x≤y))=ys:=⟨_,rfl⟩
  have hyl:ys.length=zs.length:=by rw [←hys];exact List.length_mergeSort _
  rw [hys] at hN r4
  have hH:Holds encStr w1 gb 0 ys.toArray:=holds_of_block hgb (by rw [hyl];simpa using r4)
  have cC:=Any.slices_Compact_string Tryz.zee gb 0 cap2 ys w1 hH (by omega) (by omega)
  rw [hyl,hN] at cC
  gi_wp2_with (gi_at_call 116;refine (callsIn_wide.2 cC).mono ?_;rintro e w' ⟨rfl,q,rfl⟩)
  go_ret
  refine ⟨rfl,?_⟩
  have hg:w1.grownBy (putRow encStr (Sort.ahead w1 q) gb 0 (Lib.compact ys++List.replicate (ys.length - (Lib.compact ys).length) []).toArray) (some gb):=by
   refine ⟨rfl,rfl,rfl,by simp,fun k hk hne => ?_⟩
   have:gb≠k:=fun e=>hne (by rw [e])
   simp [putRow,mapBlock,Sort.ahead,Array.getElem?_modify,this]
  have:=b1.grown hg b1.size (fun j hj=>by cases hj;have:=hbase;simp at this;omega)
  rw [hyl,hN] at this
  exact this
end Go.Proofs.YtmmgdladipbedaaGreatDoor
end
section
namespace Go.Proofs.YtmmgdladipbedaaGreatDoor
open _root_.List renaming toArray → ya
open _root_.Nat renaming le_trans → yb
open Go.Lk Go.Pe Go.RowKit
variable [Lb]
theorem zn9:fld Tryz.prog 195 0=some (0,false,1):=by kernel_rfl
theorem zke:shp Tryz.prog 25=some (false,1):=by kernel_rfl
theorem zoz:shp Tryz.prog 195=some (true,1):=by kernel_rfl
theorem ziy:zer Tryz.prog 195=some (Value.agg #[Value.int .i64 0]):=by kernel_rfl
theorem zqc:fld Tryz.prog 67 0=some (0,false,1):=by kernel_rfl
theorem zsx:shp Tryz.prog 67=some (true,1):=by kernel_rfl
theorem zpd:zer Tryz.prog 67=some (Value.agg #[Value.int .i64 0]):=by kernel_rfl
set_option maxRecDepth 1000000
theorem C.zkv (w0:World) (b0:Nat):CallsD Tryz.prog 125 (ya [Value.pointer (some ⟨b0,0,none⟩)]) .returning w0 (fun e u w'=>e = .returned (.tuple #[])∧u = .returning∧Ext z0h w0 w'):=by
 have B0:Bd z0h w0:=fun _ h=>h.elim
 have X0:=Ext.refl z0h w0
 refine (z84 (R:=fun e w'=>e = .returned (.tuple #[])∧Ext z0h w0 w') .returning .returning Tryz.func125 rfl 14 rfl rfl ?_).mono (fun e u w' h=>⟨h.2.1,h.1,h.2.2⟩)
 refine TWR.seq ?_
 refine TWR.recover rfl (.inl ⟨rfl,rfl,rfl⟩) rfl rfl rfl rfl ?_
 refine OW.val rfl rfl rfl (EX.zuv rfl Tryz.underlying195 rfl ziy rfl) ?_
 refine OW.move rfl rfl rfl rfl rfl ?_
 refine OW.extract rfl rfl rfl rfl rfl rfl ?_
 refine OW.extract rfl rfl rfl rfl rfl rfl ?_
 refine OW.alloc rfl rfl rfl rfl ziy (cs:=[Value.int .i64 0]) rfl ?_
 intro b1 w2 hb3 x4 l5
 have t6:=Tr.z7b (O:=z0h) x4 (fun _ _ h=>h.elim) l5
 have B8:=(B0.ext x4).ins hb3.lt
 have X7:=X0.step x4 (fun _ _ h=>h.elim)
 have g9:w0.heap.size≤b1:=yb X0.size l5
 refine OW.store rfl rfl rfl zoz rfl rfl (vs:=[Value.int .i64 0]) rfl rfl hb3 rfl (z6n rfl z97) (cs':=[Value.int .i64 0]) rfl ?_
 intro w10 hb11 x12
 have t13:=Tr.z2p (O:=(Ins z0h b1)) x12 (fun _ _ h=>by cases h;exact (Or.inl rfl))
 have B15:=B8.ext x12
 have X14:=X7.step x12 (fun y hy h=>absurd hy (by cases h;have:=g9;omega))
 refine OW.assign rfl rfl rfl rfl rfl ?_
 refine OW.done (TW.seq (TW.region ?_))
 refine OW.move rfl rfl rfl rfl rfl ?_
 refine OW.done (TW.zja rfl (TW.skip ?_))
 exact TW.fin (Out.unit rfl) ⟨rfl,X14⟩
theorem C.zku (w0:World) (b0:Nat) (c0:Value) (e0:Int) (hb0:z0r w0 b0 25 [c0]):CallsD Tryz.prog 125 (ya [Value.pointer (some ⟨b0,0,none⟩)]) (.panicking [{ v:=Value.iface 195 (Value.agg (ya [Value.int .i64 e0])),recovered:=false }]) w0 (fun e u w'=>e = .returned (.tuple #[])∧u=(.panicking [{ v:=Value.iface 195 (Value.agg (ya [Value.int .i64 e0])),recovered:=true }])∧z0r w' b0 25 [Value.int .i64 e0]∧Ext (At b0) w0 w'):=by
 have B0:Bd (At b0) w0:=fun x h=>by cases h;exact hb0.lt
 have X0:=Ext.refl (At b0) w0
 refine (z84 (R:=fun e w'=>e = .returned (.tuple #[])∧z0r w' b0 25 [Value.int .i64 e0]∧Ext (At b0) w0 w') (.panicking [{ v:=Value.iface 195 (Value.agg (ya [Value.int .i64 e0])),recovered:=false }]) (.panicking [{ v:=Value.iface 195 (Value.agg (ya [Value.int .i64 e0])),recovered:=true }]) Tryz.func125 rfl 14 rfl rfl ?_).mono (fun e u w' h=>⟨h.2.1,h.1,h.2.2⟩)
 refine TWR.seq ?_
 refine TWR.recover rfl (.inr ⟨[],rfl,rfl⟩) rfl rfl rfl rfl ?_
 refine OW.val rfl rfl rfl (EX.zuw rfl Tryz.underlying195 rfl rfl) ?_
 refine OW.move rfl rfl rfl rfl rfl ?_
 refine OW.extract rfl rfl rfl rfl rfl rfl ?_
 refine OW.extract rfl rfl rfl rfl rfl rfl ?_
 refine OW.alloc rfl rfl rfl rfl ziy (cs:=[Value.int .i64 0]) rfl ?_
 intro b1 w2 hb3 x4 l5
 have t6:=Tr.z7b (O:=(At b0)) x4 (fun _ _ h=>h.elim) l5
 have B8:=(B0.ext x4).ins hb3.lt
 have X7:=X0.step x4 (fun _ _ h=>h.elim)
 have g9:w0.heap.size≤b1:=yb X0.size l5
 have n10:b0≠b1:=by have:=hb0.lt;omega
 have hb11:=(hb0.keep x4 (fun h=>h))
 refine OW.store rfl rfl rfl zoz rfl rfl (vs:=[Value.int .i64 e0]) rfl rfl hb3 rfl (z6n rfl z97) (cs':=[Value.int .i64 e0]) rfl ?_
 intro w12 hb13 x14
 have t15:=Tr.z2p (O:=(Ins (At b0) b1)) x14 (fun _ _ h=>by cases h;exact (Or.inl rfl))
 have B17:=B8.ext x14
 have X16:=X7.step x14 (fun y hy h=>absurd hy (by cases h;have:=g9;omega))
 refine OW.assign rfl rfl rfl rfl rfl ?_
 refine OW.done (TW.seq (TW.region ?_))
 refine OW.move rfl rfl rfl rfl rfl ?_
 refine OW.done (TW.zmy rfl (TW.region ?_))
 refine OW.move rfl rfl rfl rfl rfl ?_
 refine OW.fieldAddr rfl rfl rfl rfl zn9 rfl ?_
 refine OW.zi6 rfl rfl rfl rfl zke rfl hb13 rfl ?_
 refine OW.nilCheck rfl rfl rfl rfl rfl ?_
 have hb18:=(hb11.keep x14 n10)
 refine OW.store rfl rfl rfl zke rfl rfl (vs:=[Value.int .i64 e0]) rfl rfl hb18 rfl (z6n rfl z97) (cs':=[Value.int .i64 e0]) rfl ?_
 intro w19 hb20 x21
 have t22:=Tr.z2p (O:=(Ins (At b0) b1)) x21 (fun _ _ h=>by cases h;exact (Or.inr (rfl:At b0 b0)))
 have B24:=B17.ext x21
 have X23:=X16.step x21 (fun y hy h=>h)
 refine OW.done ?_
 have hb25:=(hb13.keep x21 (Ne.symm n10))
 exact TW.fin (Out.unit rfl) ⟨rfl,hb20,X23⟩
theorem C.zs5:zff Tryz.prog 125 195 .i64 25:=⟨fun _ _=>rfl,C.zkv,C.zku⟩
theorem C.zch (w0:World) (b0:Nat):CallsD Tryz.prog 44 (ya [Value.pointer (some ⟨b0,0,none⟩)]) .returning w0 (fun e u w'=>e = .returned (.tuple #[])∧u = .returning∧Ext z0h w0 w'):=by
 have B0:Bd z0h w0:=fun _ h=>h.elim
 have X0:=Ext.refl z0h w0
 refine (z84 (R:=fun e w'=>e = .returned (.tuple #[])∧Ext z0h w0 w') .returning .returning Tryz.func44 rfl 11 rfl rfl ?_).mono (fun e u w' h=>⟨h.2.1,h.1,h.2.2⟩)
 refine TWR.seq ?_
 refine TWR.recover rfl (.inl ⟨rfl,rfl,rfl⟩) rfl rfl rfl rfl ?_
 refine OW.val rfl rfl rfl (EX.zuv rfl Tryz.underlying67 rfl zpd rfl) ?_
 refine OW.move rfl rfl rfl rfl rfl ?_
 refine OW.extract rfl rfl rfl rfl rfl rfl ?_
 refine OW.extract rfl rfl rfl rfl rfl rfl ?_
 refine OW.alloc rfl rfl rfl rfl zpd (cs:=[Value.int .i64 0]) rfl ?_
 intro b1 w2 hb3 x4 l5
 have t6:=Tr.z7b (O:=z0h) x4 (fun _ _ h=>h.elim) l5
 have B8:=(B0.ext x4).ins hb3.lt
 have X7:=X0.step x4 (fun _ _ h=>h.elim)
 have g9:w0.heap.size≤b1:=yb X0.size l5
 refine OW.store rfl rfl rfl zsx rfl rfl (vs:=[Value.int .i64 0]) rfl rfl hb3 rfl (z6n rfl z97) (cs':=[Value.int .i64 0]) rfl ?_
 intro w10 hb11 x12
 have t13:=Tr.z2p (O:=(Ins z0h b1)) x12 (fun _ _ h=>by cases h;exact (Or.inl rfl))
 have B15:=B8.ext x12
 have X14:=X7.step x12 (fun y hy h=>absurd hy (by cases h;have:=g9;omega))
 refine OW.assign rfl rfl rfl rfl rfl ?_
 refine OW.done (TW.seq (TW.region ?_))
 refine OW.move rfl rfl rfl rfl rfl ?_
 refine OW.done (TW.zja rfl (TW.skip ?_))
 exact TW.fin (Out.unit rfl) ⟨rfl,X14⟩
theorem C.zcg (w0:World) (b0:Nat) (c0:Value) (e0:Int) (hb0:z0r w0 b0 25 [c0]):CallsD Tryz.prog 44 (ya [Value.pointer (some ⟨b0,0,none⟩)]) (.panicking [{ v:=Value.iface 67 (Value.agg (ya [Value.int .i64 e0])),recovered:=false }]) w0 (fun e u w'=>e = .returned (.tuple #[])∧u=(.panicking [{ v:=Value.iface 67 (Value.agg (ya [Value.int .i64 e0])),recovered:=true }])∧z0r w' b0 25 [Value.int .i64 e0]∧Ext (At b0) w0 w'):=by
 have B0:Bd (At b0) w0:=fun x h=>by cases h;exact hb0.lt
 have X0:=Ext.refl (At b0) w0
 refine (z84 (R:=fun e w'=>e = .returned (.tuple #[])∧z0r w' b0 25 [Value.int .i64 e0]∧Ext (At b0) w0 w') (.panicking [{ v:=Value.iface 67 (Value.agg (ya [Value.int .i64 e0])),recovered:=false }]) (.panicking [{ v:=Value.iface 67 (Value.agg (ya [Value.int .i64 e0])),recovered:=true }]) Tryz.func44 rfl 11 rfl rfl ?_).mono (fun e u w' h=>⟨h.2.1,h.1,h.2.2⟩)
 refine TWR.seq ?_
 refine TWR.recover rfl (.inr ⟨[],rfl,rfl⟩) rfl rfl rfl rfl ?_
 refine OW.val rfl rfl rfl (EX.zuw rfl Tryz.underlying67 rfl rfl) ?_
 refine OW.move rfl rfl rfl rfl rfl ?_
 refine OW.extract rfl rfl rfl rfl rfl rfl ?_
 refine OW.extract rfl rfl rfl rfl rfl rfl ?_
 refine OW.alloc rfl rfl rfl rfl zpd (cs:=[Value.int .i64 0]) rfl ?_
 intro b1 w2 hb3 x4 l5
 have t6:=Tr.z7b (O:=(At b0)) x4 (fun _ _ h=>h.elim) l5
 have B8:=(B0.ext x4).ins hb3.lt
 have X7:=X0.step x4 (fun _ _ h=>h.elim)
 have g9:w0.heap.size≤b1:=yb X0.size l5
 have n10:b0≠b1:=by have:=hb0.lt;omega
 have hb11:=(hb0.keep x4 (fun h=>h))
 refine OW.store rfl rfl rfl zsx rfl rfl (vs:=[Value.int .i64 e0]) rfl rfl hb3 rfl (z6n rfl z97) (cs':=[Value.int .i64 e0]) rfl ?_
 intro w12 hb13 x14
 have t15:=Tr.z2p (O:=(Ins (At b0) b1)) x14 (fun _ _ h=>by cases h;exact (Or.inl rfl))
 have B17:=B8.ext x14
 have X16:=X7.step x14 (fun y hy h=>absurd hy (by cases h;have:=g9;omega))
 refine OW.assign rfl rfl rfl rfl rfl ?_
 refine OW.done (TW.seq (TW.region ?_))
 refine OW.move rfl rfl rfl rfl rfl ?_
 refine OW.done (TW.zmy rfl (TW.region ?_))
 refine OW.fieldAddr rfl rfl rfl rfl zqc rfl ?_
 refine OW.zi6 rfl rfl rfl rfl zke rfl hb13 rfl ?_
 have hb18:=(hb11.keep x14 n10)
 refine OW.store rfl rfl rfl zke rfl rfl (vs:=[Value.int .i64 e0]) rfl rfl hb18 rfl (z6n rfl z97) (cs':=[Value.int .i64 e0]) rfl ?_
 intro w19 hb20 x21
 have t22:=Tr.z2p (O:=(Ins (At b0) b1)) x21 (fun _ _ h=>by cases h;exact (Or.inr (rfl:At b0 b0)))
 have B24:=B17.ext x21
 have X23:=X16.step x21 (fun y hy h=>h)
 refine OW.done ?_
 have hb25:=(hb13.keep x21 (Ne.symm n10))
 exact TW.fin (Out.unit rfl) ⟨rfl,hb20,X23⟩
theorem C.zls:zff Tryz.prog 44 67 .i64 25:=⟨fun _ _=>rfl,C.zch,C.zcg⟩
end Go.Proofs.YtmmgdladipbedaaGreatDoor
end
section
set_option maxRecDepth 1000000
namespace Go.Proofs.YtmmgdladipbedaaGreatDoor
open _root_.Option renaming bind_eq_some_iff → ya
open _root_.Bool renaming and_eq_true_iff → yb
open _root_.List renaming length_map → yc
open _root_.Nat renaming le_refl → yd, lt_of_lt_of_le → ye, zero_lt_one → yf
open _root_.Array renaming getElem?_eq_some_iff → yg
open Go.Lk Go.Pe Go.Sen Go.RowKit Go.Shelf
variable [Lb]
theorem S.chk {A:Type} {b:Bool} {y:Unit→Option A} {F:A→Prop} (h:b=true→S (y ()) F):S (Go.Lk.chk b >>= y) F:=fun r hm=>by
 obtain ⟨_,h1,h2⟩:=ya.1 hm
 exact h (z86 h1) r h2
structure zzm (w:World):Prop where
 utf:Lib.Utf8Tabs 1 2 w
 max:∃ m,w.cell? ⟨0,0,none⟩=some (.int .i64 m)
def GG:GI:=⟨fun w O=>zzm w∧(∀ b,b≤2→¬O b)∧Lb.n≤w.heap.size,fun {O w O' w'} t h=>by
 obtain ⟨h,k,kl⟩:=h
 have hlt:∀ b,b≤2→b<w.heap.size:=fun b hb=>by
  have h2:∃ v,w.cell? ⟨2,0,none⟩=some v:=⟨_,(h.utf.2 0 (by decide)).1⟩
  obtain ⟨v,hv⟩:=h2
  unfold World.cell? at hv
  split at hv
  ·rename_i e
   have:=(yg.1 e).1
   simp only at this
   omega
  ·cases hv
 refine ⟨⟨zv1 t (k 1 (by decide)) (k 2 (by decide)) h.utf,?_⟩,fun b hb=>t.owned b (hlt b hb) (k b hb),Nat.le_trans kl t.size⟩
 obtain ⟨m,h1⟩:=h.max
 exact ⟨m,zds t h1 (k 0 (by decide))⟩,fun h=>h.2.2⟩
theorem C.z1p (p0:List Int):S (M.z1p p0) fun r=>Con Tryz.prog GG 208 (I.z1p p0) (O.z1p p0 r):=by
 intro r hm
 refine ⟨fun _ _=>rfl,fun w O φ α us hv hm hB hG => ?_⟩
 obtain ⟨u,us',rfl,hu,hus⟩:=hv
 have hus:us'=[]:=hus
 subst hus
 simp only [VR] at hu
 subst hu
 obtain ⟨hO,us,hbx,p,us2,rfl,hp,v,us3,rfl,hv,h3⟩:=hm.box 0 _ rfl
 have hbx:=hbx.un (by decide)
 have h3:us3=[]:=h3
 subst h3
 simp only [VR] at hp hv
 obtain ⟨rfl,hone⟩:=hv
 refine (zdw w (φ 0) p (α 0) hbx hp hone).mono fun e w' ⟨h1,h2,h3⟩ => ?_
 have hne:=hm.ab 0 0 _ rfl (yf)
 have tr:Tr O w O w':=Tr.z2p h3 fun x _ hx=>by cases hx;exact hO
 have hown:=(hm.arr 0 _ rfl).keep h3 (fun b hb hx=>hne (by rw [hb];exact congrArg some hx)) tr (fun _ h=>h)
 refine ⟨[],O,φ,α,h1,⟨rfl,⟨fun b e he => ?_,fun a e he => ?_,fun a b la lb' hn => ?_,fun a b e e' ha hb hn => ?_,fun a b e ha hb => ?_⟩,fun _ _=>rfl,yd _,fun x hx=>ye (hB x hx) h3.size,tr,fun _ hx=>hx,fun _ hx => .inl hx,h3.mono fun x _ hx => .inl ⟨0,yf,hx.symm⟩,fun b h1 h2 => ?_,fun a e x he hx => ?_⟩⟩
 ·match b,he with
  | 0,he =>
   cases he
   exact ⟨hO,_,.inl ⟨by decide,h2⟩,_,_,rfl,.inr rfl,_,[],rfl,⟨rfl,hone⟩,rfl⟩
 ·match a,he with
  | 0,he=>cases he;exact hown
 ·simp at la lb'
  omega
 ·match a,b,ha,hb with
  | 0,0,_,_=>exact (hn rfl).elim
 ·match a,ha with
  | 0,ha =>
   have:b=0:=by simpa using hb
   subst this
   exact hm.ab 0 0 _ rfl (yf)
 ·simp at h1 h2
  omega
 ·match a,he with
  | 0,he=>exact .inl ⟨0,yf,hx⟩
theorem C.z0c (p0:List UInt8):S (M.z0c p0) fun r=>Con Tryz.prog GG 153 (I.z0c p0) (O.z0c r):=by
 unfold M.z0c
 refine S.chk fun h0 => ?_
 have h0:=of_decide_eq_true h0
 intro r hm
 cases hm
 refine Con.lib (fun _ _=>rfl) fun w O φ α us hv hB hG => ?_
 obtain ⟨us1,rfl,hv1⟩:=hv.str
 obtain rfl:=hv1.nil
 refine (Any.utf8_ValidString Tryz.znr ⟨p0.toArray⟩ w (by simpa [ByteArray.size] using h0) hG.1.utf).mono ?_
 rintro e w' ⟨rfl,hb⟩
 exact ⟨[_],rfl,fun _ _ _ => .zqf _,.z3u hb⟩
theorem C.indexByte (p0:List UInt8) (p1:Int):S (M.indexByte p0 p1) fun r=>Con Tryz.prog GG 112 (I.indexByte p0 p1) (O.indexByte r):=by
 intro r hm
 cases hm
 refine Con.lib (fun _ _=>rfl) fun w O φ α us hv hB hG => ?_
 obtain ⟨us1,rfl,hv1⟩:=hv.str
 obtain ⟨us2,rfl,hv2⟩:=hv1.int
 obtain rfl:=hv2.nil
 refine (Any.strings_IndexByte Tryz.zty ⟨p0.toArray⟩ p1 w).mono ?_
 rintro e w' ⟨rfl,rfl⟩
 exact ⟨[_],rfl,fun _ _ _ => .gInt _ _,.refl _ _⟩
theorem asc {l:List UInt8} (h:(l.all fun b=>decide (b.toNat<128))=true):∀ (j:Nat) b,l[j]? = some b→b.toNat<128:=fun j b hb=>by
 have:=List.all_eq_true.1 h b (List.mem_of_getElem? hb)
 simpa using this
theorem C.trimLeft (p0 p1:List UInt8):S (M.trimLeft p0 p1) fun r=>Con Tryz.prog GG 103 (I.trimLeft p0 p1) (O.trimLeft r):=by
 unfold M.trimLeft
 intro r hm
 obtain ⟨_,hc,hm⟩:=ya.1 hm
 obtain ⟨h1,h2⟩:=yb.1 (z86 hc)
 cases hm
 refine Con.lib (fun _ _=>rfl) fun w O φ α us hv hB hG => ?_
 obtain ⟨us1,rfl,hv1⟩:=hv.str
 obtain ⟨us2,rfl,hv2⟩:=hv1.str
 obtain rfl:=hv2.nil
 refine (Any.strings_TrimLeft_laid Tryz.zu2 (by kernel_rfl) ⟨p0.toArray⟩ ⟨p1.toArray⟩ w (by simpa [ByteArray.size] using h1) (by simpa using asc h2)).mono ?_
 rintro e w' ⟨rfl,hb⟩
 exact ⟨[_],rfl,fun _ _ _ => .zxq _,.z3u hb⟩
theorem C.trim (p0 p1:List UInt8):S (M.trim p0 p1) fun r=>Con Tryz.prog GG 113 (I.trim p0 p1) (O.trim r):=by
 unfold M.trim
 intro r hm
 obtain ⟨_,hc,hm⟩:=ya.1 hm
 obtain ⟨h0,h2⟩:=yb.1 (z86 hc)
 obtain ⟨h1,h2⟩:=yb.1 h2
 cases hm
 refine Con.lib (fun _ _=>rfl) fun w O φ α us hv hB hG => ?_
 obtain ⟨us1,rfl,hv1⟩:=hv.str
 obtain ⟨us2,rfl,hv2⟩:=hv1.str
 obtain rfl:=hv2.nil
 refine (Any.strings_Trim_laid Tryz.zu1 (by kernel_rfl) ⟨p0.toArray⟩ ⟨p1.toArray⟩ w (by simpa [ByteArray.size] using h0) (by simpa [ByteArray.size] using h1) (by simpa using asc h2)).mono ?_
 rintro e w' ⟨rfl,hb⟩
 exact ⟨[_],rfl,fun _ _ _ => .zxq _,.z3u hb⟩
theorem C.z08 (p0:List Int):S (M.z08 p0) fun r=>Con Tryz.prog GG 124 (I.z08 p0) (O.z08 p0 r):=by
 unfold M.z08
 refine S.chk fun h0 => ?_
 have h0:=of_decide_eq_true h0
 intro r hm
 cases hm
 exact Con.string Tryz.znp Tryz.z4l (fun _ _=>rfl) (by decide) (by decide) (.inl rfl) p0 h0
@[reducible] def I.z42 (p0:List Int):CIn:=⟨[.ptr 0 0],[⟨141,[.z0g 0,.ref 0]⟩],[(1000005,1,(p0.map (eI .u8)))]⟩
theorem C.z42 (p0:List Int):S (M.z08 p0) fun r=>Con Tryz.prog GG 124 (I.z42 p0) (O.z08 p0 r):=by
 unfold M.z08
 refine S.chk fun h0 => ?_
 have h0:=of_decide_eq_true h0
 intro r hm
 cases hm
 exact Con.string Tryz.znp Tryz.z4l (fun _ _=>rfl) (by decide) (by decide) (.inr rfl) p0 h0
theorem za1.of {w:World} {O:Nat→Prop} {zs:List (List UInt8)} {v:Value} (h:RD w O (.sl 9 1 (zs.map eS)) v):∃ a cap,v = .slice a zs.length cap∧zs.length≤cap∧za1 w v zs:=by
 rcases h with ⟨⟨p,rfl⟩,h⟩|⟨b,off,cap,cs,fr,rfl,hcap,_,_,h1,h2,h3⟩
 ·obtain rfl:zs=[]:=by simpa using h
  exact ⟨p,0,rfl,yd _,.inl ⟨p,rfl,rfl⟩⟩
 ·refine ⟨some ⟨b,off,none⟩,cap,by simp,by simpa using hcap,.inr ⟨b,off,cap,by simp,(yg.1 h1).1,fun j hj => ?_⟩⟩
  obtain ⟨x,hx⟩:∃ x,zs[j]? = some x:=⟨zs[j],by simp [hj]⟩
  have h4:=RDl.at h3 (i:=j) (x:=eS x) (by simp [hx])
  have h5:=zub h4
  rw [cell_of_row w b (off+j) cs fr.1 fr.2 h1,hx]
  have h6:((cs.toList.drop off).drop (j*1)).take 1=[Value.string ⟨x.toArray⟩]:=h5
  have:=congrArg (fun l=>l[0]?) h6
  simpa [List.getElem?_take,List.getElem?_drop] using this
theorem C.single (p0:List (List UInt8)):S (M.single p0) fun r=>Con Tryz.prog GG 224 (I.single p0) (O.single r):=by
 unfold M.single
 refine S.chk fun h0 => ?_
 have h0:=of_decide_eq_true h0
 intro r hm
 cases hm
 refine Con.lib (fun _ _=>rfl) fun w O φ α us hv hB hG => ?_
 obtain ⟨v,us',rfl,h1,h2⟩:=hv
 obtain rfl:us'=[]:=h2
 simp only [VR] at h1
 obtain ⟨a,cap,rfl,_,h3⟩:=za1.of h1
 refine (zm0 w a _ cap p0 h0 rfl h3).mono ?_
 rintro e w' ⟨rfl,hb⟩
 exact ⟨[_],rfl,fun _ _ _ => .zqf _,.z3u hb⟩
theorem C.cut (p0 p1:List UInt8):S (M.cut p0 p1) fun r=>Con Tryz.prog GG 131 (I.cut p0 p1) (O.cut r):=by
 unfold M.cut
 refine S.chk fun h0 => ?_
 have h0:=of_decide_eq_true h0
 intro r hm
 cases hm
 refine Con.lib (fun _ _=>rfl) fun w O φ α us hv hB hG => ?_
 obtain ⟨us1,rfl,hv1⟩:=hv.str
 obtain ⟨us2,rfl,hv2⟩:=hv1.str
 obtain rfl:=hv2.nil
 obtain ⟨m,hm⟩:=hG.1.max
 refine (Any.strings_Cut Tryz.zu0 ⟨p0.toArray⟩ ⟨p1.toArray⟩ m w (by simpa [ByteArray.size] using h0) hm).mono ?_
 rintro e w' ⟨rfl,n,rfl⟩
 exact ⟨[_,_,_],rfl,fun _ _ _=>⟨_,_,rfl,rfl,_,_,rfl,rfl,_,[],rfl,rfl,rfl⟩,⟨rfl,rfl,rfl,yd _,fun _ _ _=>rfl⟩⟩
theorem C.contains (p0 p1:List UInt8):S (M.contains p0 p1) fun r=>Con Tryz.prog GG 144 (I.contains p0 p1) (O.contains r):=by
 unfold M.contains
 refine S.chk fun h0 => ?_
 have h0:=of_decide_eq_true h0
 intro r hm
 cases hm
 refine Con.lib (fun _ _=>rfl) fun w O φ α us hv hB hG => ?_
 obtain ⟨us1,rfl,hv1⟩:=hv.str
 obtain ⟨us2,rfl,hv2⟩:=hv1.str
 obtain rfl:=hv2.nil
 obtain ⟨m,hm⟩:=hG.1.max
 refine (Any.strings_Contains Tryz.ztz ⟨p0.toArray⟩ ⟨p1.toArray⟩ m w (by simpa [ByteArray.size] using h0) hm).mono ?_
 rintro e w' ⟨rfl,rfl⟩
 exact ⟨[_],rfl,fun _ _ _ => .zqf _,.refl _ _⟩
theorem C.join (p0:List (List UInt8)) (p1:List UInt8):S (M.join p0 p1) fun r=>Con Tryz.prog GG 84 (I.join p0 p1) (O.join r):=by
 unfold M.join
 refine S.chk fun h0 => ?_
 obtain ⟨h1,h2⟩:=yb.1 h0
 have h1:=of_decide_eq_true h1
 have h2:=of_decide_eq_true h2
 intro r hm
 cases hm
 refine Con.lib (fun _ _=>rfl) fun w O φ α us hv hB hG => ?_
 obtain ⟨v,us',rfl,k1,hv⟩:=hv
 obtain ⟨us2,rfl,hv2⟩:=VRs.str hv
 obtain rfl:=hv2.nil
 simp only [VR] at k1
 obtain ⟨a,cap,rfl,kc,k3⟩:=za1.of k1
 have hmap:(p0.map fun x=>(⟨x.toArray⟩:ByteArray)).map (·.data.toList)=p0:=by
  rw [List.map_map]
  conv=>rhs;rw [←List.map_id p0]
  exact List.map_congr_left fun x _=>by simp
 rcases k3 with ⟨p,e,rfl⟩|⟨b,off,cap',e,hb,hc⟩
 ·cases e
  refine (Any.strings_Join_none Tryz.zno Tryz.z4k _ _ ⟨p1.toArray⟩ w).mono ?_
  rintro e w' ⟨rfl,rfl⟩
  exact ⟨[_],rfl,fun _ _ _=>by first|exact .zxq _|exact ⟨_,[],rfl,by simp [VR,Lib.join],rfl⟩,.refl _ _⟩
 ·cases e
  have hj:=Any.strings_Join Tryz.zno Tryz.z4k b off cap (p0.map fun x=>(⟨x.toArray⟩:ByteArray)) ⟨p1.toArray⟩ w (fun j x hx=>by
   rw [List.getElem?_map] at hx
   obtain ⟨y,hy,rfl⟩:=Option.map_eq_some_iff.1 hx
   have hj:=(List.getElem?_eq_some_iff.1 hy).1
   rw [hc j hj,hy]
   rfl) hb (by simpa using h1) (by simpa using kc) (by rw [hmap];simpa using h2)
  rw [hmap] at hj
  simp only [yc] at hj
  refine hj.mono ?_
  rintro e w' ⟨rfl,hb'⟩
  exact ⟨[_],rfl,fun _ _ _=>by simpa using .zxq _,.z3u hb'⟩
theorem Con.zwe {P:Program} {G:GI} {f:Nat} {vs:List PV} {T n:Nat} {l:List (List D)} (hT:T<1000000) (ent:∀ args w,(callFunc f args).run P w = .ok (.enter f args) w)
  (h:∀ w O φ α us,VRs w O φ α vs us→Bd O w→G.p w O→Calls P f us.toArray w fun e w'=>∃ v xs,e = .returned v∧w'.ownsRow w.heap.size T n v l.length xs∧(∀ O',RDl w' O' n l xs)∧(∀ x∈xs,x.oneCell'=true)∧Ext z0h w w'):Con P G f ⟨vs,[],[]⟩ (.ok [.ref 0] [] [some (T,n,l)]):=by
 refine ⟨ent,fun w O φ α us hv hm hB hG=>(h w O φ α us hv hB hG).mono fun e w' ⟨v,xs,h1,h2,h3,h4,h5⟩ => ?_⟩
 have hnew:∀ x,v.ownBlock=some x→w.heap.size≤x∧x<w'.heap.size:=fun x hx=>by
  rcases h2.2 with ⟨rfl,_⟩|⟨g,cap,cur,rfl,k1,k2,_⟩
  ·simp [Value.ownBlock] at hx
  ·simp only [Value.ownBlock,Option.some.injEq] at hx
   subst hx
   exact ⟨k1,(yg.1 k2).1⟩
 have own:z7f w' (fun x=>O x∨v.ownBlock=some x) T n v l:=.inl ⟨hT,xs,⟨h2.1,h2.2.imp id fun ⟨g,cap,cur,e,_,r⟩=>⟨g,cap,cur,e,Nat.zero_le _,r⟩⟩,h3 _,h4,fun b hb => .inr hb⟩
 refine ⟨[v],fun x=>O x∨v.ownBlock=some x,φ,fun _=>v,h1,⟨v,[],rfl,⟨rfl,own.zzy⟩,rfl⟩,⟨fun b e he => ?_,fun a e he => ?_,fun a b la _ _ => ?_,fun a b e e' ha hb hn => ?_,fun a b e ha lb => ?_⟩,fun _ _=>rfl,yd _,fun x hx => ?_,⟨h5.size,fun c hc _=>h5.block c hc fun hh=>hh,fun c hc ho hh => ?_⟩,fun _ hx => .inl hx,fun x hx => ?_,h5.mono fun _ _ hx=>hx.elim,fun b h1 h2 => ?_,fun a e x he hx => ?_⟩
 ·simp at he
 ·match a,he with
  | 0,he=>cases he;exact own
 ·simp at la
 ·match a,b,ha,hb with
  | 0,0,_,_=>exact (hn rfl).elim
 ·simp at lb
 ·rcases hx with hx|hx
  ·exact ye (hB x hx) h5.size
  ·exact (hnew x hx).2
 ·rcases hh with hh|hh
  ·exact ho hh
  ·have:=(hnew c hh).1
   omega
 ·rcases hx with hx|hx
  ·exact .inl hx
  ·exact .inr (hnew x hx).1
 ·simp at h1
 ·exact .inr (hnew x hx).1
theorem RDl.strs {w:World} {O:Nat→Prop}:∀ (zs:List (List UInt8)),RDl w O 1 (zs.map eS) (zs.map encStr)
 | []=>trivial
 | z::zs=>⟨⟨_,[],rfl,rfl,rfl⟩,by simpa using RDl.strs zs⟩
theorem C.z0s (p0:List (List UInt8)):S (M.z0s p0) fun r=>Con Tryz.prog GG 48 (I.z0s p0) (O.z0s r):=by
 unfold M.z0s
 refine S.chk fun h0 => ?_
 have h0:=of_decide_eq_true h0
 intro r hm
 cases hm
 refine Con.zwe (by decide) (fun _ _=>rfl) fun w O φ α us hv hB hG => ?_
 obtain ⟨v,us',rfl,k1,hv⟩:=hv
 obtain rfl:us'=[]:=hv
 simp only [VR] at k1
 obtain ⟨a,cap,rfl,kc,k3⟩:=za1.of k1
 rcases k3 with ⟨p,e,rfl⟩|⟨b,off,cap',e,hb,hc⟩
 ·cases e
  rcases a with _|a
  ·refine (AnyG.slices_Clone_string_nil Tryz.zhl 0 0 w).mono ?_
   rintro e w' ⟨rfl,rfl⟩
   exact ⟨_,[],rfl,World.ownsRow_nil _ _ _ _,fun _=>trivial,by simp,Ext.refl _ _⟩
  ·refine (AnyG.slices_Clone_string_zero Tryz.zhl a 0 w).mono ?_
   rintro e w' ⟨v',rfl,h1,_,h3⟩
   exact ⟨v',[],rfl,h1,fun _=>trivial,by simp,.z3u h3⟩
 ·cases e
  refine (AnyG.slices_Clone_string Tryz.zhl b off p0.length cap (p0.map fun x=>(⟨x.toArray⟩:ByteArray)) w (by simp) h0 (fun j hj => ?_)).mono ?_
  ·rw [yc] at hj
   rw [hc j hj]
   simp [encStr,hj]
  ·rintro e w' ⟨v',rfl,h1,_,h3⟩
   have e1:((p0.map fun x=>(⟨x.toArray⟩:ByteArray)).take p0.length).map Value.string=p0.map encStr:=by
    rw [List.take_of_length_le (by simp),List.map_map]
    rfl
   rw [e1] at h1
   refine ⟨v',_,rfl,by rw [yc];exact h1,fun _=>RDl.strs p0,fun x hx => ?_,.z3u h3⟩
   obtain ⟨y,_,rfl⟩:=List.mem_map.1 hx
   rfl
theorem TBG:TbG Tryz.prog TB GG:=.nil TBok rfl
end Go.Proofs.YtmmgdladipbedaaGreatDoor
end
