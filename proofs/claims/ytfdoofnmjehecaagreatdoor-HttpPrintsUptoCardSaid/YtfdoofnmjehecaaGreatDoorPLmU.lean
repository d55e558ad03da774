import Derived.Test.YtfdoofnmjehecaaGreatDoorPLmH
import Derived.Shelf.Unicode.ValidAny
import Derived.Shelf.SlIter.Sorted
import Derived.Test.YtfdoofnmjehecaaGreatDoorPPfK
import Derived.Test.YtfdoofnmjehecaaGreatDoorPHtShelf
import Derived.WalkKit
import Derived.OwnWalkIn
import Derived.TacticsInMore
import Derived.LoopNIn
import Derived.LoopIn
import Derived.Test.YtfdoofnmjehecaaGreatDoorProg
import Derived.Shelf.GgClosure.StringsIndexFunc
set_option linter.all false
section
namespace Go.Lk
theorem zr4 {g h:Nat} {w w':World} {O O':Nat→Prop} (t:Tr O w O' w') (hg:¬O g) (hh:¬O h) (x:Lib.Utf8Tabs g h w):Lib.Utf8Tabs g h w' :=
 ⟨fun c hc=>z8x t (x.1 c hc) hg,fun i hi=>⟨z8x t (x.2 i hi).1 hh,z8x t (x.2 i hi).2 hh⟩⟩
end Go.Lk
end
section
namespace Go.Pe
open _root_.List renaming append_toArray → ya, cons_append → yb, length_cons → yc, length_nil → yd, nil_append → ye, push_toArray → yf, size_toArray → yg
open _root_.Nat renaming reduceAdd → yh, reduceSub → yi
open _root_.Array renaming replicate_succ → yj, replicate_zero → yk
open Go.Proofs Go.RowKit Go.Maps Go.Sort Go.Shelf
variable {P:Program} {ρ:Ren}
def zta (F:Fence) (n:Nat) (P:Program) (g:Nat) (lb:Array Value) (enc:List UInt8→Value) (zs:List (List UInt8)) (w:World):Prop :=
 ∀ (l:Nat) (J:List (List UInt8)→World→Prop) (W:World),Below w.heap.size w W→AbidesFrom W.heap.size J →
  (∀ pre x W1,J pre W1→pre.length<zs.length→YieldAt F (n - 1) P l #[enc x] W1 fun e W'=>e = .returned (.bool true)∧J (pre++[x]) W'∧KeepsWalks W1 W') →
  (∀ pre W1,J pre W1→Below w.heap.size w W1)→J [] W →
  CallsIn F n P g (#[.func (.yield l) #[] #[]]++lb) W fun e W'=>(∃ v,e = .returned v)∧∃ xs,xs=zs∧J xs W'
set_option maxRecDepth 100000 in
set_option maxHeartbeats 2000000 in
theorem zgp (L:SlLaysZ.n11 P ρ) (F:Fence) (n:Nat) (h11:F.fn (ρ.f 11)) (hro:F.round=none) (hn:2≤n) (g:Nat) (lb:Array Value) (hFg:F.fn g) (eg:∀ args w,(callFunc g args).run P w = .ok (.enter g args) w)
  (zs:List (List UInt8)) (hN:zs.length≤maxLen) (hNb:zs.length*16≤140737488355328) (w:World) (hseq:zta F (n - 1) P g lb encStr zs w) :
  CallsIn F n P (ρ.f 11) #[.slice none 0 0,.func (.func g) #[] lb] w fun e w'=>∃ (v:Value) (ss:List (List UInt8)),e = .returned v∧ss=zs∧w'.ownsRow w.heap.size (ρ.t 26) 1 v ss.length (ss.map encStr)∧(v = .slice none 0 0↔ss=[])∧Below w.heap.size w w':=by
 have h1:1≤n:=by omega
 have hne:ρ.t 24≠ρ.t 26:=fun e=>by have h:=L.t24;rw [e,L.t26] at h;cases h
 have mixed:=L.mixed;have t0:=L.t0;have a0:=L.a0;have z0:=L.z0;have v0:=L.v0;have t24:=L.t24;have a24:=L.a24;have z24:=L.z24;have v24:=L.v24;have t26:=L.t26;have a26:=L.a26;have z26:=L.z26;have v26:=L.v26;have t28:=L.t28;have a28:=L.a28;have z28:=L.z28;have v28:=L.v28
 have u0:=run_underlying L.t0;have u24:=run_underlying L.t24;have u26:=run_underlying L.t26;have u28:=run_underlying L.t28
 obtain ⟨_,_,FG⟩:=L.f11
 refine callsIn_of_wp_marks FG rfl h11 ?_ hro
 simp only [SlBodyZ.n11_ntmps ρ,yg,yc,yd,yh,yi,yj,yk,yf,ya,ye,yb]
 gi_wp2
 refine wpIn_rangeFunc ?_
 intro fn hfn
 rw [hro]
 obtain ⟨W0,hW0⟩:∃ W0,w.alloc (.cells #[.slice none 0 0] (ρ.t 24))=W0:=⟨_,rfl⟩
 have hs0:W0.heap.size=w.heap.size+1:=by rw [←hW0];simp
 have hv0:W0.heap[w.heap.size]? = some (.cells #[.slice none 0 0] (ρ.t 24) (0,0)):=by rw [←hW0];exact World.alloc_heap_new w _
 have hb0:Below w.heap.size w W0:=by rw [←hW0];exact (Below.refl _ w).alloc (Nat.le_refl _) _
 rw [hW0]
 obtain ⟨W1,hW1⟩:∃ W1,(W0.alloc (.deferred (some []))).alloc (.loop (AnyZ.apRec ρ fn (.func (.func g) #[] lb) w.heap.size W0.heap.size .ready none))=W1:=⟨_,rfl⟩
 have hold:∀ k,k<W0.heap.size→W1.heap[k]? = W0.heap[k]?:=fun k hk=>by
  rw [←hW1];exact (Below.heap_alloc _ _ k (by simp;omega)).trans (Below.heap_alloc _ _ k hk)
 have hb1:Below w.heap.size w W1:=by rw [←hW1];exact (hb0.alloc hb0.size _).alloc (by have:=hb0.size;simp;omega) _
 have hs1:W1.heap.size=W0.heap.size+2:=by rw [←hW1];simp
 have hM:AnyZ.ApAt ρ w fn (.func (.func g) #[] lb) w.heap.size (W0.heap.size+1) W0.heap.size [] W1 :=
  ⟨⟨_,(hold w.heap.size (by omega)).trans hv0,⟨rfl,.inl ⟨rfl,rfl⟩⟩,by simp⟩,
   by rw [←hW1];have:=World.alloc_heap_new (W0.alloc (.deferred (some []))) (.loop (AnyZ.apRec ρ fn (.func (.func g) #[] lb) w.heap.size W0.heap.size .ready none));rwa [World.size_alloc] at this,
   by rw [←hW1];exact (Below.heap_alloc _ _ _ (by simp)).trans (World.alloc_heap_new W0 _),hb1⟩
 refine ⟨W0.heap.size+1,[{ target:=.collected W0.heap.size,args := #[] }],W1,{ target:=.fn (.func g) lb,args := #[.func (.yield (W0.heap.size+1)) #[] #[]] },W1,g,
  #[.func (.yield (W0.heap.size+1)) #[] #[]]++lb,W1,?_,?_,?_,?_,fun _=>h1,?_⟩
 ·rw [←hW1];exact run_enterLoop_outer _ _ _ _ _
 ·simp [resolve,go_sem]
 ·intro f' hf';simp [Target.leads] at hf';subst hf';exact hFg
 ·simp [invoke,go_sem,eg]
 ·refine (hseq (W0.heap.size+1) (AnyZ.ApAt ρ w fn (.func (.func g) #[] lb) w.heap.size (W0.heap.size+1) W0.heap.size) W1 hb1 (AnyZ.ap_abides ρ _ _ _ _ _ _ _ hb1.size)
   (fun pre x W hJ hl=>AnyZ.apYield { L with } F (n - 1 - 1) w fn hfn _ w.heap.size (W0.heap.size+1) W0.heap.size (by omega) (by omega) (by omega) (Nat.le_refl _) (by omega) zs.length hN hNb pre x W hJ hl) (fun _ _ h=>h.below) hM).mono ?_
  rintro e W2 ⟨⟨v0,rfl⟩,ss,hS,h2⟩
  obtain ⟨v,hv,hrow,hnil⟩:=h2.box
  have hend:=run_endLoop (P:=P) h2.L (by simp [AnyZ.apRec])
  obtain ⟨W3,hW3⟩:∃ W3,W2.putObj (W0.heap.size+1) (.loop { AnyZ.apRec ρ fn (.func (.func g) #[] lb) w.heap.size W0.heap.size .ready none with state:=.exhausted })=W3:=⟨_,rfl⟩
  rw [hW3] at hend
  have hg3:W2.grownBy W3 (some (W0.heap.size+1)):=by rw [←hW3];exact grownBy_putObj_a _ _ _
  have hv3:W3.heap[w.heap.size]? = some (.cells #[v] (ρ.t 24) (0,0)):=by rw [←hW3];exact (World.putObj_heap_other (by omega)).trans hv
  have hK3:W3.heap[W0.heap.size]? = some (.deferred (some [])):=by rw [←hW3];exact (World.putObj_heap_other (by omega)).trans h2.K
  have hrow3:=hrow.kept hg3 (ownsRow_ne_a hrow h2.L (fun cur e=>by first|cases e|exact hne (Obj.cells.inj e).2.1))
  have hb3:Below w.heap.size w W3:=h2.below.grown hg3 h2.below.size (fun k e=>by cases e;omega)
  obtain ⟨hc3,hf3⟩:=cell_of_box_a hv3
  clear hW3
  refine ⟨none,W3,hend,?_⟩
  gi_wp2
  rw [←hs0]
  refine ⟨by simp,.inl ⟨_,_,rfl,run_takeDeferred hK3,?_⟩⟩
  exact ⟨_,results_tmp rfl _ _ _,v,ss,rfl,hS,hrow3.kept (grownBy_putObj_a _ _ _) (ownsRow_ne_a hrow3 hK3 (fun cur e=>by first|cases e|exact hne (Obj.cells.inj e).2.1)),hnil,hb3.grown (grownBy_putObj_a _ _ _) hb3.size (fun k e=>by cases e;omega)⟩
set_option maxRecDepth 100000 in
set_option maxHeartbeats 2000000 in
theorem zfa (L:SlLaysZ.n8 P ρ) (F:Fence) (n:Nat) (h8:F.fn (ρ.f 8)) (h11:F.fn (ρ.f 11)) (hro:F.round=none) (hn:3≤n) (g:Nat) (lb:Array Value) (hFg:F.fn g) (eg:∀ args w,(callFunc g args).run P w = .ok (.enter g args) w)
  (zs:List (List UInt8)) (hN:zs.length≤maxLen) (hNb:zs.length*16≤140737488355328) (w:World) (hseq:zta F (n - 1 - 1) P g lb encStr zs w) :
  CallsIn F n P (ρ.f 8) #[.func (.func g) #[] lb] w fun e w'=>∃ (v:Value) (ss:List (List UInt8)),e = .returned v∧ss=zs∧w'.ownsRow w.heap.size (ρ.t 26) 1 v ss.length (ss.map encStr)∧(v = .slice none 0 0↔ss=[])∧Below w.heap.size w w':=by
 have h1:1≤n:=by omega
 have e11:∀ args w,(callFunc (ρ.f 11) args).run P w = .ok (.enter (ρ.f 11) args) w:=L.f11.enters rfl
 have mixed:=L.mixed;have t0:=L.t0;have a0:=L.a0;have z0:=L.z0;have v0:=L.v0;have t24:=L.t24;have a24:=L.a24;have z24:=L.z24;have v24:=L.v24;have t26:=L.t26;have a26:=L.a26;have z26:=L.z26;have v26:=L.v26;have t28:=L.t28;have a28:=L.a28;have z28:=L.z28;have v28:=L.v28
 have u0:=run_underlying L.t0;have u24:=run_underlying L.t24;have u26:=run_underlying L.t26;have u28:=run_underlying L.t28
 obtain ⟨_,_,FG⟩:=L.f8
 refine callsIn_of_wp FG rfl h8 ?_ hro
 simp only [SlBodyZ.n8_ntmps ρ,yg,yc,yd,yh,yi,yj,yk,yf,ya,ye,yb]
 gi_wp2_with (gi_at_fn (ρ.f 11);refine (zgp { L with } F (n - 1) h11 hro (by omega) g lb hFg eg zs hN hNb _ hseq).mono ?_;rintro e w' ⟨v,ss,rfl,hS,hrow,hnil,hb⟩)
 go_ret
 exact ⟨v,ss,rfl,hS,hrow,hnil,hb⟩
set_option maxRecDepth 100000 in
set_option maxHeartbeats 2000000 in
theorem zgq (L:SlLaysZ.n6 P ρ) (F:Fence) (n:Nat) (h6:F.fn (ρ.f 6)) (h8:F.fn (ρ.f 8)) (h9:F.fn (ρ.f 9)) (h11:F.fn (ρ.f 11)) (hro:F.round=none) (hn:4≤n) (hsort:AnyZ.SortsIn P ρ F (n - 1)) (e9:∀ args w,(callFunc (ρ.f 9) args).run P w = .ok (.enter (ρ.f 9) args) w) (g:Nat) (lb:Array Value) (hFg:F.fn g) (eg:∀ args w,(callFunc g args).run P w = .ok (.enter g args) w)
  (zs:List (List UInt8)) (hN:zs.length≤maxLen) (hNb:zs.length*16≤140737488355328) (w:World) (hseq:zta F (n - 1 - 1 - 1) P g lb encStr zs w) :
  CallsIn F n P (ρ.f 6) #[.func (.func g) #[] lb] w fun e w'=>∃ (v:Value) (ss:List (List UInt8)),e = .returned v∧ss=zs ∧
   w'.ownsRow w.heap.size (ρ.t 26) 1 v ss.length ((ss.mergeSort (fun x y=>decide (x≤y))).map encStr)∧(v = .slice none 0 0↔ss=[])∧Below w.heap.size w w':=by
 have h1:1≤n:=by omega
 have e8:∀ args w,(callFunc (ρ.f 8) args).run P w = .ok (.enter (ρ.f 8) args) w:=L.f8.enters rfl
 have mixed:=L.mixed;have t0:=L.t0;have a0:=L.a0;have z0:=L.z0;have v0:=L.v0;have t24:=L.t24;have a24:=L.a24;have z24:=L.z24;have v24:=L.v24;have t26:=L.t26;have a26:=L.a26;have z26:=L.z26;have v26:=L.v26;have t28:=L.t28;have a28:=L.a28;have z28:=L.z28;have v28:=L.v28
 have u0:=run_underlying L.t0;have u24:=run_underlying L.t24;have u26:=run_underlying L.t26;have u28:=run_underlying L.t28
 obtain ⟨_,_,FG⟩:=L.f6
 refine callsIn_of_wp FG rfl h6 ?_ hro
 simp only [SlBodyZ.n6_ntmps ρ,yg,yc,yd,yh,yi,yj,yk,yf,ya,ye,yb]
 gi_wp2_with (gi_at_fn (ρ.f 8);refine (zfa { L with } F (n - 1) h8 h11 hro (by omega) g lb hFg eg zs hN hNb _ hseq).mono ?_;rintro e W ⟨v,ss,rfl,rfl,hrow,hnil,hb⟩)
 rcases hrow.2 with ⟨rfl,hz⟩|⟨gb,cap,cur,rfl,hbase,hgb,r1,r2,r3,r4⟩
 ·-- nothing came: the nil slice is sorted and handed back
  have hss:ss=[]:=List.eq_nil_of_length_eq_zero hz
  subst hss
  gi_wp2_with (gi_at_fn (ρ.f 9);refine (hsort.2 none 0 W).mono ?_;rintro e w' ⟨rfl,rfl⟩)
  go_ret
  exact ⟨.slice none 0 0,[],rfl,rfl,by simpa using hrow,by simp,hb⟩
 ·have hH:Holds encStr W gb 0 ss.toArray:=holds_of_block hgb (by simpa using r4)
  have hgl:gb<W.heap.size:=(Array.getElem?_eq_some_iff.1 hgb).1
  have hsz:ss.length<4611686018427387904:=by omega
  have cS:=hsort.1 gb 0 cap ss W hH hgl hsz
  gi_wp2_with (gi_at_fn (ρ.f 9);refine cS.mono ?_;rintro e w' ⟨rfl,nn,os,rfl⟩)
  go_ret
  exact ⟨_,ss,rfl,rfl,ownsRow_sorted (by simp) hbase hgb r1 r2 r3,hnil,hb.grown (grownBy_sorted _) hb.size (fun j hj=>by cases hj;exact hbase)⟩
end Go.Pe
end
section
namespace Go.Proofs.YtfdoofnmjehecaaGreatDoor
open _root_.List renaming append_toArray → ya, cons_append → yb, length_cons → yc, length_nil → yd, nil_append → ye, push_toArray → yf, size_toArray → yg
open _root_.Nat renaming reduceAdd → yh, reduceSub → yi
open _root_.Array renaming replicate_succ → yj, replicate_zero → yk
open Go.Proofs Go.Lk Go.Pe Go.RowKit Go.Shelf Go.Maps Go.Sort
attribute [local go_sem] Oper.semAt_some
theorem take_succ (zs:List Z) {k:Nat} (h:k<zs.length):zs.take (k+1)=zs.take k++[zs[k]?.getD []]:=by
 rw [List.take_add_one]
 simp [h]
set_option maxRecDepth 100000 in
set_option maxHeartbeats 2000000 in
theorem zr5 (F:Fence) (n:Nat) (h7:F.fn 323) (hro:F.round=none) (hn:1≤n) (l Bs n₀ b off cap:Nat) (zs:List Z) (hreach:zs.length*16≤140737488355328) (hb:b<n₀) (w0:World) (J:List Z→World→Prop)
  (hY:∀ pre x W,J pre W→pre.length<zs.length→YieldAt F (n - 1) Tryz.prog l #[encStr x] W fun e W'=>e = .returned (.bool true)∧J (pre++[x]) W'∧KeepsWalks W W')
  (hJB:∀ pre W,J pre W→Below n₀ w0 W)
  (W:World) (hBs:W.cell? ⟨Bs,0,none⟩=some (.slice (some ⟨b,off,none⟩) zs.length cap)) (hc:∀ j,j<zs.length→w0.cell? ⟨b,off+j,none⟩=some (encStr (zs[j]?.getD []))) (h0:J [] W) :
  CallsIn F n Tryz.prog 323 #[.func (.yield l) #[] #[],.pointer (some ⟨Bs,0,none⟩)] W fun e W'=>(∃ v,e = .returned v)∧∃ xs,xs=zs∧J xs W':=by
 refine callsIn_of_wp Tryz.func323 rfl h7 ?_ hro
 simp only [Tryz.ntmps323,yg,yc,yd,yh,yi,yj,yk,yf,ya,ye,yb]
 gi_wp2
 gi_loopw [7] (fun i wr=>∃ k:Nat,k≤zs.length∧i = .int .i64 k∧J (zs.take k) wr)
  (fun i _=>zs.length - (intOf i).toNat)
 case atStart=>exact ⟨0,Nat.zero_le _,rfl,h0⟩
 case round =>
  obtain ⟨k,hk,rfl,hJs⟩:=hrel
  have hcx:k<zs.length→wr.cell? ⟨b,off+k,none⟩=some (encStr (zs[k]?.getD [])):=fun h=>((hJB _ _ hJs).cell (p:=⟨b,off+k,none⟩) hb).trans (hc k h)
  by_cases hlt:k<zs.length
  ·have hcx':=hcx hlt
   have hts:=take_succ zs hlt
   obtain ⟨x,hx⟩:∃ x,zs[k]?.getD []=x:=⟨_,rfl⟩
   rw [hx] at hcx' hts
   clear hcx hx
   obtain ⟨fn,tmps,assign,body,hy,hR⟩:=hY _ x wr hJs (by rw [List.length_take];omega)
   gi_wp2
   refine hR.mono ?_
   rintro e W3 ⟨rfl,hJ3,hk3⟩
   gi_wp2
   go_roundw
   case rel=>exact ⟨k+1,by omega,by simp,by rw [hts];exact hJ3⟩
   case measure=>simp [intOf];omega
  ·obtain rfl:k=zs.length:=by omega
   gi_wp2
   go_end0
   exact ⟨⟨_,rfl⟩,zs,rfl,by rw [List.take_length] at hJs;exact hJs⟩
set_option maxRecDepth 100000 in
set_option maxHeartbeats 1000000 in
theorem zgs (F:Fence) (n:Nat) (h7:F.fn 323) (hro:F.round=none) (l Bs:Nat) (p:Option Addr) (J:List Z→World→Prop) (W:World) (hBs:W.cell? ⟨Bs,0,none⟩=some (.slice p 0 0)) (h0:J [] W) :
  CallsIn F n Tryz.prog 323 #[.func (.yield l) #[] #[],.pointer (some ⟨Bs,0,none⟩)] W fun e W'=>(∃ v,e = .returned v)∧J [] W':=by
 refine callsIn_of_wp Tryz.func323 rfl h7 ?_ hro
 simp only [Tryz.ntmps323,yg,yc,yd,yh,yi,yj,yk,yf,ya,ye,yb]
 gi_wp2
 gi_loopw [7] (fun i wr=>i = .int .i64 0∧J [] wr) (fun _ _=>0)
 case atStart=>exact ⟨rfl,h0⟩
 case round =>
  obtain ⟨rfl,hJs⟩:=hrel
  gi_wp2
  go_end0
  exact ⟨⟨_,rfl⟩,hJs⟩
set_option maxHeartbeats 1000000 in
theorem values (F:Fence) (n:Nat) (h5:F.fn 311) (hro:F.round=none) (a:Option Addr) (len cap:Nat) (w:World) :
  CallsIn F n Tryz.prog 311 #[.slice a len cap] w fun e w'=>e = .returned (.func (.func 323) #[] #[.pointer (some ⟨w.heap.size,0,none⟩)])∧w'=w.alloc (.cells #[.slice a len cap] 22):=by
 refine callsIn_of_wp Tryz.func311 rfl h5 ?_ hro
 simp only [Tryz.ntmps311,yg,yc,yd,yh,yi,yj,yk,yf,ya,ye,yb]
 gi_wp2
 go_ret
 exact ⟨rfl,rfl⟩
theorem zuv (m:Nat):AnyZ.SortsIn Tryz.prog Tryz.z5s Fence.wide m :=
 ⟨fun blk off cap ss W hH hblk hsz=>callsIn_wide.2 (Any.slices_Sort_string Tryz.zke blk off cap ss W hH hblk hsz),
  fun p cap W=>callsIn_wide.2 (Any.slices_Sort_string_none Tryz.zke p cap W)⟩
def zdp (w:World) (v:Value) (zs:List Z):Prop :=
 (∃ p,v = .slice p 0 0∧zs=[])∨∃ b off cap,v = .slice (some ⟨b,off,none⟩) zs.length cap∧b<w.heap.size∧∀ j,j<zs.length→w.cell? ⟨b,off+j,none⟩=some (encStr (zs[j]?.getD []))
theorem zfg (w:World) (n:Nat) (hn:1≤n) (a:Option Addr) (len cap:Nat) (zs:List Z) (hreach:zs.length*16≤140737488355328) (h:zdp w (.slice a len cap) zs) :
  zta Fence.wide n Tryz.prog 323 #[.pointer (some ⟨w.heap.size,0,none⟩)] encStr zs (w.alloc (.cells #[.slice a len cap] 22)):=fun l J W hW hJ hY hJB h0=>by
 have hnew:(w.alloc (.cells #[.slice a len cap] 22)).cell? ⟨w.heap.size,0,none⟩=some (.slice a len cap):=by simp
 have hBs:=(hW.cell (p:=⟨w.heap.size,0,none⟩) (by simp)).trans hnew
 rcases h with ⟨p,e,rfl⟩|⟨b,off,cap',e,hb,hc⟩
 ·cases e
  exact (zgs Fence.wide n trivial rfl l w.heap.size _ J W hBs h0).mono fun e W' ⟨he,hj⟩=>⟨he,_,rfl,hj⟩
 ·cases e
  refine zr5 Fence.wide n trivial rfl hn l w.heap.size _ b off cap zs hreach (by simp;omega) (w.alloc (.cells #[.slice (some ⟨b,off,none⟩) zs.length cap] 22)) J hY hJB W hBs (fun j hj => ?_) h0
  exact ((Below.refl w.heap.size w).alloc (Nat.le_refl _) _).cell (p:=⟨b,off+j,none⟩) hb |>.trans (hc j hj)
set_option maxRecDepth 100000 in
set_option maxHeartbeats 2000000 in
theorem zj3 (w:World) (a:Option Addr) (len cap:Nat) (zs:List Z) (hreach:zs.length*16≤140737488355328) (hlen:len=zs.length) (h:zdp w (.slice a len cap) zs) :
  Calls Tryz.prog 284 #[.slice a len cap] w fun e w'=>e = .returned (.bool (decide (((Lib.compact (zs.mergeSort fun x y=>decide (x≤y))).length:Int)=zs.length)))∧Below w.heap.size w w':=by
 refine (callsIn_wide (n:=6)).1 ?_
 subst hlen
 obtain ⟨N,hN⟩:∃ N,(Lib.compact (zs.mergeSort fun x y=>decide (x≤y))).length=N:=⟨_,rfl⟩
 rw [hN]
 have cS:=zgq (ρ:=Tryz.z5s) Tryz.zlj Fence.wide 5 trivial trivial trivial trivial rfl (by omega) (zuv _) (enters_of Tryz.func322 (by kernel_rfl) rfl) 323 #[.pointer (some ⟨w.heap.size,0,none⟩)] trivial (enters_of Tryz.func323 (by kernel_rfl) rfl) zs (by unfold maxLen;omega) (by omega) _ (zfg w 2 (by omega) a zs.length cap zs hreach h)
 change CallsIn _ _ Tryz.prog 310 _ _ _ at cS
 have hf69:Fence.wide.fn 311:=trivial
 have hf68:Fence.wide.fn 310:=trivial
 have hf70:Fence.wide.fn 312:=trivial
 refine callsIn_of_wp Tryz.func284 rfl trivial ?_ rfl
 simp only [Tryz.ntmps284,yg,yc,yd,yh,yi,yj,yk,yf,ya,ye,yb]
 gi_wp2_with (first
  | (gi_at_call 311;refine (values Fence.wide 5 trivial rfl a zs.length cap w).mono ?_;rintro e w' ⟨rfl,rfl⟩)
  | (gi_at_call 310;refine cS.mono ?_;rintro e w1 ⟨v,ss,rfl,hS,hrow,hnil,hb⟩;subst ss))
 have b1:Below w.heap.size w w1:=((Below.refl _ w).alloc (Nat.le_refl _) _).trans (hb.mono (by simp))
 rcases hrow.2 with ⟨rfl,hz⟩|⟨gb,cap2,cur,rfl,hbase,hgb,r1,r2,r3,r4⟩
 ·obtain rfl:zs=[]:=List.eq_nil_of_length_eq_zero (by simpa using hz)
  gi_wp2_with (gi_at_call 312;refine (callsIn_wide.2 (Any.slices_Compact_string_empty Tryz.zkf none 0 w1)).mono ?_;rintro e w' ⟨rfl,rfl⟩)
  go_ret
  refine ⟨?_,b1⟩
  have e0:Lib.compact (([]:List Z).mergeSort fun x y=>decide (x≤y))=[]:=by rw [List.mergeSort_nil];rfl
  rw [e0] at hN
  subst hN
  rfl
 ·obtain ⟨ys,hys⟩:∃ ys,zs.mergeSort (fun x y=>decide (x≤y))=ys:=⟨_,rfl⟩
  have hyl:ys.length=zs.length:=by rw [←hys];exact List.length_mergeSort _
  rw [hys] at hN r4
  have hH:Holds encStr w1 gb 0 ys.toArray:=holds_of_block hgb (by rw [hyl];simpa using r4)
  have cC:=Any.slices_Compact_string Tryz.zkf gb 0 cap2 ys w1 hH (by omega) (by omega)
  rw [hyl,hN] at cC
  gi_wp2_with (gi_at_call 312;refine (callsIn_wide.2 cC).mono ?_;rintro e w' ⟨rfl,q,rfl⟩)
  go_ret
  refine ⟨rfl,?_⟩
  have hg:w1.grownBy (putRow encStr (Sort.ahead w1 q) gb 0 (Lib.compact ys++List.replicate (ys.length - (Lib.compact ys).length) []).toArray) (some gb):=by
   refine ⟨rfl,rfl,rfl,by simp,fun k hk hne => ?_⟩
   have:gb≠k:=fun e=>hne (by rw [e])
   simp [putRow,mapBlock,Sort.ahead,Array.getElem?_modify,this]
  have:=b1.grown hg b1.size (fun j hj=>by cases hj;have:=hbase;simp at this;omega)
  rw [hyl,hN] at this
  exact this
end Go.Proofs.YtfdoofnmjehecaaGreatDoor
end
section
namespace Go.Proofs.YtfdoofnmjehecaaGreatDoor
open Go.Proofs Go.RowKit Go.Lib
set_option maxHeartbeats 2000000 in
set_option maxRecDepth 1000000 in
theorem zb9 (s:ByteArray) (c:Int) (w:World) :
  Calls Tryz.prog 223 #[.string s,.int .u8 c] w fun e w'=>e = .returned (.int .i64 (Lib.idxFunc (fun r=>decide ((r:Int) % 256=c)) true s))∧Below w.heap.size w w':=by
 obtain ⟨p,hp⟩:∃ p:Nat→Bool,(fun r:Nat=>decide ((r:Int) % 256=c))=p:=⟨_,rfl⟩
 rw [hp]
 go_enter Tryz.func223,Tryz.ntmps223
 go_wp2
 go_loopg [] s.size (fun gf wx=>∃ pos:Nat,wx.heap[w.heap.size]? = some (.stringIter s pos)∧Below w.heap.size w wx∧Lib.idxFuncFrom p true s gf pos=Lib.idxFunc p true s∧s.size≤pos+gf)
 case atStart=>exact ⟨0,World.iter_heap w s 0,(Below.refl _ w).alloc (Nat.le_refl _) _,rfl,by omega⟩
 case round =>
  obtain ⟨pos,hit,hbw,hleft,hfu⟩:=hrel
  by_cases hps:pos<s.size
  ·obtain ⟨g',rfl⟩:∃ g',gk=g'+1:=⟨gk - 1,by omega⟩
   have hnx:∀ ty,(Instr.next (.pointer (some ⟨w.heap.size,0,none⟩)) true ty).run Tryz.prog wr=_:=fun ty=>Lib.run_next_any_at wr w.heap.size s pos ty hit hps
   have hwd:=Lib.width_pos s pos
   obtain ⟨R,hR⟩:∃ R,(Utf8.decode s pos).1=R:=⟨_,rfl⟩
   obtain ⟨K,hK⟩:∃ K,(Utf8.decode s pos).2=K:=⟨_,rfl⟩
   simp only [Lib.idxFuncFrom,hps,if_true,hR,hK] at hleft
   rw [hR,hK] at hnx
   rw [hK] at hwd
   have hit2:=Lib.iterAt_heap wr w.heap.size s pos (pos+K) hit
   have hbw2:=Lib.below_iterAt hbw (k:=w.heap.size) (Nat.le_refl _) s (pos+K)
   obtain ⟨W,hWd⟩:∃ W,wr.iterAt w.heap.size s (pos+K)=W:=⟨_,rfl⟩
   rw [hWd] at hnx hit2 hbw2
   have hpR:p R=decide ((R:Int) % 256=c):=by rw [←hp]
   by_cases hsp:(R:Int) % 256=c
   ·rw [hpR,decide_eq_true hsp] at hleft
    simp only [if_true] at hleft
    go_wp2
    go_ret
    exact ⟨by rw [←hleft]<;>rfl,hbw2⟩
   ·rw [hpR,decide_eq_false hsp] at hleft
    simp only [Bool.false_eq_true,if_false] at hleft
    go_wp2
    go_roundg g'
    case measure=>omega
    case rel=>exact ⟨pos+K,hit2,hbw2,hleft,by omega⟩
  ·have hnx:∀ ty,(Instr.next (.pointer (some ⟨w.heap.size,0,none⟩)) true ty).run Tryz.prog wr=_:=fun ty=>Lib.run_next_end_at wr w.heap.size s pos ty hit hps
   rw [Lib.idxFuncFrom_end p true s gk pos hps] at hleft
   go_wp2
   go_ret
   exact ⟨by rw [←hleft]<;>rfl,hbw⟩
end Go.Proofs.YtfdoofnmjehecaaGreatDoor
end
