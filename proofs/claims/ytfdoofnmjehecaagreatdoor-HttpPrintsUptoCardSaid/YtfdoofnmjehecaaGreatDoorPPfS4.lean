import Derived.Test.YtfdoofnmjehecaaGreatDoorPPfS3
set_option linter.all false
namespace Go.Pe
open _root_.Bool renaming and_eq_true → ya, not_eq_true' → yb
open _root_.List renaming all_eq_true → yc, any_eq_false → yd, getD → ye, getElem?_eq_some_iff → yf, mem_of_getElem? → yg
open _root_.Nat renaming eq_of_beq_eq_true → yh, le_trans → yi, lt_of_lt_of_le → yj
open Go.RowKit Go.Lk

theorem zq7 {w:World} {O:Nat→Prop} {φ:Nat→Nat} {α:Nat→Value}:∀ {vs:List PV} {us:List Value},VRs w O φ α vs us→VR w O φ α (ztr vs) (zlt us)
 | [],us,h=>by cases h;exact ⟨[],rfl,rfl⟩
 | [v],us,h=>by
  obtain ⟨u,us',rfl,h2,h3⟩:=h
  cases h3
  exact h2
 | v::v'::vs,us,h=>by
  have h':=h
  obtain ⟨u,us',rfl,h2,u',us'',rfl,h3⟩:=h
  exact ⟨_,rfl,h'⟩
theorem zfz {nb na:Nat} {B:List Bx} (h:B.all (fun e=>inR.go nb na e.cs)=true) {j:Nat} {e:Bx} (he:B[j]? = some e):inR.go nb na e.cs=true:=yc.1 h e (yg he)
theorem zoz {B:List Bx} (h:(B.any fun e=>z6f.go e.cs)=false) {j:Nat} {e:Bx} (he:B[j]? = some e):z6f.go e.cs=false:=by
 rw [yd] at h
 simpa using h e (yg he)
section
variable {z:W0} {V:Env} {w w':World} {O O':Nat→Prop} {φ φ':Nat→Nat} {α α':Nat→Value} {σ s:St} {bs as as':List Nat} {i:CIn} {vs:List PV} {B:List Bx} {A:List (Option (Nat × Nat × List (List D)))}
theorem zd4 {Ob Oc:Nat→Prop} {us:List Value} (h:Rl z σ V w O φ α) (hb:Rl z s V w Ob φ α) (hbO:∀ x,Ob x→O x) (hc:∀ x,Oc x→Ob x)
  (sB:∀ b e,lk s.B b=some e→∃ e0,lk σ.B b=some e0) (sA:∀ a e,lk s.A a=some e→∃ e0,lk σ.A a=some e0)
  (nb:z5y bs=true) (na:z5y as'=true) (lb:i.B.length≤bs.length) (la:i.A.length=as.length) (pB:∀ j b,j<i.B.length→bs[j]? = some b→∃ e,lk σ.B b=some e) (pA:∀ j a,j<i.A.length→as[j]? = some a→∃ e,lk σ.A a=some e)
  (lB:B.length=bs.length) (lA:A.length=as'.length) (rv:inR.go B.length A.length vs=true) (rB:B.all (fun e=>inR.go B.length A.length e.cs)=true)
  (fA:as'.all ({ s with B:=z3e bs s.B,A:=z3e as s.A }:St).z4l=true) (fB:(bs.drop i.B.length).all ({ s with B:=z3e bs s.B,A:=z3e as s.A }:St).z5x=true)
  (hd:zbi i w Oc (fun j=>φ (bs.getD j 0)) (fun j=>α (as.getD j 0)) vs B A w' us O' φ' α') (hl:(∀ x,Ob x→O' x)∨z8j vs B A=false) :
  ∃ O2 φ2 α2,Rl z (left (z4w σ as) bs as as' B A s) V w' O2 φ2 α2∧(∀ x,Ob x→O2 x)∧VR w' O2 φ2 α2 (ztr (z7j.go bs as' vs)) (zlt us)∧α2=ov as' α' α:=by
 have gb:∀ j b,bs[j]? = some b→bs.getD j 0=b:=fun j b e=>by simp [ye,e]
 have ga:∀ j b,as[j]? = some b→as.getD j 0=b:=fun j b e=>by simp [ye,e]
 have bsj:∀ j,j<i.B.length→∃ b,bs[j]? = some b:=fun j hj=>⟨bs[j]'(by omega),by simp [show j<bs.length by omega]⟩
 have asj:∀ j,j<i.A.length→∃ b,as[j]? = some b:=fun j hj=>⟨as[j]'(by omega),by simp [show j<as.length by omega]⟩
 -- the blocks that the call may turn
 have fiB:∀ x,FI i (fun j=>φ (bs.getD j 0)) (fun j=>α (as.getD j 0)) x→(∃ b e,b∈bs∧lk σ.B b=some e∧φ b=x)∨∃ a e,a∈as∧lk σ.A a=some e∧(α a).ownBlock=some x:=fun x hx=>by
  rcases hx with ⟨j,hj,hx⟩|⟨j,hj,hx⟩
  ·obtain ⟨b,e⟩:=bsj j hj
   obtain ⟨y,hy⟩:=pB j b hj e
   exact .inl ⟨b,y,yg e,hy,by simp only [gb j b e] at hx;exact hx⟩
  ·obtain ⟨a,e⟩:=asj j hj
   obtain ⟨y,hy⟩:=pA j a hj e
   exact .inr ⟨a,y,yg e,hy,by simp only [ga j a e] at hx;exact hx⟩
 have hH:∀ x,FI i (fun j=>φ (bs.getD j 0)) (fun j=>α (as.getD j 0)) x→z.F x∨z.w.heap.size≤x:=fun x hx=>by
  rcases fiB x hx with ⟨b,e,_,h1,rfl⟩|⟨a,e,_,h1,h2⟩
  ·exact (h.bF b e h1).elim (fun q => .inl q.2) .inr
  ·exact (h.aF a e h1 x h2).elim (fun q => .inl q.2) .inr
 have tr2:Tr Ob w (fun x=>O' x∨Ob x) w':=⟨hd.tr.size,fun b hb' hn=>hd.tr.block b hb' fun hh=>hn (hc b hh),fun b hb' hn hh=>by
  rcases hh with hh|hh
  ·exact hd.tr.owned b hb' (fun h'=>hn (hc b h')) hh
  ·exact hn hh⟩
 have nB:∀ b e,lk (z3e bs s.B) b=some e→¬FI i (fun j=>φ (bs.getD j 0)) (fun j=>α (as.getD j 0)) (φ b):=fun b e he hx=>by
  obtain ⟨n1,h1⟩:=z2y he
  obtain ⟨e0,h2⟩:=sB b e h1
  rcases fiB _ hx with ⟨b',e',m1,h3,h4⟩|⟨a,e',m1,h3,h4⟩
  ·exact h.bb b' b e' e0 h3 h2 (fun q=>n1 (q▸m1)) h4
  ·exact h.ab a b e' e0 h3 h2 h4
 have nA:∀ a e,lk (z3e as s.A) a=some e→∀ y,(α a).ownBlock=some y→¬FI i (fun j=>φ (bs.getD j 0)) (fun j=>α (as.getD j 0)) y:=fun a e he y hy hx=>by
  obtain ⟨n1,h1⟩:=z2y he
  obtain ⟨e0,h2⟩:=sA a e h1
  rcases fiB _ hx with ⟨b',e',m1,h3,h4⟩|⟨a',e',m1,h3,h4⟩
  ·exact h.ab a b' e0 e' h2 h3 (by rw [h4];exact hy)
  ·exact h.aa a' a e' e0 h3 h2 (fun q=>n1 (q▸m1)) y h4 hy
 have b1:Rl z { s with B:=z3e bs s.B,A:=z3e as s.A } V w Ob φ α:=hb.mono (Le.refl _) (fun t v hv=>(z2y hv).2) (fun t v hv=>(z2y hv).2)
 have b2:Rl z { s with B:=z3e bs s.B,A:=z3e as s.A } V w' (fun x=>O' x∨Ob x) φ α:=b1.move hd.ext tr2 (fun y hy => .inr hy) (fun x hx=>by
   rcases hx with hx|hx
   ·exact hd.bd x hx
   ·exact yj (hb.bd x hx) hd.tr.size) nB nA (Ext.after h hd.ext hH) (fun x hx=>by
   rcases hx with hx|hx
   ·rcases hd.only x hx with h1|h1
    ·exact hb.only x (hc x h1)
    ·exact .inr (yi h.ext.size h1)
   ·exact hb.only x hx)
 -- the names
 obtain ⟨kA1,kA2,kA3⟩:=zof fA
 obtain ⟨kB1,kB2,kB3⟩:=zog fB
 have eφ:∀ x,x∉bs.drop i.B.length→ov bs φ' φ x=φ x:=fun x hx=>by
  by_cases hm:x∈bs
  ·obtain ⟨j,hj⟩:=List.getElem?_of_mem hm
   have:j<i.B.length:=by
    rcases Nat.lt_or_ge j i.B.length with h1|h1
    ·exact h1
    ·exact (hx (yg (i:=j - i.B.length) (by rw [List.getElem?_drop];rw [show i.B.length+(j - i.B.length)=j by omega];exact hj))).elim
   rw [zix nb hj,hd.same j this,gb j x hj]
  ·exact zex hm
 have eα:∀ x,x∉as'→ov as' α' α x=α x:=fun x hx=>zex hx
 have b3:Rl z { s with B:=z3e bs s.B,A:=z3e as s.A } V w' (fun x=>O' x∨Ob x) (ov bs φ' φ) (ov as' α' α):=b2.re (kb:=fun x=>x∉bs.drop i.B.length) (ka:=fun x=>x∉as') (fun x hx hm=>by have:=(kB3 x hm).1;omega) eφ eα
  (fun t v hv=>(kB1 t v hv).and (fun _ k1 _=>k1) (fun _ _ k2=>k2) (kA1 t v hv)) (fun b e he=>⟨fun hm=>(z2y he).1 (List.mem_of_mem_drop hm),z3h.zo4 (fun _ k1 _=>k1) (fun _ _ k2=>k2) (kB2 b e he) (kA2 b e he)⟩) (fun a e he hm=>by
   have:=kA3 a hm
   rw [this] at he
   cases he)
 -- what comes back
 have up:∀ v u,(z8j vs B A=false→z6f v=false)→VR w' O' φ' α' v u→VR w' (fun x=>O' x∨Ob x) φ' α' v u:=fun v u hv hr=>by
  rcases hl with hl|hl
  ·exact hr.tr (Tr.drop w' fun x hx=>hx.elim id (hl x))
  ·exact z4z v u (hv hl) hr
 have ups:∀ vs' us',(z8j vs B A=false→z6f.go vs'=false)→VRs w' O' φ' α' vs' us'→VRs w' (fun x=>O' x∨Ob x) φ' α' vs' us':=fun v u hv hr=>by
  rcases hl with hl|hl
  ·exact VRs.tr (Tr.drop w' fun x hx=>hx.elim id (hl x)) _ _ hr
  ·exact z73 v u (hv hl) hr
 have lends_p:z8j vs B A=false→z6f.go vs=false∧(B.any fun e=>z6f.go e.cs)=false∧(A.any fun e=>e.isSome)=false:=fun hh=>by
  simp only [z8j,Bool.or_eq_false_iff] at hh
  exact ⟨hh.1.1,hh.1.2,hh.2⟩
 have ro:∀ {cs:List PV} {us':List Value},inR.go B.length A.length cs=true→VRs w' (fun x=>O' x∨Ob x) φ' α' cs us'→VRs w' (fun x=>O' x∨Ob x) (ov bs φ' φ) (ov as' α' α) (z7j.go bs as' cs) us':=fun {cs us'} hi hr =>
  z7a (fun j x e=>zix nb e) (fun j x e=>zix na e) (by omega) (by omega) cs us' hi hr
 have upA:∀ a e,A[a]? = some (some e)→z5t w' (fun x=>O' x∨Ob x) e.1 e.2.1 (α' a) e.2.2:=fun a e he=>by
  have h1:=hd.mm.arr a e he
  rcases hl with hl|hl
  ·exact h1.down (fun x hx=>hx.elim id (hl x)) fun x hx => .inl (h1.mem x hx)
  ·have:=(lends_p hl).2.2
   rw [yd] at this
   exact (this _ (yg he) rfl).elim
 have rest_old:∀ b e,lk (z3e bs s.B) b=some e→φ b<w.heap.size∧∃ e0,lk σ.B b=some e0∧b∉bs:=fun b e he=>⟨b1.zm3 he,by
  obtain ⟨n1,h1⟩:=z2y he
  obtain ⟨e0,h2⟩:=sB b e h1
  exact ⟨e0,h2,n1⟩⟩
 have rest_oldA:∀ a e,lk (z3e as s.A) a=some e→(∀ x,(α a).ownBlock=some x→x<w.heap.size)∧(∃ e0,lk σ.A a=some e0)∧a∉as∧a∉as':=fun a e he=>⟨fun x hx=>b1.zp2 he hx,sA a e (z2y he).2,(z2y he).1,fun hm=>by
  have h1:lk (z3e as s.A) a=none:=kA3 a hm
  rw [h1] at he;cases he⟩
 have boxL:∀ b e,lk (zt8 bs as' bs B++z3e bs s.B) b=some e→(∃ j e0,bs[j]? = some b∧B[j]? = some e0∧e=⟨e0.T,z7j.go bs as' e0.cs⟩∧ov bs φ' φ b=φ' j)∨(lk (z3e bs s.B) b=some e∧b∉bs∧ov bs φ' φ b=φ b):=fun b e he=>by
  rcases zak he with h1|h1
  ·obtain ⟨j,e0,k1,k2,k3⟩:=zi2 h1
   exact .inl ⟨j,e0,k1,k2,k3,zix nb k1⟩
  ·exact .inr ⟨h1,(z2y h1).1,zex (z2y h1).1⟩
 have arrL:∀ a e,lk (zr6 (z4w σ as) as' A++z3e as s.A) a=some e→(∃ j e0,as'[j]? = some a∧A[j]? = some (some e0)∧e=⟨z4w σ as,e0.1,e0.2.1,e0.2.2⟩∧ov as' α' α a=α' j)∨(lk (z3e as s.A) a=some e∧ov as' α' α a=α a):=fun a e he=>by
  rcases zak he with h1|h1
  ·obtain ⟨j,e0,k1,k2,k3⟩:=zdl h1
   exact .inl ⟨j,e0,k1,k2,k3,zix na k1⟩
  ·exact .inr ⟨h1,zex (rest_oldA a e h1).2.2.2⟩
 have newBlk:∀ j e0 x,A[j]? = some (some e0)→(α' j).ownBlock=some x→(∃ a e,a∈as∧lk σ.A a=some e∧(α a).ownBlock=some x)∨w.heap.size≤x:=fun j e0 x he hx=>by
  rcases hd.zq0 j e0 x he hx with ⟨c,k1,k2⟩|k1
  ·obtain ⟨a,e⟩:=asj c k1
   obtain ⟨y,hy⟩:=pA c a k1 e
   exact .inl ⟨a,y,yg e,hy,by simp only [ga c a e] at k2;exact k2⟩
  ·exact .inr k1
 have boxBlk:∀ j b,bs[j]? = some b→j<B.length→(∃ e,b∈bs∧lk σ.B b=some e∧φ' j=φ b)∨w.heap.size≤φ' j:=fun j b hj hlt=>by
  rcases Nat.lt_or_ge j i.B.length with h1|h1
  ·obtain ⟨y,hy⟩:=pB j b h1 hj
   exact .inl ⟨y,yg hj,hy,by rw [hd.same j h1,gb j b hj]⟩
  ·exact .inr (hd.zsl j hlt h1)
 have jlt:∀ {j:Nat} {e0:Bx},B[j]? = some e0→j<B.length:=fun {j e0} hj=>(yf.1 hj).1
 refine ⟨fun x=>O' x∨Ob x,ov bs φ' φ,ov as' α' α,⟨b3.env,fun b e he => ?_,fun a e he => ?_,fun a b e e' ha hb' hn => ?_,fun a b e e' ha hb' hn x hx => ?_,fun a b e e' ha hb' => ?_,fun b e he => ?_,fun a e he x hx => ?_,b2.bd,b2.ext,b2.only,b2.gl,b3.keep⟩,fun x hx => .inr hx,?_⟩
 ·rcases boxL b e he with ⟨j,e0,k1,k2,rfl,k4⟩|⟨k1,_,_⟩
  ·obtain ⟨k5,us',k6,k7⟩:=hd.mm.box j e0 k2
   rw [k4]
   exact ⟨.inl k5,us',k6,ro (zfz rB k2) (ups _ _ (fun hh=>zoz (lends_p hh).2.1 k2) k7)⟩
  ·exact b3.box b e k1
 ·rcases arrL a e he with ⟨j,e0,k1,k2,rfl,k4⟩|⟨k1,_⟩
  ·rw [k4];exact upA j e0 k2
  ·exact b3.arr a e k1
 ·rcases boxL a e ha with ⟨j,e0,k1,k2,rfl,k4⟩|⟨k1,k5,k4⟩<;>rcases boxL b e' hb' with ⟨j',e0',k1',k2',rfl,k4'⟩|⟨k1',k5',k4'⟩
  ·rw [k4,k4']
   exact hd.mm.bb j j' (jlt k2) (jlt k2') fun q=>hn (by subst q;rw [k1] at k1';exact Option.some.inj k1')
  ·rw [k4,k4']
   obtain ⟨q1,e1,q2,q3⟩:=rest_old b e' k1'
   rcases boxBlk j a k1 (jlt k2) with ⟨y,m1,m2,m3⟩|m1
   ·rw [m3];exact h.bb a b y e1 m2 q2 hn
   ·omega
  ·rw [k4,k4']
   obtain ⟨q1,e1,q2,q3⟩:=rest_old a e k1
   rcases boxBlk j' b k1' (jlt k2') with ⟨y,m1,m2,m3⟩|m1
   ·rw [m3];exact h.bb a b e1 y q2 m2 hn
   ·omega
  ·exact b3.bb a b e e' k1 k1' hn
 ·rcases arrL a e ha with ⟨j,e0,k1,k2,rfl,k4⟩|⟨k1,k4⟩<;>rcases arrL b e' hb' with ⟨j',e0',k1',k2',rfl,k4'⟩|⟨k1',k4'⟩
  ·rw [k4] at hx
   rw [k4']
   exact hd.mm.aa j j' e0 e0' k2 k2' (fun q=>hn (by subst q;rw [k1] at k1';exact Option.some.inj k1')) x hx
  ·rw [k4] at hx
   rw [k4']
   intro hh
   obtain ⟨q1,⟨e1,q2⟩,q3,_⟩:=rest_oldA b e' k1'
   rcases newBlk j e0 x k2 hx with ⟨a',y,m1,m2,m3⟩|m1
   ·exact h.aa a' b y e1 m2 q2 (fun q=>q3 (q▸m1)) x m3 hh
   ·have:=q1 x hh;omega
  ·rw [k4] at hx
   rw [k4']
   intro hh
   obtain ⟨q1,⟨e1,q2⟩,q3,_⟩:=rest_oldA a e k1
   rcases newBlk j' e0' x k2' hh with ⟨a',y,m1,m2,m3⟩|m1
   ·exact h.aa a' a y e1 m2 q2 (fun q=>q3 (q▸m1)) x m3 hx
   ·have:=q1 x hx;omega
  ·exact b3.aa a b e e' k1 k1' hn x hx
 ·rcases arrL a e ha with ⟨j,e0,k1,k2,rfl,k4⟩|⟨k1,k4⟩<;>rcases boxL b e' hb' with ⟨j',e0',k1',k2',rfl,k4'⟩|⟨k1',k5',k4'⟩
  ·rw [k4,k4']
   exact hd.mm.ab j j' e0 k2 (jlt k2')
  ·rw [k4,k4']
   intro hh
   obtain ⟨q1,e1,q2,q3⟩:=rest_old b e' k1'
   rcases newBlk j e0 _ k2 hh with ⟨a',y,m1,m2,m3⟩|m1
   ·exact h.ab a' b y e1 m2 q2 m3
   ·omega
  ·rw [k4,k4']
   intro hh
   obtain ⟨q1,⟨e1,q2⟩,q3,_⟩:=rest_oldA a e k1
   rcases boxBlk j' b k1' (jlt k2') with ⟨y,m1,m2,m3⟩|m1
   ·rw [m3] at hh;exact h.ab a b e1 y q2 m2 hh
   ·have:=q1 _ hh;omega
  ·exact b3.ab a b e e' k1 k1'
 ·rcases boxL b e he with ⟨j,e0,k1,k2,rfl,k4⟩|⟨k1,_,_⟩
  ·rw [k4]
   rcases boxBlk j b k1 (jlt k2) with ⟨y,m1,m2,m3⟩|m1
   ·rw [m3];exact h.bF b y m2
   ·exact .inr (yi h.ext.size m1)
  ·exact b3.bF b e k1
 ·rcases arrL a e he with ⟨j,e0,k1,k2,rfl,k4⟩|⟨k1,k4⟩
  ·rw [k4] at hx
   rcases newBlk j e0 x k2 hx with ⟨a',y,m1,m2,m3⟩|m1
   ·rcases h.aF a' y m2 x m3 with ⟨m4,m5⟩|m4
    ·left
     refine ⟨?_,m5⟩
     simp only
     cases hm:z4w σ as with
     | false=>rfl
     | true=>rw [z9u hm a' m1 y m2] at m4;cases m4
    ·exact .inr m4
   ·exact .inr (yi h.ext.size m1)
  ·exact b3.aF a e k1 x hx
 ·exact ⟨zq7 (ro rv (ups _ _ (fun hh=>(lends_p hh).1) hd.res)),rfl⟩
theorem Rel.z9j:∀ (as as':List Nat) {σ:St},Rl z σ V w O φ α→(∀ (j a a':Nat),as[j]? = some a→as'[j]? = some a'→α a=α a')→Rl z (σ.z9j as as') V w O φ α
 | [],_,σ,h,_=>h
 | _::_,[],σ,h,_=>h
 | a::as,a'::as',σ,h,he=>by
  have hr:∀ (j b b':Nat),as[j]? = some b→as'[j]? = some b'→α b=α b':=fun j b b' h1 h2=>he (j+1) b b' (by simpa using h1) (by simpa using h2)
  have e0:α a=α a':=he 0 a a' rfl rfl
  unfold St.z9j Go.Pe.z9j
  split
  ·rename_i e hk
   have hget:∀ t x,lk ((a,e)::z65 a' σ.A) t=some x→(t=a∧x=e)∨(t≠a'∧t≠a∧lk σ.A t=some x):=fun t x ht=>by
    simp only [lk] at ht
    split at ht
    ·rename_i hb
     cases ht
     exact .inl ⟨(yh hb).symm,rfl⟩
    ·rename_i hb
     obtain ⟨k1,k2⟩:=z2x ht
     exact .inr ⟨k1,fun q=>(by subst q;simp at hb),k2⟩
   have h2:Rl z { σ with A:=(a,e)::z65 a' σ.A } V w O φ α:=by
    refine ⟨h.env,h.box,fun t x ht => ?_,h.bb,fun t u x y ht hu hn v hv => ?_,fun t b x y ht hb => ?_,h.bF,fun t x ht => ?_,h.bd,h.ext,h.only,h.gl,h.keep⟩
    ·rcases hget t x ht with ⟨rfl,rfl⟩|⟨k1,k2,k3⟩
     ·rw [e0];exact h.arr _ _ hk
     ·exact h.arr _ _ k3
    ·rcases hget t x ht with ⟨rfl,rfl⟩|⟨k1,k2,k3⟩<;>rcases hget u y hu with ⟨rfl,rfl⟩|⟨l1,l2,l3⟩
     ·exact (hn rfl).elim
     ·rw [e0] at hv
      exact h.aa _ _ _ _ hk l3 (fun q=>l1 q.symm) v hv
     ·rw [e0]
      exact h.aa _ _ _ _ k3 hk k1 v hv
     ·exact h.aa _ _ _ _ k3 l3 hn v hv
    ·rcases hget t x ht with ⟨rfl,rfl⟩|⟨k1,k2,k3⟩
     ·rw [e0];exact h.ab _ _ _ _ hk hb
     ·exact h.ab _ _ _ _ k3 hb
    ·rcases hget t x ht with ⟨rfl,rfl⟩|⟨k1,k2,k3⟩
     ·rw [e0];exact h.aF _ _ hk
     ·exact h.aF _ _ k3
   exact Rel.z9j as as' h2 hr
  ·exact Rel.z9j as as' h hr
end
section
variable {z:W0} {V:Env} {w:World} {O:Nat→Prop} {φ:Nat→Nat} {α:Nat→Value} {σ:St} {C:Cx} {n:Nat} {ops:Array Oper} {o:Oper} {rest:List Oper} {K:Act→World→Prop}
theorem zi9 {ds:List Deferred} {G:GI} {con:Nat→CIn→z2u→Prop} {k:St→Prop} {kp:PV→St→Prop} (hcon:∀ f i o,con f i o→Con C.P G f i o) (hz:∀ w O,z.G w O→G.p w O) (hg:o.guard=none) (hn:dOk n o.dst=true) (h:Rl z σ V w O φ α) (hs:∀ x,z.O x→O x)
  (hk:∀ s,k s→NX z C n ds ops rest K s) (hp:∀ v s,kp v s→z7d z C n ds v s) {c:Call} {x:Operand} {vs:List PV} {f:Nat} {as0 cs0:List PV} (ho:o.op = .call c) (hcx:c.callee = .value x) (hvs:σ.evs c.args.toList=some vs) (hx:σ.ev x=some (.fn f as0 cs0))
  (hw:zcl con σ f (as0++vs++cs0) (fun v σ=>k (σ.put o.dst v)) kp):OW C n ds ops (o::rest) K V w:=by
 obtain ⟨bs,as,as',i,out,hco,h1,h2,h3,h4,h5⟩:=hw
 have hC:=hcon _ _ _ hco
 obtain ⟨cal,cargs,cty⟩:=c
 simp only at hcx hvs
 subst hcx
 obtain ⟨ux,e1,us0,uc0,hux,e2,e3⟩:=h.ev hx
 rw [zfw hC.nn] at hux
 subst hux
 obtain ⟨ua,e4,e5⟩:=h.evs hvs
 have e6:VRs w O φ α (as0++vs++cs0) (us0++ua++uc0):=(VRs.append (VRs.append e2 e5) e3)
 simp only [zbn,ya] at h4
 obtain ⟨⟨⟨⟨⟨⟨q1,q2⟩,q3⟩,q4⟩,q5⟩,q6⟩,q7⟩:=h4
 have q3:=Nat.le_of_ble_eq_true q3
 have q4:=yh q4
 -- what is owned for the call
 have hOc:∀ y,z81 O α (lk σ.A) (z6z.go i.vs (as0++vs++cs0)) y→O y:=fun y hy=>hy.1
 have ls:∀ a∈z6z.go i.vs (as0++vs++cs0),(∃ e,lk σ.A a=some e)∧a∉as:=fun a ha=>by
  have:=yc.1 q7 a ha
  simp only [ya,yb] at this
  refine ⟨Option.isSome_iff_exists.1 this.1,fun hm => ?_⟩
  have h':as.any (Nat.beq a)=true:=List.any_eq_true.2 ⟨a,hm,Nat.beq_refl a⟩
  rw [h'] at this
  exact Bool.noConfusion this.2
 have gb:∀ j b,bs[j]? = some b→bs.getD j 0=b:=fun j b e=>by simp [ye,e]
 have ga:∀ j b,as[j]? = some b→as.getD j 0=b:=fun j b e=>by simp [ye,e]
 have td:Tr O w (z81 O α (lk σ.A) (z6z.go i.vs (as0++vs++cs0))) w:=Tr.drop w hOc
 have hin:VRs w (z81 O α (lk σ.A) (z6z.go i.vs (as0++vs++cs0))) (fun j=>φ (bs.getD j 0)) (fun j=>α (as.getD j 0)) i.vs (us0++ua++uc0):=by
  have:=z7u (σ:=σ) (O:=O) (φ:=φ) (α:=α) (O2:=z81 O α (lk σ.A) (z6z.go i.vs (as0++vs++cs0))) hOc h.arr i.vs _ _ (fun a ha _ _ y hy=>hy.2 a ha (by obtain ⟨e,he⟩:=(ls a ha).1;rw [he];rfl)) e6
  rw [h1] at this
  exact z6p (fun j y _ e=>by rw [gb j y e]) (fun j y _ e=>by rw [ga j y e]) q3 (by omega) _ _ q5 this
 have pB:∀ (j:Nat) (e:Bx),i.B[j]? = some e→∃ (b:Nat) (y:Bx),bs[j]? = some b∧lk σ.B b=some y∧y.T=e.T∧nrm.go { σ with A:=[] } e.cs y.cs=z7j.go bs as e.cs:=z7m h2
 have pA:∀ (j:Nat) (e:Nat × Nat × List (List D)),i.A[j]? = some e→∃ (a:Nat) (y:Arr),as[j]? = some a∧lk σ.A a=some y∧y.T=e.1∧y.n=e.2.1∧y.l=e.2.2:=zbm h3
 have geB:∀ j (hj:j<i.B.length),i.B[j]? = some i.B[j]:=fun j hj=>by simp
 have geA:∀ j (hj:j<i.A.length),i.A[j]? = some i.A[j]:=fun j hj=>by simp
 have ownIn:∀ a y,lk σ.A a=some y→a∈as→∀ b,(α a).ownBlock=some b→z81 O α (lk σ.A) (z6z.go i.vs (as0++vs++cs0)) b:=fun a y hy hm b hb=>⟨h.ztd hy hb,fun a' ha' _ hh=>by
  obtain ⟨⟨e',he'⟩,hna⟩:=ls a' ha'
  exact h.aa a' a e' y he' hy (fun q=>hna (q▸hm)) b hh hb⟩
 have aget:∀ (j:Nat) (e:Nat × Nat × List (List D)),(i.A.map some)[j]? = some (some e)→i.A[j]? = some e:=fun j e he=>by
  rw [List.getElem?_map] at he
  obtain ⟨y,k1,k2⟩:=Option.map_eq_some_iff.1 he
  cases k2
  exact k1
 have hmm:Mm w (z81 O α (lk σ.A) (z6z.go i.vs (as0++vs++cs0))) (fun j=>φ (bs.getD j 0)) (fun j=>α (as.getD j 0)) i.B (i.A.map some):=by
  refine ⟨fun j e he => ?_,fun j e he => ?_,fun a b la lb hn => ?_,fun a b e e' ha hb hn y hy => ?_,fun a b e ha lb => ?_⟩
  ·obtain ⟨b,y,k1,k2,k3,k4⟩:=pB j e he
   obtain ⟨k5,us,k6,k7⟩:=h.box b y k2
   simp only [gb j b k1]
   refine ⟨⟨k5,fun a ha _=>h.ab a b _ y ((ls a ha).1.choose_spec) k2⟩,us,k3▸k6,?_⟩
   have h8:=z7u (σ:={ σ with A:=[] }) (O:=z81 O α (lk σ.A) (z6z.go i.vs (as0++vs++cs0))) (φ:=φ) (α:=α) (O2:=z81 O α (lk σ.A) (z6z.go i.vs (as0++vs++cs0))) (fun _ hx=>hx) (fun _ _ hx=>by cases hx) e.cs _ _ (fun _ _ _ hx=>by cases hx) (VRs.tr td _ _ k7)
   rw [k4] at h8
   exact z6p (fun j y _ e=>by rw [gb j y e]) (fun j y _ e=>by rw [ga j y e]) q3 (by omega) _ _ (zfz q6 he) h8
  ·obtain ⟨a,y,k1,k2,k3,k4,k5⟩:=pA j e (aget j e he)
   simp only [ga j a k1]
   have:=(h.arr a y k2).down hOc (ownIn a y k2 (yg k1))
   rw [k3,k4,k5] at this
   exact this
  ·obtain ⟨b1,y1,k1,k2,_⟩:=pB a _ (geB a la)
   obtain ⟨b2,y2,k3,k4,_⟩:=pB b _ (geB b lb)
   simp only [gb a b1 k1,gb b b2 k3]
   exact h.bb b1 b2 y1 y2 k2 k4 fun q=>hn (z4o q1 a b b1 k1 (q▸k3))
  ·obtain ⟨b1,y1,k1,k2,_⟩:=pA a e (aget a e ha)
   obtain ⟨b2,y2,k3,k4,_⟩:=pA b e' (aget b e' hb)
   simp only [ga a b1 k1] at hy
   simp only [ga b b2 k3]
   exact h.aa b1 b2 y1 y2 k2 k4 (fun q=>hn (z4o q2 a b b1 k1 (q▸k3))) y hy
  ·obtain ⟨b1,y1,k1,k2,_⟩:=pA a e (aget a e ha)
   obtain ⟨b2,y2,k3,k4,_⟩:=pB b _ (geB b lb)
   simp only [ga a b1 k1,gb b b2 k3]
   exact h.ab b1 b2 y1 y2 k2 k4
 have pB':∀ j b,j<i.B.length→bs[j]? = some b→∃ e,lk σ.B b=some e:=fun j b hj hb=>by
  obtain ⟨b1,y1,k1,k2,_⟩:=pB j _ (geB j hj)
  rw [hb] at k1
  cases k1
  exact ⟨y1,k2⟩
 have pA':∀ j a,j<i.A.length→as[j]? = some a→∃ e,lk σ.A a=some e:=fun j b hj hb=>by
  obtain ⟨b1,y1,k1,k2,_⟩:=pA j _ (geA j hj)
  rw [hb] at k1
  cases k1
  exact ⟨y1,k2⟩
 refine OW.zu2 hg rfl hn ho e1 e4 hC.ent ((hC.run w _ _ _ _ hin hmm (fun y hy=>h.bd y hy.1) (hz _ _ (z.hG td h.gl))).mono fun e w' hdone => ?_)
 cases out with
 | ok rvs B A =>
  obtain ⟨us,O',φ',α',rfl,hd⟩:=hdone
  replace h5:=zf h5
  obtain ⟨s,hf,hok,hkk⟩:=h5
  simp only [zew,ya] at hok
  obtain ⟨⟨⟨⟨⟨⟨r1,r2⟩,r3⟩,r4⟩,r5⟩,r6⟩,r7⟩:=hok
  have r2:=yh r2
  have r3:=yh r3
  have key:∃ Ob,Rl z s V w Ob φ α∧(∀ y,Ob y→O y)∧(∀ y,z81 O α (lk σ.A) (z6z.go i.vs (as0++vs++cs0)) y→Ob y)∧(∀ y,z.O y→Ob y)∧(∀ b e,lk s.B b=some e→∃ e0,lk σ.B b=some e0)∧(∀ b e,lk s.A b=some e→∃ e0,lk σ.A b=some e0)∧((∀ x,Ob x→O' x)∨z8j rvs B A=false):=by
   cases hl:z8j rvs B A with
   | true =>
    rw [hl] at hf
    obtain ⟨k1,k2,k3,_⟩:=z1l _ h hs hf
    exact ⟨_,k1,fun y hy=>hy.1,fun y hy=>hy,k2,fun b e=>z8d hf,fun b e he=>⟨e,k3 b e he⟩,.inl fun x hx=>hd.more x hx⟩
   | false =>
    rw [hl] at hf
    cases hf
    exact ⟨O,h,fun _ hy=>hy,fun y hy=>hy.1,hs,fun b e he=>⟨e,he⟩,fun b e he=>⟨e,he⟩,.inr rfl⟩
  obtain ⟨Ob,k1,k2,k3,k4,k5,k6,k7⟩:=key
  obtain ⟨O2,φ2,α2,m1,m2,m3,_⟩:=zd4 h k1 k2 k3 k5 k6 q1 r1 q3 q4 pB' pA' r2 r3 r4 r5 r6 r7 hd k7
  have m4:=m1.zsx o.dst m3
  have m5:=hk _ hkk _ _ ⟨O2,φ2,α2,m4,fun y hy=>m2 y (k4 y hy)⟩
  unfold zlu
  revert m5
  unfold zsw
  exact id
 | okI rvs B A =>
  obtain ⟨us,O',φ',α',rfl,hd,hin'⟩:=hdone
  replace h5:=zf h5
  obtain ⟨s,hf,hok,hkk⟩:=h5
  simp only [zew,ya] at hok
  obtain ⟨⟨⟨⟨⟨⟨⟨r1,r2⟩,r3⟩,r4⟩,r5⟩,r6⟩,r7⟩,r8⟩:=hok
  have r2:=yh r2
  have r3:=yh r3
  have key:∃ Ob,Rl z s V w Ob φ α∧(∀ y,Ob y→O y)∧(∀ y,z81 O α (lk σ.A) (z6z.go i.vs (as0++vs++cs0)) y→Ob y)∧(∀ y,z.O y→Ob y)∧(∀ b e,lk s.B b=some e→∃ e0,lk σ.B b=some e0)∧(∀ b e,lk s.A b=some e→∃ e0,lk σ.A b=some e0)∧((∀ x,Ob x→O' x)∨z8j rvs B A=false):=by
   cases hl:z8j rvs B A with
   | true =>
    rw [hl] at hf
    obtain ⟨k1,k2,k3,_⟩:=z1l _ h hs hf
    exact ⟨_,k1,fun y hy=>hy.1,fun y hy=>hy,k2,fun b e=>z8d hf,fun b e he=>⟨e,k3 b e he⟩,.inl fun x hx=>hd.more x hx⟩
   | false =>
    rw [hl] at hf
    cases hf
    exact ⟨O,h,fun _ hy=>hy,fun y hy=>hy.1,hs,fun b e he=>⟨e,he⟩,fun b e he=>⟨e,he⟩,.inr rfl⟩
  obtain ⟨Ob,k1,k2,k3,k4,k5,k6,k7⟩:=key
  obtain ⟨O2,φ2,α2,m1,m2,m3,m0⟩:=zd4 h k1 k2 k3 k5 k6 q1 r1 q3 q4 pB' pA' r2 r3 r4 r5 r6 r7 hd k7
  have m1:=Rel.z9j as as' m1 fun j a a' ha ha'=>by
   have hlt:j<i.A.length:=by
    have:=(yf.1 ha).1
    omega
   have hna:a∉as':=fun hm=>by
    have:=yc.1 r8 a (yg ha)
    rw [yb,yd] at this
    exact this a hm (Nat.beq_refl a)
   rw [m0,zex hna,zix r1 ha',hin' j hlt]
   show α a=α (as.getD j 0)
   rw [ga j a ha]
  have m4:=m1.zsx o.dst m3
  have m5:=hk _ hkk _ _ ⟨O2,φ2,α2,m4,fun y hy=>m2 y (k4 y hy)⟩
  unfold zlu
  revert m5
  unfold zsw
  exact id
 | pan v =>
  obtain ⟨u,O',φ',α',rfl,d1,d2,d3,d4,d5⟩:=hdone
  have fi:∀ y,FI i (fun j=>φ (bs.getD j 0)) (fun j=>α (as.getD j 0)) y→z.F y∨z.w.heap.size≤y:=fun y hy=>by
   rcases hy with ⟨j,hj,rfl⟩|⟨j,hj,hy⟩
   ·obtain ⟨b,e,k1,k2,_⟩:=pB j _ (geB j hj)
    simp only [gb j b k1]
    exact (h.bF b e k2).elim (fun q => .inl q.2) .inr
   ·obtain ⟨b,e,k1,k2,_⟩:=pA j _ (geA j hj)
    simp only [ga j b k1] at hy
    exact (h.aF b e k2 y hy).elim (fun q => .inl q.2) .inr
  obtain ⟨hsl,hkp⟩:=h5
  have h6:Rl z (σ.lost bs (as++z6z.go i.vs (as0++vs++cs0))) V w O φ α:=h.mono (Le.refl _) (fun t v hv=>(z2y hv).2) (fun t v hv=>(z2y hv).2)
  have fiB:∀ x,FI i (fun j=>φ (bs.getD j 0)) (fun j=>α (as.getD j 0)) x→(∃ b e,b∈bs∧lk σ.B b=some e∧φ b=x)∨∃ a e,a∈as∧lk σ.A a=some e∧(α a).ownBlock=some x:=fun x hx=>by
   rcases hx with ⟨j,hj,hx⟩|⟨j,hj,hx⟩
   ·obtain ⟨b,e,k1,k2,_⟩:=pB j _ (geB j hj)
    exact .inl ⟨b,e,yg k1,k2,by simp only [gb j b k1] at hx;exact hx⟩
   ·obtain ⟨b,e,k1,k2,_⟩:=pA j _ (geA j hj)
    exact .inr ⟨b,e,yg k1,k2,by simp only [ga j b k1] at hx;exact hx⟩
  have h7:=h6.move d2 (O':=fun x=>O' x∨O x) ⟨d3.size,fun b hb' hn=>d3.block b hb' fun hh=>hn hh.1,fun b hb' hn hh=>by
    rcases hh with hh|hh
    ·exact d3.owned b hb' (fun h'=>hn h'.1) hh
    ·exact hn hh⟩ (fun y hy => .inr hy) (fun x hx=>by
    rcases hx with hx|hx
    ·exact d4 x hx
    ·exact yj (h.bd x hx) d3.size) (fun b e he hx=>by
    obtain ⟨n1,k1⟩:=z2y he
    rcases fiB _ hx with ⟨b',e',m1,m2,m3⟩|⟨a,e',m1,m2,m3⟩
    ·exact h.bb b' b e' e m2 k1 (fun q=>n1 (q▸m1)) m3
    ·exact h.ab a b e' e m2 k1 m3) (fun a e he y hy hx=>by
    obtain ⟨n1,k1⟩:=z2y he
    rcases fiB _ hx with ⟨b',e',m1,m2,m3⟩|⟨a',e',m1,m2,m3⟩
    ·exact h.ab a b' e e' k1 m2 (by rw [m3];exact hy)
    ·exact h.aa a' a e' e m2 k1 (fun q=>n1 (List.mem_append_left _ (q▸m1))) y m3 hy) (Ext.after h d2 fi) (fun x hx=>by
    rcases hx with hx|hx
    ·rcases d5 x hx with h1|h1
     ·exact h.only x h1.1
     ·exact .inr (yi h.ext.size h1)
    ·exact h.only x hx)
  exact fun a ha hda=>hp v _ hkp V w' _ φ α u φ' α' h7 (fun x hx => .inr (hs x hx)) (z4z v u hsl d1) a ha hda
 | zbf v B =>
  obtain ⟨u,φv,αv,us,O',φ',α',rfl,hv,hd⟩:=hdone
  replace h5:=zf h5
  obtain ⟨s,hf,hok,hkk⟩:=h5
  simp only [zew,ya,yb] at hok
  obtain ⟨⟨⟨⟨⟨⟨⟨r1,r2⟩,r3⟩,r4⟩,r5⟩,r6⟩,r7⟩,r8⟩:=hok
  have r2:=yh r2
  have r3:=yh r3
  have key:∃ Ob,Rl z s V w Ob φ α∧(∀ y,Ob y→O y)∧(∀ y,z81 O α (lk σ.A) (z6z.go i.vs (as0++vs++cs0)) y→Ob y)∧(∀ y,z.O y→Ob y)∧(∀ b e,lk s.B b=some e→∃ e0,lk σ.B b=some e0)∧(∀ b e,lk s.A b=some e→∃ e0,lk σ.A b=some e0)∧((∀ x,Ob x→O' x)∨z8j [] B []=false):=by
   cases hl:z8j [] B [] with
   | true =>
    rw [hl] at hf
    obtain ⟨k1,k2,k3,_⟩:=z1l _ h hs hf
    exact ⟨_,k1,fun y hy=>hy.1,fun y hy=>hy,k2,fun b e=>z8d hf,fun b e he=>⟨e,k3 b e he⟩,.inl fun x hx=>hd.more x hx⟩
   | false =>
    rw [hl] at hf
    cases hf
    exact ⟨O,h,fun _ hy=>hy,fun y hy=>hy.1,hs,fun b e he=>⟨e,he⟩,fun b e he=>⟨e,he⟩,.inr rfl⟩
  obtain ⟨Ob,k1,k2,k3,k4,k5,k6,k7⟩:=key
  obtain ⟨O2,φ2,α2,m1,m2,m3,_⟩:=zd4 h k1 k2 k3 k5 k6 q1 r1 q3 q4 pB' pA' r2 r3 r4 r5 r6 r7 hd k7
  exact fun a ha hda=>hp v _ hkk V w' O2 φ2 α2 u φv αv m1 (fun y hy=>m2 y (k4 y hy)) (z4z v u r8 hv) a ha hda
end
end Go.Pe
