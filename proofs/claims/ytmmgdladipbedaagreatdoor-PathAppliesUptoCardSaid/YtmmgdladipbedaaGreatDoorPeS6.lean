import Derived.Test.YtmmgdladipbedaaGreatDoorPeD
import Derived.Test.YtmmgdladipbedaaGreatDoorLkH
set_option linter.all false
section
namespace Go.Pe
open _root_.Bool renaming and_eq_true → ya
open _root_.List renaming getElem?_eq_some_iff → yb, getElem?_map → yc
open _root_.Nat renaming eq_of_beq_eq_true → yd, le_of_ble_eq_true → ye, zero_add → yf
open Go.RowKit Go.Lk
variable [Lb]
section
variable {z:W0} {V:Env} {w:World} {O:Nat→Prop} {φ:Nat→Nat} {α:Nat→Value} {σ:St} {C:Cx} {n:Nat} {ops:Array Oper} {o:Oper} {rest:List Oper} {K:Act→World→Prop} {G:GI} {con:Nat→CIn→z3s→Prop} {tb:Tb} {cty:List (Nat × List (Option (Nat × Nat)))} {ann:Ann} {ds:List Deferred}
def KS (z:W0) (C:Cx) (n:Nat) (ds:List Deferred) (todo:List Item) (s:St):Prop := ∀ V w,RS z s V w→TW C n ds todo V w
def FS (z:W0) (C:Cx) (n:Nat) (ds:List Deferred) (todo:List Item):z8v→St→Prop
 | .normal,s=>KS z C n ds todo s
 | .exit i,s=>∃ k',exitTo i todo=some k'∧KS z C n ds k' s
 | .ret,s=>∀ k',KS z C n ds (.code .ret::k') s
 | .pan v,s=>z8w z C n ds v s
theorem KS.cut {todo:List Item} {s:St} {c:Cut} (e:σ.cut c=some s) (h:KS z C n ds todo s):KS z C n ds todo σ:=fun V w hr=>h V w (hr.cut e)
theorem FS.code {c:Code} {todo:List Item} {fl:z8v} {s:St} (h:FS z C n ds todo fl s) (hn:fl ≠ .normal):FS z C n ds (.code c::todo) fl s:=by
 cases fl with
 | normal=>exact (hn rfl).elim
 | exit i=>exact h
 | ret=>exact h
 | pan v=>exact h
theorem FS.loop {c:Code} {todo:List Item} {fl:z8v} {s:St} (h:FS z C n ds todo fl s) (hn:fl ≠ .normal):FS z C n ds (.inLoop c::todo) fl s:=by
 cases fl with
 | normal=>exact (hn rfl).elim
 | exit i=>exact h
 | ret=>exact h
 | pan v=>exact h
def okC (ann:Ann) (n:Nat):Code→Bool
 | .region id ops dr=>(ops.toList.all fun o=>dOk n o.dst)&&(match dr with
  | true=>match lk ann.drw id with
   | some d=>z6x ops d.anc n d.E d.qs d.g&&zyd ops d.g d.qs&&(match d.lin with|some _=>zfp d.g&&zdu ops (zud d.qs (zle d.g)) []|none=>true)
   | none=>false
  | false=>true)
 | .seq a b=>okC ann n a&&okC ann n b
 | .cond _ a b=>okC ann n a&&okC ann n b
 | .block _ a=>okC ann n a
 | .loop a=>okC ann n a
 | _=>true
def z2o:Code→Bool
 | .region _ _ dr => !dr
 | .seq a b=>z2o a&&z2o b
 | .cond _ a b=>z2o a&&z2o b
 | .block _ a=>z2o a
 | .loop a=>z2o a
 | _=>true
theorem PN.lv (h:C.lv=false) {a:Act} {ch:List PanicEntry} {w:World} (hp:PN C a ch w):PN { C with lv:=false } a ch w:=by
 unfold PN at hp ⊢
 rw [h] at hp
 exact hp
theorem z14 (ht:TbG C.P tb G) (hcon:∀ f i o,con f i o→Con C.P G f i o) (hz:∀ w O,z.G w O→G.p w O):∀ (c:Code) (σ:St) (k:z8v→St→Prop) (todo:List Item),okC ann n c=true→(C.lv=false∨z2o c=true)→ex tb cty ann con c σ k→(∀ fl s,k fl s→FS z C n ds todo fl s)→KS z C n ds (.code c::todo) σ
 | .skip,σ,k,todo,_,_,hw,hk=>fun V w hr=>TW.skip (hk _ _ hw V w hr)
 | .label _,σ,k,todo,_,_,hw,hk=>fun V w hr=>TW.label (hk _ _ hw V w hr)
 | .ret,σ,k,todo,_,_,hw,hk=>fun V w hr=>hk _ _ hw todo V w hr
 | .exit i,σ,k,todo,_,_,hw,hk=>fun V w hr=>by
  obtain ⟨k',h1,h2⟩:=hk _ _ hw
  exact TW.exit h1 (h2 V w hr)
 | .region id ops dr,σ,k,todo,hn,hdr,hw,hk=>by
  simp only [okC,ya] at hn
  cases dr with
  | true =>
   obtain ⟨d,hd,hw⟩:=zi hw
   have hok:=hn.2
   simp only [hd,ya] at hok
   intro V w hr
   exact zhp ht hcon hz hok.1.1 hok.1.2 hok.2 hn.1 hw (fun s hs V w hr=>hk _ _ hs V w hr) (fun v s hs V w O φ α u φ' α' r s2 hv a ha hda=>PN.lv (hdr.elim (fun h=>h) fun hh=>by simp [z2o] at hh) (hk _ _ hs V w O φ α u φ' α' r s2 hv a ha hda)) V w hr
  | false =>
   have hn:=hn.1
   intro V w hr
   have:=z9l (K:=TWa C todo) (ops:=ops) (G:=G) ht hcon hz (k:=fun s=>k .normal s) (kp:=fun v s=>k (.pan v) s) (fun s hs V w hr=>OW.done (hk _ _ hs V w hr)) (fun v s hs=>hk _ _ hs) _ ops.toList σ hn hw V w hr
   have h2:=TW.region (id:=id) (l:=ops.toList) (k:=todo) (by simpa using this)
   simpa using h2
 | .seq a b,σ,k,todo,hn,hdr,hw,hk=>by
  simp only [okC,ya] at hn
  have hda:C.lv=false∨z2o a=true:=hdr.imp id fun hh=>by simp only [z2o,ya] at hh;exact hh.1
  have hdb:C.lv=false∨z2o b=true:=hdr.imp id fun hh=>by simp only [z2o,ya] at hh;exact hh.2
  intro V w hr
  refine TW.seq ?_
  unfold ex at hw
  split at hw
  ·rename_i c _
   obtain ⟨J,h1,h2⟩:=hw
   refine z14 ht hcon hz a σ _ (.code b::todo) hn.1 hda h1 (fun fl s hs => ?_) V w hr
   cases fl with
   | normal =>
    obtain ⟨s',e,hj⟩:=zi hs
    exact (z14 ht hcon hz b s' k todo hn.2 hdb (h2 s' hj) hk).cut e
   | exit i=>exact (hk _ _ hs).code (by simp)
   | ret=>exact (hk _ _ hs).code (by simp)
   | pan v=>exact (hk _ _ hs).code (by simp)
  ·refine z14 ht hcon hz a σ _ (.code b::todo) hn.1 hda hw (fun fl s hs => ?_) V w hr
   cases fl with
   | normal=>exact z14 ht hcon hz b s k todo hn.2 hdb hs hk
   | exit i=>exact (hk _ _ hs).code (by simp)
   | ret=>exact (hk _ _ hs).code (by simp)
   | pan v=>exact (hk _ _ hs).code (by simp)
 | .cond c a b,σ,k,todo,hn,hdr,hw,hk=>by
  simp only [okC,ya] at hn
  have hda:C.lv=false∨z2o a=true:=hdr.imp id fun hh=>by simp only [z2o,ya] at hh;exact hh.1
  have hdb:C.lv=false∨z2o b=true:=hdr.imp id fun hh=>by simp only [z2o,ya] at hh;exact hh.2
  intro V w hr
  unfold ex at hw
  split at hw
  ·rename_i x hx
   obtain ⟨O,φ,α,h,hs⟩:=hr
   obtain ⟨u,h1,h2⟩:=h.ev hx
   simp only [VR] at h2
   subst h2
   refine TW.cond h1 (fun e => ?_) (fun e => ?_)
   ·subst e
    exact z14 ht hcon hz a σ k todo hn.1 hda hw hk V w ⟨O,φ,α,h,hs⟩
   ·subst e
    exact z14 ht hcon hz b σ k todo hn.2 hdb hw hk V w ⟨O,φ,α,h,hs⟩
  ·exact hw.elim
 | .block i a,σ,k,todo,hn,hdr,hw,hk=>by
  intro V w hr
  refine TW.block ?_
  unfold ex at hw
  refine z14 ht hcon hz a σ _ (.inBlock i::todo) hn hdr hw (fun fl s hs => ?_) V w hr
  cases fl with
  | normal=>exact fun V w hr=>TW.inBlock (hk _ _ hs V w hr)
  | exit j =>
   simp only [zwd] at hs
   cases e:Nat.beq i j with
   | true =>
    rw [e] at hs
    have e:=yd e
    subst e
    exact ⟨todo,by simp [exitTo],hk _ _ hs⟩
   | false =>
    rw [e] at hs
    have e:=Nat.ne_of_beq_eq_false e
    obtain ⟨k',h1,h2⟩:=hk _ _ hs
    exact ⟨k',by simp [exitTo,e,h1],h2⟩
  | ret=>exact hk _ _ hs
  | pan v=>exact hk _ _ hs
 | .loop a,σ,k,todo,hn,hdr,hw,hk=>by
  unfold ex at hw
  obtain ⟨c,hc,hw⟩:=zi hw
  obtain ⟨s0,e0,hw⟩:=zi hw
  have key:KS z C n ds (.code a :: .inLoop a::todo) s0:=hw (KS z C n ds (.code a :: .inLoop a::todo)) fun s hs=>by
   refine z14 ht hcon hz a s _ (.inLoop a::todo) hn hdr hs (fun fl s' hs' => ?_)
   cases fl with
   | normal =>
    obtain ⟨s2,e2,hj⟩:=zi hs'
    exact fun V w hr=>TW.inLoop (hj V w (hr.cut e2))
   | exit i=>exact (hk _ _ hs').loop (by simp)
   | ret=>exact (hk _ _ hs').loop (by simp)
   | pan v=>exact (hk _ _ hs').loop (by simp)
  exact fun V w hr=>TW.loop (key V w (hr.cut e0))
 | .rangeFunc ..,σ,k,todo,hn,_,hw,hk=>hw.elim
 | .scope _,σ,k,todo,hn,_,hw,hk=>hw.elim
 | .goto _,σ,k,todo,hn,_,hw,hk=>hw.elim
 | .refuse _,σ,k,todo,hn,_,hw,hk=>hw.elim

theorem zpr {m:Nat} {cs:List PV} {v:PV} (h:z3z true m cs=some v):v = .agg cs:=by
 simp only [z3z] at h
 split at h
 ·cases h;rfl
 ·cases h
theorem zmh {m:Nat} {cs:List PV} {v:PV} (h:z3z false m cs=some v):cs=[v]:=by
 cases cs with
 | nil=>simp [z3z] at h
 | cons c cs =>
  cases cs with
  | nil=>simp [z3z] at h;rw [h]
  | cons d cs=>simp [z3z] at h
theorem zil (ht:TbG C.P tb G) (h:Rl z σ V w O φ α):∀ {res:List ResultVar} {rs:List PV},zvj tb σ res=some rs→∃ us,RVs C V w res us∧VRs w O φ α rs us
 | [],rs,e=>by cases e;exact ⟨[],rfl,rfl⟩
 | .tmp t::r,rs,e=>by
  unfold zvj at e
  split at e
  ·rename_i v vs h1 h2
   cases e
   obtain ⟨u,h3,h4⟩:=h.env t v h1
   obtain ⟨us,h5,h6⟩:=zil ht h h2
   exact ⟨u::us,⟨u,us,rfl,h3,h5⟩,u,us,rfl,h4,h6⟩
  ·cases e
 | .cell t T::r,rs,e=>by
  unfold zvj at e
  split at e
  ·rename_i b hb
   split at e
   ·rename_i ex s h1 h2
    split at e
    ·rename_i v vs h0 h3 h4
     cases e
     obtain ⟨u,h5,h6⟩:=h.env t _ hb
     simp only [VR] at h6
     subst h6
     obtain ⟨_,xs,h7,h8⟩:=h.box b ex (z6j h1).1
     have h7:=h7.un (z6j h1).2
     obtain ⟨us,h9,h10⟩:=zil ht h h4
     have hl:=VRs.len h8
     have h0:=yd h0
     obtain ⟨g,m⟩:=s
     cases g with
     | true =>
      obtain rfl:=zpr h3
      exact ⟨_::us,⟨_,us,rfl,⟨_,_,xs,true,m,h5,ht.shp _ _ h2,h7,by rw [hl];exact h0,rfl⟩,h9⟩,_,us,rfl,⟨xs,rfl,h8⟩,h10⟩
     | false =>
      rw [zmh h3] at h8 h0
      obtain ⟨x,xs',rfl,k1,k2⟩:=h8
      cases k2
      exact ⟨x::us,⟨x,us,rfl,⟨_,_,[x],false,m,h5,ht.shp _ _ h2,h7,h0,rfl⟩,h9⟩,x,us,rfl,k1,h10⟩
    ·cases e
   ·cases e
  ·cases e
theorem zim:∀ {n i j x:Nat},(rng n i)[j]? = some x↔j<n∧x=i+j
 | 0,i,j,x=>by simp [rng]
 | n+1,i,0,x=>by simp [rng];exact ⟨fun h=>h.symm,fun h=>h.symm⟩
 | n+1,i,j+1,x=>by
  simp only [rng,List.getElem?_cons_succ]
  rw [zim]
  omega
theorem z99:∀ {n i:Nat},(rng n i).length=n
 | 0,i=>rfl
 | n+1,i=>by simp [rng,z99]
theorem z7g {σ:St}:∀ {A:List (Option (Nat × Nat × List (List D)))} {i:Nat},zdp σ i A→∀ (j:Nat) (e:Nat × Nat × List (List D)),A[j]? = some (some e)→∃ x,lk σ.A (i+j)=some x∧x.T=e.1∧x.n=e.2.1∧x.l=e.2.2
 | [],i,_,j,e,h=>by simp at h
 | none::r,i,hb,j,e,h=>by
  cases j with
  | zero=>simp at h
  | succ j =>
   obtain ⟨x,k1,k2⟩:=z7g (i:=i+1) hb j e (by simpa using h)
   exact ⟨x,by rw [show i+(j+1)=i+1+j by omega];exact k1,k2⟩
 | some e0::r,i,hb,j,e,h=>by
  obtain ⟨h1,h2⟩:=hb
  cases j with
  | zero =>
   simp at h
   subst h
   split at h1
   ·exact ⟨_,by assumption,h1⟩
   ·exact h1.elim
  | succ j =>
   obtain ⟨x,k1,k2⟩:=z7g h2 j e (by simpa using h)
   exact ⟨x,by rw [show i+(j+1)=i+1+j by omega];exact k1,k2⟩
theorem zjc {β:Type}:∀ {l:List β} {i t:Nat} {v:β},lk (en i l) t=some v→i≤t∧l[t - i]? = some v
 | [],_,_,_,h=>by cases h
 | x::l,i,t,v,h=>by
  unfold en at h
  rcases z0t h with ⟨rfl,rfl⟩|⟨h1,h2⟩
  ·exact ⟨Nat.le_refl _,by simp⟩
  ·obtain ⟨h3,h4⟩:=zjc h2
   refine ⟨by omega,?_⟩
   rw [show t - i=(t - (i+1))+1 by omega]
   simpa using h4
end
def zm5 (G:GI) (i:CIn) (w:World) (O:Nat→Prop) (φ:Nat→Nat) (α:Nat→Value) (hF:∀ x,FI i φ α x→O x) (hB:Bd O w) (hG:G.p w O):W0:=⟨w,O,FI i φ α,G.p,hF,hB,G.tr,φ,G.lb hG⟩
theorem Out.of {C:Cx} {n:Nat} {V:Env} {w:World} {res:List ResultVar} {us:List Value} (h:C.fn.results=res.toArray) (hr:RVs C V w res us):Out C n V w (zss us):=by
 have hl:us.length=res.length:=by
  clear h
  induction res generalizing us with
  | nil=>cases hr;rfl
  | cons r res ih =>
   obtain ⟨v,vs,rfl,_,h2⟩:=hr
   simp [ih h2]
 match res,us,hr,hl,h with
 | [r],[u],hr,_,h =>
  obtain ⟨v,vs,e,h1,h2⟩:=hr
  cases e
  exact Out.single h h1
 | [],[],hr,_,h=>exact Out.many h hr rfl
 | r::r2::rs,u::u2::us,hr,_,h=>exact Out.many h hr rfl
theorem z7k {C:Cx} {n:Nat} {tb:Tb} {ann:Ann} {G:GI} {i:CIn} {w w':World} {O O':Nat→Prop} {φ φ':Nat→Nat} {α α':Nat→Value} {hF:∀ x,FI i φ α x→O x} {hB:Bd O w} {hG:G.p w O} {σ:St} {V:Env} {vs:List PV} {B:List Bx} {A:List (Option (Nat × Nat × List (List D)))} {res:List ResultVar}
  (ht:TbG C.P tb G) (hres:C.fn.results=res.toArray) {g:Nat→Nat} (hkp:∀ b,b<i.B.length→φ' b=φ b) (h:Rl { zm5 G i w O φ α hF hB hG with φ0:=g } σ V w' O' φ' α') (hs:∀ x,O x→O' x) (hnb:ann.nb=i.B.length) (h1000:i.B.length≤1000) (hw:zw4 tb ann res σ vs B A) :
  ∃ us,Out C n V w' (zss us)∧zf9 i w O φ α (.ok vs B A) (.returned (zss us)) w':=by
 obtain ⟨σ1,e1,hw⟩:=zi hw
 obtain ⟨rs,e2,hw⟩:=zi hw
 obtain ⟨σ2,e3,hw⟩:=zi hw
 obtain ⟨nk,e4,e5,e6,e7,e8⟩:=zi hw
 obtain ⟨α2,h1⟩:=z3x _ (σ:={ σ with L:=z5l (zkb res) σ.L }) (h.mono (fun _ _=>z5c) (Le.refl _) (Le.refl _)) e1
 obtain ⟨us,h2,h3⟩:=zil (C:=C) ht h1 e2
 obtain ⟨h4,h5,h6,h7⟩:=z19 _ h1 hs e3
 simp only [ya] at e8
 obtain ⟨⟨⟨⟨r1,r2⟩,r3⟩,r4⟩,r5⟩:=e8
 have r5:=yd r5
 have r4:∀ x∈nk,1000≤x:=fun x hx=>ye (List.all_eq_true.1 r4 x hx)
 rw [hnb] at e5 e6 r5
 have lk':(rng i.B.length 0++nk).length=B.length:=by rw [List.length_append,z99,r5]
 have kget:∀ j x,(rng i.B.length 0++nk)[j]? = some x→(j<i.B.length∧x=j)∨(i.B.length≤j∧nk[j - i.B.length]? = some x∧1000≤x):=fun j x hx=>by
  rcases Nat.lt_or_ge j i.B.length with hj|hj
  ·rw [List.getElem?_append_left (by rw [z99];exact hj)] at hx
   have:=zim.1 hx
   exact .inl ⟨hj,by omega⟩
  ·rw [List.getElem?_append_right (by rw [z99];exact hj),z99] at hx
   exact .inr ⟨hj,hx,r4 x (List.mem_of_getElem? hx)⟩
 have kinj:∀ j j' x,(rng i.B.length 0++nk)[j]? = some x→(rng i.B.length 0++nk)[j']? = some x→j=j':=fun j j' x hx hx'=>by
  rcases kget j x hx with ⟨k1,k2⟩|⟨k1,k2,k3⟩<;>rcases kget j' x hx' with ⟨m1,m2⟩|⟨m1,m2,m3⟩
  ·omega
  ·omega
  ·omega
  ·have:=z43 r3 _ _ x k2 m2
   omega
 have kd:∀ j x,(rng i.B.length 0++nk)[j]? = some x→(rng i.B.length 0++nk).getD j 0=x:=fun j x e=>by simp only [List.getD,e];rfl
 have kex:∀ j,j<B.length→∃ x,(rng i.B.length 0++nk)[j]? = some x:=fun j hj=>⟨(rng i.B.length 0++nk)[j]'(by omega),by simp [show j<(rng i.B.length 0++nk).length by omega]⟩
 have hb:∀ j x,j<B.length→(rng i.B.length 0++nk)[j]? = some x→(fun j=>φ' ((rng i.B.length 0++nk).getD j 0)) j=φ' x:=fun j x _ e=>by simp only [kd j x e]
 have ha:∀ j x,j<A.length→(rng A.length 0)[j]? = some x→α2 j=α2 x:=fun j x _ e=>by
  have:=(zim.1 e).2
  rw [this,yf]
 have toCall:∀ {Q:Nat→Prop} {vs:List PV} {us:List Value},inR.go B.length A.length vs=true→VRs w' Q φ' α2 (z7y.go (rng i.B.length 0++nk) (rng A.length 0) vs) us→VRs w' Q (fun j=>φ' ((rng i.B.length 0++nk).getD j 0)) α2 vs us :=
  fun {Q vs us} hi hr=>z63 hb ha (by omega) (by rw [z99];exact Nat.le_refl _) vs us hi hr
 have hres2:=z7u (σ:=σ1) (O:=O') (φ:=φ') (α:=α2) (O2:=z8u O' α2 (lk σ1.A) (z7s.go vs rs)) (fun x hx=>hx.1) h1.arr vs rs us (fun a ha e he x hx=>hx.2 a ha (by rw [he];rfl)) h3
 rw [e5] at hres2
 have boxK:∀ (j:Nat) (e:Bx),B[j]? = some e→∃ (b:Nat) (x:Bx),(rng i.B.length 0++nk)[j]? = some b∧lk σ2.B b=some x∧x.T=e.T∧nrm.go { σ2 with A:=[] } e.cs x.cs=z7y.go (rng i.B.length 0++nk) (rng A.length 0) e.cs:=z7i e6
 have boxE:∀ j,j<B.length→∃ (b:Nat) (x:Bx),(rng i.B.length 0++nk)[j]? = some b∧lk σ2.B b=some x:=fun j hj=>by
  obtain ⟨b,x,k1,k2,_⟩:=boxK j B[j] (by simp)
  exact ⟨b,x,k1,k2⟩
 have arrK:=z7g e7
 refine ⟨us,Out.of hres h2,us,_,_,_,rfl,⟨toCall r1 hres2,⟨fun j e he => ?_,fun j e he => ?_,fun a b la lb hn => ?_,fun a b e e' h8 h9 hn x hx => ?_,fun a b e h8 lb => ?_⟩,fun b hb' => ?_,by omega,h4.bd,h4.tr0,h5,h4.only,h4.ext,fun b lb hb' => ?_,fun a e x h8 hx => ?_⟩⟩
 ·obtain ⟨b,x,k1,k2,k3,k4⟩:=boxK j e he
  obtain ⟨k5,xs,k6,k7⟩:=h4.box b x k2
  simp only [kd j b k1]
  refine ⟨k5,xs,k3▸k6,?_⟩
  have h8:=z7u (σ:={ σ2 with A:=[] }) (O:=z8u O' α2 (lk σ1.A) (z7s.go vs rs)) (φ:=φ') (α:=α2) (O2:=z8u O' α2 (lk σ1.A) (z7s.go vs rs)) (fun _ hx=>hx) (fun _ _ hx=>by cases hx) e.cs _ _ (fun _ _ _ hx=>by cases hx) k7
  rw [k4] at h8
  exact toCall (zhv r2 he) h8
 ·obtain ⟨x,k1,k2,k3,k4⟩:=arrK j e he
  rw [yf] at k1
  have:=h4.arr j x k1
  rw [k2,k3,k4] at this
  exact this
 ·obtain ⟨b1,y1,k1,k2⟩:=boxE a la
  obtain ⟨b2,y2,k3,k4⟩:=boxE b lb
  simp only [kd a b1 k1,kd b b2 k3]
  exact h4.bb b1 b2 y1 y2 k2 k4 fun q=>hn (kinj a b b1 k1 (q▸k3))
 ·obtain ⟨x1,k1,_⟩:=arrK a e h8
  obtain ⟨x2,k2,_⟩:=arrK b e' h9
  rw [yf] at k1 k2
  exact h4.aa a b x1 x2 k1 k2 hn x hx
 ·obtain ⟨x1,k1,_⟩:=arrK a e h8
  obtain ⟨b2,y2,k3,k4⟩:=boxE b lb
  rw [yf] at k1
  simp only [kd b b2 k3]
  exact h4.ab a b2 x1 y2 k1 k4
 ·obtain ⟨b2,y2,k3,k4⟩:=boxE b (by omega)
  simp only [kd b b2 k3]
  rcases kget b b2 k3 with ⟨_,rfl⟩|⟨k1,_⟩
  ·exact hkp b2 (by omega)
  ·omega
 ·obtain ⟨b2,y2,k3,k4⟩:=boxE b lb
  simp only [kd b b2 k3]
  rcases kget b b2 k3 with ⟨k1,_⟩|⟨_,_,k1⟩
  ·omega
  ·rcases h4.bF b2 y2 k4 with ⟨k2,_⟩|k2
   ·omega
   ·exact k2
 ·obtain ⟨x1,k1,_⟩:=arrK a e h8
  rw [yf] at k1
  rcases h4.aF a x1 k1 x hx with ⟨_,k2⟩|k2
  ·rcases k2 with ⟨b,lb,k2⟩|k2
   ·obtain ⟨b2,y2,k3,k4⟩:=boxE b (by omega)
    rcases kget b b2 k3 with ⟨_,rfl⟩|⟨k5,_⟩
    ·have:=h4.ab a b2 x1 y2 k1 k4
     rw [hkp b2 (by omega)] at this
     exact (this (by rw [hx,←k2])).elim
    ·omega
   ·exact .inl k2
  ·exact .inr k2
theorem ze0 {G:GI} {i:CIn} {w:World} {O:Nat→Prop} {φ:Nat→Nat} {α:Nat→Value} {us:List Value} (hv:VRs w O φ α i.vs us) (hm:Mm w O φ α i.B (i.A.map some)) (hB:Bd O w) (hG:G.p w O) (h1000:i.B.length≤1000) :
  ∃ hF:∀ x,FI i φ α x→O x,Rl (zm5 G i w O φ α hF hB hG) (entry i) (zcd 0 us) w O φ α:=by
 have hF:∀ x,FI i φ α x→O x:=fun x hx=>by
  rcases hx with ⟨b,hb,rfl⟩|⟨a,ha,hx⟩
  ·exact (hm.box b i.B[b] (by simp)).1
  ·exact (hm.arr a i.A[a] (by simp)).mem x hx
 refine ⟨hF,?_⟩
 have getA:∀ {a:Nat} {e:Arr},lk (entry i).A a=some e→i.A[a]? = some (e.T,e.n,e.l)∧e.zqv=false:=fun {a e} he=>by
  obtain ⟨_,h1⟩:=zjc he
  simp only [Nat.sub_zero,yc] at h1
  obtain ⟨x,h2,rfl⟩:=Option.map_eq_some_iff.1 h1
  exact ⟨h2,rfl⟩
 have getA':∀ {a:Nat} {e:Arr},lk (entry i).A a=some e→(i.A.map some)[a]? = some (some (e.T,e.n,e.l)):=fun {a e} he=>by
  rw [yc,(getA he).1];rfl
 have getB:∀ {b:Nat} {e:Bx},lk (entry i).B b=some e→i.B[b]? = some e:=fun {b e} he=>by simpa using (zjc he).2
 have ltB:∀ {b:Nat} {e:Bx},lk (entry i).B b=some e→b<i.B.length:=fun {b e} he=>(yb.1 (getB he)).1
 have h0:Rl (zm5 G i w O φ α hF hB hG) (entry i) (zcd 0 us) w O φ α:=by
  refine ⟨fun t v e => ?_,fun b e he=>hm.box b e (getB he),fun a e he=>hm.arr a _ (getA' he),fun a b e e' h1 h2 hn=>hm.bb a b (ltB h1) (ltB h2) hn,fun a b e e' h1 h2 hn x hx=>hm.aa a b _ _ (getA' h1) (getA' h2) hn x hx,fun a b e e' h1 h2=>hm.ab a b _ (getA' h1) (ltB h2),
   fun b e he => .inl ⟨Nat.lt_of_lt_of_le (ltB he) h1000,.inl ⟨b,ltB he,rfl⟩⟩,fun a e he x hx => .inl ⟨(getA he).2,.inr ⟨a,(yb.1 (getA he).1).1,hx⟩⟩,hB,Ext.refl _ _,fun x hx => .inl hx,hG,fun _ _=>rfl⟩
  obtain ⟨_,h1⟩:=zjc e
  obtain ⟨u,h2,h3⟩:=hv.get (i:=t) (by simpa using h1)
  refine ⟨u,?_,h3⟩
  have:∀ (us:List Value) (i t:Nat),us[t]? = some u→Env.get (zcd i us) (i+t)=some u:=by
   intro us
   induction us with
   | nil=>intro i t h;simp at h
   | cons x us ih =>
    intro i t h
    unfold zcd Env.get
    cases t with
    | zero=>simp at h;subst h;simp
    | succ t =>
     split
     ·rename_i hb
      have:=yd hb
      omega
     ·have:=ih (i+1) t (by simpa using h)
      rwa [show i+1+t=i+(t+1) by omega] at this
  simpa using this us 0 t h2
 exact h0
theorem Con.of {P:Program} {G:GI} {tb:Tb} {cty:List (Nat × List (Option (Nat × Nat)))} {ann:Ann} {f:Nat} {fn:Func} {c:Code} {i:CIn} {o:z3s} {n:Nat} {res:List ResultVar} (ht:TbG P tb G) (ent:∀ args w,(callFunc f args).run P w = .ok (.enter f args) w) (hf:P.funcs[f]? = some fn) (hb:fn.body=some c) (hn:fn.ntmps=n)
  (hres:fn.results=res.toArray) (hok:okC ann n c=true) (hl:Nat.ble i.vs.length n=true) (hnb:ann.nb=i.B.length) (h1000:Nat.ble i.B.length 1000=true) (hw:ex tb cty ann (Con P G) c (entry i) (fin tb ann res o)):Con P G f i o:=by
 refine ⟨ent,fun w O φ α us hv hm hB hG => ?_⟩
 have h1000:=ye h1000
 obtain ⟨hF,h0⟩:=ze0 (G:=G) hv hm hB hG h1000
 have hlu:us.length=i.vs.length:=hv.len
 refine zdr hf hb n hn (by rw [hlu];exact hl) ?_
 refine z14 (z:=zm5 G i w O φ α hF hB hG) (C:={ P:=P,f:=f,fn:=fn,R:=zf9 i w O φ α o,hf:=hf }) (n:=n) (ds:=[]) (G:=G) ht (fun _ _ _ h=>h) (fun _ _ h=>h) c (entry i) _ [] hok (.inl rfl) hw (fun fl s hs => ?_) _ _ ⟨O,φ,α,h0,fun _ hx=>hx⟩
 cases fl with
 | normal =>
  intro V w' hr
  obtain ⟨O',φ',α',h1,h2⟩:=hr
  cases o with
  | pan v=>exact hs.elim
  | okI _ _ _=>exact hs.elim
  | ok vs B A =>
   obtain ⟨us',h3,h4⟩:=z7k (C:={ P:=P,f:=f,fn:=fn,R:=zf9 i w O φ α (.ok vs B A),hf:=hf }) (n:=n) (hF:=hF) (hB:=hB) (hG:=hG) (g:=φ) ht hres (fun b hb=>h1.keep b (by omega)) h1 h2 hnb h1000 hs
   exact TW.fin h3 h4
 | ret =>
  intro k' V w' hr
  obtain ⟨O',φ',α',h1,h2⟩:=hr
  cases o with
  | pan v=>exact hs.elim
  | okI _ _ _=>exact hs.elim
  | ok vs B A =>
   obtain ⟨us',h3,h4⟩:=z7k (C:={ P:=P,f:=f,fn:=fn,R:=zf9 i w O φ α (.ok vs B A),hf:=hf }) (n:=n) (hF:=hF) (hB:=hB) (hG:=hG) (g:=φ) ht hres (fun b hb=>h1.keep b (by omega)) h1 h2 hnb h1000 hs
   exact TW.ret h3 h4
 | exit _=>exact hs.elim
 | pan v =>
  cases hs
  intro V w' O' φ' α' u φ2 α2 h1 h2 h3 a ha hda
  exact PN.nil hda ⟨u,O',φ2,α2,rfl,h3,h1.ext,h1.tr0,h1.bd,h1.only⟩
end Go.Pe
end
section
namespace Go.Pe
open _root_.Option renaming map_eq_some_iff → ya
open _root_.Bool renaming and_eq_true → yb
open _root_.List renaming toArray → yc
open _root_.Nat renaming beq → yd, eq_of_beq_eq_true → ye
open _root_.Array renaming toList_inj → yf
open Go.RowKit Go.Lk
variable [Lb]

def zhe (b:Nat):PV→PV
 | .ptr x off=>match yd x b with
  | true => .ptr 999 off
  | false => .ptr x off
 | .z0g x=>match yd x b with
  | true => .z0g 999
  | false => .z0g x
 | .mp x=>match yd x b with
  | true => .mp 999
  | false => .mp x
 | .agg cs => .agg (go cs)
 | .tup cs => .tup (go cs)
 | .iface T v => .iface T (zhe b v)
 | .fn f a c => .fn f (go a) (go c)
 | v=>v
where
 go:List PV→List PV
  | []=>[]
  | v::vs=>zhe b v::go vs
def St.znc (σ:St):Bool:=(lk σ.B 999).isNone&&σ.L.all (fun p=>noK (some 999) none p.2)&&σ.B.all (fun p=>z96 (some 999) none p.2.cs)
def St.zwy (σ:St) (b:Nat):Option St:=match lk σ.B b,σ.znc with
 | some e,true=>some { σ with L:=σ.L.map fun p=>(p.1,zhe b p.2),B:=(999,⟨e.T,zhe.go b e.cs⟩)::(z88 b σ.B).map fun p=>(p.1,⟨p.2.T,zhe.go b p.2.cs⟩) }
 | _,_=>none
def zyl:Code→Option (Operand × Option Operand)
 | .region _ ops false=>match ops.toList with
  | [o]=>match o.op,o.guard,o.dst with
   | .defer c,none,none=>match c.callee,c.args.toList with
    | .value x,[y]=>some (x,some y)
    | .value x,[]=>some (x,none)
    | _,_=>none
   | _,_,_=>none
  | _=>none
 | _=>none
def zzp:Code→Option (Oper × Nat × Operand)
 | .region _ ops false=>match ops.toList with
  | [m,o]=>match m.op,m.guard,m.dst,o.op,o.guard,o.dst with
   | .makeFunc _ _ _,none,some d,.defer c,none,none=>match c.callee,c.args.toList with
    | .value x,[]=>some (m,d,x)
    | _,_=>none
   | _,_,_,_,_,_=>none
  | _=>none
 | _=>none
def exD (tb:Tb) (cty:List (Nat × List (Option (Nat × Nat)))) (ann:Ann) (con:Nat→CIn→z3s→Prop) (k:z8v→St→Prop) (kD:Nat→z8v→St→Prop):Code→St→Prop
 | .seq a b,σ=>match zyl a with
  | some (x,some y)=>match σ.ev x,σ.ev y with
   | some (.fn f [] []),some (.ptr bx 0)=>wt (σ.zwy bx) fun s=>ex tb cty ann con b s (kD f)
   | _,_=>False
  | some (x,none)=>match σ.ev x with
   | some (.fn f [] [.ptr bx 0])=>wt (σ.zwy bx) fun s=>ex tb cty ann con b s (kD f)
   | _=>False
  | none=>match zzp a with
   | some (m,d,x)=>qop tb σ m.op fun v=>(σ.put (some d) v).go fun σ=>match σ.ev x with
    | some (.fn f [] [.ptr bx 0])=>wt (σ.zwy bx) fun s=>ex tb cty ann con b s (kD f)
    | _=>False
   | none=>ex tb cty ann con a σ (z7a (fun s=>exD tb cty ann con k kD b s) k)
 | _,_=>False
section
variable {z:W0} {V:Env} {w:World} {O:Nat→Prop} {φ:Nat→Nat} {α:Nat→Value} {σ:St} {C:Cx} {n:Nat} {G:GI} {con:Nat→CIn→z3s→Prop} {tb:Tb} {cty:List (Nat × List (Option (Nat × Nat)))} {ann:Ann}
mutual
theorem zik {b:Nat}:∀ (v:PV) (u:Value),z2r (fun x=>x≠999) (fun _=>True) v→VR w O φ α v u→VR w O (ren φ 999 (φ b)) α (zhe b v) u
 | .int k n,u,_,h=>h
 | .bool b,u,_,h=>h
 | .str s,u,_,h=>h
 | .sl T n l,u,_,h=>h
 | .fsl T n l,u,_,h=>h
 | .slx T n l v,u,_,h=>h
 | .nil,u,_,h=>h
 | .zc7,u,_,h=>h
 | .zfc,u,_,h=>h
 | .undef,u,_,h=>trivial
 | .gone,u,_,h=>h
 | .err _,u,_,h=>h
 | .z09 cs off,u,_,h=>h
 | .z9k cs off v,u,_,h=>h
 | .z8y x m i off,u,k,h=>h
 | .ref a,u,k,h=>h
 | .ptr x off,u,k,h=>by
  have k:x≠999:=k
  unfold zhe
  split
  ·rename_i e
   have e:=ye e
   subst e
   simp only [VR] at h ⊢
   simpa [ren] using h
  ·simp only [VR] at h ⊢
   simpa [ren,k] using h
 | .z0g x,u,k,h=>by
  have k:x≠999:=k
  unfold zhe
  split
  ·rename_i e
   have e:=ye e
   subst e
   simp only [VR] at h ⊢
   simpa [ren] using h
  ·simp only [VR] at h ⊢
   simpa [ren,k] using h
 | .mp x,u,k,h=>by
  have k:x≠999:=k
  unfold zhe
  split
  ·rename_i e
   have e:=ye e
   subst e
   simp only [VR] at h ⊢
   simpa [ren] using h
  ·simp only [VR] at h ⊢
   simpa [ren,k] using h
 | .md _,u,_,h=>h
 | .agg cs,u,k,h=>by
  obtain ⟨us,h1,h2⟩:=h
  exact ⟨us,h1,z5g cs us k h2⟩
 | .tup cs,u,k,h=>by
  obtain ⟨us,h1,h2⟩:=h
  exact ⟨us,h1,z5g cs us k h2⟩
 | .iface T v,u,k,h=>by
  obtain ⟨x,h1,h2⟩:=h
  exact ⟨x,h1,zik v x k h2⟩
 | .fn f as' cs,u,k,h=>by
  obtain ⟨us,vs,h1,h2,h3⟩:=h
  exact ⟨us,vs,h1,z5g as' us k.1 h2,z5g cs vs k.2 h3⟩
theorem z5g {b:Nat}:∀ (vs:List PV) (us:List Value),z2r.go (fun x=>x≠999) (fun _=>True) vs→VRs w O φ α vs us→VRs w O (ren φ 999 (φ b)) α (zhe.go b vs) us
 | [],us,_,h=>h
 | v::vs,us,k,h=>by
  obtain ⟨u,us',h1,h2,h3⟩:=h
  exact ⟨u,us',h1,zik v u k.1 h2,z5g vs us' k.2 h3⟩
end
theorem Rel.zzd {σ':St} {b:Nat} (h:Rl z σ V w O φ α) (e:σ.zwy b=some σ'):Rl { z with φ0:=ren z.φ0 999 (φ b) } σ' V w O (ren φ 999 (φ b)) α:=by
 unfold St.zwy at e
 split at e
 ·rename_i eb hb hf
  cases e
  simp only [St.znc,yb,List.all_eq_true] at hf
  obtain ⟨⟨f1,f2⟩,f3⟩:=hf
  have kL:∀ t v,lk σ.L t=some v→z2r (fun x=>x≠999) (fun _=>True) v:=fun t v hv=>noK.b (x:=0) (f2 _ (zbh hv))
  have kB:∀ b e,lk σ.B b=some e→z2r.go (fun x=>x≠999) (fun _=>True) e.cs:=fun b e he=>z96.b (f3 _ (zbh he))
  have n9:∀ x e,lk σ.B x=some e→x≠999:=fun x e he hx=>by
   subst hx
   rw [he] at f1
   cases f1
  have e9:ren φ 999 (φ b) 999=φ b:=by simp [ren]
  have eo:∀ x,x≠999→ren φ 999 (φ b) x=φ x:=fun x hx=>by simp [ren,hx]
  have get:∀ x e,lk ((999,(⟨eb.T,zhe.go b eb.cs⟩:Bx))::(z88 b σ.B).map fun p=>(p.1,(⟨p.2.T,zhe.go b p.2.cs⟩:Bx))) x=some e →
    (x=999∧e=⟨eb.T,zhe.go b eb.cs⟩)∨(x≠999∧x≠b∧∃ e0,lk σ.B x=some e0∧e=⟨e0.T,zhe.go b e0.cs⟩):=fun x e he=>by
   rcases z0t he with h1|⟨h1,h2⟩
   ·exact .inl h1
   ·have h3:(lk (z88 b σ.B) x).map (fun y:Bx=>(⟨y.T,zhe.go b y.cs⟩:Bx))=some e:=(zd8 (fun y:Bx=>(⟨y.T,zhe.go b y.cs⟩:Bx)) (z88 b σ.B) x).symm.trans h2
    obtain ⟨e0,h4,h5⟩:=ya.1 h3
    obtain ⟨h6,h7⟩:=z2m h4
    exact .inr ⟨h1,h6,e0,h7,h5.symm⟩
  refine ⟨fun t v hv => ?_,fun x e he => ?_,h.arr,fun x y e e' he he' hn => ?_,h.aa,fun a x e e' ha he => ?_,fun x e he => ?_,h.aF,h.bd,h.ext,h.only,h.gl,fun x hx => ?_⟩
  ·simp only at hv
   rw [zd8] at hv
   obtain ⟨v0,h1,rfl⟩:=ya.1 hv
   obtain ⟨u,h2,h3⟩:=h.env t v0 h1
   exact ⟨u,h2,zik v0 u (kL t v0 h1) h3⟩
  ·rcases get x e he with ⟨rfl,rfl⟩|⟨h1,h2,e0,h3,rfl⟩
   ·rw [e9]
    obtain ⟨k1,us,k2,k3⟩:=h.box b eb hb
    exact ⟨k1,us,k2,z5g _ _ (kB b eb hb) k3⟩
   ·rw [eo x h1]
    obtain ⟨k1,us,k2,k3⟩:=h.box x e0 h3
    exact ⟨k1,us,k2,z5g _ _ (kB x e0 h3) k3⟩
  ·rcases get x e he with ⟨rfl,rfl⟩|⟨h1,h2,e0,h3,rfl⟩<;>rcases get y e' he' with ⟨rfl,rfl⟩|⟨h1',h2',e0',h3',rfl⟩
   ·exact (hn rfl).elim
   ·rw [e9,eo y h1'];exact h.bb b y eb e0' hb h3' (Ne.symm h2')
   ·rw [e9,eo x h1];exact h.bb x b e0 eb h3 hb h2
   ·rw [eo x h1,eo y h1'];exact h.bb x y e0 e0' h3 h3' hn
  ·rcases get x e' he with ⟨rfl,rfl⟩|⟨h1,h2,e0,h3,rfl⟩
   ·rw [e9];exact h.ab a b e eb ha hb
   ·rw [eo x h1];exact h.ab a x e e0 ha h3
  ·rcases get x e he with ⟨rfl,rfl⟩|⟨h1,h2,e0,h3,rfl⟩
   ·rw [e9]
    rcases h.bF b eb hb with ⟨_,k⟩|k
    ·exact .inl ⟨by decide,k⟩
    ·exact .inr k
   ·rw [eo x h1];exact h.bF x e0 h3
  ·show ren φ 999 (φ b) x=ren z.φ0 999 (φ b) x
   by_cases hx9:x=999
   ·subst hx9;simp [ren]
   ·simp only [ren,hx9,if_false];exact h.keep x hx
 ·cases e
def ztf (cl:Bool) (g:Nat):List Value:=match cl with
 | true=>[Value.pointer (some ⟨g,0,none⟩)]
 | false=>[]
def zte (cl:Bool) (g:Nat):List Value:=match cl with
 | true=>[]
 | false=>[Value.pointer (some ⟨g,0,none⟩)]
def zxn (cl:Bool) (f g:Nat):Deferred:={ target:=.fn (.func f) (ztf cl g).toArray,args:=(zte cl g).toArray }
theorem TW.zvv {C:Cx} {n:Nat} {ds:List Deferred} {k:List Item} {L:Env} {w:World} {id:Nat} {m o:Oper} {dm:Nat} {v:Value} {x:Operand} {xs:Array Operand} {ts:Array TypeId} {g:FuncId} {vs caps:List Value} (hmg:m.guard=none) (hmd:m.dst=some dm) (hmn:Nat.blt dm n=true) (hmr:EX C n L w m v)
  (hg:o.guard=none) (hd:o.dst=none) (ho:o.op = .defer { callee:=.value x,args:=xs,argTypes:=ts })
  (hx:Lk.ev ((dm,v)::L) x=some (.func (.func g) #[] caps.toArray)) (hxs:Lk.evs ((dm,v)::L) xs.toList=some vs) (h:TW C n ({ target:=.fn (.func g) caps.toArray,args:=vs.toArray }::ds) k ((dm,v)::L) w):TW C n ds (.code (.region id [m,o].toArray false)::k) L w:=fun a0 ha0 hds0 cs=>by
 have h':wpList C.P [m,o].toArray (QT C ({ target:=.fn (.func g) caps.toArray,args:=vs.toArray }::ds) (TWa C k)) [m,o] a0 w :=
  wpList_plain hmg fun K hK=>by
   unfold Oper.wp
   rw [hmr a0 ha0,Oper.upon_value,hmd]
   refine hK _ _ ?_
   have ha:=ha0.put (d:=dm) (v:=v) (by simpa [Nat.blt_eq] using hmn)
   have hds:(a0.put (some dm) v).defers=ds:=by simpa [Act.put] using hds0
   have e1:xs.map (a0.put (some dm) v).eval=vs.toArray:=by apply yf.1;simpa using ha.evs hxs
   have hrun:(execOp (a0.put (some dm) v).eval o).run C.P w = .ok (.defer { target:=.fn (.func g) caps.toArray,args:=vs.toArray }) w:=by
    simp [execOp,ho,resolve,ha.ev hx,e1,Deferred.ofValue]
   exact wpList_plain hg fun K hK=>by
    unfold Oper.wp
    rw [hrun]
    simp only [Oper.upon,hd,Act.put]
    refine hK _ _ ⟨?_,h _ ⟨ha.size,ha.get⟩ ?_⟩<;>simp [hds0]
 have h2:wpOps C.P [m,o].toArray (QT C ({ target:=.fn (.func g) caps.toArray,args:=vs.toArray }::ds) (TWa C k)) (List.range [m,o].toArray.size) a0 w:=by
  rw [List.range_eq_range',←Array.length_toList,wpOps_eq_wpList [m,o].toArray.toList 0 (by simp)];exact h'
 exact (z4u h2 cs).of_steps (.one step_region)
theorem zg0 (ht:TbG C.P tb G) (hcon:∀ f i o,con f i o→Con C.P G f i o) (hz:∀ w O,z.G w O→G.p w O) {k:z8v→St→Prop} {kD:Nat→z8v→St→Prop}:∀ (c:Code) (σ:St) (todo:List Item),okC ann n c=true→z2o c=true→exD tb cty ann con k kD c σ→(∀ fl s,k fl s→fl ≠ .normal→FS z C n [] todo fl s) →
  (∀ cl f g fl s,kD f fl s→FS { z with φ0:=ren z.φ0 999 g } C n [zxn cl f g] todo fl s)→KS z C n [] (.code c::todo) σ
 | .seq a b,σ,todo,hn,hd,hw,hk,hkD=>by
  simp only [okC,yb] at hn
  simp only [z2o,yb] at hd
  intro V w hr
  refine TW.seq ?_
  unfold exD at hw
  split at hw
  ·rename_i x y hx
   unfold zyl at hx
   split at hx
   ·rename_i id ops
    split at hx
    ·rename_i o ho
     split at hx
     ·rename_i c hop hg hdst
      obtain ⟨cal,cargs,cty'⟩:=c
      split at hx
      ·rename_i x' y' hcx hcy
       cases hx
       simp only at hcx hcy
       subst hcx
       have e1:ops=[o].toArray:=by apply yf.1;simpa using ho
       subst e1
       obtain ⟨O,φ,α,h,hs⟩:=hr
       split at hw
       ·rename_i f bx hf hb
        obtain ⟨s,hs1,hw⟩:=zi hw
        obtain ⟨uf,h1,us,vs,rfl,h2,h3⟩:=h.ev hf
        obtain ⟨ub,h4,h5⟩:=h.ev hb
        simp only [VR] at h5
        subst h5
        have h2:us=[]:=h2
        have h3:vs=[]:=h3
        subst h2 h3
        refine TW.zs7 (caps:=[]) (vs:=[Value.pointer (some ⟨φ bx,0,none⟩)]) hg hdst hop h1 (by rw [hcy];simp only [Lk.evs,h4]) ?_
        have:=z14 (z:={ z with φ0:=ren z.φ0 999 (φ bx) }) (ds:=[zxn false f (φ bx)]) (G:=G) ht hcon hz b s (kD f) todo hn.2 (.inr hd.2) hw (fun fl s hk=>hkD false f (φ bx) fl s hk)
        exact this V w ⟨O,_,α,h.zzd hs1,hs⟩
       ·exact hw.elim
      ·cases hx
      ·cases hx
     ·cases hx
    ·cases hx
   ·cases hx
  ·rename_i x hx
   unfold zyl at hx
   split at hx
   ·rename_i id ops
    split at hx
    ·rename_i o ho
     split at hx
     ·rename_i c hop hg hdst
      obtain ⟨cal,cargs,cty'⟩:=c
      split at hx
      ·cases hx
      ·rename_i x' hcx hcy
       cases hx
       simp only at hcx hcy
       subst hcx
       have e1:ops=[o].toArray:=by apply yf.1;simpa using ho
       subst e1
       obtain ⟨O,φ,α,h,hs⟩:=hr
       split at hw
       ·rename_i f bx hf
        obtain ⟨s,hs1,hw⟩:=zi hw
        obtain ⟨uf,h1,us,vs,rfl,h2,h3⟩:=h.ev hf
        have h2:us=[]:=h2
        obtain ⟨u,vs',rfl,h5,h6⟩:=h3
        have h6:vs'=[]:=h6
        simp only [VR] at h5
        subst h2 h5 h6
        refine TW.zs7 (caps:=[Value.pointer (some ⟨φ bx,0,none⟩)]) (vs:=[]) hg hdst hop h1 (by rw [hcy];simp only [Lk.evs]) ?_
        have:=z14 (z:={ z with φ0:=ren z.φ0 999 (φ bx) }) (ds:=[zxn true f (φ bx)]) (G:=G) ht hcon hz b s (kD f) todo hn.2 (.inr hd.2) hw (fun fl s hk=>hkD true f (φ bx) fl s hk)
        exact this V w ⟨O,_,α,h.zzd hs1,hs⟩
       ·exact hw.elim
      ·cases hx
     ·cases hx
    ·cases hx
   ·cases hx
  ·split at hw
   ·rename_i m d x hx
    unfold zzp at hx
    split at hx
    ·rename_i id ops _
     split at hx
     ·rename_i m' o ho
      split at hx
      ·rename_i fn0 fs0 cs0 dm c hmop hmg hmd hop hg hdst
       obtain ⟨cal,cargs,cty'⟩:=c
       split at hx
       ·rename_i x' hcx hcy
        cases hx
        simp only at hcx hcy
        subst hcx
        have e1:ops=[m,o].toArray:=by apply yf.1;simpa using ho
        subst e1
        obtain ⟨O,φ,α,h,hs⟩:=hr
        have hnm:dOk n m.dst=true:=by
         have h7:=hn.1
         simp only [okC,List.all_cons,yb] at h7
         first|exact h7.1|exact h7.1.1|exact h7.2.1
        rw [hmd] at hnm
        obtain ⟨v,u,hw,hv,hex,_⟩:=z8p (C:=C) (n:=n) (V:=V) ht.toTbOk (fun w O hg=>ht.gt w O (hz w O hg)) h hw
        rw [St.go_eq] at hw
        have h0:=h.za6 (d:=d) hv
        split at hw
        ·rename_i f bx hf
         obtain ⟨s,hs1,hw⟩:=zi hw
         obtain ⟨uf,h1,us,vs,rfl,h2,h3⟩:=h0.ev hf
         have h2:us=[]:=h2
         obtain ⟨u',vs',rfl,h5,h6⟩:=h3
         have h6:vs'=[]:=h6
         simp only [VR] at h5
         subst h2 h5 h6
         refine TW.zvv (caps:=[Value.pointer (some ⟨φ bx,0,none⟩)]) (vs:=[]) hmg hmd hnm hex hg hdst hop h1 (by rw [hcy];simp only [Lk.evs]) ?_
         have:=z14 (z:={ z with φ0:=ren z.φ0 999 (φ bx) }) (ds:=[zxn true f (φ bx)]) (G:=G) ht hcon hz b s (kD f) todo hn.2 (.inr hd.2) hw (fun fl s hk=>hkD true f (φ bx) fl s hk)
         exact this _ w ⟨O,_,α,h0.zzd hs1,hs⟩
        ·exact hw.elim
       ·cases hx
      ·cases hx
     ·cases hx
    ·cases hx
   refine z14 (ds:=[]) (G:=G) ht hcon hz a σ _ (.code b::todo) hn.1 (.inr hd.1) hw (fun fl s hs => ?_) V w hr
   cases fl with
   | normal=>exact zg0 ht hcon hz b s todo hn.2 hd.2 hs hk hkD
   | exit i=>exact (hk _ _ hs (by simp)).code (by simp)
   | ret=>exact (hk _ _ hs (by simp)).code (by simp)
   | pan v=>exact (hk _ _ hs (by simp)).code (by simp)
 | .skip,σ,todo,_,_,hw,_,_=>hw.elim
 | .label _,σ,todo,_,_,hw,_,_=>hw.elim
 | .ret,σ,todo,_,_,hw,_,_=>hw.elim
 | .exit _,σ,todo,_,_,hw,_,_=>hw.elim
 | .region _ _ _,σ,todo,_,_,hw,_,_=>hw.elim
 | .cond _ _ _,σ,todo,_,_,hw,_,_=>hw.elim
 | .block _ _,σ,todo,_,_,hw,_,_=>hw.elim
 | .loop _,σ,todo,_,_,hw,_,_=>hw.elim
 | .rangeFunc ..,σ,todo,_,_,hw,_,_=>hw.elim
 | .scope _,σ,todo,_,_,hw,_,_=>hw.elim
 | .goto _,σ,todo,_,_,hw,_,_=>hw.elim
 | .refuse _,σ,todo,_,_,hw,_,_=>hw.elim
end
structure zff (P:Program) (f T:Nat) (ik:IntKind) (Te:Nat):Prop where
 ent:∀ args w,(callFunc f args).run P w = .ok (.enter f args) w
 ret:∀ w b,CallsD P f (yc [Value.pointer (some ⟨b,0,none⟩)]) .returning w (fun e u w'=>e = .returned (.tuple #[])∧u = .returning∧Ext z0h w w')
 pan:∀ w b c e,z0r w b Te [c]→CallsD P f (yc [Value.pointer (some ⟨b,0,none⟩)]) (.panicking [{ v:=Value.iface T (Value.agg (yc [Value.int ik e])),recovered:=false }]) w
  (fun e' u w'=>e' = .returned (.tuple #[])∧u = .panicking [{ v:=Value.iface T (Value.agg (yc [Value.int ik e])),recovered:=true }]∧z0r w' b Te [Value.int ik e]∧Ext (At b) w w')
def zxp (tb:Tb) (ann:Ann) (res:List ResultVar) (out:z3s) (fc T:Nat) (ik:IntKind) (Te:Nat) (f:Nat) (fl:z8v) (s:St):Prop :=
 match yd f fc,fl,out with
 | true,.ret,.ok vs B A=>zw4 tb ann res s vs B A
 | true,.pan v,.ok vs B A=>match v,lkB s.B 999 with
  | .iface T' (.agg [.int ik' e]),some ⟨Te',[_]⟩=>match yd T' T&&zsd ik' ik&&yd Te' Te with
   | true=>zw4 tb ann res { s with B:=zh2 999 ⟨Te',[.int ik' e]⟩ s.B } vs B A
   | false=>False
  | _,_=>False
 | _,_,_=>False
theorem Con.ofD {P:Program} {G:GI} {tb:Tb} {cty:List (Nat × List (Option (Nat × Nat)))} {ann:Ann} {f:Nat} {fn:Func} {c:Code} {i:CIn} {o:z3s} {n:Nat} {res:List ResultVar} {fc T:Nat} {ik:IntKind} {Te:Nat} (hct:zff P fc T ik Te) (ht:TbG P tb G) (ent:∀ args w,(callFunc f args).run P w = .ok (.enter f args) w) (hf:P.funcs[f]? = some fn) (hb:fn.body=some c) (hn:fn.ntmps=n)
  (hres:fn.results=res.toArray) (hok:okC ann n c=true) (hnd:z2o c=true) (hl:Nat.ble i.vs.length n=true) (hnb:ann.nb=i.B.length) (h1000:Nat.ble i.B.length 900=true) (hw:exD tb cty ann (Con P G) (fin tb ann res o) (zxp tb ann res o fc T ik Te) c (entry i)):Con P G f i o:=by
 refine ⟨ent,fun w O φ α us hv hm hB hG => ?_⟩
 have h1000:=Nat.le_of_ble_eq_true h1000
 obtain ⟨hF,h0⟩:=ze0 (G:=G) hv hm hB hG (by omega)
 have hlu:us.length=i.vs.length:=hv.len
 refine zmq hf hb n hn (by rw [hlu];exact hl) ?_
 have hN:∀ b,b<i.B.length→b≠999:=fun b hb=>by omega
 refine zg0 (z:=zm5 G i w O φ α hF hB hG) (C:={ P:=P,f:=f,fn:=fn,R:=zf9 i w O φ α o,hf:=hf,lv:=true }) (n:=n) (G:=G) ht (fun _ _ _ h=>h) (fun _ _ h=>h) c (entry i) [] hok hnd hw (fun fl s hs hne => ?_) (fun cl f' g fl s hs => ?_) _ _ ⟨O,φ,α,h0,fun _ hx=>hx⟩
 ·cases fl with
  | normal=>exact (hne rfl).elim
  | ret =>
   intro k' V w' hr
   obtain ⟨O',φ',α',h1,h2⟩:=hr
   cases o with
   | pan v=>exact hs.elim
   | okI _ _ _=>exact hs.elim
   | ok vs B A =>
    obtain ⟨us',h3,h4⟩:=z7k (C:={ P:=P,f:=f,fn:=fn,R:=zf9 i w O φ α (.ok vs B A),hf:=hf,lv:=true }) (n:=n) (hF:=hF) (hB:=hB) (hG:=hG) (g:=φ) ht hres (fun b hb=>h1.keep b (by omega)) h1 h2 hnb (by omega) hs
    exact TW.ret h3 h4
  | exit _=>exact hs.elim
  | pan v =>
   cases hs
   intro V w' O' φ' α' u φ2 α2 h1 h2 h3 a ha hda
   exact PN.nil hda ⟨u,O',φ2,α2,rfl,h3,h1.ext,h1.tr0,h1.bd,h1.only⟩
 ·unfold zxp at hs
  split at hs
  ·rename_i vs B A hff
   have hff:=ye hff
   subst hff
   intro k' V w' hr
   obtain ⟨O',φ',α',h1,h2⟩:=hr
   refine TW.retD rfl (LV.ret2 (caps:=ztf cl g) (vs:=zte cl g) hct.ent (by cases cl<;>exact hct.ret w' g) fun w2 x => ?_)
   have h3:=h1.zlk x
   obtain ⟨us',h4,h5⟩:=z7k (C:={ P:=P,f:=f,fn:=fn,R:=zf9 i w O φ α (.ok vs B A),hf:=hf,lv:=true }) (n:=n) (hF:=hF) (hB:=hB) (hG:=hG) (g:=ren φ 999 g) ht hres (fun b hb=>(h3.keep b (by omega)).trans (by simp [ren,hN b hb,zm5])) h3 h2 hnb (by omega) hs
   exact ⟨_,h4,h5⟩
  ·rename_i v vs B A hff
   have hff:=ye hff
   subst hff
   split at hs
   ·rename_i T' ik' e Te' c0 hbx
    split at hs
    ·rename_i hb3
     simp only [yb] at hb3
     have e1:=ye hb3.1.1
     have e2:=z5r hb3.1.2
     have e3:=ye hb3.2
     subst e1 e2 e3
     intro V w' O' φ' α' u φ2 α2 h1 h2 h3 a ha hda
     obtain ⟨x,rfl,us',rfl,y,r,rfl,hy,hr⟩:=h3
     simp only [VR] at hy
     subst hy
     have hr:r=[]:=hr
     subst hr
     obtain ⟨hbx,hbT⟩:=z6j hbx
     obtain ⟨k1,us2,k2,k3⟩:=h1.box 999 _ hbx
     have k2:=k2.un hbT
     obtain ⟨c1,r1,rfl,_,hr1⟩:=k3
     have hr1:r1=[]:=hr1
     subst hr1
     have e9:φ' 999=g:=(h1.keep 999 (by decide)).trans (by simp [ren])
     rw [e9] at k2
     have key:=LV.pan2 (C:={ P:=P,f:=f,fn:=fn,R:=zf9 i w O φ α (.ok vs B A),hf:=hf,lv:=true }) (n:=n) (L:=V) (caps:=ztf cl g) (vs:=zte cl g) (fun w2=>z0r w2 g Te' [Value.int ik' e]∧Ext (At g) w' w2) hct.ent (by cases cl<;>exact hct.pan w' g c1 e k2) fun w2 ⟨q1,q2⟩=>by
      have h4:=h1.zo6 (b:=0) (cs:=[.int ik' e]) hbx (by rw [e9];exact .inl ⟨hbT,q1⟩) (by rw [e9];exact q2) ⟨_,[],rfl,rfl,rfl⟩ rfl
      obtain ⟨us',h5,h6⟩:=z7k (C:={ P:=P,f:=f,fn:=fn,R:=zf9 i w O φ α (.ok vs B A),hf:=hf,lv:=true }) (n:=n) (hF:=hF) (hB:=hB) (hG:=hG) (g:=ren φ 999 g) ht hres (fun b hb=>(h4.keep b (by omega)).trans (by simp [ren,hN b hb,zm5])) h4 h2 hnb (by omega) hs
      exact ⟨_,h5,h6⟩
     have:=key a ha hda
     unfold PN
     rw [hda]
     exact this
    ·exact hs.elim
   ·exact hs.elim
  ·exact hs.elim
end Go.Pe
end
