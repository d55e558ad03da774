import Derived.Test.YtfdoofnmjehecaaGreatDoorDPfD
set_option linter.all false
namespace Go.Pe
open _root_.Bool renaming and_eq_true → ya
open _root_.List renaming all_eq_true → yb, getElem?_eq_some_iff → yc, getElem?_map → yd
open _root_.Nat renaming eq_of_beq_eq_true → ye, le_of_ble_eq_true → yf, zero_add → yg
open Go.RowKit Go.Lk
section
variable {z:W0} {V:Env} {w:World} {O:Nat→Prop} {φ:Nat→Nat} {α:Nat→Value} {σ:St} {C:Cx} {n:Nat} {ops:Array Oper} {o:Oper} {rest:List Oper} {K:Act→World→Prop} {G:GI} {con:Nat→CIn→z2z→Prop} {tb:Tb} {cty:List (Nat × List (Option (Nat × Nat)))} {ann:Ann} {ds:List Deferred}
def KS (z:W0) (C:Cx) (n:Nat) (ds:List Deferred) (todo:List Item) (s:St):Prop := ∀ V w,RS z s V w→TW C n ds todo V w
def FS (z:W0) (C:Cx) (n:Nat) (ds:List Deferred) (todo:List Item):z6n→St→Prop
 | .normal,s=>KS z C n ds todo s
 | .exit i,s=>∃ k',exitTo i todo=some k'∧KS z C n ds k' s
 | .ret,s=>∀ k',KS z C n ds (.code .ret::k') s
 | .pan v,s=>z81 z C n ds v s
theorem KS.cut {todo:List Item} {s:St} {c:Cut} (e:σ.cut c=some s) (h:KS z C n ds todo s):KS z C n ds todo σ:=fun V w hr=>h V w (hr.cut e)
theorem FS.code {c:Code} {todo:List Item} {fl:z6n} {s:St} (h:FS z C n ds todo fl s) (hn:fl ≠ .normal):FS z C n ds (.code c::todo) fl s:=by
 cases fl with
 | normal=>exact (hn rfl).elim
 | exit i=>exact h
 | ret=>exact h
 | pan v=>exact h
theorem FS.loop {c:Code} {todo:List Item} {fl:z6n} {s:St} (h:FS z C n ds todo fl s) (hn:fl ≠ .normal):FS z C n ds (.inLoop c::todo) fl s:=by
 cases fl with
 | normal=>exact (hn rfl).elim
 | exit i=>exact h
 | ret=>exact h
 | pan v=>exact h
def okC (ann:Ann) (n:Nat):Code→Bool
 | .region id ops dr=>(ops.toList.all fun o=>dOk n o.dst)&&(match dr with
  | true=>match lk ann.drw id with
   | some d=>z6k ops d.anc n d.E d.qs d.g&&zwd ops d.g d.qs&&(match d.lin with|some _=>zey d.g&&zdm ops (zsf d.qs (zkg d.g)) []|none=>true)
   | none=>false
  | false=>true)
 | .seq a b=>okC ann n a&&okC ann n b
 | .cond _ a b=>okC ann n a&&okC ann n b
 | .block _ a=>okC ann n a
 | .loop a=>okC ann n a
 | _=>true
def z2u (fn:Func):Code→Bool
 | .region _ ops dr => !dr||ops.toList.all fun o=>match o.dst with
  | some d=>fn.results.toList.all fun r => !Nat.beq (zi4 r) d
  | none=>true
 | .seq a b=>z2u fn a&&z2u fn b
 | .cond _ a b=>z2u fn a&&z2u fn b
 | .block _ a=>z2u fn a
 | .loop a=>z2u fn a
 | _=>true
theorem zmq {C:Cx} {id:Nat} {ops:Array Oper} (h:C.lv=false∨z2u C.fn (.region id ops true)=true):ztl C ops:=by
 rcases h with h|h
 ·exact .inl h
 ·refine .inr fun q t hq r hr e => ?_
  simp only [z2u,Bool.not_true,Bool.false_or,yb] at h
  unfold z5h at hq
  obtain ⟨o,ho,hd⟩:=Option.bind_eq_some_iff.1 hq
  have h1:=h o (by simpa using Array.mem_of_getElem? ho)
  rw [hd] at h1
  have h2:=yb.1 h1 r hr
  rw [e] at h2
  simp at h2
theorem z2k (ht:TbG C.P tb G) (hcon:∀ f i o,con f i o→Con C.P G f i o) (hz:∀ w O,z.G w O→G.p w O):∀ (c:Code) (σ:St) (k:z6n→St→Prop) (todo:List Item),okC ann n c=true→(C.lv=false∨z2u C.fn c=true)→ex tb cty ann con c σ k→(∀ fl s,k fl s→FS z C n ds todo fl s)→KS z C n ds (.code c::todo) σ
 | .skip,σ,k,todo,_,_,hw,hk=>fun V w hr=>TW.skip (hk _ _ hw V w hr)
 | .label _,σ,k,todo,_,_,hw,hk=>fun V w hr=>TW.label (hk _ _ hw V w hr)
 | .ret,σ,k,todo,_,_,hw,hk=>fun V w hr=>hk _ _ hw todo V w hr
 | .exit i,σ,k,todo,_,_,hw,hk=>fun V w hr=>by
  obtain ⟨k',h1,h2⟩:=hk _ _ hw
  exact TW.exit h1 (h2 V w hr)
 | .region id ops dr,σ,k,todo,hn,hdr,hw,hk=>by
  simp only [okC,ya] at hn
  cases dr with
  | true =>
   obtain ⟨d,hd,hw⟩:=zf hw
   have hok:=hn.2
   simp only [hd,ya] at hok
   intro V w hr
   exact zh3 ht hcon hz (zmq hdr) hok.1.1 hok.1.2 hok.2 hn.1 hw (fun s hs V w hr=>hk _ _ hs V w hr) (fun v s hs=>hk _ _ hs) V w hr
  | false =>
   have hn:=hn.1
   intro V w hr
   have:=za7 (K:=TWa C todo) (ops:=ops) (G:=G) ht hcon hz (k:=fun s=>k .normal s) (kp:=fun v s=>k (.pan v) s) (fun s hs V w hr=>OW.done (hk _ _ hs V w hr)) (fun v s hs=>hk _ _ hs) _ ops.toList σ hn hw V w hr
   have h2:=TW.region (id:=id) (l:=ops.toList) (k:=todo) (by simpa using this)
   simpa using h2
 | .seq a b,σ,k,todo,hn,hdr,hw,hk=>by
  simp only [okC,ya] at hn
  have hda:C.lv=false∨z2u C.fn a=true:=hdr.imp id fun hh=>by simp only [z2u,ya] at hh;exact hh.1
  have hdb:C.lv=false∨z2u C.fn b=true:=hdr.imp id fun hh=>by simp only [z2u,ya] at hh;exact hh.2
  intro V w hr
  refine TW.seq ?_
  unfold ex at hw
  split at hw
  ·rename_i c _
   obtain ⟨J,h1,h2⟩:=hw
   refine z2k ht hcon hz a σ _ (.code b::todo) hn.1 hda h1 (fun fl s hs => ?_) V w hr
   cases fl with
   | normal =>
    obtain ⟨s',e,hj⟩:=zf hs
    exact (z2k ht hcon hz b s' k todo hn.2 hdb (h2 s' hj) hk).cut e
   | exit i=>exact (hk _ _ hs).code (by simp)
   | ret=>exact (hk _ _ hs).code (by simp)
   | pan v=>exact (hk _ _ hs).code (by simp)
  ·refine z2k ht hcon hz a σ _ (.code b::todo) hn.1 hda hw (fun fl s hs => ?_) V w hr
   cases fl with
   | normal=>exact z2k ht hcon hz b s k todo hn.2 hdb hs hk
   | exit i=>exact (hk _ _ hs).code (by simp)
   | ret=>exact (hk _ _ hs).code (by simp)
   | pan v=>exact (hk _ _ hs).code (by simp)
 | .cond c a b,σ,k,todo,hn,hdr,hw,hk=>by
  simp only [okC,ya] at hn
  have hda:C.lv=false∨z2u C.fn a=true:=hdr.imp id fun hh=>by simp only [z2u,ya] at hh;exact hh.1
  have hdb:C.lv=false∨z2u C.fn b=true:=hdr.imp id fun hh=>by simp only [z2u,ya] at hh;exact hh.2
  intro V w hr
  unfold ex at hw
  split at hw
  ·rename_i x hx
   obtain ⟨O,φ,α,h,hs⟩:=hr
   obtain ⟨u,h1,h2⟩:=h.ev hx
   simp only [VR] at h2
   subst h2
   refine TW.cond h1 (fun e => ?_) (fun e => ?_)
   ·subst e
    exact z2k ht hcon hz a σ k todo hn.1 hda hw hk V w ⟨O,φ,α,h,hs⟩
   ·subst e
    exact z2k ht hcon hz b σ k todo hn.2 hdb hw hk V w ⟨O,φ,α,h,hs⟩
  ·exact hw.elim
 | .block i a,σ,k,todo,hn,hdr,hw,hk=>by
  intro V w hr
  refine TW.block ?_
  unfold ex at hw
  refine z2k ht hcon hz a σ _ (.inBlock i::todo) hn hdr hw (fun fl s hs => ?_) V w hr
  cases fl with
  | normal=>exact fun V w hr=>TW.inBlock (hk _ _ hs V w hr)
  | exit j =>
   simp only [zrm] at hs
   cases e:Nat.beq i j with
   | true =>
    rw [e] at hs
    have e:=ye e
    subst e
    exact ⟨todo,by simp [exitTo],hk _ _ hs⟩
   | false =>
    rw [e] at hs
    have e:=Nat.ne_of_beq_eq_false e
    obtain ⟨k',h1,h2⟩:=hk _ _ hs
    exact ⟨k',by simp [exitTo,e,h1],h2⟩
  | ret=>exact hk _ _ hs
  | pan v=>exact hk _ _ hs
 | .loop a,σ,k,todo,hn,hdr,hw,hk=>by
  unfold ex at hw
  obtain ⟨c,hc,hw⟩:=zf hw
  obtain ⟨s0,e0,hw⟩:=zf hw
  have key:KS z C n ds (.code a :: .inLoop a::todo) s0:=hw (KS z C n ds (.code a :: .inLoop a::todo)) fun s hs=>by
   refine z2k ht hcon hz a s _ (.inLoop a::todo) hn hdr hs (fun fl s' hs' => ?_)
   cases fl with
   | normal =>
    obtain ⟨s2,e2,hj⟩:=zf hs'
    exact fun V w hr=>TW.inLoop (hj V w (hr.cut e2))
   | exit i=>exact (hk _ _ hs').loop (by simp)
   | ret=>exact (hk _ _ hs').loop (by simp)
   | pan v=>exact (hk _ _ hs').loop (by simp)
  exact fun V w hr=>TW.loop (key V w (hr.cut e0))
 | .rangeFunc ..,σ,k,todo,hn,_,hw,hk=>hw.elim
 | .scope _,σ,k,todo,hn,_,hw,hk=>hw.elim
 | .goto _,σ,k,todo,hn,_,hw,hk=>hw.elim
 | .refuse _,σ,k,todo,hn,_,hw,hk=>hw.elim

theorem znt {m:Nat} {cs:List PV} {v:PV} (h:z5g true m cs=some v):v = .agg cs:=by
 simp only [z5g] at h
 split at h
 ·cases h;rfl
 ·cases h
theorem zl9 {m:Nat} {cs:List PV} {v:PV} (h:z5g false m cs=some v):cs=[v]:=by
 cases cs with
 | nil=>simp [z5g] at h
 | cons c cs =>
  cases cs with
  | nil=>simp [z5g] at h;rw [h]
  | cons d cs=>simp [z5g] at h
theorem zi2 (ht:TbG C.P tb G) (h:Rl z σ V w O φ α):∀ {res:List ResultVar} {rs:List PV},ztu tb σ res=some rs→∃ us,RVs C V w res us∧VRs w O φ α rs us
 | [],rs,e=>by cases e;exact ⟨[],rfl,rfl⟩
 | .tmp t::r,rs,e=>by
  unfold ztu at e
  split at e
  ·rename_i v vs h1 h2
   cases e
   obtain ⟨u,h3,h4⟩:=h.env t v h1
   obtain ⟨us,h5,h6⟩:=zi2 ht h h2
   exact ⟨u::us,⟨u,us,rfl,h3,h5⟩,u,us,rfl,h4,h6⟩
  ·cases e
 | .cell t T::r,rs,e=>by
  unfold ztu at e
  split at e
  ·rename_i b hb
   split at e
   ·rename_i ex s h1 h2
    split at e
    ·rename_i v vs h0 h3 h4
     cases e
     obtain ⟨u,h5,h6⟩:=h.env t _ hb
     simp only [VR] at h6
     subst h6
     obtain ⟨_,xs,h7,h8⟩:=h.box b ex (z6e h1).1
     have h7:=h7.un (z6e h1).2
     obtain ⟨us,h9,h10⟩:=zi2 ht h h4
     have hl:=VRs.len h8
     have h0:=ye h0
     obtain ⟨g,m⟩:=s
     cases g with
     | true =>
      obtain rfl:=znt h3
      exact ⟨_::us,⟨_,us,rfl,⟨_,_,xs,true,m,h5,ht.shp _ _ h2,h7,by rw [hl];exact h0,rfl⟩,h9⟩,_,us,rfl,⟨xs,rfl,h8⟩,h10⟩
     | false =>
      rw [zl9 h3] at h8 h0
      obtain ⟨x,xs',rfl,k1,k2⟩:=h8
      cases k2
      exact ⟨x::us,⟨x,us,rfl,⟨_,_,[x],false,m,h5,ht.shp _ _ h2,h7,h0,rfl⟩,h9⟩,x,us,rfl,k1,h10⟩
    ·cases e
   ·cases e
  ·cases e
theorem zea:∀ {n i j x:Nat},(rng n i)[j]? = some x↔j<n∧x=i+j
 | 0,i,j,x=>by simp [rng]
 | n+1,i,0,x=>by simp [rng];exact ⟨fun h=>h.symm,fun h=>h.symm⟩
 | n+1,i,j+1,x=>by
  simp only [rng,List.getElem?_cons_succ]
  rw [zea]
  omega
theorem z8o:∀ {n i:Nat},(rng n i).length=n
 | 0,i=>rfl
 | n+1,i=>by simp [rng,z8o]
theorem z8d {σ:St}:∀ {A:List (Option (Nat × Nat × List (List D)))} {i:Nat},zdi σ i A→∀ (j:Nat) (e:Nat × Nat × List (List D)),A[j]? = some (some e)→∃ x,lk σ.A (i+j)=some x∧x.T=e.1∧x.n=e.2.1∧x.l=e.2.2
 | [],i,_,j,e,h=>by simp at h
 | none::r,i,hb,j,e,h=>by
  cases j with
  | zero=>simp at h
  | succ j =>
   obtain ⟨x,k1,k2⟩:=z8d (i:=i+1) hb j e (by simpa using h)
   exact ⟨x,by rw [show i+(j+1)=i+1+j by omega];exact k1,k2⟩
 | some e0::r,i,hb,j,e,h=>by
  obtain ⟨h1,h2⟩:=hb
  cases j with
  | zero =>
   simp at h
   subst h
   split at h1
   ·exact ⟨_,by assumption,h1⟩
   ·exact h1.elim
  | succ j =>
   obtain ⟨x,k1,k2⟩:=z8d h2 j e (by simpa using h)
   exact ⟨x,by rw [show i+(j+1)=i+1+j by omega];exact k1,k2⟩
theorem ziw {β:Type}:∀ {l:List β} {i t:Nat} {v:β},lk (en i l) t=some v→i≤t∧l[t - i]? = some v
 | [],_,_,_,h=>by cases h
 | x::l,i,t,v,h=>by
  unfold en at h
  rcases z34 h with ⟨rfl,rfl⟩|⟨h1,h2⟩
  ·exact ⟨Nat.le_refl _,by simp⟩
  ·obtain ⟨h3,h4⟩:=ziw h2
   refine ⟨by omega,?_⟩
   rw [show t - i=(t - (i+1))+1 by omega]
   simpa using h4
end
def znh (G:GI) (i:CIn) (w:World) (O:Nat→Prop) (φ:Nat→Nat) (α:Nat→Value) (hF:∀ x,FI i φ α x→O x) (hB:Bd O w):W0:=⟨w,O,FI i φ α,G.p,hF,hB,G.tr,φ⟩
theorem Out.of {C:Cx} {n:Nat} {V:Env} {w:World} {res:List ResultVar} {us:List Value} (h:C.fn.results=res.toArray) (hr:RVs C V w res us):Out C n V w (znm us):=by
 have hl:us.length=res.length:=by
  clear h
  induction res generalizing us with
  | nil=>cases hr;rfl
  | cons r res ih =>
   obtain ⟨v,vs,rfl,_,h2⟩:=hr
   simp [ih h2]
 match res,us,hr,hl,h with
 | [r],[u],hr,_,h =>
  obtain ⟨v,vs,e,h1,h2⟩:=hr
  cases e
  exact Out.single h h1
 | [],[],hr,_,h=>exact Out.many h hr rfl
 | r::r2::rs,u::u2::us,hr,_,h=>exact Out.many h hr rfl
theorem z7s {C:Cx} {n:Nat} {tb:Tb} {ann:Ann} {G:GI} {i:CIn} {w w':World} {O O':Nat→Prop} {φ φ':Nat→Nat} {α α':Nat→Value} {hF:∀ x,FI i φ α x→O x} {hB:Bd O w} {σ:St} {V:Env} {vs:List PV} {B:List Bx} {A:List (Option (Nat × Nat × List (List D)))} {res:List ResultVar}
  (ht:TbG C.P tb G) {g:Nat→Nat} (hkp:∀ b,b<i.B.length→φ' b=φ b) (h:Rl { znh G i w O φ α hF hB with φ0:=g } σ V w' O' φ' α') (hs:∀ x,O x→O' x) (hnb:ann.nb=i.B.length) (h1000:i.B.length≤1000) (hw:zo9 tb ann res σ vs B A) :
  ∃ us,(C.fn.results=res.toArray→Out C n V w' (znm us))∧∃ O' φ' α',zcm i w O φ α vs B A w' us O' φ' α':=by
 obtain ⟨σ1,e1,hw⟩:=zf hw
 obtain ⟨rs,e2,hw⟩:=zf hw
 obtain ⟨σ2,e3,hw⟩:=zf hw
 obtain ⟨nk,e4,e5,e6,e7,e8⟩:=zf hw
 obtain ⟨α2,h1⟩:=z50 _ (σ:={ σ with L:=z6o (zjn res) σ.L }) (h.mono (fun _ _=>z6f) (Le.refl _) (Le.refl _)) e1
 obtain ⟨us,h2,h3⟩:=zi2 (C:=C) ht h1 e2
 obtain ⟨h4,h5,h6,h7⟩:=z1n _ h1 hs e3
 simp only [ya] at e8
 obtain ⟨⟨⟨⟨r1,r2⟩,r3⟩,r4⟩,r5⟩:=e8
 have r5:=ye r5
 have r4:∀ x∈nk,1000≤x:=fun x hx=>yf (yb.1 r4 x hx)
 rw [hnb] at e5 e6 r5
 have lk':(rng i.B.length 0++nk).length=B.length:=by rw [List.length_append,z8o,r5]
 have kget:∀ j x,(rng i.B.length 0++nk)[j]? = some x→(j<i.B.length∧x=j)∨(i.B.length≤j∧nk[j - i.B.length]? = some x∧1000≤x):=fun j x hx=>by
  rcases Nat.lt_or_ge j i.B.length with hj|hj
  ·rw [List.getElem?_append_left (by rw [z8o];exact hj)] at hx
   have:=zea.1 hx
   exact .inl ⟨hj,by omega⟩
  ·rw [List.getElem?_append_right (by rw [z8o];exact hj),z8o] at hx
   exact .inr ⟨hj,hx,r4 x (List.mem_of_getElem? hx)⟩
 have kinj:∀ j j' x,(rng i.B.length 0++nk)[j]? = some x→(rng i.B.length 0++nk)[j']? = some x→j=j':=fun j j' x hx hx'=>by
  rcases kget j x hx with ⟨k1,k2⟩|⟨k1,k2,k3⟩<;>rcases kget j' x hx' with ⟨m1,m2⟩|⟨m1,m2,m3⟩
  ·omega
  ·omega
  ·omega
  ·have:=z5d r3 _ _ x k2 m2
   omega
 have kd:∀ j x,(rng i.B.length 0++nk)[j]? = some x→(rng i.B.length 0++nk).getD j 0=x:=fun j x e=>by simp only [List.getD,e];rfl
 have kex:∀ j,j<B.length→∃ x,(rng i.B.length 0++nk)[j]? = some x:=fun j hj=>⟨(rng i.B.length 0++nk)[j]'(by omega),by simp [show j<(rng i.B.length 0++nk).length by omega]⟩
 have hb:∀ j x,j<B.length→(rng i.B.length 0++nk)[j]? = some x→(fun j=>φ' ((rng i.B.length 0++nk).getD j 0)) j=φ' x:=fun j x _ e=>by simp only [kd j x e]
 have ha:∀ j x,j<A.length→(rng A.length 0)[j]? = some x→α2 j=α2 x:=fun j x _ e=>by
  have:=(zea.1 e).2
  rw [this,yg]
 have toCall:∀ {Q:Nat→Prop} {vs:List PV} {us:List Value},inR.go B.length A.length vs=true→VRs w' Q φ' α2 (z8b.go (rng i.B.length 0++nk) (rng A.length 0) vs) us→VRs w' Q (fun j=>φ' ((rng i.B.length 0++nk).getD j 0)) α2 vs us :=
  fun {Q vs us} hi hr=>z7g hb ha (by omega) (by rw [z8o];exact Nat.le_refl _) vs us hi hr
 have hres2:=z8m (σ:=σ1) (O:=O') (φ:=φ') (α:=α2) (O2:=z8t O' α2 (lk σ1.A) (z7t.go vs rs)) (fun x hx=>hx.1) h1.arr vs rs us (fun a ha e he x hx=>hx.2 a ha (by rw [he];rfl)) h3
 rw [e5] at hres2
 have boxK:∀ (j:Nat) (e:Bx),B[j]? = some e→∃ (b:Nat) (x:Bx),(rng i.B.length 0++nk)[j]? = some b∧lk σ2.B b=some x∧x.T=e.T∧nrm.go { σ2 with A:=[] } e.cs x.cs=z8b.go (rng i.B.length 0++nk) (rng A.length 0) e.cs:=z8e e6
 have boxE:∀ j,j<B.length→∃ (b:Nat) (x:Bx),(rng i.B.length 0++nk)[j]? = some b∧lk σ2.B b=some x:=fun j hj=>by
  obtain ⟨b,x,k1,k2,_⟩:=boxK j B[j] (by simp)
  exact ⟨b,x,k1,k2⟩
 have arrK:=z8d e7
 refine ⟨us,fun hres=>Out.of hres h2,_,_,_,⟨toCall r1 hres2,⟨fun j e he => ?_,fun j e he => ?_,fun a b la lb hn => ?_,fun a b e e' h8 h9 hn x hx => ?_,fun a b e h8 lb => ?_⟩,fun b hb' => ?_,by omega,h4.bd,h4.tr0,h5,h4.only,h4.ext,fun b lb hb' => ?_,fun a e x h8 hx => ?_⟩⟩
 ·obtain ⟨b,x,k1,k2,k3,k4⟩:=boxK j e he
  obtain ⟨k5,xs,k6,k7⟩:=h4.box b x k2
  simp only [kd j b k1]
  refine ⟨k5,xs,k3▸k6,?_⟩
  have h8:=z8m (σ:={ σ2 with A:=[] }) (O:=z8t O' α2 (lk σ1.A) (z7t.go vs rs)) (φ:=φ') (α:=α2) (O2:=z8t O' α2 (lk σ1.A) (z7t.go vs rs)) (fun _ hx=>hx) (fun _ _ hx=>by cases hx) e.cs _ _ (fun _ _ _ hx=>by cases hx) k7
  rw [k4] at h8
  exact toCall (zhe r2 he) h8
 ·obtain ⟨x,k1,k2,k3,k4⟩:=arrK j e he
  rw [yg] at k1
  have:=h4.arr j x k1
  rw [k2,k3,k4] at this
  exact this
 ·obtain ⟨b1,y1,k1,k2⟩:=boxE a la
  obtain ⟨b2,y2,k3,k4⟩:=boxE b lb
  simp only [kd a b1 k1,kd b b2 k3]
  exact h4.bb b1 b2 y1 y2 k2 k4 fun q=>hn (kinj a b b1 k1 (q▸k3))
 ·obtain ⟨x1,k1,_⟩:=arrK a e h8
  obtain ⟨x2,k2,_⟩:=arrK b e' h9
  rw [yg] at k1 k2
  exact h4.aa a b x1 x2 k1 k2 hn x hx
 ·obtain ⟨x1,k1,_⟩:=arrK a e h8
  obtain ⟨b2,y2,k3,k4⟩:=boxE b lb
  rw [yg] at k1
  simp only [kd b b2 k3]
  exact h4.ab a b2 x1 y2 k1 k4
 ·obtain ⟨b2,y2,k3,k4⟩:=boxE b (by omega)
  simp only [kd b b2 k3]
  rcases kget b b2 k3 with ⟨_,rfl⟩|⟨k1,_⟩
  ·exact hkp b2 (by omega)
  ·omega
 ·obtain ⟨b2,y2,k3,k4⟩:=boxE b lb
  simp only [kd b b2 k3]
  rcases kget b b2 k3 with ⟨k1,_⟩|⟨_,_,k1⟩
  ·omega
  ·rcases h4.bF b2 y2 k4 with ⟨k2,_⟩|k2
   ·omega
   ·exact k2
 ·obtain ⟨x1,k1,_⟩:=arrK a e h8
  rw [yg] at k1
  rcases h4.aF a x1 k1 x hx with ⟨_,k2⟩|k2
  ·rcases k2 with ⟨b,lb,k2⟩|k2
   ·obtain ⟨b2,y2,k3,k4⟩:=boxE b (by omega)
    rcases kget b b2 k3 with ⟨_,rfl⟩|⟨k5,_⟩
    ·have:=h4.ab a b2 x1 y2 k1 k4
     rw [hkp b2 (by omega)] at this
     exact (this (by rw [hx,←k2])).elim
    ·omega
   ·exact .inl k2
  ·exact .inr k2
theorem z4r {C:Cx} {n:Nat} {tb:Tb} {ann:Ann} {G:GI} {i:CIn} {w w':World} {O O':Nat→Prop} {φ φ':Nat→Nat} {α α':Nat→Value} {hF:∀ x,FI i φ α x→O x} {hB:Bd O w} {σ:St} {V:Env} {vs:List PV} {B:List Bx} {A:List (Option (Nat × Nat × List (List D)))} {res:List ResultVar}
  (ht:TbG C.P tb G) (hres:C.fn.results=res.toArray) {g:Nat→Nat} (hkp:∀ b,b<i.B.length→φ' b=φ b) (h:Rl { znh G i w O φ α hF hB with φ0:=g } σ V w' O' φ' α') (hs:∀ x,O x→O' x) (hnb:ann.nb=i.B.length) (h1000:i.B.length≤1000) (hw:zo9 tb ann res σ vs B A) :
  ∃ us,Out C n V w' (znm us)∧z9k i w O φ α (.ok vs B A) (.returned (znm us)) w':=by
 obtain ⟨us,h1,O',φ',α',h2⟩:=z7s (C:=C) (n:=n) (hF:=hF) (hB:=hB) ht hkp h hs hnb h1000 hw
 exact ⟨us,h1 hres,us,O',φ',α',rfl,h2⟩
theorem z8y {G:GI} {i:CIn} {w:World} {O:Nat→Prop} {φ:Nat→Nat} {α:Nat→Value} {us:List Value} (hv:VRs w O φ α i.vs us) (hm:Mm w O φ α i.B (i.A.map some)) (hB:Bd O w) (hG:G.p w O) (h1000:i.B.length≤1000) :
  ∃ hF:∀ x,FI i φ α x→O x,Rl (znh G i w O φ α hF hB) (entry i) (zcb 0 us) w O φ α:=by
 have hF:∀ x,FI i φ α x→O x:=fun x hx=>by
  rcases hx with ⟨b,hb,rfl⟩|⟨a,ha,hx⟩
  ·exact (hm.box b i.B[b] (by simp)).1
  ·exact (hm.arr a i.A[a] (by simp)).mem x hx
 refine ⟨hF,?_⟩
 have getA:∀ {a:Nat} {e:Arr},lk (entry i).A a=some e→i.A[a]? = some (e.T,e.n,e.l)∧e.zon=false:=fun {a e} he=>by
  obtain ⟨_,h1⟩:=ziw he
  simp only [Nat.sub_zero,yd] at h1
  obtain ⟨x,h2,rfl⟩:=Option.map_eq_some_iff.1 h1
  exact ⟨h2,rfl⟩
 have getA':∀ {a:Nat} {e:Arr},lk (entry i).A a=some e→(i.A.map some)[a]? = some (some (e.T,e.n,e.l)):=fun {a e} he=>by
  rw [yd,(getA he).1];rfl
 have getB:∀ {b:Nat} {e:Bx},lk (entry i).B b=some e→i.B[b]? = some e:=fun {b e} he=>by simpa using (ziw he).2
 have ltB:∀ {b:Nat} {e:Bx},lk (entry i).B b=some e→b<i.B.length:=fun {b e} he=>(yc.1 (getB he)).1
 have h0:Rl (znh G i w O φ α hF hB) (entry i) (zcb 0 us) w O φ α:=by
  refine ⟨fun t v e => ?_,fun b e he=>hm.box b e (getB he),fun a e he=>hm.arr a _ (getA' he),fun a b e e' h1 h2 hn=>hm.bb a b (ltB h1) (ltB h2) hn,fun a b e e' h1 h2 hn x hx=>hm.aa a b _ _ (getA' h1) (getA' h2) hn x hx,fun a b e e' h1 h2=>hm.ab a b _ (getA' h1) (ltB h2),
   fun b e he => .inl ⟨Nat.lt_of_lt_of_le (ltB he) h1000,.inl ⟨b,ltB he,rfl⟩⟩,fun a e he x hx => .inl ⟨(getA he).2,.inr ⟨a,(yc.1 (getA he).1).1,hx⟩⟩,hB,Ext.refl _ _,fun x hx => .inl hx,hG,fun _ _=>rfl⟩
  obtain ⟨_,h1⟩:=ziw e
  obtain ⟨u,h2,h3⟩:=hv.get (i:=t) (by simpa using h1)
  refine ⟨u,?_,h3⟩
  have:∀ (us:List Value) (i t:Nat),us[t]? = some u→Env.get (zcb i us) (i+t)=some u:=by
   intro us
   induction us with
   | nil=>intro i t h;simp at h
   | cons x us ih =>
    intro i t h
    unfold zcb Env.get
    cases t with
    | zero=>simp at h;subst h;simp
    | succ t =>
     split
     ·rename_i hb
      have:=ye hb
      omega
     ·have:=ih (i+1) t (by simpa using h)
      rwa [show i+1+t=i+(t+1) by omega] at this
  simpa using this us 0 t h2
 exact h0
theorem Con.of {P:Program} {G:GI} {tb:Tb} {cty:List (Nat × List (Option (Nat × Nat)))} {ann:Ann} {f:Nat} {fn:Func} {c:Code} {i:CIn} {o:z2z} {n:Nat} {res:List ResultVar} (ht:TbG P tb G) (ent:∀ args w,(callFunc f args).run P w = .ok (.enter f args) w) (hnn:Nat.beq f NF=false) (hf:P.funcs[f]? = some fn) (hb:fn.body=some c) (hn:fn.ntmps=n)
  (hres:fn.results=res.toArray) (hok:okC ann n c=true) (hl:Nat.ble i.vs.length n=true) (hnb:ann.nb=i.B.length) (h1000:Nat.ble i.B.length 1000=true) (hw:ex tb cty ann (Con P G) c (entry i) (fin tb ann res o)):Con P G f i o:=by
 refine ⟨ent,hnn,fun w O φ α us hv hm hB hG => ?_⟩
 have h1000:=yf h1000
 obtain ⟨hF,h0⟩:=z8y (G:=G) hv hm hB hG h1000
 have hlu:us.length=i.vs.length:=hv.len
 refine zdl hf hb n hn (by rw [hlu];exact hl) ?_
 refine z2k (z:=znh G i w O φ α hF hB) (C:={ P:=P,f:=f,fn:=fn,R:=z9k i w O φ α o,hf:=hf }) (n:=n) (ds:=[]) (G:=G) ht (fun _ _ _ h=>h) (fun _ _ h=>h) c (entry i) _ [] hok (.inl rfl) hw (fun fl s hs => ?_) _ _ ⟨O,φ,α,h0,fun _ hx=>hx⟩
 cases fl with
 | normal =>
  intro V w' hr
  obtain ⟨O',φ',α',h1,h2⟩:=hr
  cases o with
  | pan v=>exact hs.elim
  | zcj _ _=>exact hs.elim
  | okI _ _ _=>exact hs.elim
  | ok vs B A =>
   obtain ⟨us',h3,h4⟩:=z4r (C:={ P:=P,f:=f,fn:=fn,R:=z9k i w O φ α (.ok vs B A),hf:=hf }) (n:=n) (hF:=hF) (hB:=hB) (g:=φ) ht hres (fun b hb=>h1.keep b (by omega)) h1 h2 hnb h1000 hs
   exact TW.fin h3 h4
 | ret =>
  intro k' V w' hr
  obtain ⟨O',φ',α',h1,h2⟩:=hr
  cases o with
  | pan v=>exact hs.elim
  | zcj _ _=>exact hs.elim
  | okI _ _ _=>exact hs.elim
  | ok vs B A =>
   obtain ⟨us',h3,h4⟩:=z4r (C:={ P:=P,f:=f,fn:=fn,R:=z9k i w O φ α (.ok vs B A),hf:=hf }) (n:=n) (hF:=hF) (hB:=hB) (g:=φ) ht hres (fun b hb=>h1.keep b (by omega)) h1 h2 hnb h1000 hs
   exact TW.ret h3 h4
 | exit _=>exact hs.elim
 | pan v =>
  intro V w' O' φ' α' u φ2 α2 h1 h2 h3 a ha hda
  cases o with
  | ok _ _ _=>cases hs
  | okI _ _ _=>cases hs
  | pan v =>
   cases hs
   exact PN.nil hda ⟨u,O',φ2,α2,rfl,h3,h1.ext,h1.tr0,h1.bd,h1.only⟩
  | zcj v' B =>
   obtain ⟨rfl,hsl,hw⟩:=hs
   obtain ⟨us',_,O3,φ3,α3,h4⟩:=z7s (ann:={ nb:=ann.nb }) (res:=[]) (C:={ P:=P,f:=f,fn:=fn,R:=z9k i w O φ α (.zcj v' B),hf:=hf }) (n:=n) (hF:=hF) (hB:=hB) (g:=φ) ht (fun b hb=>h1.keep b (by omega)) h1 h2 hnb h1000 hw
   exact PN.nil hda ⟨u,φ2,α2,us',O3,φ3,α3,rfl,z5p _ _ hsl h3,h4⟩
end Go.Pe
