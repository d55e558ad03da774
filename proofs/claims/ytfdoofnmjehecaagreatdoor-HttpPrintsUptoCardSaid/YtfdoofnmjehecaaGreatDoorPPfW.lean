import Derived.Test.YtfdoofnmjehecaaGreatDoorPPfE
set_option linter.all false
section
namespace Go.Pe
open Go.RowKit Go.Lk
section
variable {K V:Type} [DecidableEq K]
def z4n:List (K × V)→K→V→V
 | [],_,z=>z
 | (a,v)::r,k,z=>if k=a then v else z4n r k z
def zmu:List (K × V)→K→Bool
 | [],_=>false
 | (a,_)::r,k=>if k=a then true else zmu r k
def z2i:List (K × V)→K→V→List (K × V)
 | [],k,v=>[(k,v)]
 | (a,b)::r,k,v=>if k=a then (k,v)::r else (a,b)::z2i r k v
variable {R:Type} {y:Option R} {f:K × V→List D} {kf:K→D} {vf:V→List D} (hf:∀ x,f x=kf x.1::vf x.2) (hk:∀ a b,kEq (kf a) (kf b)=decide (a=b))
include hf hk
theorem zkn (k:K) (z:V):∀ l:List (K × V),zd6 (l.map f) (kf k) (vf z)=vf (z4n l k z)∧zeq (l.map f) (kf k)=zmu l k
 | []=>⟨rfl,rfl⟩
 | (a,v)::r=>by
  obtain ⟨h1,h2⟩:=zkn k z r
  by_cases e:k=a
  ·subst e
   simp [zd6,zeq,mgD,hf,hk,z4n,zmu]
  ·simp only [zd6,zeq] at h1 h2
   simp [zd6,zeq,mgD,hf,hk,z4n,zmu,e,h1,h2]
theorem zet (k:K) (v:V):∀ l:List (K × V),z6l (l.map f) (kf k) (vf v)=(z2i l k v).map f
 | []=>by simp [z6l,z2i,hf]
 | (a,b)::r=>by
  have h1:=zet k v r
  by_cases e:k=a
  ·subst e
   simp [z6l,hf,hk,z2i]
  ·simp only [List.map_cons,hf,z6l,hk,e,decide_false,Bool.false_eq_true,if_false,z2i,h1]
theorem S.zsg {l:List (K × V)} {k:K} {z:V} {c:V→List D} {kd:D} {zd:List D} {F:R→List D→Prop} (hkd:kd=kf k) (hz:zd=vf z) (hc:∀ x,vf x=c x) (h:S y (fun r=>F r (c (z4n l k z)))):S y (fun r=>Ex (some (zd6 (l.map f) kd zd)) (F r)):=by
 subst hkd hz
 rw [(zkn hf hk k z l).1,hc]
 exact fun r hm=>⟨_,rfl,h r hm⟩
theorem S.z5e {l:List (K × V)} {k:K} {v:V} {kd:D} {vd:List D} {F:R→List (List D)→Prop} {g:List (K × V)→Option R} (hkd:kd=kf k) (hv:vd=vf v) (h:∀ m,S (g m) (fun r=>F r (m.map f))):S (some (z2i l k v) >>= g) (fun r=>Ex (some (z6l (l.map f) kd vd)) (F r)):=by
 subst hkd hv
 rw [zet hf hk k v l]
 exact fun r hm=>⟨_,rfl,h _ r hm⟩
end
theorem z5n (a b:List UInt8):kEq (.str a) (.str b)=decide (a=b):=rfl
theorem z3g (k:IntKind) (a b:Int):kEq (.int k a) (.int k b)=decide (a=b):=rfl
theorem S.wv {R A X:Type} {z:Option X} {g:X→Option R} {k:R→A→Prop} (w:Option A) (vf:X→A) (hz:∀ x,z=some x→w=some (vf x)) (h:∀ x,S (g x) (fun r=>k r (vf x))):S (z >>= g) (fun r=>wt w (k r)):=fun r hm=>by
 obtain ⟨x,h1,h2⟩:=Option.bind_eq_some_iff.1 hm
 rw [hz x h1]
 exact h x r h2
theorem S.di {R:Type} {p:Prop} [Decidable p] {y1 y2:Option R} {W:R→Prop} (h1:p→S y1 W) (h2:S y2 W):S (if p then y1 else y2) W:=fun r hm=>by
 by_cases h:p
 ·rw [if_pos h] at hm;exact h1 h r hm
 ·rw [if_neg h] at hm;exact h2 r hm
section
variable {tb:Tb} {cty:List (Nat × List (Option (Nat × Nat)))} {ann:Ann} {con:Nat→CIn→z2u→Prop} {R X:Type} {a:Code} {c:Cut} {k:R→z61→St→Prop} {σ:St}
end
end Go.Pe
end
section
namespace Go.Pe
open _root_.Bool renaming and_eq_true → ya
open _root_.List renaming getElem?_eq_some_iff → yb, mem_cons_of_mem → yc
open _root_.Nat renaming beq → yd, ble → ye, eq_of_beq_eq_true → yf, le_of_ble_eq_true → yg
open _root_.Array renaming toList_inj → yh
open Go.RowKit Go.Lk

def ztq:Nat→List Nat→St→Option St
 | _,[],σ=>some σ
 | t,b::r,σ=>match σ.zl5 t b with
  | some s=>ztq (t+1) r s
  | none=>none
def zhs:List PV→Option (List Nat)
 | []=>some []
 | .ptr b off::r=>match yd off 0,zhs r with
  | true,some l=>some (b::l)
  | _,_=>none
 | _=>none
def exE (tb:Tb) (cty:List (Nat × List (Option (Nat × Nat)))) (ann:Ann) (con:Nat→CIn→z2u→Prop) (k:z61→St→Prop) (kD:Nat→Nat→z61→St→Prop):Code→St→Prop
 | .seq a b,σ=>match ztf a with
  | some (m,d,x)=>qop tb σ m.op fun v=>(σ.put (some d) v).go fun σ=>match σ.ev x with
    | some (.fn f [] cs)=>wt (zhs cs) fun bs=>match yd f NF,bs.all (fun b=>Nat.blt b 990||ye 1000 b) with
     | false,true=>wt (ztq 990 bs σ) fun s=>ex tb cty ann con b s (kD f bs.length)
     | _,_=>False
    | _=>False
  | none=>ex tb cty ann con a σ (z68 (fun s=>exE tb cty ann con k kD b s) k)
 | _,_=>False
def ovB (φ:Nat→Nat):Nat→List Nat→Nat→Nat
 | _,[]=>φ
 | t,g::r=>ovB (ren φ t g) (t+1) r
theorem zkx {x:Nat}:∀ {gs:List Nat} {φ:Nat→Nat} {t:Nat},x<t→ovB φ t gs x=φ x
 | [],φ,t,_=>rfl
 | g::r,φ,t,h=>by
  unfold ovB
  rw [zkx (by omega:x<t+1)]
  simp [ren,show x≠t by omega]
theorem zkw:∀ {gs:List Nat} {φ:Nat→Nat} {t j g:Nat},gs[j]? = some g→ovB φ t gs (t+j)=g
 | g0::r,φ,t,0,g,h=>by
  simp at h
  subst h
  unfold ovB
  rw [zkx (by omega)]
  simp [ren]
 | g0::r,φ,t,j+1,g,h=>by
  unfold ovB
  rw [show t+(j+1)=(t+1)+j by omega]
  exact zkw (by simpa using h)
section
variable {z:W0} {V:Env} {w:World} {O:Nat→Prop} {φ:Nat→Nat} {α:Nat→Value} {σ:St} {C:Cx} {n:Nat} {G:GI} {con:Nat→CIn→z2u→Prop} {tb:Tb} {cty:List (Nat × List (Option (Nat × Nat)))} {ann:Ann}
theorem zl4:∀ {bs:List Nat} {t:Nat} {z:W0} {φ:Nat→Nat} {σ σ':St},Rl z σ V w O φ α→(∀ b∈bs,b<t∨1000≤b)→ztq t bs σ=some σ'→Rl { z with φ0:=ovB z.φ0 t (bs.map φ) } σ' V w O (ovB φ t (bs.map φ)) α
 | [],t,z,φ,σ,σ',h,_,e=>by cases e;exact h
 | b::r,t,z,φ,σ,σ',h,hb,e=>by
  unfold ztq at e
  split at e
  ·rename_i s hs
   have h1:=h.zl5 hs
   have ht:t<1000:=by
    unfold St.zl5 at hs
    split at hs
    ·rename_i hf
     simp only [St.zpc,ya] at hf
     simpa [Nat.blt_eq] using hf.2
    ·cases hs
   have h2:=zl4 h1 (fun b' hb'=>by
    rcases hb b' (yc _ hb') with q|q
    ·exact .inl (by omega)
    ·exact .inr q) e
   have em:r.map (ren φ t (φ b))=r.map φ:=List.map_congr_left fun b' hb'=>by
    have:b'≠t:=by
     rcases hb b' (yc _ hb') with q|q<;>omega
    simp [ren,this]
   rw [em] at h2
   exact h2
  ·cases e
theorem zf2:∀ {cs:List PV} {bs:List Nat} {us:List Value},zhs cs=some bs→VRs w O φ α cs us→us=(bs.map φ).map fun g=>Value.pointer (some ⟨g,0,none⟩)
 | [],bs,us,e,h=>by cases e;exact h
 | .ptr b off::r,bs,us,e,h=>by
  obtain ⟨u,us',rfl,h1,h2⟩:=h
  simp only [zhs] at e
  split at e
  ·rename_i l e1 e2
   cases e
   have e1:=yf e1
   subst e1
   simp only [VR] at h1
   rw [h1,zf2 e2 h2]
   rfl
  ·cases e
def zv2 (f:Nat) (gs:List Nat):Deferred:={ target:=.fn (.func f) (List.toArray (gs.map fun g=>Value.pointer (some ⟨g,0,none⟩))),args:=(List.toArray []) }
theorem ze3 (ht:TbG C.P tb G) (hcon:∀ f i o,con f i o→Con C.P G f i o) (hz:∀ w O,z.G w O→G.p w O) {k:z61→St→Prop} {kD:Nat→Nat→z61→St→Prop}:∀ (c:Code) (σ:St) (todo:List Item),okC ann n c=true→z2n C.fn c=true→exE tb cty ann con k kD c σ→(∀ fl s,k fl s→fl ≠ .normal→FS z C n [] todo fl s) →
  (∀ f gs fl s,kD f gs.length fl s→FS { z with φ0:=ovB z.φ0 990 gs } C n [zv2 f gs] todo fl s)→KS z C n [] (.code c::todo) σ
 | .seq a b,σ,todo,hn,hd,hw,hk,hkD=>by
  simp only [okC,ya] at hn
  simp only [z2n,ya] at hd
  intro V w hr
  refine TW.seq ?_
  unfold exE at hw
  split at hw
  ·rename_i m d x hx
   unfold ztf at hx
   split at hx
   ·rename_i id ops
    split at hx
    ·rename_i m' o ho
     split at hx
     ·rename_i fn0 fs0 cs0 dm c hmop hmg hmd hop hg hdst
      obtain ⟨cal,cargs,cty'⟩:=c
      split at hx
      ·rename_i x' hcx hcy
       cases hx
       simp only at hcx hcy
       subst hcx
       have e1:ops=[m,o].toArray:=by apply yh.1;simpa using ho
       subst e1
       obtain ⟨O,φ,α,h,hs⟩:=hr
       have hnm:dOk n m.dst=true:=by
        have h7:=hn.1
        simp only [okC,List.all_cons,ya] at h7
        first|exact h7.1|exact h7.1.1|exact h7.2.1
       rw [hmd] at hnm
       obtain ⟨v,u,hw,hv,hex,_⟩:=z6o (C:=C) (n:=n) (V:=V) ht.toTbOk (fun w O hg=>ht.gt w O (hz w O hg)) h hw
       rw [St.go_eq] at hw
       have h0:=h.zfk (d:=d) hv
       split at hw
       ·rename_i f cs hf
        obtain ⟨bs,hbs,hw⟩:=zf hw
        split at hw
        rotate_left
        ·exact hw.elim
        rename_i hnf hb9
        obtain ⟨s,hs1,hw⟩:=zf hw
        obtain ⟨uf,h1,us,vs,rfl,h2,h3⟩:=h0.ev hf
        have h2:us=[]:=h2
        subst h2
        have h4:=zf2 hbs h3
        rw [zfw hnf] at h1
        subst h4
        refine TW.zo7 (z56:=(bs.map φ).map fun g=>Value.pointer (some ⟨g,0,none⟩)) (vs:=[]) hmg hmd hnm hex hg hdst hop h1 (by rw [hcy];simp only [Lk.evs]) ?_
        have:=z2e (z:={ z with φ0:=ovB z.φ0 990 (bs.map φ) }) (ds:=[zv2 f (bs.map φ)]) (G:=G) ht hcon hz b s (kD f bs.length) todo hn.2 (.inr hd.2) hw (fun fl s hk=>hkD f (bs.map φ) fl s (by simpa using hk))
        refine this _ w ⟨O,_,α,zl4 h0 (fun b' hb' => ?_) hs1,hs⟩
        have:=List.all_eq_true.1 hb9 b' hb'
        simp only [Bool.or_eq_true] at this
        rcases this with q|q
        ·exact .inl (by simpa [Nat.blt_eq] using q)
        ·exact .inr (yg q)
       ·exact hw.elim
      ·cases hx
     ·cases hx
    ·cases hx
   ·cases hx
  ·refine z2e (ds:=[]) (G:=G) ht hcon hz a σ _ (.code b::todo) hn.1 (.inr hd.1) hw (fun fl s hs => ?_) V w hr
   cases fl with
   | normal=>exact ze3 ht hcon hz b s todo hn.2 hd.2 hs hk hkD
   | exit i=>exact (hk _ _ hs (by simp)).code (by simp)
   | ret=>exact (hk _ _ hs (by simp)).code (by simp)
   | pan v=>exact (hk _ _ hs (by simp)).code (by simp)
 | .skip,σ,todo,_,_,hw,_,_=>hw.elim
 | .label _,σ,todo,_,_,hw,_,_=>hw.elim
 | .ret,σ,todo,_,_,hw,_,_=>hw.elim
 | .exit _,σ,todo,_,_,hw,_,_=>hw.elim
 | .region _ _ _,σ,todo,_,_,hw,_,_=>hw.elim
 | .cond _ _ _,σ,todo,_,_,hw,_,_=>hw.elim
 | .block _ _,σ,todo,_,_,hw,_,_=>hw.elim
 | .loop _,σ,todo,_,_,hw,_,_=>hw.elim
 | .rangeFunc ..,σ,todo,_,_,hw,_,_=>hw.elim
 | .scope _,σ,todo,_,_,hw,_,_=>hw.elim
 | .goto _,σ,todo,_,_,hw,_,_=>hw.elim
 | .refuse _,σ,todo,_,_,hw,_,_=>hw.elim
end
def zpy:Option PV→Value→FrameMode
 | none,_ => .returning
 | some _,u => .panicking [{ v:=u,recovered:=false }]
def zpz:Option PV→Value→FrameMode
 | none,_ => .returning
 | some _,u => .panicking [{ v:=u,recovered:=true }]
def zsy:Option PV→PV
 | none => .zan
 | some v=>v
def zvc:Option PV→Value→Value
 | none,_ => .nilIface
 | some _,u=>u
structure zr7 (P:Program) (G:GI) (f:Nat) (m:Option PV) (i:CIn) (o:z2u):Prop where
 ent:∀ args w,(callFunc f args).run P w = .ok (.enter f args) w
 run:∀ w O φ α us u,(∀ v,m=some v→∃ φv αv,VR w O φv αv v u)→VRs w O φ α i.vs us→Mm w O φ α i.B (i.A.map some)→Bd O w→G.p w O→CallsD P f us.toArray (zpy m u) w fun e fm w'=>fm=zpz m u∧z8s i w O φ α o e w'
def exR (tb:Tb) (cty:List (Nat × List (Option (Nat × Nat)))) (ann:Ann) (con:Nat→CIn→z2u→Prop) (v:PV):Code→St→(z61→St→Prop)→Prop
 | .seq a b,σ,k=>exR tb cty ann con v a σ (z68 (fun s=>ex tb cty ann con b s k) k)
 | .region _ ops false,σ,k=>match ops.toList with
  | o::l=>match o.op,o.guard,o.dst with
   | .call c,none,some d=>match c.callee,c.args.toList with
    | .builtin .recover,[]=>ze5 tb cty ann con ops (fun v s=>k (.pan v) s) (fun s=>k .normal s) l (σ.put (some d) v)
    | _,_=>False
   | _,_,_=>False
  | []=>False
 | _,_,_=>False
section
variable {z:W0} {V:Env} {w:World} {O:Nat→Prop} {φ:Nat→Nat} {α:Nat→Value} {σ:St} {C:Cx} {n:Nat} {G:GI} {con:Nat→CIn→z2u→Prop} {tb:Tb} {cty:List (Nat × List (Option (Nat × Nat)))} {ann:Ann}
theorem ze4 (ht:TbG C.P tb G) (hcon:∀ f i o,con f i o→Con C.P G f i o) (hz:∀ w O,z.G w O→G.p w O) (hN:C.dfr=true) (hlv:C.lv=false) {u0 u1:FrameMode} {v:PV} {u:Value} (hr:Rec u0 u1 u):∀ (c:Code) (σ:St) (k:z61→St→Prop) (todo:List Item),okC ann n c=true→exR tb cty ann con v c σ k→(∀ fl s,k fl s→FS z C n [] todo fl s) →
  ∀ {V w O φ α},Rl z σ V w O φ α→(∀ x,z.O x→O x)→VR w O φ α v u→TWR C n u0 u1 (.code c::todo) V w
 | .seq a b,σ,k,todo,hn,hw,hk,V,w,O,φ,α,h,hs,hv=>by
  simp only [okC,ya] at hn
  refine TWR.seq ?_
  refine ze4 ht hcon hz hN hlv hr a σ _ (.code b::todo) hn.1 hw (fun fl s hs => ?_) h hs hv
  cases fl with
  | normal=>exact z2e ht hcon hz b s k todo hn.2 (.inl hlv) hs hk
  | exit i=>exact (hk _ _ hs).code (by simp)
  | ret=>exact (hk _ _ hs).code (by simp)
  | pan v=>exact (hk _ _ hs).code (by simp)
 | .region id ops true,σ,k,todo,hn,hw,hk,V,w,O,φ,α,h,hs,hv=>hw.elim
 | .region id ops false,σ,k,todo,hn,hw,hk,V,w,O,φ,α,h,hs,hv=>by
  simp only [okC,ya] at hn
  have hn:=hn.1
  unfold exR at hw
  split at hw
  ·rename_i o l ho
   split at hw
   ·rename_i c d hop hg hd
    obtain ⟨cal,cargs,cty'⟩:=c
    split at hw
    ·rename_i hcx hcy
     simp only at hcx hcy
     subst hcx
     have e1:ops=(o::l).toArray:=by apply yh.1;simpa using ho
     subst e1
     have e2:cargs = #[]:=by apply yh.1;simpa using hcy
     subst e2
     simp only [List.all_cons,ya] at hn
     have hnd:Nat.blt d n=true:=by
      have:=hn.1
      rw [hd] at this
      exact this
     refine TWR.recover hN hr hg hd hnd hop ?_
     have:=z4k (K:=TWa C todo) (rest:=[]) (ops:=(o::l).toArray) (G:=G) ht hcon hz (k:=fun s=>k .normal s) (kp:=fun v s=>k (.pan v) s) (fun s hs V w hr=>OW.done (hk _ _ hs V w hr)) (fun v s hs=>hk _ _ hs) l _ hn.2 hw ((d,u)::V) w ⟨O,φ,α,h.zfk hv,hs⟩
     simpa using this
    ·exact hw.elim
   ·exact hw.elim
  ·exact hw.elim
 | .skip,σ,k,todo,_,hw,_,_,_,_,_,_,_,_,_=>hw.elim
 | .label _,σ,k,todo,_,hw,_,_,_,_,_,_,_,_,_=>hw.elim
 | .ret,σ,k,todo,_,hw,_,_,_,_,_,_,_,_,_=>hw.elim
 | .exit _,σ,k,todo,_,hw,_,_,_,_,_,_,_,_,_=>hw.elim
 | .cond _ _ _,σ,k,todo,_,hw,_,_,_,_,_,_,_,_,_=>hw.elim
 | .block _ _,σ,k,todo,_,hw,_,_,_,_,_,_,_,_,_=>hw.elim
 | .loop _,σ,k,todo,_,hw,_,_,_,_,_,_,_,_,_=>hw.elim
 | .rangeFunc ..,σ,k,todo,_,hw,_,_,_,_,_,_,_,_,_=>hw.elim
 | .scope _,σ,k,todo,_,hw,_,_,_,_,_,_,_,_,_=>hw.elim
 | .goto _,σ,k,todo,_,hw,_,_,_,_,_,_,_,_,_=>hw.elim
 | .refuse _,σ,k,todo,_,hw,_,_,_,_,_,_,_,_,_=>hw.elim
end
theorem zr7.of {P:Program} {G:GI} {tb:Tb} {cty:List (Nat × List (Option (Nat × Nat)))} {ann:Ann} {f:Nat} {fn:Func} {c:Code} {m:Option PV} {i:CIn} {o:z2u} {n:Nat} {res:List ResultVar} (ht:TbG P tb G) (ent:∀ args w,(callFunc f args).run P w = .ok (.enter f args) w) (hf:P.funcs[f]? = some fn) (hb:fn.body=some c) (hn:fn.ntmps=n)
  (hres:fn.results=res.toArray) (hok:okC ann n c=true) (hl:ye i.vs.length n=true) (hnb:ann.nb=i.B.length) (h1000:ye i.B.length 1000=true) (hkv:z3h (fun _=>False) (fun _=>False) (zsy m)) (hw:exR tb cty ann (Con P G) (zsy m) c (entry i) (fin tb ann res o)):zr7 P G f m i o:=by
 refine ⟨ent,fun w O φ α us u hu hv hm hB hG => ?_⟩
 have h1000:=yg h1000
 obtain ⟨hF,h0⟩:=z88 (G:=G) hv hm hB hG h1000
 have hlu:us.length=i.vs.length:=hv.len
 have hr:Rec (zpy m u) (zpz m u) (zvc m u):=by
  cases m with
  | none=>exact .inl ⟨rfl,rfl,rfl⟩
  | some v=>exact .inr ⟨[],rfl,rfl⟩
 have hrv:VR w O φ α (zsy m) (zvc m u):=by
  cases m with
  | none=>exact rfl
  | some v =>
   obtain ⟨φv,αv,h⟩:=hu v rfl
   exact VR.re (fun _ h=>h.elim) (fun _ h=>h.elim) _ _ hkv h
 refine z6b (R:=z8s i w O φ α o) (zpy m u) (zpz m u) hf hb n hn (by rw [hlu];exact hl) ?_
 refine ze4 (z:=zlo G i w O φ α hF hB) (C:={ P:=P,f:=f,fn:=fn,R:=z8s i w O φ α o,hf:=hf,dfr:=true }) (n:=n) (G:=G) ht (fun _ _ _ h=>h) (fun _ _ h=>h) rfl rfl hr c (entry i) _ [] hok hw (fun fl s hs => ?_) h0 (fun _ hx=>hx) hrv
 cases fl with
 | normal =>
  intro V w' hr
  obtain ⟨O',φ',α',h1,h2⟩:=hr
  cases o with
  | ok vs B A =>
   obtain ⟨us',h3,h4⟩:=z43 (C:={ P:=P,f:=f,fn:=fn,R:=z8s i w O φ α (.ok vs B A),hf:=hf,dfr:=true }) (n:=n) (hF:=hF) (hB:=hB) (g:=φ) ht hres (fun b hb=>h1.keep b (by omega)) h1 h2 hnb h1000 hs
   exact TW.fin h3 h4
  | _=>exact hs.elim
 | ret =>
  intro k' V w' hr
  obtain ⟨O',φ',α',h1,h2⟩:=hr
  cases o with
  | ok vs B A =>
   obtain ⟨us',h3,h4⟩:=z43 (C:={ P:=P,f:=f,fn:=fn,R:=z8s i w O φ α (.ok vs B A),hf:=hf,dfr:=true }) (n:=n) (hF:=hF) (hB:=hB) (g:=φ) ht hres (fun b hb=>h1.keep b (by omega)) h1 h2 hnb h1000 hs
   exact TW.ret h3 h4
  | _=>exact hs.elim
 | exit _=>exact hs.elim
 | pan v =>
  intro V w' O' φ' α' u φ2 α2 h1 h2 h3 a ha hda
  cases o with
  | ok _ _ _=>cases hs
  | okI _ _ _=>cases hs
  | zbf v' B =>
   obtain ⟨rfl,hsl,hw⟩:=hs
   obtain ⟨us',_,O3,φ3,α3,h4⟩:=z6y (ann:={ nb:=ann.nb }) (res:=[]) (C:={ P:=P,f:=f,fn:=fn,R:=z8s i w O φ α (.zbf v' B),hf:=hf,dfr:=true }) (n:=n) (hF:=hF) (hB:=hB) (g:=φ) ht (fun b hb=>h1.keep b (by omega)) h1 h2 hnb h1000 hw
   exact PN.nil hda ⟨u,φ2,α2,us',O3,φ3,α3,rfl,z4z _ _ hsl h3,h4⟩
  | pan v =>
   cases hs
   exact PN.nil hda ⟨u,O',φ2,α2,rfl,h3,h1.ext,h1.tr0,h1.bd,h1.only⟩
def zff:Nat→List PV
 | 0=>[]
 | n+1 => .undef::zff n
def zsv:Nat→Nat→List PV
 | 0,_=>[]
 | n+1,t => .ptr t 0::zsv n (t+1)
def dB (s:St):List Nat→List (Nat × Nat)→Bool
 | k::ks,e::es=>(match lk s.B k with
  | some x=>yd x.T e.1&&yd x.cs.length e.2
  | none=>false)&&dB s ks es
 | [],[]=>true
 | _,_=>false
def unB (l:List (Nat × Nat)):List Bx:=l.map fun e=>⟨e.1,zff e.2⟩
def ztj (tb:Tb) (ann:Ann) (res:List ResultVar) (out:z2u) (fc:Nat) (ts:List (Nat × Nat)) (T:Nat) (ik:IntKind) (B0:Int→List Bx) (f:Nat) (n:Nat) (fl:z61) (s:St):Prop :=
 match yd f fc&&yd n ts.length&&ye n 10,fl,out with
 | true,.ret,.ok vs B A=>zmc tb ann res s vs B A
 | true,.pan v,.ok vs B A=>match v with
  | .iface T' (.agg [.int ik' e])=>match yd T' T&&zmn ik' ik with
   | true=>(dB s (rng n 990) ts&&z5y (rng n 990)&&zew { s with B:=z3e (rng n 990) s.B,A:=z3e [] s.A } (rng n 990) [] n [] (B0 e) [])=true∧zmc tb ann res (left true (rng n 990) [] [] (B0 e) [] s) vs B A
   | false=>False
  | _=>False
 | _,_,_=>False
structure z9s (P:Program) (G:GI) (fc:Nat) (ts:List (Nat × Nat)) (T:Nat) (ik:IntKind) (B0:Int→List Bx):Prop where
 ret:zr7 P G fc none ⟨zff ts.length,[],[]⟩ (.ok [] [] [])
 pan:∀ e,zr7 P G fc (some (.iface T (.agg [.int ik e]))) ⟨zsv ts.length 0,unB ts,[]⟩ (.ok [] (B0 e) [])
theorem zb1 {w:World} {O:Nat→Prop} {φ:Nat→Nat} {α:Nat→Value}:∀ (us:List Value),VRs w O φ α (zff us.length) us
 | []=>rfl
 | u::us=>⟨u,us,rfl,trivial,zb1 us⟩
theorem zl1 {w:World} {O:Nat→Prop} {φ:Nat→Nat} {α:Nat→Value}:∀ (gs:List Nat) (t:Nat),(∀ j g,gs[j]? = some g→φ (t+j)=g)→VRs w O φ α (zsv gs.length t) (gs.map fun g=>Value.pointer (some ⟨g,0,none⟩))
 | [],_,_=>rfl
 | g::gs,t,h=>⟨_,_,rfl,by
   have:=h 0 g rfl
   simp only [VR]
   rw [←this]
   rfl,zl1 gs (t+1) fun j g' hg=>by
   have:=h (j+1) g' (by simpa using hg)
   rw [←this]
   congr 1
   omega⟩
theorem zo6 {s:St}:∀ {ks:List Nat} {es:List (Nat × Nat)},dB s ks es=true→ks.length=es.length∧∀ (j:Nat) (k:Nat),ks[j]? = some k→∃ x e,lk s.B k=some x∧es[j]? = some e∧x.T=e.1∧x.cs.length=e.2
 | [],[],_=>⟨rfl,fun j k h=>by simp at h⟩
 | [],_::_,h=>by cases h
 | _::_,[],h=>by cases h
 | k::ks,e::es,h=>by
  simp only [dB,ya] at h
  obtain ⟨h1,h2⟩:=h
  obtain ⟨h3,h4⟩:=zo6 h2
  refine ⟨by simp [h3],fun j k' hk => ?_⟩
  cases j with
  | zero =>
   simp at hk
   subst hk
   split at h1
   ·rename_i x hx
    simp only [ya] at h1
    exact ⟨x,e,hx,rfl,yf h1.1,yf h1.2⟩
   ·cases h1
  | succ j=>simpa using h4 j k' (by simpa using hk)
theorem LV.zw8 {C:Cx} {n:Nat} {L:Env} {w:World} {g:FuncId} {args args' cap:Array Value} (Q:World→Prop) (hi:(invoke (.fn (.func g) cap) args).run C.P w = .ok (.enter g args') w)
  (hc:CallsD C.P g args' .returning w (fun e u w'=>e = .returned (.tuple #[])∧u = .returning∧Q w'))
  (h:∀ w',Q w'→∃ v,Out C n L w' v∧C.R (.returned v) w'):LV C n [{ target:=.fn (.func g) cap,args:=args }] L w .returning:=fun a ha hd=>by
 refine leaves_cons (by simp) hi (hc.mono ?_)
 rintro e u w' ⟨rfl,rfl,x⟩
 obtain ⟨v,h1,h2⟩:=h w' x
 exact ⟨v,h1 a ha,h2⟩
theorem Con.ofE {P:Program} {G:GI} {tb:Tb} {cty:List (Nat × List (Option (Nat × Nat)))} {ann:Ann} {f:Nat} {fn:Func} {c:Code} {i:CIn} {o:z2u} {n:Nat} {res:List ResultVar} {fc:Nat} {ts:List (Nat × Nat)} {T:Nat} {ik:IntKind} {B0:Int→List Bx} (hct:z9s P G fc ts T ik B0) (ht:TbG P tb G) (ent:∀ args w,(callFunc f args).run P w = .ok (.enter f args) w) (hnn:yd f NF=false) (hf:P.funcs[f]? = some fn) (hb:fn.body=some c) (hn:fn.ntmps=n)
  (hres:fn.results=res.toArray) (hok:okC ann n c=true) (hnd:z2n fn c=true) (hl:ye i.vs.length n=true) (hnb:ann.nb=i.B.length) (h1000:ye i.B.length 900=true) (hw:exE tb cty ann (Con P G) (fin tb ann res o) (ztj tb ann res o fc ts T ik B0) c (entry i)):Con P G f i o:=by
 refine ⟨ent,hnn,fun w O φ α us hv hm hB hG => ?_⟩
 have h1000:=yg h1000
 obtain ⟨hF,h0⟩:=z88 (G:=G) hv hm hB hG (by omega)
 have hlu:us.length=i.vs.length:=hv.len
 refine zdv hf hb n hn (by rw [hlu];exact hl) ?_
 refine ze3 (z:=zlo G i w O φ α hF hB) (C:={ P:=P,f:=f,fn:=fn,R:=z8s i w O φ α o,hf:=hf,lv:=true }) (n:=n) (G:=G) ht (fun _ _ _ h=>h) (fun _ _ h=>h) c (entry i) [] hok hnd hw (fun fl s hs hne => ?_) (fun f' gs fl s hs => ?_) _ _ ⟨O,φ,α,h0,fun _ hx=>hx⟩
 ·cases fl with
  | normal=>exact (hne rfl).elim
  | ret =>
   intro k' V w' hr
   obtain ⟨O',φ',α',h1,h2⟩:=hr
   cases o with
   | ok vs B A =>
    obtain ⟨us',h3,h4⟩:=z43 (C:={ P:=P,f:=f,fn:=fn,R:=z8s i w O φ α (.ok vs B A),hf:=hf,lv:=true }) (n:=n) (hF:=hF) (hB:=hB) (g:=φ) ht hres (fun b hb=>h1.keep b (by omega)) h1 h2 hnb (by omega) hs
    exact TW.ret h3 h4
   | _=>exact hs.elim
  | exit _=>exact hs.elim
  | pan v =>
   intro V w' O' φ' α' u φ2 α2 h1 h2 h3 a ha hda
   cases o with
   | ok _ _ _=>cases hs
   | okI _ _ _=>cases hs
   | zbf v' B =>
    obtain ⟨rfl,hsl,hw⟩:=hs
    obtain ⟨us',_,O3,φ3,α3,h4⟩:=z6y (ann:={ nb:=ann.nb }) (res:=[]) (C:={ P:=P,f:=f,fn:=fn,R:=z8s i w O φ α (.zbf v' B),hf:=hf,lv:=true }) (n:=n) (hF:=hF) (hB:=hB) (g:=φ) ht (fun b hb=>h1.keep b (by omega)) h1 h2 hnb (by omega) hw
    exact PN.nil hda ⟨u,φ2,α2,us',O3,φ3,α3,rfl,z4z _ _ hsl h3,h4⟩
   | pan v =>
    cases hs
    exact PN.nil hda ⟨u,O',φ2,α2,rfl,h3,h1.ext,h1.tr0,h1.bd,h1.only⟩
 ·have hkp:∀ {φ':Nat→Nat} {b:Nat},b<i.B.length→φ' b=ovB φ 990 gs b→φ' b=φ b:=fun {φ' b} hb e=>e.trans (zkx (by omega))
  unfold ztj at hs
  split at hs
  ·rename_i vs B A hff
   simp only [ya] at hff
   have e1:=yf hff.1.1
   have e2:=yf hff.1.2
   subst e1
   intro k' V w' hr
   obtain ⟨O',φ',α',h1,h2⟩:=hr
   have hcall:=hct.ret.run w' O' φ' α' (gs.map fun g=>Value.pointer (some ⟨g,0,none⟩)) .nilIface (fun v hv=>by cases hv) (by
    have:=zb1 (w:=w') (O:=O') (φ:=φ') (α:=α') (gs.map fun g=>Value.pointer (some ⟨g,0,none⟩))
    rw [List.length_map,e2] at this
    exact this) ⟨fun b e he=>by simp at he,fun b e he=>by simp at he,fun a b la=>by simp at la,fun a b e e' he=>by simp at he,fun a b e he=>by simp at he⟩ h1.bd h1.gl
   refine TW.zvd rfl (LV.zw8 (fun w2=>Ext z18 w' w2) (z7b (vs:=[]) (z56:=gs.map fun g=>Value.pointer (some ⟨g,0,none⟩)) hct.ret.ent) (hcall.mono ?_) fun w2 x => ?_)
   ·rintro e fm w2 ⟨rfl,us',O3,φ3,α3,rfl,hd⟩
    have hus:us'=[]:=hd.res
    subst hus
    exact ⟨rfl,rfl,hd.ext.mono fun x _ hx=>by
     rcases hx with ⟨b,hb,_⟩|⟨b,hb,_⟩<;>simp at hb⟩
   ·have h3:=h1.zes x
    obtain ⟨us',h4,h5⟩:=z43 (C:={ P:=P,f:=f,fn:=fn,R:=z8s i w O φ α (.ok vs B A),hf:=hf,lv:=true }) (n:=n) (hF:=hF) (hB:=hB) (g:=ovB φ 990 gs) ht hres (fun b hb=>hkp hb (h3.keep b (by omega))) h3 h2 hnb (by omega) hs
    exact ⟨_,h4,h5⟩
  ·rename_i v vs B A hff
   simp only [ya] at hff
   have e1:=yf hff.1.1
   have e2:=yf hff.1.2
   have e3:=yg hff.2
   subst e1
   split at hs
   ·rename_i T' ik' e
    split at hs
    ·rename_i hb3
     simp only [ya] at hb3
     have f1:=yf hb3.1
     have f2:=z5m hb3.2
     subst f1 f2
     obtain ⟨hs1,hs2⟩:=hs
     simp only [ya] at hs1
     obtain ⟨⟨hdb,hnd9⟩,hout⟩:=hs1
     obtain ⟨_,hdb⟩:=zo6 hdb
     intro V w' O' φ' α' u φ2 α2 h1 h2 h3 a ha hda
     have hk9:∀ j g,gs[j]? = some g→φ' (990+j)=g:=fun j g hg=>by
      have hj:=(yb.1 hg).1
      exact (h1.keep (990+j) (by omega)).trans (zkw hg)
     have hrg:∀ j,j<gs.length→(rng gs.length 990)[j]? = some (990+j):=fun j hj=>zde.2 ⟨hj,rfl⟩
     have hgd:∀ j,j<gs.length→(rng gs.length 990).getD j 0=990+j:=fun j hj=>by simp [List.getD,hrg j hj]
     have hul:(unB ts).length=gs.length:=by simp [unB,e2]
     have hmm:Mm w' O' (fun j=>φ' ((rng gs.length 990).getD j 0)) (fun j=>α' (([]:List Nat).getD j 0)) (unB ts) []:=by
      refine ⟨fun j x hx => ?_,fun b e he=>by simp at he,fun a b la lb hn => ?_,fun a b e e' he=>by simp at he,fun a b e he=>by simp at he⟩
      ·have hj:j<gs.length:=by
        have:=(yb.1 hx).1
        omega
       obtain ⟨y,ee,k1,k2,k3,k4⟩:=hdb j _ (hrg j hj)
       have hx':x=⟨ee.1,zff ee.2⟩:=by
        simp only [unB,List.getElem?_map,k2,Option.map_some,Option.some.injEq] at hx
        exact hx.symm
       subst hx'
       obtain ⟨m1,us3,m2,m3⟩:=h1.box _ y k1
       simp only [hgd j hj]
       refine ⟨m1,us3,k3▸m2,?_⟩
       have:=zb1 (w:=w') (O:=O') (φ:=fun j=>φ' ((rng gs.length 990).getD j 0)) (α:=fun j=>α' (([]:List Nat).getD j 0)) us3
       rw [m3.len,k4] at this
       exact this
      ·rw [hul] at la lb
       obtain ⟨y,_,k1,_⟩:=hdb a _ (hrg a la)
       obtain ⟨y',_,k1',_⟩:=hdb b _ (hrg b lb)
       simp only [hgd a la,hgd b lb]
       exact h1.bb _ _ y y' k1 k1' (by omega)
     have hcall:=(hct.pan e).run w' O' (fun j=>φ' ((rng gs.length 990).getD j 0)) (fun j=>α' (([]:List Nat).getD j 0)) (gs.map fun g=>Value.pointer (some ⟨g,0,none⟩)) u (fun v hv=>by cases hv;exact ⟨φ2,α2,h3⟩) (by
      have:=zl1 (w:=w') (O:=O') (φ:=fun j=>φ' ((rng gs.length 990).getD j 0)) (α:=fun j=>α' (([]:List Nat).getD j 0)) gs 0 fun j g hg=>by
       have hj:=(yb.1 hg).1
       simp only [Nat.zero_add,hgd j hj]
       exact hk9 j g hg
      show VRs _ _ _ _ (zsv ts.length 0) _
      rw [←e2]
      exact this) hmm h1.bd h1.gl
     simp only [zew,ya] at hout
     obtain ⟨⟨⟨⟨⟨⟨r1,r2⟩,r3⟩,r4⟩,r5⟩,r6⟩,r7⟩:=hout
     have r2:=yf r2
     have key:=LV.zva (C:={ P:=P,f:=f,fn:=fn,R:=z8s i w O φ α (.ok vs B A),hf:=hf,lv:=true }) (n:=n) (L:=V) (pv:=u)
      (fun w2=>∃ us' O3 φ3 α3,zbi ⟨zsv ts.length 0,unB ts,[]⟩ w' O' (fun j=>φ' ((rng gs.length 990).getD j 0)) (fun j=>α' (([]:List Nat).getD j 0)) [] (B0 e) [] w2 us' O3 φ3 α3)
      (z7b (vs:=[]) (z56:=gs.map fun g=>Value.pointer (some ⟨g,0,none⟩)) hct.ret.ent) (hcall.mono (by
       rintro e fm w2 ⟨rfl,us',O3,φ3,α3,rfl,hd⟩
       have hus:us'=[]:=hd.res
       subst hus
       exact ⟨rfl,rfl,_,O3,φ3,α3,hd⟩)) fun w2 ⟨us',O3,φ3,α3,hd⟩=>by
      obtain ⟨O4,φ4,α4,m1,m2,_,_⟩:=zd4 (bs:=rng gs.length 990) (as:=[]) (as':=[]) (vs:=[]) (A:=[]) h1 h1 (fun _ h=>h) (fun _ h=>h) (fun b e he=>⟨e,he⟩) (fun b e he=>⟨e,he⟩)
       hnd9 rfl (by rw [hul,z7x];exact Nat.le_refl _) rfl (fun j b hj hb=>by
        rw [hul] at hj
        obtain ⟨y,_,k1,_⟩:=hdb j b hb
        exact ⟨y,k1⟩) (fun j b hj=>by simp at hj) r2 rfl r4 r5 r6 (by rw [show (unB ts).length=gs.length from hul];exact r7) hd (.inl fun x hx=>hd.more x hx)
      obtain ⟨us4,h5,h6⟩:=z43 (C:={ P:=P,f:=f,fn:=fn,R:=z8s i w O φ α (.ok vs B A),hf:=hf,lv:=true }) (n:=n) (hF:=hF) (hB:=hB) (g:=ovB φ 990 gs) ht hres (fun b hb=>hkp hb (m1.keep b (by omega))) m1 (fun x hx=>m2 x (h2 x hx)) hnb (by omega) hs2
      exact ⟨_,h5,h6⟩
     have:=key a ha hda
     unfold PN
     rw [hda]
     exact this
    ·exact hs.elim
   ·exact hs.elim
  ·exact hs.elim
end Go.Pe
end
