import Derived.Test.YtfdoofnmjehecaaGreatDoorAPfS2
import Derived.KernelRfl
import Derived.Shelf.Strings.Builder1
set_option linter.all false
namespace Go.Pe
open _root_.Option renaming getD_some → ya
open _root_.Bool renaming and_eq_true → yb
open _root_.List renaming all_eq_true → yc, any_eq_true → yd, eq_nil_of_length_eq_zero → ye, getElem?_eq_some_iff → yf, mem_cons_of_mem → yg, mem_cons_self → yh
open _root_.Nat renaming add_lt_add_left → yi, add_sub_cancel_left → yj, beq → yk, ble → yl, eq_of_beq_eq_true → ym, le_of_ble_eq_true → yn, lt_irrefl → yo, lt_of_lt_of_le → yp, lt_succ_self → yq, not_lt_zero → yr, zero_lt_one → yt
open _root_.Array renaming toList_inj → yu
section
open Go.RowKit Go.Lk
def renL:Nat→List Nat→St→Option St
 | _,[],σ=>some σ
 | t,b::r,σ=>match σ.zx3 t b with
  | some s=>renL (t+1) r s
  | none=>none
def zrl:List PV→Option (List Nat)
 | []=>some []
 | .ptr b off::r=>match yk off 0,zrl r with
  | true,some l=>some (b::l)
  | _,_=>none
 | _=>none
def exE (tb:Tb) (cty:List (Nat × List (Option (Nat × Nat)))) (ann:Ann) (con:Nat→CIn→z3x→Prop) (k:z8d→St→Prop) (kD:Nat→Nat→z8d→St→Prop):Code→St→Prop
 | .seq a b,σ=>match dfr2 a with
  | some (m,d,x)=>qop tb σ m.op fun v=>(σ.put (some d) v).go fun σ=>match σ.ev x with
    | some (.fn f [] cs)=>wt (zrl cs) fun bs=>match yk f NF,bs.all (fun b=>Nat.blt b 990||yl 1000 b) with
     | false,true=>wt (renL 990 bs σ) fun s=>ex tb cty ann con b s (kD f bs.length)
     | _,_=>False
    | _=>False
  | none=>ex tb cty ann con a σ (zkh (fun s=>exE tb cty ann con k kD b s) k)
 | _,_=>False
def ovB (φ:Nat→Nat):Nat→List Nat→Nat→Nat
 | _,[]=>φ
 | t,g::r=>ovB (ren φ t g) (t+1) r
theorem zwq {x:Nat}:∀ {gs:List Nat} {φ:Nat→Nat} {t:Nat},x<t→ovB φ t gs x=φ x
 | [],φ,t,_=>rfl
 | g::r,φ,t,h=>by
  unfold ovB
  rw [zwq (by omega:x<t+1)]
  grind [ren]
theorem zwp:∀ {gs:List Nat} {φ:Nat→Nat} {t j g:Nat},gs[j]? = some g→ovB φ t gs (t+j)=g
 | g0::r,φ,t,0,g,h=>by
  simp_all [ovB,zwq,ren]
 | g0::r,φ,t,j+1,g,h=>by
  rw [show t+(j+1)=(t+1)+j by omega]
  exact zwp (by simpa using h)
section
variable {z:W0} {V:Env} {w:World} {O:Nat→Prop} {φ:Nat→Nat} {α:Nat→Value} {σ:St} {C:Cx} {n:Nat} {G:GI} {con:Nat→CIn→z3x→Prop} {tb:Tb} {cty:List (Nat × List (Option (Nat × Nat)))} {ann:Ann}
theorem zx2:∀ {bs:List Nat} {t:Nat} {z:W0} {φ:Nat→Nat} {σ σ':St},Rl z σ V w O φ α→(∀ b∈bs,b<t∨1000≤b)→renL t bs σ=some σ'→Rl { z with φ0:=ovB z.φ0 t (bs.map φ) } σ' V w O (ovB φ t (bs.map φ)) α
 | [],t,z,φ,σ,σ',h,_,e=>by cases e;exact h
 | b::r,t,z,φ,σ,σ',h,hb,e=>by
  unfold renL at e
  split at e
  ·rename_i s hs
   have h1:=h.zx3 hs
   have ht:t<1000:=by
    unfold St.zx3 at hs
    split at hs
    ·simp_all [St.freeT]
    ·cases hs
   have h2:=zx2 h1 (fun b' hb'=>by
    grind) e
   have em:r.map (ren φ t (φ b))=r.map φ:=List.map_congr_left fun b' hb'=>by
    grind [ren]
   rw [em] at h2
   exact h2
  ·cases e
theorem zmf:∀ {cs:List PV} {bs:List Nat} {us:List Value},zrl cs=some bs→VRs w O φ α cs us→us=(bs.map φ).map fun g=>Value.pointer (some ⟨g,0,none⟩)
 | [],bs,us,e,h=>by cases e;exact h
 | .ptr b off::r,bs,us,e,h=>by
  obtain ⟨u,us',rfl,h1,h2⟩:=h
  simp only [zrl] at e
  split at e
  ·rename_i l e1 e2
   cases e
   have e1:=ym e1
   subst e1
   rw [h1,zmf e2 h2]
   rfl
  ·cases e
def dOfE (f:Nat) (gs:List Nat):Deferred:={ target:=.fn (.func f) (List.toArray (gs.map fun g=>Value.pointer (some ⟨g,0,none⟩))),args:=(List.toArray []) }
theorem zl9 (ht:TbG C.P tb G) (hcon:∀ f i o,con f i o→Con C.P G f i o) (hz:∀ w O,z.G w O→G.p w O) {k:z8d→St→Prop} {kD:Nat→Nat→z8d→St→Prop}:∀ (c:Code) (σ:St) (todo:List Item),okC ann n c=true→z3w C.fn c=true→exE tb cty ann con k kD c σ→(∀ fl s,k fl s→fl ≠ .normal→FS z C n [] todo fl s) →
  (∀ f gs fl s,kD f gs.length fl s→FS { z with φ0:=ovB z.φ0 990 gs } C n [dOfE f gs] todo fl s)→KS z C n [] (.code c::todo) σ
 | .seq a b,σ,todo,hn,hd,hw,hk,hkD=>by
  simp only [okC,yb] at hn
  simp only [z3w,yb] at hd
  intro V w hr
  refine TW.seq ?_
  unfold exE at hw
  split at hw
  ·rename_i m d x hx
   unfold dfr2 at hx
   split at hx
   ·rename_i id ops
    split at hx
    ·rename_i m' o ho
     split at hx
     ·rename_i fn0 fs0 cs0 dm c hmop hmg hmd hop hg hdst
      obtain ⟨cal,cargs,cty'⟩:=c
      split at hx
      ·rename_i x' hcx hcy
       cases hx
       subst hcx
       have e1:ops=[m,o].toArray:=by apply yu.1;simpa using ho
       subst e1
       obtain ⟨O,φ,α,h,hs⟩:=hr
       have hnm:dOk n m.dst=true:=by
        have h7:=hn.1
        simp only [okC,List.all_cons,yb] at h7
        first|exact h7.1|exact h7.1.1|exact h7.2.1
       rw [hmd] at hnm
       obtain ⟨v,u,hw,hv,hex,_⟩:=z9z (C:=C) (n:=n) (V:=V) ht.toTbOk (fun w O hg=>ht.gt w O (hz w O hg)) h hw
       rw [St.go_eq] at hw
       have h0:=h.zne (d:=d) hv
       split at hw
       ·rename_i f cs hf
        obtain ⟨bs,hbs,hw⟩:=zc hw
        split at hw
        rotate_left
        ·exact hw.elim
        rename_i hnf hb9
        obtain ⟨s,hs1,hw⟩:=zc hw
        obtain ⟨uf,h1,us,vs,rfl,h2,h3⟩:=h0.ev hf
        subst h2
        have h4:=zmf hbs h3
        rw [znw hnf] at h1
        subst h4
        refine TW.zz01l (z8j:=(bs.map φ).map fun g=>Value.pointer (some ⟨g,0,none⟩)) (vs:=[]) hmg hmd hnm hex hg hdst hop h1 (by grind [Lk.evs]) ?_
        have:=z3f (z:={ z with φ0:=ovB z.φ0 990 (bs.map φ) }) (ds:=[dOfE f (bs.map φ)]) (G:=G) ht hcon hz b s (kD f bs.length) todo hn.2 (.inr hd.2) hw (fun fl s hk=>hkD f (bs.map φ) fl s (by grind))
        refine this _ w ⟨O,_,α,zx2 h0 (fun b' hb' => ?_) hs1,hs⟩
        simp_all
       grind
      ·cases hx
     ·cases hx
    ·cases hx
   ·cases hx
  ·refine z3f (ds:=[]) (G:=G) ht hcon hz a σ _ (.code b::todo) hn.1 (.inr hd.1) hw (fun fl s hs => ?_) V w hr
   cases fl with
   | normal=>exact zl9 ht hcon hz b s todo hn.2 hd.2 hs hk hkD
   | exit i=>exact (hk _ _ hs (by simp)).code (by simp)
   | ret=>exact (hk _ _ hs (by simp)).code (by simp)
   | pan v=>exact (hk _ _ hs (by simp)).code (by simp)
 | .skip,σ,todo,_,_,hw,_,_=>hw.elim
 | .label _,σ,todo,_,_,hw,_,_=>hw.elim
 | .ret,σ,todo,_,_,hw,_,_=>hw.elim
 | .exit _,σ,todo,_,_,hw,_,_=>hw.elim
 | .region _ _ _,σ,todo,_,_,hw,_,_=>hw.elim
 | .cond _ _ _,σ,todo,_,_,hw,_,_=>hw.elim
 | .block _ _,σ,todo,_,_,hw,_,_=>hw.elim
 | .loop _,σ,todo,_,_,hw,_,_=>hw.elim
 | .rangeFunc ..,σ,todo,_,_,hw,_,_=>hw.elim
 | .scope _,σ,todo,_,_,hw,_,_=>hw.elim
 | .goto _,σ,todo,_,_,hw,_,_=>hw.elim
 | .refuse _,σ,todo,_,_,hw,_,_=>hw.elim
end
def mode0:Option PV→Value→FrameMode
 | none,_ => .returning
 | some _,u => .panicking [{ v:=u,recovered:=false }]
def mode1:Option PV→Value→FrameMode
 | none,_ => .returning
 | some _,u => .panicking [{ v:=u,recovered:=true }]
def recP:Option PV→PV
 | none => .ze6
 | some v=>v
def recV:Option PV→Value→Value
 | none,_ => .nilIface
 | some _,u=>u
structure ConD (P:Program) (G:GI) (f:Nat) (m:Option PV) (i:CIn) (o:z3x):Prop where
 ent:∀ args w,(callFunc f args).run P w = .ok (.enter f args) w
 run:∀ w O φ α us u,(∀ v,m=some v→∃ φv αv,VR w O φv αv v u)→VRs w O φ α i.vs us→Mm w O φ α i.B (i.A.map some)→Bd O w→G.p w O→CallsD P f us.toArray (mode0 m u) w fun e fm w'=>fm=mode1 m u∧zd0 i w O φ α o e w'
def exR (tb:Tb) (cty:List (Nat × List (Option (Nat × Nat)))) (ann:Ann) (con:Nat→CIn→z3x→Prop) (v:PV):Code→St→(z8d→St→Prop)→Prop
 | .seq a b,σ,k=>exR tb cty ann con v a σ (zkh (fun s=>ex tb cty ann con b s k) k)
 | .region _ ops false,σ,k=>match ops.toList with
  | o::l=>match o.op,o.guard,o.dst with
   | .call c,none,some d=>match c.callee,c.args.toList with
    | .builtin .recover,[]=>zfg tb cty ann con ops (fun v s=>k (.pan v) s) (fun s=>k .normal s) l (σ.put (some d) v)
    | _,_=>False
   | _,_,_=>False
  | []=>False
 | _,_,_=>False
section
variable {z:W0} {V:Env} {w:World} {O:Nat→Prop} {φ:Nat→Nat} {α:Nat→Value} {σ:St} {C:Cx} {n:Nat} {G:GI} {con:Nat→CIn→z3x→Prop} {tb:Tb} {cty:List (Nat × List (Option (Nat × Nat)))} {ann:Ann}
theorem zla (ht:TbG C.P tb G) (hcon:∀ f i o,con f i o→Con C.P G f i o) (hz:∀ w O,z.G w O→G.p w O) (hN:C.dfr=true) (hlv:C.lv=false) {u0 u1:FrameMode} {v:PV} {u:Value} (hr:Rec u0 u1 u):∀ (c:Code) (σ:St) (k:z8d→St→Prop) (todo:List Item),okC ann n c=true→exR tb cty ann con v c σ k→(∀ fl s,k fl s→FS z C n [] todo fl s) →
  ∀ {V w O φ α},Rl z σ V w O φ α→(∀ x,z.O x→O x)→VR w O φ α v u→TWR C n u0 u1 (.code c::todo) V w
 | .seq a b,σ,k,todo,hn,hw,hk,V,w,O,φ,α,h,hs,hv=>by
  simp only [okC,yb] at hn
  refine TWR.seq ?_
  refine zla ht hcon hz hN hlv hr a σ _ (.code b::todo) hn.1 hw (fun fl s hs => ?_) h hs hv
  cases fl with
  | normal=>exact z3f ht hcon hz b s k todo hn.2 (.inl hlv) hs hk
  | exit i=>exact (hk _ _ hs).code (by simp)
  | ret=>exact (hk _ _ hs).code (by simp)
  | pan v=>exact (hk _ _ hs).code (by simp)
 | .region id ops true,σ,k,todo,hn,hw,hk,V,w,O,φ,α,h,hs,hv=>hw.elim
 | .region id ops false,σ,k,todo,hn,hw,hk,V,w,O,φ,α,h,hs,hv=>by
  simp only [okC,yb] at hn
  have hn:=hn.1
  unfold exR at hw
  split at hw
  ·rename_i o l ho
   split at hw
   ·rename_i c d hop hg hd
    obtain ⟨cal,cargs,cty'⟩:=c
    split at hw
    ·rename_i hcx hcy
     subst hcx
     have e1:ops=(o::l).toArray:=by apply yu.1;simpa using ho
     subst e1
     have e2:cargs = #[]:=by apply yu.1;simpa using hcy
     subst e2
     simp only [List.all_cons,yb] at hn
     have hnd:Nat.blt d n=true:=by
      have:=hn.1
      rw [hd] at this
      exact this
     refine TWR.recover hN hr hg hd hnd hop ?_
     have:=z6t (K:=TWa C todo) (rest:=[]) (ops:=(o::l).toArray) (G:=G) ht hcon hz (k:=fun s=>k .normal s) (kp:=fun v s=>k (.pan v) s) (fun s hs V w hr=>OW.done (hk _ _ hs V w hr)) (fun v s hs=>hk _ _ hs) l _ hn.2 hw ((d,u)::V) w ⟨O,φ,α,h.zne hv,hs⟩
     grind
    grind
   grind
  grind
 | .skip,σ,k,todo,_,hw,_,_,_,_,_,_,_,_,_=>hw.elim
 | .label _,σ,k,todo,_,hw,_,_,_,_,_,_,_,_,_=>hw.elim
 | .ret,σ,k,todo,_,hw,_,_,_,_,_,_,_,_,_=>hw.elim
 | .exit _,σ,k,todo,_,hw,_,_,_,_,_,_,_,_,_=>hw.elim
 | .cond _ _ _,σ,k,todo,_,hw,_,_,_,_,_,_,_,_,_=>hw.elim
 | .block _ _,σ,k,todo,_,hw,_,_,_,_,_,_,_,_,_=>hw.elim
 | .loop _,σ,k,todo,_,hw,_,_,_,_,_,_,_,_,_=>hw.elim
 | .rangeFunc ..,σ,k,todo,_,hw,_,_,_,_,_,_,_,_,_=>hw.elim
 | .scope _,σ,k,todo,_,hw,_,_,_,_,_,_,_,_,_=>hw.elim
 | .goto _,σ,k,todo,_,hw,_,_,_,_,_,_,_,_,_=>hw.elim
 | .refuse _,σ,k,todo,_,hw,_,_,_,_,_,_,_,_,_=>hw.elim
end
theorem ConD.of {P:Program} {G:GI} {tb:Tb} {cty:List (Nat × List (Option (Nat × Nat)))} {ann:Ann} {f:Nat} {fn:Func} {c:Code} {m:Option PV} {i:CIn} {o:z3x} {n:Nat} {res:List ResultVar} (ht:TbG P tb G) (ent:∀ args w,(callFunc f args).run P w = .ok (.enter f args) w) (hf:P.funcs[f]? = some fn) (hb:fn.body=some c) (hn:fn.ntmps=n)
  (hres:fn.results=res.toArray) (hok:okC ann n c=true) (hl:yl i.vs.length n=true) (hnb:ann.nb=i.B.length) (h1000:yl i.B.length 1000=true) (hkv:z56 (fun _=>False) (fun _=>False) (recP m)) (hw:exR tb cty ann (Con P G) (recP m) c (entry i) (fin tb ann res o)):ConD P G f m i o:=by
 refine ⟨ent,fun w O φ α us u hu hv hm hB hG => ?_⟩
 have h1000:=yn h1000
 obtain ⟨hF,h0⟩:=zc6 (G:=G) hv hm hB hG h1000
 have hlu:us.length=i.vs.length:=hv.len
 have hr:Rec (mode0 m u) (mode1 m u) (recV m u):=by
  cases m with
  | none=>exact .inl ⟨rfl,rfl,rfl⟩
  | some v=>exact .inr ⟨[],rfl,rfl⟩
 have hrv:VR w O φ α (recP m) (recV m u):=by
  cases m with
  | none=>exact rfl
  | some v =>
   obtain ⟨φv,αv,h⟩:=hu v rfl
   exact VR.re (fun _ h=>h.elim) (fun _ h=>h.elim) _ _ hkv h
 refine z9h (R:=zd0 i w O φ α o) (mode0 m u) (mode1 m u) hf hb n hn (by grind) ?_
 refine zla (z:=zy2 G i w O φ α hF hB) (C:={ P:=P,f:=f,fn:=fn,R:=zd0 i w O φ α o,hf:=hf,dfr:=true }) (n:=n) (G:=G) ht (fun _ _ _ h=>h) (fun _ _ h=>h) rfl rfl hr c (entry i) _ [] hok hw (fun fl s hs => ?_) h0 (fun _ hx=>hx) hrv
 cases fl with
 | normal =>
  intro V w' hr
  obtain ⟨O',φ',α',h1,h2⟩:=hr
  cases o with
  | ok vs B A =>
   obtain ⟨us',h3,h4⟩:=z6b (C:={ P:=P,f:=f,fn:=fn,R:=zd0 i w O φ α (.ok vs B A),hf:=hf,dfr:=true }) (n:=n) (hF:=hF) (hB:=hB) (g:=φ) ht hres (fun b hb=>h1.keep b (by omega)) h1 h2 hnb h1000 hs
   exact TW.fin h3 h4
  | _=>exact hs.elim
 | ret =>
  intro k' V w' hr
  obtain ⟨O',φ',α',h1,h2⟩:=hr
  cases o with
  | ok vs B A =>
   obtain ⟨us',h3,h4⟩:=z6b (C:={ P:=P,f:=f,fn:=fn,R:=zd0 i w O φ α (.ok vs B A),hf:=hf,dfr:=true }) (n:=n) (hF:=hF) (hB:=hB) (g:=φ) ht hres (fun b hb=>h1.keep b (by omega)) h1 h2 hnb h1000 hs
   exact TW.ret h3 h4
  | _=>exact hs.elim
 | exit _=>exact hs.elim
 | pan v =>
  intro V w' O' φ' α' u φ2 α2 h1 h2 h3 a ha hda
  cases o with
  | ok _ _ _=>cases hs
  | okI _ _ _=>cases hs
  | zhg v' B =>
   obtain ⟨rfl,hsl,hw⟩:=hs
   obtain ⟨us',_,O3,φ3,α3,h4⟩:=zae (ann:={ nb:=ann.nb }) (res:=[]) (C:={ P:=P,f:=f,fn:=fn,R:=zd0 i w O φ α (.zhg v' B),hf:=hf,dfr:=true }) (n:=n) (hF:=hF) (hB:=hB) (g:=φ) ht (fun b hb=>h1.keep b (by omega)) h1 h2 hnb h1000 hw
   exact PN.nil hda ⟨u,φ2,α2,us',O3,φ3,α3,rfl,z7r _ _ hsl h3,h4⟩
  | pan v =>
   cases hs
   exact PN.nil hda ⟨u,O',φ2,α2,rfl,h3,h1.ext,h1.tr0,h1.bd,h1.only⟩
def zn6:Nat→List PV
 | 0=>[]
 | n+1 => .undef::zn6 n
def ptrs:Nat→Nat→List PV
 | 0,_=>[]
 | n+1,t => .ptr t 0::ptrs n (t+1)
def dB (s:St):List Nat→List (Nat × Nat)→Bool
 | k::ks,e::es=>(match lk s.B k with
  | some x=>yk x.T e.1&&yk x.cs.length e.2
  | none=>false)&&dB s ks es
 | [],[]=>true
 | _,_=>false
def unB (l:List (Nat × Nat)):List Bx:=l.map fun e=>⟨e.1,zn6 e.2⟩
def finE (tb:Tb) (ann:Ann) (res:List ResultVar) (out:z3x) (fc:Nat) (ts:List (Nat × Nat)) (T:Nat) (ik:IntKind) (B0:Int→List Bx) (f:Nat) (n:Nat) (fl:z8d) (s:St):Prop :=
 match yk f fc&&yk n ts.length&&yl n 10,fl,out with
 | true,.ret,.ok vs B A=>zz3 tb ann res s vs B A
 | true,.pan v,.ok vs B A=>match v with
  | .iface T' (.agg [.int ik' e])=>match yk T' T&&zzm ik' ik with
   | true=>(dB s (rng n 990) ts&&z99 (rng n 990)&&zma { s with B:=z5a (rng n 990) s.B,A:=z5a [] s.A } (rng n 990) [] n [] (B0 e) [])=true∧zz3 tb ann res (left true (rng n 990) [] [] (B0 e) [] s) vs B A
   | false=>False
  | _=>False
 | _,_,_=>False
structure zev (P:Program) (G:GI) (fc:Nat) (ts:List (Nat × Nat)) (T:Nat) (ik:IntKind) (B0:Int→List Bx):Prop where
 ret:ConD P G fc none ⟨zn6 ts.length,[],[]⟩ (.ok [] [] [])
 pan:∀ e,ConD P G fc (some (.iface T (.agg [.int ik e]))) ⟨ptrs ts.length 0,unB ts,[]⟩ (.ok [] (B0 e) [])
theorem zh2 {w:World} {O:Nat→Prop} {φ:Nat→Nat} {α:Nat→Value}:∀ (us:List Value),VRs w O φ α (zn6 us.length) us
 | []=>rfl
 | u::us=>⟨u,us,rfl,trivial,zh2 us⟩
theorem zww {w:World} {O:Nat→Prop} {φ:Nat→Nat} {α:Nat→Value}:∀ (gs:List Nat) (t:Nat),(∀ j g,gs[j]? = some g→φ (t+j)=g)→VRs w O φ α (ptrs gs.length t) (gs.map fun g=>Value.pointer (some ⟨g,0,none⟩))
 | [],_,_=>rfl
 | g::gs,t,h=>⟨_,_,rfl,by
   have:=h 0 g rfl
   grind [VR],zww gs (t+1) fun j g' hg=>by
   have:=h (j+1) g' (by grind)
   grind⟩
theorem zz01k {s:St}:∀ {ks:List Nat} {es:List (Nat × Nat)},dB s ks es=true→ks.length=es.length∧∀ (j:Nat) (k:Nat),ks[j]? = some k→∃ x e,lk s.B k=some x∧es[j]? = some e∧x.T=e.1∧x.cs.length=e.2
 | [],[],_=>⟨rfl,fun j k h=>by simp at h⟩
 | [],_::_,h=>by cases h
 | _::_,[],h=>by cases h
 | k::ks,e::es,h=>by
  simp only [dB,yb] at h
  obtain ⟨h1,h2⟩:=h
  obtain ⟨h3,h4⟩:=zz01k h2
  refine ⟨by simp [h3],fun j k' hk => ?_⟩
  cases j with
  | zero =>
   split at h1
   ·simp_all
   ·cases h1
  | succ j=>grind
theorem LV.ret3 {C:Cx} {n:Nat} {L:Env} {w:World} {g:FuncId} {args args' cap:Array Value} (Q:World→Prop) (hi:(invoke (.fn (.func g) cap) args).run C.P w = .ok (.enter g args') w)
  (hc:CallsD C.P g args' .returning w (fun e u w'=>e = .returned (.tuple #[])∧u = .returning∧Q w'))
  (h:∀ w',Q w'→∃ v,Out C n L w' v∧C.R (.returned v) w'):LV C n [{ target:=.fn (.func g) cap,args:=args }] L w .returning:=fun a ha hd=>by
 refine leaves_cons (by simp) hi (hc.mono ?_)
 rintro e u w' ⟨rfl,rfl,x⟩
 obtain ⟨v,h1,h2⟩:=h w' x
 exact ⟨v,h1 a ha,h2⟩
theorem Con.ofE {P:Program} {G:GI} {tb:Tb} {cty:List (Nat × List (Option (Nat × Nat)))} {ann:Ann} {f:Nat} {fn:Func} {c:Code} {i:CIn} {o:z3x} {n:Nat} {res:List ResultVar} {fc:Nat} {ts:List (Nat × Nat)} {T:Nat} {ik:IntKind} {B0:Int→List Bx} (hct:zev P G fc ts T ik B0) (ht:TbG P tb G) (ent:∀ args w,(callFunc f args).run P w = .ok (.enter f args) w) (hnn:yk f NF=false) (hf:P.funcs[f]? = some fn) (hb:fn.body=some c) (hn:fn.ntmps=n)
  (hres:fn.results=res.toArray) (hok:okC ann n c=true) (hnd:z3w fn c=true) (hl:yl i.vs.length n=true) (hnb:ann.nb=i.B.length) (h1000:yl i.B.length 900=true) (hw:exE tb cty ann (Con P G) (fin tb ann res o) (finE tb ann res o fc ts T ik B0) c (entry i)):Con P G f i o:=by
 refine ⟨ent,hnn,fun w O φ α us hv hm hB hG => ?_⟩
 have h1000:=yn h1000
 obtain ⟨hF,h0⟩:=zc6 (G:=G) hv hm hB hG (by omega)
 have hlu:us.length=i.vs.length:=hv.len
 refine zkt hf hb n hn (by grind) ?_
 refine zl9 (z:=zy2 G i w O φ α hF hB) (C:={ P:=P,f:=f,fn:=fn,R:=zd0 i w O φ α o,hf:=hf,lv:=true }) (n:=n) (G:=G) ht (fun _ _ _ h=>h) (fun _ _ h=>h) c (entry i) [] hok hnd hw (fun fl s hs hne => ?_) (fun f' gs fl s hs => ?_) _ _ ⟨O,φ,α,h0,fun _ hx=>hx⟩
 ·cases fl with
  | normal=>grind
  | ret =>
   intro k' V w' hr
   obtain ⟨O',φ',α',h1,h2⟩:=hr
   cases o with
   | ok vs B A =>
    obtain ⟨us',h3,h4⟩:=z6b (C:={ P:=P,f:=f,fn:=fn,R:=zd0 i w O φ α (.ok vs B A),hf:=hf,lv:=true }) (n:=n) (hF:=hF) (hB:=hB) (g:=φ) ht hres (fun b hb=>h1.keep b (by omega)) h1 h2 hnb (by omega) hs
    exact TW.ret h3 h4
   | _=>exact hs.elim
  | exit _=>exact hs.elim
  | pan v =>
   intro V w' O' φ' α' u φ2 α2 h1 h2 h3 a ha hda
   cases o with
   | ok _ _ _=>cases hs
   | okI _ _ _=>cases hs
   | zhg v' B =>
    obtain ⟨rfl,hsl,hw⟩:=hs
    obtain ⟨us',_,O3,φ3,α3,h4⟩:=zae (ann:={ nb:=ann.nb }) (res:=[]) (C:={ P:=P,f:=f,fn:=fn,R:=zd0 i w O φ α (.zhg v' B),hf:=hf,lv:=true }) (n:=n) (hF:=hF) (hB:=hB) (g:=φ) ht (fun b hb=>h1.keep b (by omega)) h1 h2 hnb (by omega) hw
    exact PN.nil hda ⟨u,φ2,α2,us',O3,φ3,α3,rfl,z7r _ _ hsl h3,h4⟩
   | pan v =>
    cases hs
    exact PN.nil hda ⟨u,O',φ2,α2,rfl,h3,h1.ext,h1.tr0,h1.bd,h1.only⟩
 ·have hkp:∀ {φ':Nat→Nat} {b:Nat},b<i.B.length→φ' b=ovB φ 990 gs b→φ' b=φ b:=fun {φ' b} hb e=>e.trans (zwq (by omega))
  unfold finE at hs
  split at hs
  ·rename_i vs B A hff
   simp only [yb] at hff
   have e1:=ym hff.1.1
   have e2:=ym hff.1.2
   subst e1
   intro k' V w' hr
   obtain ⟨O',φ',α',h1,h2⟩:=hr
   have hcall:=hct.ret.run w' O' φ' α' (gs.map fun g=>Value.pointer (some ⟨g,0,none⟩)) .nilIface (fun v hv=>by cases hv) (by
    grind [zh2,List.length_map]) ⟨fun b e he=>by simp at he,fun b e he=>by simp at he,fun a b la=>by simp at la,fun a b e e' he=>by simp at he,fun a b e he=>by simp at he⟩ h1.bd h1.gl
   refine TW.retD rfl (LV.ret3 (fun w2=>Ext z14 w' w2) (zan (vs:=[]) (z8j:=gs.map fun g=>Value.pointer (some ⟨g,0,none⟩)) hct.ret.ent) (hcall.mono ?_) fun w2 x => ?_)
   ·rintro e fm w2 ⟨rfl,us',O3,φ3,α3,rfl,hd⟩
    have hus:us'=[]:=hd.res
    subst hus
    exact ⟨rfl,rfl,hd.ext.mono fun x _ hx=>by
     rcases hx with ⟨b,hb,_⟩|⟨b,hb,_⟩<;>simp at hb⟩
   ·have h3:=h1.zm3 x
    obtain ⟨us',h4,h5⟩:=z6b (C:={ P:=P,f:=f,fn:=fn,R:=zd0 i w O φ α (.ok vs B A),hf:=hf,lv:=true }) (n:=n) (hF:=hF) (hB:=hB) (g:=ovB φ 990 gs) ht hres (fun b hb=>hkp hb (h3.keep b (by omega))) h3 h2 hnb (by omega) hs
    grind
  ·rename_i v vs B A hff
   simp only [yb] at hff
   have e1:=ym hff.1.1
   have e2:=ym hff.1.2
   have e3:=yn hff.2
   subst e1
   split at hs
   ·rename_i T' ik' e
    split at hs
    ·rename_i hb3
     simp only [yb] at hb3
     have f1:=ym hb3.1
     have f2:=z8t hb3.2
     obtain ⟨hs1,hs2⟩:=hs
     simp only [yb] at hs1
     obtain ⟨⟨hdb,hnd9⟩,hout⟩:=hs1
     obtain ⟨_,hdb⟩:=zz01k hdb
     intro V w' O' φ' α' u φ2 α2 h1 h2 h3 a ha hda
     have hk9:∀ j g,gs[j]? = some g→φ' (990+j)=g:=fun j g hg=>by
      have hj:=(yf.1 hg).1
      exact (h1.keep (990+j) (by omega)).trans (zwp hg)
     have hrg:∀ j,j<gs.length→(rng gs.length 990)[j]? = some (990+j):=fun j hj=>zk2.2 ⟨hj,rfl⟩
     have hgd:∀ j,j<gs.length→(rng gs.length 990).getD j 0=990+j:=fun j hj=>by grind
     have hul:(unB ts).length=gs.length:=by simp [unB,e2]
     have hmm:Mm w' O' (fun j=>φ' ((rng gs.length 990).getD j 0)) (fun j=>α' (([]:List Nat).getD j 0)) (unB ts) []:=by
      refine ⟨fun j x hx => ?_,fun b e he=>by simp at he,fun a b la lb hn => ?_,fun a b e e' he=>by simp at he,fun a b e he=>by simp at he⟩
      ·have hj:j<gs.length:=by
        have:=(yf.1 hx).1
        omega
       obtain ⟨y,ee,k1,k2,k3,k4⟩:=hdb j _ (hrg j hj)
       have hx':x=⟨ee.1,zn6 ee.2⟩:=by
        simp only [unB,List.getElem?_map,k2,Option.map_some,Option.some.injEq] at hx
        exact hx.symm
       subst hx'
       obtain ⟨m1,us3,m2,m3⟩:=h1.box _ y k1
       simp only [hgd j hj]
       refine ⟨m1,us3,k3▸m2,?_⟩
       have:=zh2 (w:=w') (O:=O') (φ:=fun j=>φ' ((rng gs.length 990).getD j 0)) (α:=fun j=>α' (([]:List Nat).getD j 0)) us3
       rw [m3.len,k4] at this
       exact this
      ·rw [hul] at la lb
       obtain ⟨y,_,k1,_⟩:=hdb a _ (hrg a la)
       obtain ⟨y',_,k1',_⟩:=hdb b _ (hrg b lb)
       simp only [hgd a la,hgd b lb]
       exact h1.bb _ _ y y' k1 k1' (by omega)
     have hcall:=(hct.pan e).run w' O' (fun j=>φ' ((rng gs.length 990).getD j 0)) (fun j=>α' (([]:List Nat).getD j 0)) (gs.map fun g=>Value.pointer (some ⟨g,0,none⟩)) u (fun v hv=>by grind) (by
      have:=zww (w:=w') (O:=O') (φ:=fun j=>φ' ((rng gs.length 990).getD j 0)) (α:=fun j=>α' (([]:List Nat).getD j 0)) gs 0 fun j g hg=>by
       grind
      grind) hmm h1.bd h1.gl
     simp only [zma,yb] at hout
     obtain ⟨⟨⟨⟨⟨⟨r1,r2⟩,r3⟩,r4⟩,r5⟩,r6⟩,r7⟩:=hout
     have r2:=ym r2
     have key:=LV.pan1 (C:={ P:=P,f:=f,fn:=fn,R:=zd0 i w O φ α (.ok vs B A),hf:=hf,lv:=true }) (n:=n) (L:=V) (pv:=u)
      (fun w2=>∃ us' O3 φ3 α3,zhn ⟨ptrs ts.length 0,unB ts,[]⟩ w' O' (fun j=>φ' ((rng gs.length 990).getD j 0)) (fun j=>α' (([]:List Nat).getD j 0)) [] (B0 e) [] w2 us' O3 φ3 α3)
      (zan (vs:=[]) (z8j:=gs.map fun g=>Value.pointer (some ⟨g,0,none⟩)) hct.ret.ent) (hcall.mono (by
       rintro e fm w2 ⟨rfl,us',O3,φ3,α3,rfl,hd⟩
       have hus:us'=[]:=hd.res
       subst hus
       exact ⟨rfl,rfl,_,O3,φ3,α3,hd⟩)) fun w2 ⟨us',O3,φ3,α3,hd⟩=>by
      obtain ⟨O4,φ4,α4,m1,m2,_,_⟩:=zjr (bs:=rng gs.length 990) (as_:=[]) (as_':=[]) (vs:=[]) (A:=[]) h1 h1 (fun _ h=>h) (fun _ h=>h) (fun b e he=>⟨e,he⟩) (fun b e he=>⟨e,he⟩)
       hnd9 rfl (by grind) rfl (fun j b hj hb=>by
        grind) (fun j b hj=>by simp at hj) r2 rfl r4 r5 r6 (by grind) hd (.inl fun x hx=>hd.more x hx)
      obtain ⟨us4,h5,h6⟩:=z6b (C:={ P:=P,f:=f,fn:=fn,R:=zd0 i w O φ α (.ok vs B A),hf:=hf,lv:=true }) (n:=n) (hF:=hF) (hB:=hB) (g:=ovB φ 990 gs) ht hres (fun b hb=>hkp hb (m1.keep b (by omega))) m1 (fun x hx=>m2 x (h2 x hx)) hnb (by omega) hs2
      grind
     have:=key a ha hda
     unfold PN
     rw [hda]
     exact this
    grind
   grind
  grind
end
section
open Go.RowKit Go.Lk
section
variable {R A:Type} {W:R→Prop} {y:Option R}
theorem S.n {p:Prop} (h:S y W) (hp:p:=by (repeat' first|exact rfl|exact trivial|apply And.intro)):S y (fun r=>p∧W r):=S.an hp h
theorem S.zr {a:R} (h:W a:=by exact rfl):S (some a) W:=S.z h
theorem S.q {a:R} (h:W a:=by exact ⟨rfl,by (repeat' first|exact trivial|exact rfl|apply And.intro),by (repeat' first|exact trivial|exact rfl|apply And.intro),rfl⟩):S (some a) W:=S.z h
theorem S.qd {a:R} (h:W a:=by exact ⟨rfl,rfl,by (repeat' first|exact trivial|exact rfl|apply And.intro),by (repeat' first|exact trivial|exact rfl|apply And.intro),rfl⟩):S (some a) W:=S.z h
theorem S.qb {a:R} (h:W a:=by exact ⟨rfl,rfl,rfl,by (repeat' first|exact trivial|exact rfl|apply And.intro),trivial,rfl⟩):S (some a) W:=S.z h
theorem S.no:S (none:Option R) W:=fun _ h=>by cases h
theorem S.m {Y:Type} {f:Y→List D} {xs:List Y} {F:R→Int→Prop} (h:S y (fun r=>F r (xs.length:Int))):S y (fun r=>Ex (zzy (xs.map f)) (F r)):=S.eq z4b h
theorem S.jq {B:R→St→Prop} {σ:St} {c:Cut} (h:S y fun r=>σ.zat c (B r)):S y (fun r=>∃ J:St→Prop,σ.zat c J∧∀ s,J s→B r s):=fun r hm=>by
 obtain ⟨s0,e,hb⟩:=z81 (h r hm)
 have h0:s0.frc fun s=>s=s0:=St.z5u.mpr rfl
 exact ⟨fun s=>s=s0,by unfold St.zat;rw [e];exact h0,fun s hs=>hs▸hb⟩
theorem S.kk {con:Nat→CIn→z3x→Prop} {σ:St} {f:Nat} {args:List PV} {k:R→PV→St→Prop} {kp:R→PV→St→Prop} {z:Option A} {g:A→Option R} {i:CIn} {o:A→z3x} (bs as_ as_':List Nat) (hc:∀ a,z=some a→con f i (o a))
  (h:∀ a,S (g a) (fun r=>znk bs as_ as_' i args σ (k r) (kp r) (o a)))
  (h1:nrm.go σ i.vs args=zb6.go bs as_ i.vs:=by first|kernel_rfl|exact rfl) (h2:z9f σ bs as_ bs i.B:=by (repeat' first|exact trivial|exact rfl|apply And.intro)) (h3:zey σ as_ i.A:=by (repeat' first|exact trivial|exact rfl|apply And.intro)) (h4:zht σ bs as_ (z9e.go i.vs args) i=true:=by first|kernel_rfl|exact rfl):S (z >>= g) (fun r=>ziv con σ f args (k r) (kp r)):=S.k bs as_ as_' hc h1 h2 h3 h4 h
theorem S.k0 {con:Nat→CIn→z3x→Prop} {σ:St} {f:Nat} {args:List PV} {k:R→PV→St→Prop} {kp:R→PV→St→Prop} {z:Option A} {g:A→Option R} {i:CIn} {o:A→z3x} (hc:∀ a,z=some a→con f i (o a))
  (h:∀ a,S (g a) (fun r=>znk [] [] [] i args σ (k r) (kp r) (o a)))
  (h1:nrm.go σ i.vs args=zb6.go [] [] i.vs:=by first|kernel_rfl|exact rfl) (h2:z9f σ [] [] [] i.B:=by exact trivial) (h3:zey σ [] i.A:=by exact trivial) (h4:zht σ [] [] (z9e.go i.vs args) i=true:=by first|kernel_rfl|exact rfl):S (z >>= g) (fun r=>ziv con σ f args (k r) (kp r)):=S.k [] [] [] hc h1 h2 h3 h4 h
section
variable {B:R→St→Prop} {A1 A2:R→(St→Prop)→Prop} {b:Bool} {s1 s2:St}
theorem S.ja {e:Bool} (t:Nat) (h1:∀ r,A1 r fun s=>∃ x,s=s2.ub t x∧x=e) (hB:S y fun r=>B r (s2.ub t (b&&e))) (h2:s2=s2.ub t false:=by exact rfl):S y (fun r=>∃ J:St→Prop,cond b (A1 r J) (J s2)∧∀ s,J s→B r s):=by
 cases b with
 | true=>exact S.jb (v:=e) (s2.ub t) h1 hB
 | false=>exact S.jb (v:=false) (s2.ub t) (fun _=>⟨false,h2,rfl⟩) hB
theorem S.ja0 {e:Bool} (t:Nat) (h1:s1=s2.ub t e) (hB:S y fun r=>B r (s2.ub t (b&&e))) (h2:s2=s2.ub t false:=by exact rfl):S y (fun r=>∃ J:St→Prop,cond b (J s1) (J s2)∧∀ s,J s→B r s) :=
 S.ja (A1:=fun _ J=>J s1) t (fun _=>⟨e,h1,rfl⟩) hB h2
theorem S.ju {e:Bool} (t:Nat) (h1:∀ r,A2 r fun s=>∃ x,s=s1.ub t x∧x=e) (hB:S y fun r=>B r (s1.ub t (b||e))) (h2:s1=s1.ub t true:=by exact rfl):S y (fun r=>∃ J:St→Prop,cond b (J s1) (A2 r J)∧∀ s,J s→B r s):=by
 cases b with
 | true=>exact S.jb (v:=true) (s1.ub t) (fun _=>⟨true,h2,rfl⟩) hB
 | false=>exact S.jb (v:=e) (s1.ub t) h1 hB
theorem S.ju0 {e:Bool} (t:Nat) (h1:s2=s1.ub t e) (hB:S y fun r=>B r (s1.ub t (b||e))) (h2:s1=s1.ub t true:=by exact rfl):S y (fun r=>∃ J:St→Prop,cond b (J s1) (J s2)∧∀ s,J s→B r s) :=
 S.ju (A2:=fun _ J=>J s2) t (fun _=>⟨e,h1,rfl⟩) hB h2
end
end
section
variable {R A X:Type} {f c:X→List D} {l l2:List (List D)} {xs ys:List X}
theorem S.ixf (f:X→List D) {i:Int} {F:R→List D→Prop} {g:X→Option R} (h:∀ x,S (g x) (fun r=>F r (f x))) (hl:l=xs.map f:=by exact rfl):S (Go.Lk.ix xs i >>= g) (fun r=>Ex (Go.Lk.ix l i) (F r)):=S.ix hl (fun _=>rfl) h
theorem S.ixm (hc:∀ x,f x=c x) {i:Int} {F:R→List D→Prop} {g:X→Option R} (h:∀ x,S (g x) (fun r=>F r (c x))) (hl:l=xs.map f:=by exact rfl):S (Go.Lk.ix xs i >>= g) (fun r=>Ex (Go.Lk.ix l i) (F r)):=S.ix hl hc h
theorem S.ixs {E:List X→List (List D)} (hE:∀ l,E l=l.map f) (hc:∀ x,f x=c x) {i:Int} {F:R→List D→Prop} {g:X→Option R} (h:∀ x,S (g x) (fun r=>F r (c x))) (hl:l=E xs:=by exact rfl):S (Go.Lk.ix xs i >>= g) (fun r=>Ex (Go.Lk.ix l i) (F r)):=S.ixE hE hl hc h
theorem S.ztd (f:X→List D) {i j:Int} {F:R→List (List D)→Prop} {g:List X→Option R} (h:∀ x,S (g x) (fun r=>F r (x.map f))) (hl:l=xs.map f:=by exact rfl):S (Go.Lk.sub xs i j >>= g) (fun r=>Ex (Go.Lk.sub l i j) (F r)):=S.sub hl h
theorem S.z8f (f:X→List D) {n:Nat} {F:R→List (List D)→Prop} {g:List X→Option R} (h:∀ x,S (g x) (fun r=>F r (x.map f))) (hl2:l2=ys.map f:=by exact rfl) (hl:l=xs.map f:=by exact rfl):S (Go.Lk.app n xs ys >>= g) (fun r=>Ex (Go.Lk.app n l l2) (F r)):=S.app hl hl2 h
theorem S.apps {E:List X→List (List D)} (hE:∀ l,E l=l.map f) {n:Nat} {F:R→List (List D)→Prop} {g:List X→Option R} (h:∀ x,S (g x) (fun r=>F r (E x))) (hl2:l2=E ys:=by exact rfl) (hl:l=E xs:=by exact rfl):S (Go.Lk.app n xs ys >>= g) (fun r=>Ex (Go.Lk.app n l l2) (F r)):=S.appE hE hl hl2 h
theorem S.d {W':R→List UInt8→Prop} {y:Option R} {xs:List Int} (h:S y (fun r=>W' r (byt xs))) (hl:l=xs.map (eI .u8):=by exact rfl):S y (fun r=>Ex (Go.Pe.dby l) (W' r)):=S.dby hl h
end
section
variable {tb:Tb} {cty:List (Nat × List (Option (Nat × Nat)))} {ann:Ann} {con:Nat→CIn→z3x→Prop} {R X:Type}
theorem S.gn {a:Code} {σ:St} {c:Cut} {k:R→z8d→St→Prop} {B:R→St→Prop} {z:Option (Jn R X)} {m:Jn R X→Option R} (sh:X→Ov)
  (hA:S z fun j=>ex tb cty ann con a σ (zkh (fun s=>s.zat c (jG (fun x=>ovS σ c (sh x)) j)) (kD k (fun _ _=>False) j))) (hB:∀ x,S (m (.go x)) fun r=>B r (ovS σ c (sh x))) (hd:∀ r,m (.done r)=some r:=by exact fun _=>rfl) :
  S (z >>= m) (fun r=>∃ J:St→Prop,ex tb cty ann con a σ (zkh (fun s=>s.zat c J) (k r))∧∀ s,J s→B r s):=S.jn (fun x=>ovS σ c (sh x)) hA hd hB
theorem S.hn {a:Code} {σ:St} {c:Cut} {k:R→z8d→St→Prop} {B:R→St→Prop} {z:Option X} {m:X→Option R} (sh:X→Ov)
  (hA:∀ r,S z fun x=>ex tb cty ann con a σ (zkh (fun s=>s.zat c (fun s=>s=ovS σ c (sh x))) (k r))) (hB:∀ x,S (m x) fun r=>B r (ovS σ c (sh x))) :
  S (z >>= m) (fun r=>∃ J:St→Prop,ex tb cty ann con a σ (zkh (fun s=>s.zat c J) (k r))∧∀ s,J s→B r s):=S.j (A':=fun r J=>ex tb cty ann con a σ (zkh (fun s=>s.zat c J) (k r))) (fun x=>ovS σ c (sh x)) hA hB
theorem S.ho {ops:Array Oper} {os:List Oper} {σ:St} {c:Cut} {kp:R→PV→St→Prop} {B:R→St→Prop} {z:Option X} {m:X→Option R} (sh:X→Ov)
  (hA:∀ r,S z fun x=>zfg tb cty ann con ops (kp r) (fun s=>s.zat c (fun s=>s=ovS σ c (sh x))) os σ) (hB:∀ x,S (m x) fun r=>B r (ovS σ c (sh x))) :
  S (z >>= m) (fun r=>∃ J:St→Prop,zfg tb cty ann con ops (kp r) (fun s=>s.zat c J) os σ∧∀ s,J s→B r s):=S.j (A':=fun r J=>zfg tb cty ann con ops (kp r) (fun s=>s.zat c J) os σ) (fun x=>ovS σ c (sh x)) hA hB
theorem S.hd {ops:Array Oper} {cs:List (Nat × Cut)} {g:Gt} {qs:List Nat} {σ:St} {c:Cut} {kp:R→PV→St→Prop} {B:R→St→Prop} {z:Option X} {m:X→Option R} (sh:X→Ov)
  (hA:∀ r,S z fun x=>zds tb cty ann con ops cs (kp r) (fun s=>s.zat c (fun s=>s=ovS σ c (sh x))) g qs σ) (hB:∀ x,S (m x) fun r=>B r (ovS σ c (sh x))) :
  S (z >>= m) (fun r=>∃ J:St→Prop,zds tb cty ann con ops cs (kp r) (fun s=>s.zat c J) g qs σ∧∀ s,J s→B r s):=S.j (A':=fun r J=>zds tb cty ann con ops cs (kp r) (fun s=>s.zat c J) g qs σ) (fun x=>ovS σ c (sh x)) hA hB
theorem S.hl {ops:Array Oper} {its:List It} {dn:List (Nat × Bool)} {σ:St} {c:Cut} {kp:R→PV→St→Prop} {B:R→St→Prop} {z:Option X} {m:X→Option R} (sh:X→Ov)
  (hA:∀ r,S z fun x=>zh8 tb cty ann con ops (kp r) (fun s _=>s.zat c (fun s=>s=ovS σ c (sh x))) its σ dn) (hB:∀ x,S (m x) fun r=>B r (ovS σ c (sh x))) :
  S (z >>= m) (fun r=>∃ J:St→Prop,zh8 tb cty ann con ops (kp r) (fun s _=>s.zat c J) its σ dn∧∀ s,J s→B r s):=S.j (A':=fun r J=>zh8 tb cty ann con ops (kp r) (fun s _=>s.zat c J) its σ dn) (fun x=>ovS σ c (sh x)) hA hB
end
@[reducible] def cu (L B A:List Nat):Cut:={ L:=L,B:=B,A:=A }
@[reducible] def c1 (L:List Nat):Cut:={ L:=L }
@[reducible] def oL (L:List (Nat × PV)):Ov:=⟨L,[],[]⟩
@[reducible] def oB (L:List (Nat × PV)) (B:List (Nat × Bx)):Ov:=⟨L,B,[]⟩
@[reducible] def st (L:List (Nat × PV)):St:=⟨L,[],[],none⟩
@[reducible] def sb (L:List (Nat × PV)) (B:List (Nat × Bx)):St:=⟨L,B,[],none⟩
@[reducible] def PV.i (x:Int):PV:=.int .i64 x
@[reducible] def PV.b (x:Bool):PV:=.bool x
@[reducible] def PV.s (x:List UInt8):PV:=.str x
@[reducible] def PV.p (b:Nat):PV:=.ptr b 0
@[reducible] def ro {α:Type} (T:Nat) (k:IntKind) (o:α→z3x):Rs α→z3x
 | .ok r=>o r
 | .pan e => .pan (.iface T (.agg [.int k e]))
@[reducible] def rb {α β:Type} (T:Nat) (k:IntKind) (o:α→z3x) (p:β→List Bx):Rb α β→z3x
 | .ok r=>o r
 | .pan e x => .zhg (.iface T (.agg [.int k e])) (p x)
@[reducible] def pn (b c:Nat):PV:=match yk c 1000000 with
 | true => .zei
 | false => .ptr b c
theorem Con.oE {P:Program} {G:GI} {tb:Tb} {cty:List (Nat × List (Option (Nat × Nat)))} {α:Type} {y:Option α} {f:Nat} {fn:Func} {i:CIn} {o:α→z3x} {fc:Nat} {ts:List (Nat × Nat)} {T:Nat} {ik:IntKind} {B0:Int→List Bx} (hct:zev P G fc ts T ik B0) (ht:TbG P tb G) (hf:P.funcs[f]? = some fn) (ann:Ann) (res:List ResultVar)
  (hw:S y fun r=>exE tb cty ann (Con P G) (fin tb ann res (o r)) (finE tb ann res (o r) fc ts T ik B0) (z2q fn) (entry i)) (hok:okC ann fn.ntmps (z2q fn)=true) (hb:fn.body=some (z2q fn)) (ent:∀ args w,(callFunc f args).run P w = .ok (.enter f args) w)
  (hnd:z3w fn (z2q fn)=true) (hres:fn.results=res.toArray) (hnn:yk f NF=false) (hl:yl i.vs.length fn.ntmps=true) (hnb:ann.nb=i.B.length) (h1000:yl i.B.length 900=true):S y fun r=>Con P G f i (o r) :=
 fun r hm=>Con.ofE hct ht ent hnn hf hb rfl hres hok hnd hl hnb h1000 (hw r hm)
theorem Con.oS {P:Program} {G:GI} {tb:Tb} {cty:List (Nat × List (Option (Nat × Nat)))} {α:Type} {y:Option α} {f:Nat} {fn:Func} {i:CIn} {o:α→z3x} (ht:TbG P tb G) (hf:P.funcs[f]? = some fn) (ann:Ann) (res:List ResultVar)
  (hw:S y fun r=>ex tb cty ann (Con P G) (z2q fn) (entry i) (fin tb ann res (o r))) (hok:okC ann fn.ntmps (z2q fn)=true) (hb:fn.body=some (z2q fn)) (ent:∀ args w,(callFunc f args).run P w = .ok (.enter f args) w)
  (hres:fn.results=res.toArray) (hnn:yk f NF=false) (hl:yl i.vs.length fn.ntmps=true) (hnb:ann.nb=i.B.length) (h1000:yl i.B.length 1000=true):S y fun r=>Con P G f i (o r) :=
 fun r hm=>Con.of ht ent hnn hf hb rfl hres hok hl hnb h1000 (hw r hm)
theorem Con.oD {P:Program} {G:GI} {tb:Tb} {cty:List (Nat × List (Option (Nat × Nat)))} {α:Type} {y:Option α} {f:Nat} {fn:Func} {i:CIn} {o:α→z3x} {fc T:Nat} {ik:IntKind} {Te:Nat} (hct:zki P fc T ik Te) (ht:TbG P tb G) (hf:P.funcs[f]? = some fn) (ann:Ann) (res:List ResultVar)
  (hw:S y fun r=>exD tb cty ann (Con P G) (fin tb ann res (o r)) (finD tb ann res (o r) fc T ik Te) (z2q fn) (entry i)) (hok:okC ann fn.ntmps (z2q fn)=true) (hb:fn.body=some (z2q fn)) (ent:∀ args w,(callFunc f args).run P w = .ok (.enter f args) w)
  (hnd:z3w fn (z2q fn)=true) (hres:fn.results=res.toArray) (hnn:yk f NF=false) (hl:yl i.vs.length fn.ntmps=true) (hnb:ann.nb=i.B.length) (h1000:yl i.B.length 900=true):S y fun r=>Con P G f i (o r) :=
 fun r hm=>Con.ofD hct ht ent hnn hf hb rfl hres hok hnd hl hnb h1000 (hw r hm)
end
section
set_option linter.unusedVariables false
open Go.RowKit Go.Lk Go.Proofs Go.Shelf
variable {P:Program} {ρ:Ren}
theorem VRs.str {w:World} {O:Nat→Prop} {φ:Nat→Nat} {α:Nat→Value} {a:List UInt8} {vs:List PV} {us:List Value} (h:VRs w O φ α (.str a::vs) us):∃ us',us = .string ⟨a.toArray⟩::us'∧VRs w O φ α vs us':=by
 obtain ⟨u,us',rfl,h1,h2⟩:=h
 simp only [VR] at h1
 exact ⟨us',by rw [h1],h2⟩
theorem VRs.int {w:World} {O:Nat→Prop} {φ:Nat→Nat} {α:Nat→Value} {k:IntKind} {a:Int} {vs:List PV} {us:List Value} (h:VRs w O φ α (.int k a::vs) us):∃ us',us = .int k a::us'∧VRs w O φ α vs us':=by
 obtain ⟨u,us',rfl,h1,h2⟩:=h
 simp only [VR] at h1
 exact ⟨us',by rw [h1],h2⟩
theorem VRs.nil {w:World} {O:Nat→Prop} {φ:Nat→Nat} {α:Nat→Value} {us:List Value} (h:VRs w O φ α [] us):us=[]:=h
theorem VRs.gStr {w:World} {O:Nat→Prop} {φ:Nat→Nat} {α:Nat→Value} (a:List UInt8):VRs w O φ α [.str a] [.string ⟨a.toArray⟩]:=⟨_,[],rfl,rfl,rfl⟩
theorem VRs.gInt {w:World} {O:Nat→Prop} {φ:Nat→Nat} {α:Nat→Value} (k:IntKind) (a:Int):VRs w O φ α [.int k a] [.int k a]:=⟨_,[],rfl,rfl,rfl⟩
theorem VRs.zva {w:World} {O:Nat→Prop} {φ:Nat→Nat} {α:Nat→Value} (a:Bool):VRs w O φ α [.bool a] [.bool a]:=⟨_,[],rfl,rfl,rfl⟩
theorem Ext.bytes (w:World) (T:TypeId) (t:ByteArray):Ext z14 w (Lib.bytesWorld w T t):=by
 refine ⟨?_,?_,?_,?_,fun b hb _=>Lib.bytesWorld_at_old w T _ b hb⟩
 ·simp only [Lib.bytesWorld,World.freeze];split<;>rfl
 ·simp only [Lib.bytesWorld,World.freeze];split<;>rfl
 ·simp only [Lib.bytesWorld,World.freeze];split<;>rfl
 ·rw [Lib.bytesWorld_size];omega
theorem Con.lib {G:GI} {f:Nat} {vs rs:List PV} (ent:∀ args w,(callFunc f args).run P w = .ok (.enter f args) w)
  (h:∀ w O φ α us,VRs w O φ α vs us→Bd O w→G.p w O→Calls P f us.toArray w fun e w'=>∃ us',e = .returned (zy8 us')∧(∀ O' φ' α',VRs w' O' φ' α' rs us')∧Ext z14 w w') (hnn:yk f NF=false:=by exact rfl):Con P G f ⟨vs,[],[]⟩ (.ok rs [] []):=by
 refine ⟨ent,hnn,fun w O φ α us hv hm hB hG=>(h w O φ α us hv hB hG).mono fun e w' ⟨us',h1,h2,h3⟩ => ?_⟩
 have tr:Tr O w O w':=Tr.z5n h3 fun _ _ hx=>hx.elim
 refine ⟨us',O,φ,α,h1,h2 O φ α,⟨fun b e he => ?_,fun a e he => ?_,fun a b la _ _ => ?_,fun a b e e' ha _ _ => ?_,fun a b e ha _ => ?_⟩,fun _ _=>rfl,Nat.le_refl _,fun x hx=>yp (hB x hx) h3.size,tr,fun _ hx=>hx,fun _ hx => .inl hx,h3.mono fun _ _ hx=>hx.elim,fun b h1 _ => ?_,fun a e x he _ => ?_⟩
 ·simp at he
 ·simp at he
 ·exact absurd la (yr _)
 ·simp at ha
 ·simp at ha
 ·exact absurd h1 (yr _)
 ·simp at he
theorem Ext.freeze (F:Nat→Prop) (w:World) (g n:Nat) (hF:F g):Ext F w (w.freeze ⟨g,0,none⟩ n):=by
 unfold World.freeze
 split
 ·exact Ext.refl _ _
 ·refine ⟨rfl,rfl,rfl,by simp,fun b hb hf => ?_⟩
  simp only [Array.getElem?_modify]
  rw [if_neg (fun h:g=b=>hf (h▸hF))]
set_option maxHeartbeats 2000000 in
set_option maxRecDepth 100000 in
theorem zh4 (L:Lays.n169 P ρ) (X:Builder.Extra P ρ) (b:Nat) (p v:Value) (l:List UInt8) (w:World) (hbk:w.heap[b]? = some (.cells #[p,v] (ρ.t 72) (0,0))) (hA:Lib.BuilderAtF (ρ.t 72) (ρ.t 5) 0 b p (Lib.byteCells l) w) :
  Calls P (ρ.f 169) #[.pointer (some ⟨b,0,none⟩)] w fun e w'=>e = .returned (.string ⟨l.toArray⟩)∧Lib.BuilderAtF (ρ.t 72) (ρ.t 5) 0 b p (Lib.byteCells l) w'∧Ext (fun x=>v.ownBlock=some x) w w':=by
 have hblt:b<w.heap.size:=by
  rcases Nat.lt_or_ge b w.heap.size with h'|h'
  ·exact h'
  ·simp [Array.getElem?_eq_none h'] at hbk
 obtain ⟨hB,v',hbk',hown,hne⟩:=id hA
 rw [hbk] at hbk'
 have ev:v=v':=by simpa using hbk'
 subst ev
 rw [Lib.byteCells_length] at hown
 have mixed:=L.mixed
 have t72:=L.t72;have a72:=L.a72;have z72:=L.z72;have v72:=L.v72;have u72:=run_underlying L.t72
 have t70:=L.t70;have a70:=L.a70;have z70:=L.z70;have v70:=L.v70;have u70:=run_underlying L.t70
 have t37:=L.t37;have a37:=L.a37;have z37:=L.z37;have v37:=L.v37;have u37:=run_underlying L.t37
 have t127:=L.t127;have a127:=L.a127;have z127:=L.z127;have v127:=L.v127;have u127:=run_underlying L.t127
 have t3:=L.t3;have a3:=L.a3;have z3:=L.z3;have v3:=L.v3;have u3:=run_underlying L.t3
 have t9:=L.t9;have a9:=L.a9;have z9:=L.z9;have v9:=L.v9;have u9:=run_underlying L.t9
 have t5:=X.t5;have a5:=X.a5;have z5:=X.z5;have v5:=X.v5;have u5:=run_underlying X.t5
 rcases hown.2 with ⟨rfl,hz⟩|⟨g,cap,cur,fz,rfl,hbg,hg,hfz,hnc,hcm,hcs,htake⟩
 ·obtain rfl:=ye hz
  have hUS:=Any.unsafeString_none L X
  have c1:w.drew.cell? ⟨b,1,none⟩=some (.slice none 0 0):=by
   have:w.drew.heap[b]? = some (.cells #[p,.slice none 0 0] (ρ.t 72) (0,0)):=hbk
   rw [Lib.cell_of_heap this];rfl
  have hSD:(Builtin.unsafeSliceData_ #[(ρ.t 37)] (ρ.t 127) #[.slice none 0 0]).run P w.drew = .ok (.pointer none) w.drew:=rfl
  go_enter L.f169,Body.n169_ntmps ρ
  go_wp2
  go_region_o
  all_goals (go_wp2;go_ret;exact ⟨rfl,hA.drew,Ext.drew _ _⟩)
 ·by_cases hl0:l=[]
  ·subst hl0
   by_cases hc0:cap=0
   ·subst hc0
    have hUS:=Any.unsafeString_none L X
    have c1:w.drew.cell? ⟨b,1,none⟩=some (.slice (some ⟨g,0,none⟩) 0 0):=by
     have:w.drew.heap[b]? = some (.cells #[p,.slice (some ⟨g,0,none⟩) 0 0] (ρ.t 72) (0,0)):=hbk
     rw [Lib.cell_of_heap this];rfl
    have hSD:(Builtin.unsafeSliceData_ #[(ρ.t 37)] (ρ.t 127) #[.slice (some ⟨g,0,none⟩) 0 0]).run P w.drew = .ok (.pointer (some ⟨w.drew.heap.size,0,none⟩)) (w.drew.alloc (.view ⟨g,0,none⟩ (ρ.t 5))) :=
     Lib.run_unsafeSliceData_zero w.drew _ _ (ρ.t 5) L.t127 ⟨g,0,none⟩ 0 ((ρ.t 5),cur.size) (by have hg':w.drew.heap[g]? = some (.cells cur (ρ.t 5) fz):=hg;simp [World.shape?,hg'])
    have c2:(w.drew.alloc (.view ⟨g,0,none⟩ (ρ.t 5))).cell? ⟨b,1,none⟩=some (.slice (some ⟨g,0,none⟩) 0 0):=by
     have:(w.drew.alloc (.view ⟨g,0,none⟩ (ρ.t 5))).heap[b]? = _:=(Lib.alloc_old w.drew _ b hblt).trans hbk
     rw [Lib.cell_of_heap this];rfl
    have c3:(w.alloc (.view ⟨g,0,none⟩ (ρ.t 5))).drew.cell? ⟨b,1,none⟩=some (.slice (some ⟨g,0,none⟩) 0 0):=c2
    have c0:w.cell? ⟨b,1,none⟩=some (.slice (some ⟨g,0,none⟩) 0 0):=c1
    go_enter L.f169,Body.n169_ntmps ρ
    go_wp2
    go_region_o
    all_goals (go_wp2;go_ret;exact ⟨rfl,hA.drew.alloc _,(Ext.drew _ w).trans (Ext.alloc _ _ _)⟩)
   ·have hUS:=Any.unsafeString_none L X
    have c1:w.drew.cell? ⟨b,1,none⟩=some (.slice (some ⟨g,0,none⟩) 0 cap):=by
     have:w.drew.heap[b]? = some (.cells #[p,.slice (some ⟨g,0,none⟩) 0 cap] (ρ.t 72) (0,0)):=hbk
     rw [Lib.cell_of_heap this];rfl
    have hSD:(Builtin.unsafeSliceData_ #[(ρ.t 37)] (ρ.t 127) #[.slice (some ⟨g,0,none⟩) 0 cap]).run P w.drew = .ok (.pointer (some ⟨g,0,none⟩)) w.drew :=
     Lib.run_unsafeSliceData_row _ _ _ _ _ _ hc0
    clear hc0
    go_enter L.f169,Body.n169_ntmps ρ
    go_wp2
    go_region_o
    all_goals (go_wp2;go_ret;exact ⟨rfl,hA.drew,Ext.drew _ _⟩)
  ·have hl1:l.length≠0:=fun h=>hl0 (ye h)
   have c1:w.drew.cell? ⟨b,1,none⟩=some (.slice (some ⟨g,0,none⟩) l.length cap):=by
    have:w.drew.heap[b]? = some (.cells #[p,.slice (some ⟨g,0,none⟩) l.length cap] (ρ.t 72) (0,0)):=hbk
    rw [Lib.cell_of_heap this];rfl
   have hSD:(Builtin.unsafeSliceData_ #[(ρ.t 37)] (ρ.t 127) #[.slice (some ⟨g,0,none⟩) l.length cap]).run P w.drew = .ok (.pointer (some ⟨g,0,none⟩)) w.drew :=
    Lib.run_unsafeSliceData_row _ _ _ _ _ _ (by omega)
   have hUS:(Builtin.unsafeString_ #[(ρ.t 127),(ρ.t 3)] (ρ.t 9) #[.pointer (some ⟨g,0,none⟩),.int .i64 l.length]).run P w.drew = .ok (.string ⟨l.toArray⟩) (w.drew.freeze ⟨g,0,none⟩ l.length):=by
    refine Lib.run_unsafeString_row w.drew (ρ.t 127) (ρ.t 3) (ρ.t 9) (ρ.t 5) L.t127 X.cellsByte g cur.size (by have hg':w.drew.heap[g]? = some (.cells cur (ρ.t 5) fz):=hg;simp [World.shape?,hg']) l hl0 (by omega) (by unfold maxLen at hcm;omega) ?_
    intro j x hx
    have:=hown.cells (g:=g) rfl j (.int .u8 x.toNat) (by simp [Lib.byteCells,hx])
    exact this
   have hkeep:Lib.BuilderAtF (ρ.t 72) (ρ.t 5) 0 b p (Lib.byteCells l) (w.drew.freeze ⟨g,0,none⟩ l.length):=by
    have hF:=hA.drew.froze (g:=g) (cap:=cap) (by rw [Lib.byteCells_length];exact c1)
    rw [Lib.byteCells_length] at hF
    exact hF
   have hx:Ext (fun x=>(Value.slice (some ⟨g,0,none⟩) l.length cap).ownBlock=some x) w (w.drew.freeze ⟨g,0,none⟩ l.length):=(Ext.drew _ w).trans (Ext.freeze _ _ _ _ rfl)
   go_enter L.f169,Body.n169_ntmps ρ
   go_wp2
   go_region_o
   all_goals (go_wp2;go_ret;exact ⟨rfl,hkeep,hx⟩)
theorem RDl.ints {w:World} {O:Nat→Prop} {k:IntKind}:∀ (xs:List Int) (cs:List Value),RDl w O 1 (xs.map (eI k)) cs→cs.take xs.length=xs.map (Value.int k)
 | [],cs,_=>by simp
 | x::xs,cs,h=>by
  obtain ⟨h1,h2⟩:=h
  obtain ⟨v,vs,h3,h4,h5⟩:=h1
  cases cs with
  | nil=>simp at h3
  | cons c r =>
   simp at h3
   simp only [RD] at h4
   have:=RDl.ints xs r (by simpa using h2)
   simp [this,h3.1,h4]
theorem RDl.zz028 {w:World} {O:Nat→Prop} {k:IntKind}:∀ (xs:List Int),RDl w O 1 (xs.map (eI k)) (xs.map (Value.int k))
 | []=>trivial
 | x::xs=>⟨⟨_,[],rfl,rfl,rfl⟩,by simpa using RDl.zz028 xs⟩
theorem zc1 {xs:List Int} (h:unb (byt xs)=xs):Lib.byteCells (byt xs)=xs.map (Value.int .u8):=by
 conv=>rhs;rw [←h]
 simp [Lib.byteCells,unb]
theorem Con.string {G:GI} (L:Lays.n169 P ρ) (X:Builder.Extra P ρ) (ent:∀ args w,(callFunc (ρ.f 169) args).run P w = .ok (.enter (ρ.f 169) args) w) (h5:ρ.t 5<1000000) (h72:ρ.t 72<1000000) {T0:Nat} (hT:T0=ρ.t 5∨T0=1000000+ρ.t 5) (xs:List Int) (hx:unb (byt xs)=xs) (hnn:yk (ρ.f 169) NF=false:=by exact rfl) :
  Con P G (ρ.f 169) ⟨[.ptr 0 0],[⟨ρ.t 72,[.z1l 0,.ref 0]⟩],[(T0,1,xs.map (eI .u8))]⟩ (.ok [.str (byt xs)] [⟨ρ.t 72,[.z1l 0,.ref 0]⟩] [some (1000000+ρ.t 5,1,xs.map (eI .u8))]):=by
 refine ⟨ent,hnn,fun w O φ α us hv hm hB hG => ?_⟩
 obtain ⟨u,us',rfl,hu,hus⟩:=hv
 have hus:us'=[]:=hus
 subst hus
 simp only [VR] at hu
 subst hu
 obtain ⟨hO,us,hbx,p,us2,rfl,hp,v,us3,rfl,hv,h3⟩:=hm.box 0 _ rfl
 have h3:us3=[]:=h3
 subst h3
 simp only [VR] at hp hv
 have hbx:=hbx.un h72
 obtain ⟨rfl,hone⟩:=hv
 have hox:z95 w O T0 1 (α 0) (xs.map (eI .u8)):=hm.arr 0 _ rfl
 have hoz:OwnZ w O (ρ.t 5) 1 (α 0) (xs.map (eI .u8)):=by
  rcases hox with ⟨k0,cs,k1,k2⟩|⟨k1,_,k2⟩|⟨k1,_⟩
  ·rcases hT with rfl|rfl
   ·exact ⟨cs,World.ownsRowF_of k1,k2⟩
   ·exact absurd (Nat.lt_of_le_of_lt (Nat.le_add_right 1000000 (ρ.t 5)) k0) (yo _)
  ·rcases hT with rfl|rfl
   ·exact absurd (yp h5 k1) (yo _)
   ·rwa [yj] at k2
  ·rcases hT with rfl|rfl
   ·exact absurd (yp h5 (Nat.le_trans (by decide:1000000≤2000000) k1)) (yo _)
   ·exact absurd (yp (yi h5 1000000) k1) (yo _)
 obtain ⟨cs,k1,k2,k3,k4⟩:=hoz
 have ecs:cs=Lib.byteCells (byt xs):=by
  have:=RDl.ints xs cs k2
  have hl:cs.length=xs.length:=by simpa using k1.1
  rw [zc1 hx,←this,List.take_of_length_le (by omega)]
 have lb:(byt xs).length=xs.length:=by
  have:=congrArg List.length hx
  simpa [unb] using this
 have hl2:(xs.map (eI .u8)).length=(Lib.byteCells (byt xs)).length:=by simp [lb,Lib.byteCells]
 have hA:Lib.BuilderAtF (ρ.t 72) (ρ.t 5) 0 (φ 0) p (Lib.byteCells (byt xs)) w:=by
  refine ⟨Nat.zero_le _,α 0,hbx,?_,hm.ab 0 0 _ rfl (yt)⟩
  rw [←hl2]
  rw [ecs] at k1
  exact k1
 refine (zh4 L X (φ 0) p (α 0) (byt xs) w hbx hA).mono fun e w' ⟨h1,h2,h3⟩ => ?_
 have hFI:∀ x,(α 0).ownBlock=some x→FI ⟨[.ptr 0 0],[⟨ρ.t 72,[.z1l 0,.ref 0]⟩],[(T0,1,xs.map (eI .u8))]⟩ φ α x:=fun x hx => .inr ⟨0,by simp,hx⟩
 have tr:Tr O w O w':=Tr.z5n h3 fun x _ hx=>k4 x hx
 have hbx':z34 w' (φ 0) (ρ.t 72) [p,α 0]:=hbx.keep h3 (hm.ab 0 0 _ rfl (yt))
 have own':z95 w' O (1000000+ρ.t 5) 1 (α 0) (xs.map (eI .u8)):=by
  refine .inr (.inl ⟨by omega,yi h5 1000000,?_⟩)
  rw [yj]
  obtain ⟨_,v',q1,q2,_⟩:=h2
  have q1':z34 w' (φ 0) (ρ.t 72) [p,v']:=q1
  have:α 0=v':=by
   unfold z34 at hbx' q1'
   rw [hbx'] at q1'
   simpa using q1'
  subst this
  refine ⟨_,by rw [hl2];exact q2,by rw [zc1 hx];exact RDl.zz028 xs,by simp [Lib.byteCells,Value.oneCell'],k4⟩
 refine ⟨[.string ⟨(byt xs).toArray⟩],O,φ,α,h1,⟨_,[],rfl,rfl,rfl⟩,⟨fun b e he => ?_,fun a e he => ?_,fun a b la lb' hn => ?_,fun a b e e' ha hb hn => ?_,fun a b e ha hb => ?_⟩,fun _ _=>rfl,Nat.le_refl _,fun x hx=>yp (hB x hx) h3.size,tr,fun _ hx=>hx,fun _ hx => .inl hx,h3.mono fun x _ hx=>hFI x hx,fun b h1 h2 => ?_,fun a e x he hx => ?_⟩
 ·match b,he with
  | 0,he =>
   cases he
   exact ⟨hO,_,.inl ⟨h72,hbx'⟩,p,_,rfl,hp,_,[],rfl,⟨rfl,hone⟩,rfl⟩
 ·match a,he with
  | 0,he=>cases he;exact own'
 ·simp at la lb'
  omega
 ·match a,b,ha,hb with
  | 0,0,_,_=>exact (hn rfl).elim
 ·match a,ha with
  | 0,ha =>
   have:b=0:=by simpa using hb
   subst this
   exact hm.ab 0 0 _ rfl (yt)
 ·simp at h1 h2
  omega
 ·match a,he with
  | 0,he=>exact .inl ⟨0,by simp,hx⟩
end
section
open Go.RowKit Go.Lk
structure Nd where
 alts:List (Nat × Nat × List Nat × List Nat)
 dn:List (Nat × Bool)
 rem:List Nat          -- those that have not acted yet
 wai:List Nat          -- the quiet zst that wait
structure Dg where
 anc:List Nat
 E:List Nat
 qs:List Nat
 c:Cut
 nds:List Nd           -- those behind come first;the last one is the beginning
def mkG (gs:List Gt):List (Nat × Nat × List Nat × List Nat)→Gt
 | [] => .fin
 | (e,i,kp,qs)::r=>match r with
  | [] => .one e kp qs ((gs[i]?).getD .fin)
  | _ => .alt e kp qs ((gs[i]?).getD .fin) (mkG gs r)
def za7:List Nd→List Gt→List Gt
 | [],gs=>gs
 | n::r,gs=>za7 r (gs++[mkG gs n.alts])
def Dg.gs (d:Dg):List Gt:=za7 d.nds []
def Dg.dn (d:Dg) (i:Nat):List (Nat × Bool):=match nthO d.nds i with
 | some n=>n.dn
 | none=>[]
def zbd (a b:List (Nat × Bool)):Bool:=a.all fun p=>b.any fun q=>yk p.1 q.1&&(p.2==q.2)
def dro {β:Type} (d:List Nat) (n:List (Nat × β)):List (Nat × β)→List (Nat × β)
 | []=>[]
 | (x,v)::r=>match d.any (yk x) with
  | true=>dro d n r
  | false=>match lk n x with
   | some u=>(x,u)::dro d n r
   | none=>(x,v)::dro d n r
def St.le (σ:St) (dL dB dA:List Nat) (v:Ov):St:=⟨dro dL v.L σ.L,dro dB v.B σ.B,dro dA v.A σ.A,none⟩
def zqf (tb:Tb) (cty:List (Nat × List (Option (Nat × Nat)))) (ann:Ann) (con:Nat→CIn→z3x→Prop) (ops:Array Oper) (d:Dg) (Sg:Nat→St) (kp:PV→St→Prop) (m:Nat):List (Nat × Nat × List Nat × List Nat)→Prop
 | []=>True
 | (e,j,kpl,qs2)::r=>(match zwm ops e with
  | some o=>(Sg m).frc fun σ=>exo tb cty ann con ops σ o (fun σ2=>zqi tb ops qs2 σ2 (z3z kpl (d.dn m)) fun σ3 dn3=>zcw tb ops σ3 (z3z kpl (d.dn m))∧(zbd dn3 (d.dn j)&&zbd (d.dn j) dn3)=true∧wt (σ3.cut d.c) fun s=>s=Sg j) kp
  | none=>False)∧zqf tb cty ann con ops d Sg kp m r
def zuv (tb:Tb) (cty:List (Nat × List (Option (Nat × Nat)))) (ann:Ann) (con:Nat→CIn→z3x→Prop) (ops:Array Oper) (d:Dg) (Sg:Nat→St) (kp:PV→St→Prop):Nat→List Nd→Prop
 | _,[]=>True
 | m,n::r=>zqf tb cty ann con ops d Sg kp m n.alts∧zuv tb cty ann con ops d Sg kp (m+1) r
def exdag (tb:Tb) (cty:List (Nat × List (Option (Nat × Nat)))) (ann:Ann) (con:Nat→CIn→z3x→Prop) (ops:Array Oper) (kp:PV→St→Prop) (k:St→Prop) (d:Dg) (σ:St):Prop :=
 ∃ Sg:Nat→St,(zqi tb ops d.qs σ [] fun σ1 dn1=>zcw tb ops σ1 []∧(zbd dn1 (d.dn (d.nds.length - 1))&&zbd (d.dn (d.nds.length - 1)) dn1)=true∧wt (σ1.cut d.c) fun s=>s=Sg (d.nds.length - 1))∧zuv tb cty ann con ops d Sg kp 0 d.nds∧(Sg 0).frc k
def Nd.done (n:Nd):List Nat:=n.dn.map (·.1)
def zmr (a b:List Nat):Bool:=a.all (b.contains ·)&&b.all (a.contains ·)
def covH (anc:Anc) (rem wai hs:List Nat):Bool:=wai.all (fun q=>rem.any fun e=>behind anc q e)&&rem.all fun i=>hs.contains i||rem.any fun j=>behind anc i j
def zss (ops:Array Oper) (d:Dg) (i:Nat) (n:Nd) (a:Nat × Nat × List Nat × List Nat):Bool :=
 Nat.blt a.2.1 i&&z6e d.anc n.rem n.wai n.done a.1 a.2.2.1 a.2.2.2&&clrN ops a.1 a.2.2.1 a.2.2.2 n.done&&match nthO d.nds a.2.1 with
  | some m=>covH d.anc (z0o n.rem [a.1]) (z0o n.wai a.2.2.2) (m.alts.map (·.1))&&zmr (z0o n.rem [a.1]) m.rem&&zmr (z0o n.wai a.2.2.2) m.wai&&zmr (a.2.2.1++a.2.2.2) m.done
  | none=>false
def zon (ops:Array Oper) (d:Dg):List Nd→Nat→Bool
 | [],_=>true
 | n::r,i=>n.alts.all (zss ops d i n)&&(if yk i 0 then n.alts.isEmpty else !n.alts.isEmpty)&&zon ops d r (i+1)
def okPre (ops:Array Oper) (anc:Anc) (n:Nat) (E qs:List Nat):Bool :=
 okLow ops&&zwl ops anc&&zz029 ops anc (z4o ops E)&&Region.noSelect ops&&okDst ops n (z4o ops E) E&&E.all (· < ops.size)&&qs.all ((z4o ops E).contains ·)
def okD (ops:Array Oper) (d:Dg) (n:Nat):Bool:=okPre ops d.anc n d.E d.qs&&znm ops d.qs []&&zon ops d d.nds 0&&match nthO d.nds (d.nds.length - 1) with
 | some m=>covH d.anc d.E (z0o (z4o ops d.E) d.qs) (m.alts.map (·.1))&&zmr d.E m.rem&&zmr (z0o (z4o ops d.E) d.qs) m.wai&&zmr d.qs m.done
 | none=>false
theorem z8a {a b:List Nat} (h:zmr a b=true) (x:Nat):x∈a↔x∈b:=by
 simp only [zmr,yb,yc,List.contains_iff_mem] at h
 grind
theorem zaq {a b:List Nat} (h:∀ x,x∈a↔x∈b) (q:List Nat) (x:Nat):x∈z0o a q↔x∈z0o b q:=by
 grind [z5d]
theorem zga {anc:Anc} {r r' w w' d d':List Nat} (hr:∀ x,x∈r↔x∈r') (hw:∀ x,x∈w↔x∈w') (hd:∀ x,x∈d↔x∈d') (e:Nat) (kp qs:List Nat):z6e anc r w d e kp qs=z6e anc r' w' d' e kp qs:=by
 grind [z6e]
theorem zhw {anc:Anc} {r r' w w':List Nat} (hr:∀ x,x∈r↔x∈r') (hw:∀ x,x∈w↔x∈w') (g:Gt):zc4 anc r w g=zc4 anc r' w' g:=by
 grind [zc4]
theorem z6r {anc:Anc}:∀ {g:Gt} {r r' w w' d d':List Nat},(∀ x,x∈r↔x∈r')→(∀ x,x∈w↔x∈w')→(∀ x,x∈d↔x∈d')→z2j anc r w d g=true→z2j anc r' w' d' g=true
 | .fin,_,_,_,_,_,_,_,_,_,_=>rfl
 | .one e kp qs sub,r,r',w,w',d,d',hr,hw,hd,h=>by
  simp only [z2j,yb] at h ⊢
  refine ⟨⟨?_,?_⟩,z6r (zaq hr _) (zaq hw _) (fun _=>Iff.rfl) h.2⟩
  ·grind [zga]
  grind [zhw,zaq]
 | .alt e kp qs sub g,r,r',w,w',d,d',hr,hw,hd,h=>by
  simp only [z2j,yb] at h ⊢
  refine ⟨⟨⟨?_,?_⟩,z6r (zaq hr _) (zaq hw _) (fun _=>Iff.rfl) h.1.2⟩,z6r hr hw hd h.2⟩
  ·grind [zga]
  grind [zhw,zaq]
theorem zg9 (gs:List Gt):∀ (l:List (Nat × Nat × List Nat × List Nat)),(mkG gs l).zo1=l.map (·.1)
 | []=>rfl
 | [(e,i,kp,qs)]=>rfl
 | (e,i,kp,qs)::b::r=>by
  unfold mkG
  simp only [Gt.zo1,zg9 gs (b::r)]
  rfl
section
variable {z:W0} {V:Env} {w:World} {O:Nat→Prop} {φ:Nat→Nat} {α:Nat→Value} {σ:St} {C:Cx} {n:Nat} {ops:Array Oper} {K:Act→World→Prop} {G:GI} {con:Nat→CIn→z3x→Prop} {tb:Tb} {cty:List (Nat × List (Option (Nat × Nat)))} {ann:Ann} {ds:List Deferred}
theorem zl4 {a b:List (Nat × Bool)} (h:zbd a b=true) {p:Nat × Bool} (hp:p∈a):p∈b:=by
 obtain ⟨q,hq,e⟩:=yd.1 (yc.1 h p hp)
 grind [ym]
theorem zty {anc:Anc} {kp:PV→St→Prop} {k3:St→List (Nat × Bool)→Prop} {e:Nat} {o:Oper} {kpl qs2:List Nat} {g:Gt} {rem wai done:List Nat} {dn:List (Nat × Bool)} (ht:TbG C.P tb G) (hcon:∀ f i o,con f i o→Con C.P G f i o) (hz:∀ w O,z.G w O→G.p w O) (hn:∀ (q:Nat) (o:Oper),ops[q]? = some o→dOk n o.dst=true) (hp:∀ v s,kp v s→zar z C n ds v s)
  (ho:ops[e]? = some o) (hnode:z6e anc rem wai done e kpl qs2=true)
  (hc2:(match (some o:Option Oper) with
   | some o=>match o.dst with
    | some d=>z9j ops d (z9t kpl (dn.map (·.1)))
    | none=>true
   | none=>true)=true) (hcq:znm ops qs2 (z9t kpl (dn.map (·.1)))=true)
  (ih:∀ (dn:List (Nat × Bool)) (σ:St) (w:World) (O:Nat→Prop) (φ:Nat→Nat) (α:Nat→Value) (b:Act),b.tmps.size=n→b.defers=ds→Rl z σ (Pe.z5s b) w O φ α→(∀ x,z.O x→O x)→(∀ p∈dn,KQ C n ops (Pe.z5s b) w O p) →
   (∀ q∈kpl++qs2,z6q C.P ops b w q)→(∀ q∈kpl++qs2,∃ st,(q,st)∈dn)→k3 σ dn→DRa C ds ops K (kpl++qs2) g b w)
  (b:Act) (hsz:b.tmps.size=n) (hda:b.defers=ds) (h:Rl z σ (Pe.z5s b) w O φ α) (hs:∀ x,z.O x→O x) (hd:∀ p∈dn,KQ C n ops (Pe.z5s b) w O p) (hdone:∀ q∈done,∃ st,(q,st)∈dn)
  (hw:exo tb cty ann con ops σ o (fun σ2=>zqi tb ops qs2 σ2 (z3z kpl dn) fun σ3 dn3=>zcw tb ops σ3 (z3z kpl dn)∧k3 σ3 dn3) kp) :
  wpList C.P ops (QT C ds (fun a' w'=>∃ b',Off ops qs2 a' b'∧DRa C ds ops K (kpl++qs2) g b' w')) [o] b w:=by
 have ekept:(z3z kpl dn).map (·.1)=z9t kpl (dn.map (·.1)):=by
  unfold z3z z9t
  rw [List.filter_map]
  rfl
 have hb:Has n (Pe.z5s b) b:=z6i hsz
 refine zkc (zca (z:=z.mark w O) (rest:=[]) (K:=fun a' w'=>(∀ t,o.dst≠some t→a'.tmps[t]? = b.tmps[t]?)→∃ b',Off ops qs2 a' b'∧DRa C ds ops K (kpl++qs2) g b' w') ht hcon (fun w O h=>hz w O h.1) (hn e o ho) h.mark hs (fun σ2 hσ2 V2 w2 hr => ?_) (fun v s hv V w O φ α u φ' α' r s2 hr a ha hda=>hp v s hv V w O φ α u φ' α' r.ze9.1 s2 hr a ha hda) hw b hb hda)
 obtain ⟨O2,φ2,α2,r,s2⟩:=hr
 obtain ⟨r',t⟩:=r.ze9
 refine OW.fin fun a' ha' hda' hag => ?_
 simp only [z6e,yb] at hnode
 have hmv:∀ p∈z3z kpl dn,KQ C n ops (Pe.z5s a') w2 O2 p:=fun p hp=>by
  obtain ⟨hp1,hp2⟩:=zjp hp
  refine (hd p hp1).move t fun o' ho' d hd' => ?_
  have hne:∀ x,o.dst=some x→d≠x∧x∉o'.looksAt ops:=fun x hx=>by
   simp only [hx] at hc2
   exact z6m hc2 p.1 (by grind) o' ho' d hd'
  refine ⟨?_,fun t ht' => ?_⟩
  ·rw [zeg,zeg]
   grind
  grind [zeg]
 have hkd:∀ q∈kpl,∃ st,(q,st)∈z3z kpl dn:=fun q hq=>by
  have hc:=yc.1 hnode.1.2 q hq
  have hm:q∈done:=by simpa using hc
  obtain ⟨st,hst⟩:=hdone q hm
  exact ⟨st,List.mem_filter.2 ⟨hst,yd.2 ⟨q,hq,Nat.beq_refl q⟩⟩⟩
 obtain ⟨b',σ3,dn3,e1,e2,e3,e4,e5,e6,e7,e8,e9⟩:=z8s (k:=k3) ht.toTbOk (fun w O h=>ht.gt w O (hz w O h)) hn qs2 kpl a' ha'.size hda' (r'.z5s ha') hmv hkd (by grind) hσ2
 exact ⟨b',e1,ih dn3 σ3 w2 O2 φ2 α2 b' e2 e3 e4 s2 e5 e6 e7 e9⟩
theorem into {k3:Prop} {d:Dg} {Sg:Nat→St} {j:Nat} {dn3:List (Nat × Bool)} {b:Act} (h:Rl z σ (Pe.z5s b) w O φ α) (hs:∀ x,z.O x→O x) (hd:∀ p∈dn3,KQ C n ops (Pe.z5s b) w O p) {done:List Nat} (hdone:∀ q∈done,∃ st,(q,st)∈dn3)
  (hsub:(zbd dn3 (d.dn j)&&zbd (d.dn j) dn3)=true) (hw:wt (σ.cut d.c) fun s=>s=Sg j)
  (hk:∀ (O':Nat→Prop) (α':Nat→Value),Rl z (Sg j) (Pe.z5s b) w O' φ α'→(∀ x,z.O x→O' x)→(∀ p∈d.dn j,KQ C n ops (Pe.z5s b) w O' p)→(∀ q∈done,∃ st,(q,st)∈d.dn j)→k3):k3:=by
 simp only [yb] at hsub
 obtain ⟨s',e,hj⟩:=zc hw
 subst hj
 obtain ⟨O',α',h',hs'⟩:=zf7 (z:=z.mark w O) h.mark hs e
 obtain ⟨r',t⟩:=h'.ze9
 refine hk O' α' r' hs' (fun p hp=>(hd p (zl4 hsub.2 hp)).move t fun _ _ _ _=>⟨rfl,fun _ _=>rfl⟩) fun q hq => ?_
 grind [zl4]
theorem zgx:∀ (l:List Nd) (gs:List Gt) (i:Nat),i<gs.length→(za7 l gs)[i]? = gs[i]?
 | [],gs,i,_=>rfl
 | n::r,gs,i,h=>by
  simp only [za7]
  rw [zgx r _ i (by simp;omega),List.getElem?_append_left h]
theorem zz025 (gs gs':List Gt):∀ (l:List (Nat × Nat × List Nat × List Nat)),(∀ a∈l,gs'[a.2.1]? = gs[a.2.1]?)→mkG gs' l=mkG gs l
 | [],_=>rfl
 | [(e,i,kp,qs)],h=>by grind [yh,mkG]
 | (e,i,kp,qs)::b::r,h=>by
  have h1:=h _ yh
  have h2:=zz025 gs gs' (b::r) fun a ha=>h a (yg _ ha)
  grind [mkG]
theorem zin:∀ (l:List Nd) (gs:List Gt) (j:Nat) (nd:Nd),l[j]? = some nd→(∀ a∈nd.alts,a.2.1<gs.length+j)→(za7 l gs)[gs.length+j]? = some (mkG (za7 l gs) nd.alts)
 | n::r,gs,0,nd,h,hlt=>by
  simp only [za7,Nat.add_zero]
  grind [zz025,zgx]
 | n::r,gs,j+1,nd,h,hlt=>by
  simp only [za7]
  have:=zin r (gs++[mkG gs n.alts]) j nd (by simpa using h) fun a ha=>by
   grind
  grind
theorem zqg {d:Dg} {Sg:Nat→St} {kp:PV→St→Prop}:∀ (l:List Nd) (m j:Nat) (nd:Nd),zuv tb cty ann con ops d Sg kp m l→l[j]? = some nd→zqf tb cty ann con ops d Sg kp (m+j) nd.alts
 | n::r,m,0,nd,h,e=>by simp at e;subst e;exact h.1
 | n::r,m,j+1,nd,h,e=>by
  have:=zqg r (m+1) j nd h.2 (by simpa using e)
  grind
theorem zeq {d:Dg}:∀ (l:List Nd) (i j:Nat) (nd:Nd),zon ops d l i=true→l[j]? = some nd→(∀ a∈nd.alts,zss ops d (i+j) nd a=true)∧(i+j=0→nd.alts=[])∧(i+j≠0→nd.alts≠[])
 | n::r,i,0,nd,h,e=>by
  simp at e
  subst e
  simp only [zon,yb] at h
  refine ⟨fun a ha=>yc.1 h.1.1 a ha,fun h0 => ?_,fun h0 => ?_⟩
  ·simp_all
  simp_all
 | n::r,i,j+1,nd,h,e=>by
  simp only [zon,yb] at h
  have:=zeq r (i+1) j nd h.2 (by simpa using e)
  grind
theorem zr6 {d:Dg} {i:Nat} {nd:Nd} (hok:zon ops d d.nds 0=true) (h:d.nds[i]? = some nd):d.gs[i]? = some (mkG d.gs nd.alts):=by
 obtain ⟨h1,_,_⟩:=zeq d.nds 0 i nd hok h
 have:=zin d.nds [] i nd h fun a ha=>by
  have:=h1 a ha
  simp_all [zss]
 grind [Dg.gs]
theorem ztz {d:Dg} (hok:zon ops d d.nds 0=true):∀ (m i:Nat) (nd:Nd),i<m→d.nds[i]? = some nd→z2j d.anc nd.rem nd.wai nd.done ((d.gs[i]?).getD .fin)=true:=by
 intro m
 induction m with
 | zero=>omega
 | succ m ih =>
  intro i nd him hnd
  obtain ⟨h1,_,_⟩:=zeq d.nds 0 i nd hok hnd
  rw [zr6 hok hnd,ya]
  have key:∀ a∈nd.alts,z6e d.anc nd.rem nd.wai nd.done a.1 a.2.2.1 a.2.2.2=true∧zc4 d.anc (z0o nd.rem [a.1]) (z0o nd.wai a.2.2.2) ((d.gs[a.2.1]?).getD .fin)=true∧z2j d.anc (z0o nd.rem [a.1]) (z0o nd.wai a.2.2.2) (a.2.2.1++a.2.2.2) ((d.gs[a.2.1]?).getD .fin)=true:=by
   intro a ha
   have h2:=h1 a ha
   simp only [zss,yb,Nat.blt_eq,zgb] at h2
   obtain ⟨⟨⟨k1,k2⟩,k3⟩,k4⟩:=h2
   cases hm:d.nds[a.2.1]? with
   | none=>grind
   | some md =>
    rw [hm] at k4
    simp only [yb] at k4
    obtain ⟨⟨⟨k5,k6⟩,k7⟩,k8⟩:=k4
    refine ⟨k2,?_,z6r (fun x=>(z8a k6 x).symm) (fun x=>(z8a k7 x).symm) (fun x=>(z8a k8 x).symm) (ih a.2.1 md (by omega) hm)⟩
    rw [zr6 hok hm,ya]
    unfold zc4
    rw [zg9]
    exact k5
  have all:∀ (l:List (Nat × Nat × List Nat × List Nat)),(∀ a∈l,a∈nd.alts)→z2j d.anc nd.rem nd.wai nd.done (mkG d.gs l)=true:=by
   intro l
   induction l with
   | nil=>intro _;rfl
   | cons a r ihl =>
    intro hm
    obtain ⟨k1,k2,k3⟩:=key _ (hm _ yh)
    cases r with
    | nil=>simp_all [mkG,z2j]
    | cons b r =>
     simp_all [mkG,z2j]
  grind
theorem zui {d:Dg} {Sg:Nat→St} {kp:PV→St→Prop} (ht:TbG C.P tb G) (hcon:∀ f i o,con f i o→Con C.P G f i o) (hz:∀ w O,z.G w O→G.p w O) (hn:∀ (q:Nat) (o:Oper),ops[q]? = some o→dOk n o.dst=true) (hp:∀ v s,kp v s→zar z C n ds v s) {N:Nat} (hok:okD ops d N=true)
  (hnd:zuv tb cty ann con ops d Sg kp 0 d.nds) (hk:∀ V w,RS z (Sg 0) V w→∀ a,Has n V a→a.defers=ds→K a w):∀ (m i:Nat),i<m→i<d.nds.length →
  ∀ (rem wai done:List Nat) {w:World} {O:Nat→Prop} {φ:Nat→Nat} {α:Nat→Value} (b:Act),b.tmps.size=n→b.defers=ds→Rl z (Sg i) (Pe.z5s b) w O φ α→(∀ x,z.O x→O x)→(∀ p∈d.dn i,KQ C n ops (Pe.z5s b) w O p) →
   (∀ q∈done,z6q C.P ops b w q)→(∀ q∈done,∃ st,(q,st)∈d.dn i)→z2j d.anc rem wai done ((d.gs[i]?).getD .fin)=true→DRa C ds ops K done ((d.gs[i]?).getD .fin) b w:=by
 intro m
 induction m with
 | zero=>omega
 | succ m ih =>
  intro i him hi rem wai done w O φ α b hsz hda h hs hd hst hdone hal
  have hok':=hok
  simp only [okD,yb] at hok'
  obtain ⟨⟨_,hnds⟩,_⟩:=hok'
  have hndi:d.nds[i]? = some d.nds[i]:=List.getElem?_eq_getElem hi
  obtain ⟨hoa,hz1,hz2⟩:=zeq d.nds 0 i _ hnds hndi
  rw [Nat.zero_add] at hoa hz1 hz2
  have hg:d.gs[i]? = some (mkG d.gs d.nds[i].alts):=zr6 hnds hndi
  have hlt:∀ a∈d.nds[i].alts,a.2.1<i:=fun a ha=>by
   have:=hoa a ha
   simp_all [zss]
  have hdn:(d.dn i).map (·.1)=d.nds[i].done:=by
   unfold Dg.dn
   rw [zgb,hndi]
   rfl
  have hcn:∀ a∈d.nds[i].alts,clrN ops a.1 a.2.2.1 a.2.2.2 ((d.dn i).map (·.1))=true:=fun a ha=>by
   have:=hoa a ha
   simp_all [zss]
  have hex:=zqg d.nds 0 i _ hnd hndi
  rw [hg,ya] at hal ⊢
  by_cases hz0:i=0
  ·subst hz0
   have hal0:d.nds[0].alts=[]:=hz1 rfl
   rw [hal0] at hal ⊢
   exact ⟨hst,hk _ _ ⟨_,_,_,h,hs⟩ b (z6i hsz) hda⟩
  ·have one : ∀ (e j : Nat) (kpl qs2 : List Nat), (e, j, kpl, qs2) ∈ d.nds[i].alts → ∀ (rem wai done : List Nat) (hdone : ∀ q ∈ done, ∃ st, (q, st) ∈ d.dn i), z6e d.anc rem wai done e kpl qs2 = true → z2j d.anc (z0o rem [e]) (z0o wai qs2) (kpl ++ qs2) ((d.gs[j]?).getD .fin) = true → clrN ops e kpl qs2 ((d.dn i).map (·.1)) = true →
     (match zwm ops e with
      | some o=>(Sg i).frc fun σ=>exo tb cty ann con ops σ o (fun σ2=>zqi tb ops qs2 σ2 (z3z kpl (d.dn i)) fun σ3 dn3=>zcw tb ops σ3 (z3z kpl (d.dn i))∧(zbd dn3 (d.dn j)&&zbd (d.dn j) dn3)=true∧wt (σ3.cut d.c) fun s=>s=Sg j) kp
      | none=>False)→∀ o,ops[e]? = some o→wpList C.P ops (QT C ds (fun a' w'=>∃ b',Off ops qs2 a' b'∧DRa C ds ops K (kpl++qs2) ((d.gs[j]?).getD .fin) b' w')) [o] b w:=by
    intro e j kpl qs2 hmem rem wai done hdone hno hal2 hcn hw o ho
    have hj:j<i:=hlt _ hmem
    rw [z9y,ho] at hw;replace hw:=St.z5u.mp hw
    simp only [clrN,yb,ho] at hcn
    refine zty (k3:=fun σ3 dn3=>(zbd dn3 (d.dn j)&&zbd (d.dn j) dn3)=true∧wt (σ3.cut d.c) fun s=>s=Sg j) ht hcon hz hn hp ho hno hcn.1 hcn.2 (fun dn3 σ3 w3 O3 φ3 α3 b3 k1 k2 k3 k4 k5 k6 k7 k8 => ?_) b hsz hda h hs hd hdone hw
    exact into k3 k4 k5 k7 k8.1 k8.2 fun O' α' r' s' d' q'=>ih j (by omega) (by omega) _ _ _ b3 k1 k2 r' s' d' k6 q' hal2
   -- all choices,one by one
   have all:∀ (l:List (Nat × Nat × List Nat × List Nat)),l≠[]→(∀ a∈l,a∈d.nds[i].alts)→∀ (rem wai done:List Nat),(∀ q∈done,z6q C.P ops b w q)→(∀ q∈done,∃ st,(q,st)∈d.dn i)→z2j d.anc rem wai done (mkG d.gs l)=true→zqf tb cty ann con ops d Sg kp i l→DRa C ds ops K done (mkG d.gs l) b w:=by
    intro l
    induction l with
    | nil=>simp
    | cons a r ihl =>
     intro _ hm rem wai done hst hdone hal hex
     obtain ⟨e,j,kpl,qs2⟩:=a
     have hc1:=hcn _ (hm _ yh)
     cases r with
     | nil =>
      simp only [mkG,z2j,yb] at hal ⊢
      exact ⟨hst,fun o ho=>one e j kpl qs2 (hm _ yh) rem wai done hdone hal.1.1 hal.2 hc1 hex.1 o ho⟩
     | cons a2 r2 =>
      unfold mkG at hal ⊢
      simp only [z2j,yb] at hal ⊢
      exact ⟨fun o ho=>one e j kpl qs2 (hm _ yh) rem wai done hdone hal.1.1.1 hal.1.2 hc1 hex.1 o ho,ihl (by simp) (fun x hx=>hm x (yg _ hx)) rem wai done hst hdone hal.2 hex.2⟩
   grind
theorem zs7 {k:St→Prop} {kp:PV→St→Prop} {d:Dg} {id:Nat} {todo:List Item} (ht:TbG C.P tb G) (hcon:∀ f i o,con f i o→Con C.P G f i o) (hz:∀ w O,z.G w O→G.p w O) (hok:okD ops d n=true) (hn:ops.toList.all (fun o=>dOk n o.dst)=true)
  (hdo:DrOk C ops) (hw:exdag tb cty ann con ops kp k d σ) (hk:∀ s,k s→∀ V w,RS z s V w→TW C n ds todo V w) (hp:∀ v s,kp v s→zar z C n ds v s) (V:Env) (w:World) (hr:RS z σ V w):TW C n ds (.code (.region id ops true)::todo) V w:=by
 have hn':∀ (q:Nat) (o:Oper),ops[q]? = some o→dOk n o.dst=true:=fun q o ho=>yc.1 hn o (by
  grind)
 obtain ⟨Sg,hw,hnd,hk0⟩:=hw
 obtain ⟨O,φ,α,h,hs⟩:=hr
 have hok':=hok
 simp only [okD,yb,zgb] at hok'
 obtain ⟨⟨⟨hpre,hcq⟩,hnds⟩,hlast⟩:=hok'
 cases hm:d.nds[d.nds.length - 1]? with
 | none=>grind
 | some md =>
 rw [hm] at hlast
 simp only [yb] at hlast
 obtain ⟨⟨⟨k5,k6⟩,k7⟩,k8⟩:=hlast
 have hlen:d.nds.length - 1<d.nds.length:=by
  rcases Nat.lt_or_ge (d.nds.length - 1) d.nds.length with q|q
  ·exact q
  ·grind
 have hal:z2j d.anc d.E (z0o (z4o ops d.E) d.qs) d.qs ((d.gs[d.nds.length - 1]?).getD .fin)=true :=
  z6r (fun x=>(z8a k6 x).symm) (fun x=>(z8a k7 x).symm) (fun x=>(z8a k8 x).symm) (ztz hnds _ _ md (yq _) hm)
 have hdr:z96 ops d.anc n d.E d.qs ((d.gs[d.nds.length - 1]?).getD .fin)=true:=by
  unfold z96
  rw [yb,yb]
  refine ⟨⟨hpre,?_⟩,hal⟩
  rw [zr6 hnds hm,ya]
  unfold zc4
  rw [zg9]
  exact k5
 have:=TW.drawP (C:=C) (n:=n) (ds:=ds) (k:=todo) (L:=V) (w:=w) (id:=id) (l:=ops.toList) d.anc d.E d.qs ((d.gs[d.nds.length - 1]?).getD .fin) ht.mix (by omega) (by omega) fun w' x a ha hda=>by
  have h2:=h.zm3 x
  obtain ⟨b,σ1,dn1,e1,e2,e3,e4,e5,e6,e7,e8,e9⟩:=z8s (C:=C) (ds:=ds) (done:=[]) (k:=fun σ1 dn1=>(zbd dn1 (d.dn (d.nds.length - 1))&&zbd (d.dn (d.nds.length - 1)) dn1)=true∧wt (σ1.cut d.c) fun s=>s=Sg (d.nds.length - 1)) ht.toTbOk (fun w O h=>ht.gt w O (hz w O h)) hn' d.qs a ha.size hda (h2.z5s ha) (by simp) (by simp) (by grind) hw
  refine ⟨b,by omega,?_⟩
  have:=into (C:=C) (n:=n) (ops:=ops) (done:=d.qs) (k3:=DRa C ds ops (TWa C todo) d.qs ((d.gs[d.nds.length - 1]?).getD .fin) b w') e4 hs e5 (by grind) e9.1 e9.2 fun O' α' r' s' d' q' =>
   zui (C:=C) (K:=TWa C todo) (G:=G) (z:=z) ht hcon hz hn' hp hok hnd (fun V w hr a ha hda=>hk _ (St.z5u.mp hk0) V w hr a ha hda) _ _ (yq _) (by omega) _ _ d.qs b e2 e3 r' s' d' (by grind) q' hal
  simp_all
 omega
end
section
variable {z:W0} {C:Cx} {n:Nat} {G:GI} {con:Nat→CIn→z3x→Prop} {tb:Tb} {cty:List (Nat × List (Option (Nat × Nat)))} {ann:Ann} {ds:List Deferred} {dd:List (Nat × Dg)}
end
def nthS:List St→Nat→St
 | [],_=>⟨[],[],[],none⟩
 | s::_,0=>s
 | _::r,i+1=>nthS r i
theorem S.eb {R A:Type} {W:R→Prop} {z:Option A} {g:A→Option R} (h:∀ a,z=some a→S (g a) W):S (z >>= g) W:=S.b h
theorem Ex.cl {con:Nat→CIn→z3x→Prop} {σ:St} {f:Nat} {args:List PV} {k:PV→St→Prop} {kp:PV→St→Prop} {A:Type} {z:Option A} {a:A} {i:CIn} {o:A→z3x} (bs as_ as_':List Nat) (hc:∀ a,z=some a→con f i (o a)) (h:z=some a) (h0:znk bs as_ as_' i args σ k kp (o a))
  (h1:nrm.go σ i.vs args=zb6.go bs as_ i.vs:=by exact rfl) (h2:z9f σ bs as_ bs i.B:=by (repeat' first|exact trivial|exact rfl|apply And.intro)) (h3:zey σ as_ i.A:=by (repeat' first|exact trivial|exact rfl|apply And.intro)) (h4:zht σ bs as_ (z9e.go i.vs args) i=true:=by exact rfl):ziv con σ f args k kp :=
 ⟨bs,as_,as_',i,o a,hc a h,h1,h2,h3,h4,h0⟩
theorem aT {p:Prop} (h:p:=by (repeat' first|apply And.intro|exact rfl|exact trivial)):p:=h
theorem S.dg {R:Type} {y:Option R} {tb:Tb} {cty:List (Nat × List (Option (Nat × Nat)))} {ann:Ann} {con:Nat→CIn→z3x→Prop} {ops:Array Oper} {d:Dg} {σ:St} {kp:R→PV→St→Prop} {k:R→St→Prop} (Sg:List St) (h3:S y fun r=>(nthS Sg 0).frc (k r))
  (h1:zqi tb ops d.qs σ [] fun σ1 dn1=>zcw tb ops σ1 []∧(zbd dn1 (d.dn (d.nds.length - 1))&&zbd (d.dn (d.nds.length - 1)) dn1)=true∧wt (σ1.cut d.c) fun s=>s=nthS Sg (d.nds.length - 1):=by (repeat' first|apply And.intro|exact rfl|exact trivial))
  (h2:∀ kp,zuv tb cty ann con ops d (nthS Sg) kp 0 d.nds:=by intro kp;(repeat (refine And.intro ?_ ?_;(as_aux_lemma=>(repeat' first|apply And.intro|exact rfl|exact trivial))));exact trivial) :
  S y (fun r=>exdag tb cty ann con ops (kp r) (k r) d σ):=fun r hm=>⟨nthS Sg,h1,h2 _,h3 r hm⟩
end
section
open Go.RowKit Go.Lk
def exY (tb:Tb) (cty:List (Nat × List (Option (Nat × Nat)))) (ann:Ann) (dd:List (Nat × Dg)) (con:Nat→CIn→z3x→Prop):Code→St→(z8d→St→Prop)→Prop
 | .region id ops dr,σ,k=>match lk dd id with
  | some d=>exdag tb cty ann con ops (fun v s=>k (.pan v) s) (fun s=>k .normal s) d σ
  | none=>ex tb cty ann con (.region id ops dr) σ k
 | .seq a b,σ,k=>match cutOf ann.seq b with
  | some c=>∃ J:St→Prop,exY tb cty ann dd con a σ (zkh (fun s=>s.zat c J) k)∧∀ s,J s→exY tb cty ann dd con b s k
  | none=>exY tb cty ann dd con a σ (zkh (fun s=>exY tb cty ann dd con b s k) k)
 | .cond c a b,σ,k=>match σ.ev c with
  | some (.bool x)=>cond x (exY tb cty ann dd con a σ k) (exY tb cty ann dd con b σ k)
  | _=>False
 | .block i a,σ,k=>exY tb cty ann dd con a σ (kBlk i k)
 | c,σ,k=>ex tb cty ann con c σ k
def okY (ann:Ann) (dd:List (Nat × Dg)) (n:Nat):Code→Bool
 | .region id ops dr=>match lk dd id with
  | some d=>dr&&okD ops d n&&(ops.toList.all fun o=>dOk n o.dst)
  | none=>okC ann n (.region id ops dr)
 | .seq a b=>okY ann dd n a&&okY ann dd n b
 | .cond _ a b=>okY ann dd n a&&okY ann dd n b
 | .block _ a=>okY ann dd n a
 | c=>okC ann n c
section
variable {z:W0} {C:Cx} {n:Nat} {G:GI} {con:Nat→CIn→z3x→Prop} {tb:Tb} {cty:List (Nat × List (Option (Nat × Nat)))} {ann:Ann} {ds:List Deferred} {dd:List (Nat × Dg)}
theorem zut (ht:TbG C.P tb G) (hcon:∀ f i o,con f i o→Con C.P G f i o) (hz:∀ w O,z.G w O→G.p w O) (hlv:C.lv=false):∀ (c:Code) (σ:St) (k:z8d→St→Prop) (todo:List Item),okY ann dd n c=true→exY tb cty ann dd con c σ k→(∀ fl s,k fl s→FS z C n ds todo fl s)→KS z C n ds (.code c::todo) σ:=by
 intro c
 have other:∀ (c:Code) (σ:St) (k:z8d→St→Prop) (todo:List Item),okC ann n c=true→ex tb cty ann con c σ k→(∀ fl s,k fl s→FS z C n ds todo fl s)→KS z C n ds (.code c::todo) σ:=fun c σ k todo h1 h2 h3=>z3f ht hcon hz c σ k todo h1 (.inl hlv) h2 h3
 induction c with
 | region id ops dr =>
  intro σ k todo hok hw hk
  unfold exY at hw
  unfold okY at hok
  cases hl:lk dd id with
  | none =>
   grind
  | some d =>
   rw [hl] at hw hok
   simp only [yb] at hok
   obtain ⟨⟨rfl,h1⟩,h2⟩:=hok
   intro V w hr
   refine zs7 ht hcon hz h1 h2 (.inl hlv) hw (fun s hs V w hr=>hk _ _ hs V w hr) (fun v s hs=>hk _ _ hs) V w hr
 | seq a b iha ihb =>
  intro σ k todo hok hw hk
  unfold okY at hok
  simp only [yb] at hok
  intro V w hr
  refine TW.seq ?_
  unfold exY at hw
  split at hw
  ·rename_i c _
   obtain ⟨J,h1,h2⟩:=hw
   refine iha σ _ (.code b::todo) hok.1 h1 (fun fl s hs => ?_) V w hr
   cases fl with
   | normal =>
    obtain ⟨s',e,hj⟩:=z81 hs
    exact (ihb s' k todo hok.2 (h2 s' hj) hk).cut e
   | exit i=>exact (hk _ _ hs).code (by simp)
   | ret=>exact (hk _ _ hs).code (by simp)
   | pan v=>exact (hk _ _ hs).code (by simp)
  ·refine iha σ _ (.code b::todo) hok.1 hw (fun fl s hs => ?_) V w hr
   cases fl with
   | normal=>exact ihb s k todo hok.2 hs hk
   | exit i=>exact (hk _ _ hs).code (by simp)
   | ret=>exact (hk _ _ hs).code (by simp)
   | pan v=>exact (hk _ _ hs).code (by simp)
 | cond c a b iha ihb =>
  intro σ k todo hok hw hk
  unfold okY at hok
  simp only [yb] at hok
  intro V w hr
  unfold exY at hw
  split at hw
  ·rename_i x hx
   obtain ⟨O,φ,α,h,hs⟩:=hr
   obtain ⟨u,h1,h2⟩:=h.ev hx
   simp only [VR] at h2
   subst h2
   refine TW.cond h1 (fun e => ?_) (fun e => ?_)
   ·subst e
    exact iha σ k todo hok.1 hw hk V w ⟨O,φ,α,h,hs⟩
   ·subst e
    exact ihb σ k todo hok.2 hw hk V w ⟨O,φ,α,h,hs⟩
  grind
 | block i a iha =>
  intro σ k todo hok hw hk
  unfold okY at hok
  intro V w hr
  refine TW.block ?_
  unfold exY at hw
  refine iha σ _ (.inBlock i::todo) hok hw (fun fl s hs => ?_) V w hr
  cases fl with
  | normal=>exact fun V w hr=>TW.inBlock (hk _ _ hs V w hr)
  | exit j =>
   simp only [kBlk] at hs
   cases e:yk i j with
   | true =>
    rw [e] at hs
    have e:=ym e
    subst e
    exact ⟨todo,by simp [exitTo],hk _ _ hs⟩
   | false =>
    rw [e] at hs
    have e:=Nat.ne_of_beq_eq_false e
    obtain ⟨k',h1,h2⟩:=hk _ _ hs
    exact ⟨k',by grind [exitTo],h2⟩
  | ret=>exact hk _ _ hs
  | pan v=>exact hk _ _ hs
 | _=>intro σ k todo hok hw hk;exact other _ σ k todo hok hw hk
end
theorem Con.oY {P:Program} {G:GI} {tb:Tb} {cty:List (Nat × List (Option (Nat × Nat)))} {α:Type} {y:Option α} {f:Nat} {fn:Func} {i:CIn} {o:α→z3x} (ht:TbG P tb G) (hf:P.funcs[f]? = some fn) (ann:Ann) (dd:List (Nat × Dg)) (res:List ResultVar)
  (hw:S y fun r=>exY tb cty ann dd (Con P G) (z2q fn) (entry i) (fin tb ann res (o r))) (hok:okY ann dd fn.ntmps (z2q fn)=true) (hb:fn.body=some (z2q fn)) (ent:∀ args w,(callFunc f args).run P w = .ok (.enter f args) w)
  (hres:fn.results=res.toArray) (hnn:yk f NF=false) (hl:yl i.vs.length fn.ntmps=true) (hnb:ann.nb=i.B.length) (h1000:yl i.B.length 1000=true):S y fun r=>Con P G f i (o r):=by
 intro r hm
 have hw:exY tb cty ann dd (Con P G) (z2q fn) (entry i) (fin tb ann res (o r)):=hw r hm
 revert hw
 generalize o r=o
 intro hw
 refine ⟨ent,hnn,fun w O φ α us hv hm hB hG => ?_⟩
 have h1000:=yn h1000
 obtain ⟨hF,h0⟩:=zc6 (G:=G) hv hm hB hG h1000
 have hlu:us.length=i.vs.length:=hv.len
 refine ziw hf hb fn.ntmps rfl (by grind) ?_
 refine zut (z:=zy2 G i w O φ α hF hB) (C:={ P:=P,f:=f,fn:=fn,R:=zd0 i w O φ α o,hf:=hf }) (n:=fn.ntmps) (ds:=[]) (G:=G) ht (fun _ _ _ h=>h) (fun _ _ h=>h) rfl (z2q fn) (entry i) _ [] hok hw (fun fl s hs => ?_) _ _ ⟨O,φ,α,h0,fun _ hx=>hx⟩
 cases fl with
 | normal =>
  intro V w' hr
  obtain ⟨O',φ',α',h1,h2⟩:=hr
  cases o with
  | pan v=>exact hs.elim
  | zhg _ _=>exact hs.elim
  | okI _ _ _=>exact hs.elim
  | ok vs B A =>
   obtain ⟨us',h3,h4⟩:=z6b (C:={ P:=P,f:=f,fn:=fn,R:=zd0 i w O φ α (.ok vs B A),hf:=hf }) (n:=fn.ntmps) (hF:=hF) (hB:=hB) (g:=φ) ht hres (fun b hb=>h1.keep b (by omega)) h1 h2 hnb h1000 hs
   exact TW.fin h3 h4
 | ret =>
  intro k' V w' hr
  obtain ⟨O',φ',α',h1,h2⟩:=hr
  cases o with
  | pan v=>exact hs.elim
  | zhg _ _=>exact hs.elim
  | okI _ _ _=>exact hs.elim
  | ok vs B A =>
   obtain ⟨us',h3,h4⟩:=z6b (C:={ P:=P,f:=f,fn:=fn,R:=zd0 i w O φ α (.ok vs B A),hf:=hf }) (n:=fn.ntmps) (hF:=hF) (hB:=hB) (g:=φ) ht hres (fun b hb=>h1.keep b (by omega)) h1 h2 hnb h1000 hs
   exact TW.ret h3 h4
 | exit _=>exact hs.elim
 | pan v =>
  intro V w' O' φ' α' u φ2 α2 h1 h2 h3 a ha hda
  cases o with
  | ok _ _ _=>cases hs
  | okI _ _ _=>cases hs
  | pan v =>
   cases hs
   exact PN.nil hda ⟨u,O',φ2,α2,rfl,h3,h1.ext,h1.tr0,h1.bd,h1.only⟩
  | zhg v' B =>
   obtain ⟨rfl,hsl,hw⟩:=hs
   obtain ⟨us',_,O3,φ3,α3,h4⟩:=zae (ann:={ nb:=ann.nb }) (res:=[]) (C:={ P:=P,f:=f,fn:=fn,R:=zd0 i w O φ α (.zhg v' B),hf:=hf }) (n:=fn.ntmps) (hF:=hF) (hB:=hB) (g:=φ) ht (fun b hb=>h1.keep b (by omega)) h1 h2 hnb h1000 hw
   exact PN.nil hda ⟨u,φ2,α2,us',O3,φ3,α3,rfl,z7r _ _ hsl h3,h4⟩
end
end Go.Pe
