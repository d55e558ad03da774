import Derived.Test.YtfdoofnmjehecaaGreatDoorHPfS2
import Derived.KernelRfl
import Derived.Shelf.Strings.Builder1
set_option linter.all false
namespace Go.Pe
open _root_.Option renaming getD_some → ya
open _root_.Bool renaming and_eq_true → yb
open _root_.List renaming all_eq_true → yc, any_eq_true → yd, eq_nil_of_length_eq_zero → ye, getElem?_eq_some_iff → yf, mem_cons_of_mem → yg, mem_cons_self → yh
open _root_.Nat renaming add_lt_add_left → yi, add_sub_cancel_left → yj, beq → yk, ble → yl, eq_of_beq_eq_true → ym, le_of_ble_eq_true → yn, lt_irrefl → yo, lt_of_lt_of_le → yp, lt_succ_self → yq, not_lt_zero → yr, zero_lt_one → yt
open _root_.Array renaming toList_inj → yu
section
open Go.RowKit Go.Lk
def renL:Nat→List Nat→St→Option St|_,[],σ=>some σ|t,b::r,σ=>match σ.zz8 t b with|some s=>renL (t+1) r s|none=>none
def ztf:List PV→Option (List Nat)
 |[]=>some []|.ptr b off::r=>match yk off 0,ztf r with|true,some l=>some (b::l)|_,_=>none
 |_=>none
def exE(tb:Tb)(cty:List (Nat×List (Option (Nat×Nat))))(ann:Ann)(con:Nat→CIn→z3y→Prop)(k:z9e→St→Prop)(kD:Nat→Nat→z9e→St→Prop):Code→St→Prop
 |.seq a b,σ=>match dfr2 a with
  |some (m,d,x)=>qop tb σ m.op fun v=>(σ.put (some d) v).go fun σ=>match σ.ev x with
    |some (.fn f [] cs)=>wt (ztf cs) fun bs=>match yk f NF,bs.all fun b=>Nat.blt b 990||yl 1000 b with|false,true=>wt (renL 990 bs σ) fun s=>ex tb cty ann con b s (kD f bs.length)|_,_=>False
    |_=>False
  |none=>ex tb cty ann con a σ (zmm (fun s=>exE tb cty ann con k kD b s) k)
 |_,_=>False
def ovB(φ:Nat→Nat):Nat→List Nat→Nat→Nat|_,[]=>φ|t,g::r=>ovB (ren φ t g) (t+1) r
theorem zyr{x:Nat}:∀{gs:List Nat}{φ:Nat→Nat}{t:Nat},x<t→ovB φ t gs x=φ x|[],φ,t,_=>rfl|g::r,φ,t,h=>by unfold ovB;rw[zyr (by omega:x<t+1)];grind[ren]
theorem zyq:∀{gs:List Nat}{φ:Nat→Nat}{t j g:Nat},gs[j]?=some g→ovB φ t gs (t+j)=g|g0::r,φ,t,0,g,h=>by simp_all[ovB,zyr,ren]|g0::r,φ,t,j+1,g,h=>by rw[show t+(j+1)=t+1+j by omega];exact zyq (by simpa using h)
section
variable{z:W0}{V:Env}{w:World}{O:Nat→Prop}{φ:Nat→Nat}{α:Nat→Value}{σ:St}{C:Cx}{n:Nat}{G:GI}{con:Nat→CIn→z3y→Prop}{tb:Tb}{cty:List (Nat×List (Option (Nat×Nat)))}{ann:Ann}
theorem zz7:∀{bs:List Nat}{t:Nat}{z:W0}{φ:Nat→Nat}{σ a:St},Rl z σ V w O φ α→(∀b∈bs,b<t∨1000≤b)→renL t bs σ=some a→Rl {z with φ0:=ovB z.φ0 t (bs.map φ)} a V w O (ovB φ t (bs.map φ)) α
 |[],t,z,φ,σ,a,h,_,e=>by cases e;exact h|b::r,t,z,φ,σ,a,h,j,e=>by
  unfold renL at e;split at e
  ·rename_i s c;have i:=h.zz8 c;have k:t<1000:=by
    unfold St.zz8 at c;split at c;·simp_all[St.freeT]
    ·cases c
   have h2:=zz7 i fun f d=>by grind e;have g:r.map (ren φ t (φ b))=r.map φ:=List.map_congr_left fun f d=>by grind[ren]
   rw[g]at h2;exact h2
  ·cases e
theorem zo9:∀{cs:List PV}{bs:List Nat}{us:List Value},ztf cs=some bs→VRs w O φ α cs us→us=(bs.map φ).map fun g=>Value.pointer (some ⟨g,0,none⟩)
 |[],bs,us,e,h=>by cases e;exact h|.ptr b off::r,bs,us,e,h=>by
  obtain⟨u,f,rfl,d,h2⟩:=h;simp only[ztf]at e;split at e;·rename_i l a c;cases e;have a:=ym a;subst a;rw[d,zo9 c h2];rfl
  ·cases e
def dOfE(f:Nat)(gs:List Nat):Deferred:={target:=.fn (.func f) (List.toArray (gs.map fun g=>Value.pointer (some ⟨g,0,none⟩))),args:=List.toArray []}
theorem zn5(ht:TbG C.P tb G)(hcon:∀f i o,con f i o→Con C.P G f i o)(hz:∀w O,z.G w O→G.p w O){k:z9e→St→Prop}{kD:Nat→Nat→z9e→St→Prop}:∀(c:Code)(σ:St)(todo:List Item),okC ann n c=true→z3v C.fn c=true→exE tb cty ann con k kD c σ→(∀fl s,k fl s→fl≠.normal→FS z C n [] todo fl s)→(∀f gs fl s,kD f gs.length fl s→FS {z with φ0:=ovB z.φ0 990 gs} C n [dOfE f gs] todo fl s)→KS z C n [] (.code c::todo) σ
 |.seq a b,σ,todo,hn,hd,hw,hk,hkD=>by
  simp only[okC,yb]at hn;simp only[z3v,yb]at hd;intro V w hr;refine TW.seq ?_;unfold exE at hw;split at hw
  ·rename_i m d x hx;unfold dfr2 at hx;split at hx
   ·rename_i id ops;split at hx
    ·rename_i m' o ho;split at hx
     ·rename_i fn0 fs0 cs0 dm c hmop hmg hmd hop hg hdst;obtain⟨cal,cargs,cty'⟩:=c;split at hx
      ·rename_i x' hcx hcy;cases hx;subst hcx;have e1:ops=[m,o].toArray:=by apply yu.1;simpa using ho
       subst e1;obtain⟨O,φ,α,h,hs⟩:=hr;have hnm:dOk n m.dst=true:=by have h7:=hn.1;simp only[okC,List.all_cons,yb]at h7;first|exact h7.1|exact h7.1.1|exact h7.2.1
       rw[hmd]at hnm;obtain⟨v,u,hw,hv,hex,_⟩:=zba (C:=C) (n:=n) (V:=V) ht.toTbOk (fun w O hg=>ht.gt w O (hz w O hg)) h hw;rw[St.go_eq]at hw;have h0:=h.zp9 (d:=d) hv;split at hw
       ·rename_i f cs hf;obtain⟨bs,hbs,hw⟩:=zc hw;split at hw;rotate_left;·exact hw.elim
        rename_i hnf hb9;obtain⟨s,hs1,hw⟩:=zc hw;obtain⟨uf,h1,us,vs,rfl,h2,h3⟩:=h0.ev hf;subst h2;have h4:=zo9 hbs h3;rw[zpt hnf]at h1;subst h4;refine TW.zz040 (z9i:=(bs.map φ).map fun g=>Value.pointer (some ⟨g,0,none⟩)) (vs:=[]) hmg hmd hnm hex hg hdst hop h1 (by grind[Lk.evs]) ?_;have:=z3c (z:={z with φ0:=ovB z.φ0 990 (bs.map φ)}) (ds:=[dOfE f (bs.map φ)]) (G:=G) ht hcon hz b s (kD f bs.length) todo hn.2 (.inr hd.2) hw fun fl s hk=>hkD f (bs.map φ) fl s (by grind);refine this _ w ⟨O,_,α,zz7 h0 (fun b' hb'=>?_) hs1,hs⟩;simp_all
       grind
      ·cases hx
     ·cases hx
    ·cases hx
   ·cases hx
  ·refine z3c (ds:=[]) (G:=G) ht hcon hz a σ _ (.code b::todo) hn.1 (.inr hd.1) hw (fun fl s hs=>?_) V w hr;cases fl with|normal=>exact zn5 ht hcon hz b s todo hn.2 hd.2 hs hk hkD|exit i=>exact(hk _ _ hs (by simp)).code (by simp)|ret=>exact(hk _ _ hs (by simp)).code (by simp)|pan v=>exact(hk _ _ hs (by simp)).code (by simp)
 |.skip,σ,todo,_,_,hw,_,_=>hw.elim|.label _,σ,todo,_,_,hw,_,_=>hw.elim|.ret,σ,todo,_,_,hw,_,_=>hw.elim|.exit _,σ,todo,_,_,hw,_,_=>hw.elim|.region _ _ _,σ,todo,_,_,hw,_,_=>hw.elim|.cond _ _ _,σ,todo,_,_,hw,_,_=>hw.elim|.block _ _,σ,todo,_,_,hw,_,_=>hw.elim|.loop _,σ,todo,_,_,hw,_,_=>hw.elim|.rangeFunc ..,σ,todo,_,_,hw,_,_=>hw.elim|.scope _,σ,todo,_,_,hw,_,_=>hw.elim|.goto _,σ,todo,_,_,hw,_,_=>hw.elim|.refuse _,σ,todo,_,_,hw,_,_=>hw.elim
end
def mode0:Option PV→Value→FrameMode|none,_=>.returning|some _,u=>.panicking [{v:=u,recovered:=false}]
def mode1:Option PV→Value→FrameMode|none,_=>.returning|some _,u=>.panicking [{v:=u,recovered:=true}]
def recP:Option PV→PV|none=>.zfr|some v=>v
def recV:Option PV→Value→Value|none,_=>.nilIface|some _,u=>u
structure ConD(P:Program)(G:GI)(f:Nat)(m:Option PV)(i:CIn)(o:z3y):Prop where
 ent:∀args w,(callFunc f args).run P w=.ok (.enter f args) w
 run:∀w O φ α us u,(∀v,m=some v→∃φv αv,VR w O φv αv v u)→VRs w O φ α i.vs us→Mm w O φ α i.B (i.A.map some)→Bd O w→G.p w O→CallsD P f us.toArray (mode0 m u) w fun e fm w'=>fm=mode1 m u∧zec i w O φ α o e w'
def exR(tb:Tb)(cty:List (Nat×List (Option (Nat×Nat))))(ann:Ann)(con:Nat→CIn→z3y→Prop)(v:PV):Code→St→(z9e→St→Prop)→Prop
 |.seq a b,σ,k=>exR tb cty ann con v a σ (zmm (fun s=>ex tb cty ann con b s k) k)|.region _ ops false,σ,k=>match ops.toList with
  |o::l=>match o.op,o.guard,o.dst with
   |.call c,none,some d=>match c.callee,c.args.toList with|.builtin .recover,[]=>zh9 tb cty ann con ops (fun v s=>k (.pan v) s) (fun s=>k .normal s) l (σ.put (some d) v)|_,_=>False
   |_,_,_=>False
  |[]=>False
 |_,_,_=>False
section
variable{z:W0}{V:Env}{w:World}{O:Nat→Prop}{φ:Nat→Nat}{α:Nat→Value}{σ:St}{C:Cx}{n:Nat}{G:GI}{con:Nat→CIn→z3y→Prop}{tb:Tb}{cty:List (Nat×List (Option (Nat×Nat)))}{ann:Ann}
theorem zn6(F:TbG C.P tb G)(j:∀f i o,con f i o→Con C.P G f i o)(H:∀w O,z.G w O→G.p w O)(I:C.dfr=true)(q:C.lv=false){J L:FrameMode}{v:PV}{u:Value}(t:Rec J L u):∀(c:Code)(σ:St)(k:z9e→St→Prop)(todo:List Item),okC ann n c=true→exR tb cty ann con v c σ k→(∀r s,k r s→FS z C n [] todo r s)→∀{V w O φ α},Rl z σ V w O φ α→(∀x,z.O x→O x)→VR w O φ α v u→TWR C n J L (.code c::todo) V w
 |.seq a b,σ,k,todo,hn,e,m,V,w,O,φ,α,h,g,y=>by simp only[okC,yb]at hn;refine TWR.seq ?_;refine zn6 F j H I q t a σ _ (.code b::todo) hn.1 e (fun r s g=>?_) h g y;cases r with|normal=>exact z3c F j H b s k todo hn.2 (.inl q) g m|exit i=>exact(m _ _ g).code (by simp)|ret=>exact(m _ _ g).code (by simp)|pan v=>exact(m _ _ g).code (by simp)
 |.region id ops true,σ,k,todo,hn,e,m,V,w,O,φ,α,h,g,y=>e.elim|.region id ops false,σ,k,todo,hn,e,m,V,w,O,φ,α,h,g,y=>by
  simp only[okC,yb]at hn;have hn:=hn.1;unfold exR at e;split at e
  ·rename_i o l ho;split at e
   ·rename_i c d E Q hd;obtain⟨cal,cargs,cty'⟩:=c;split at e
    ·rename_i A B;subst A;have M:ops=(o::l).toArray:=by apply yu.1;simpa using ho
     subst M;have N:cargs=#[]:=by apply yu.1;simpa using B
     subst N;simp only[List.all_cons,yb]at hn;have D:Nat.blt d n=true:=by have:=hn.1;rw[hd]at this;exact this
     refine TWR.recover I t Q hd D E ?_;have:=z7x (K:=TWa C todo) (rest:=[]) (ops:=(o::l).toArray) (G:=G) F j H (k:=fun s=>k .normal s) (kp:=fun v s=>k (.pan v) s) (fun s g V w t=>OW.done (m _ _ g V w t)) (fun v s g=>m _ _ g) l _ hn.2 e ((d,u)::V) w ⟨O,φ,α,h.zp9 y,g⟩;grind
    grind
   grind
  grind|.skip,σ,k,todo,_,e,_,_,_,_,_,_,_,_,_=>e.elim|.label _,σ,k,todo,_,e,_,_,_,_,_,_,_,_,_=>e.elim|.ret,σ,k,todo,_,e,_,_,_,_,_,_,_,_,_=>e.elim|.exit _,σ,k,todo,_,e,_,_,_,_,_,_,_,_,_=>e.elim|.cond _ _ _,σ,k,todo,_,e,_,_,_,_,_,_,_,_,_=>e.elim|.block _ _,σ,k,todo,_,e,_,_,_,_,_,_,_,_,_=>e.elim|.loop _,σ,k,todo,_,e,_,_,_,_,_,_,_,_,_=>e.elim|.rangeFunc ..,σ,k,todo,_,e,_,_,_,_,_,_,_,_,_=>e.elim|.scope _,σ,k,todo,_,e,_,_,_,_,_,_,_,_,_=>e.elim|.goto _,σ,k,todo,_,e,_,_,_,_,_,_,_,_,_=>e.elim|.refuse _,σ,k,todo,_,e,_,_,_,_,_,_,_,_,_=>e.elim
end
theorem ConD.of{P:Program}{G:GI}{tb:Tb}{cty:List (Nat×List (Option (Nat×Nat)))}{ann:Ann}{f:Nat}{fn:Func}{c:Code}{m:Option PV}{i:CIn}{o:z3y}{n:Nat}{res:List ResultVar}(F:TbG P tb G)(ent:∀args w,(callFunc f args).run P w=.ok (.enter f args) w)(hf:P.funcs[f]?=some fn)(E:fn.body=some c)(hn:fn.ntmps=n)(k:fn.results=res.toArray)(I:okC ann n c=true)(hl:yl i.vs.length n=true)(l:ann.nb=i.B.length)(d:yl i.B.length 1000=true)(H:z5k (fun _=>False) (fun _=>False) (recP m))(L:exR tb cty ann (Con P G) (recP m) c (entry i) (fin tb ann res o)):ConD P G f m i o:=by
 refine⟨ent,fun w O φ α us u Y Q X hB hG=>?_⟩;have d:=yn d;obtain⟨hF,U⟩:=zde (G:=G) Q X hB hG d;have W:us.length=i.vs.length:=Q.len;have x:Rec (mode0 m u) (mode1 m u) (recV m u):=by cases m with|none=>exact .inl ⟨rfl,rfl,rfl⟩|some v=>exact .inr ⟨[],rfl,rfl⟩
 have J:VR w O φ α (recP m) (recV m u):=by cases m with|none=>exact rfl|some v=>obtain⟨φv,αv,h⟩:=Y v rfl;exact VR.re (fun _ h=>h.elim) (fun _ h=>h.elim) _ _ H h
 refine zas (R:=zec i w O φ α o) (mode0 m u) (mode1 m u) hf E n hn (by grind) ?_;refine zn6 (z:=w0Of G i w O φ α hF hB) (C:={P:=P,f:=f,fn:=fn,R:=zec i w O φ α o,hf:=hf,dfr:=true}) (n:=n) (G:=G) F (fun _ _ _ h=>h) (fun _ _ h=>h) rfl rfl x c (entry i) _ [] I L (fun T s j=>?_) U (fun _ Z=>Z) J;cases T with
 |normal=>intro V w' x;obtain⟨O',φ',α',e,h2⟩:=x;cases o with|ok vs B A=>obtain⟨p,q,r⟩:=z73 (C:={P:=P,f:=f,fn:=fn,R:=zec i w O φ α (.ok vs B A),hf:=hf,dfr:=true}) (n:=n) (hF:=hF) (hB:=hB) (g:=φ) F k (fun b E=>e.keep b (by omega)) e h2 l d j;exact TW.fin q r|_=>exact j.elim
 |ret=>intro k' V w' x;obtain⟨O',φ',α',e,h2⟩:=x;cases o with|ok vs B A=>obtain⟨p,q,r⟩:=z73 (C:={P:=P,f:=f,fn:=fn,R:=zec i w O φ α (.ok vs B A),hf:=hf,dfr:=true}) (n:=n) (hF:=hF) (hB:=hB) (g:=φ) F k (fun b E=>e.keep b (by omega)) e h2 l d j;exact TW.ret q r|_=>exact j.elim
 |exit _=>exact j.elim|pan v=>intro V w' O' φ' α' u D y e h2 q a ha t;cases o with|ok _ _ _=>cases j|okI _ _ _=>cases j|zjk v' B=>obtain⟨rfl,K,L⟩:=j;obtain⟨p,_,S,N,M,r⟩:=zbq (ann:={nb:=ann.nb}) (res:=[]) (C:={P:=P,f:=f,fn:=fn,R:=zec i w O φ α (.zjk v' B),hf:=hf,dfr:=true}) (n:=n) (hF:=hF) (hB:=hB) (g:=φ) F (fun b E=>e.keep b (by omega)) e h2 l d L;exact PN.nil t ⟨u,D,y,p,S,N,M,rfl,z8s _ _ K q,r⟩|pan v=>cases j;exact PN.nil t ⟨u,O',D,y,rfl,q,e.ext,e.tr0,e.bd,e.only⟩
def zp4:Nat→List PV|0=>[]|n+1=>.undef::zp4 n
def ptrs:Nat→Nat→List PV|0,_=>[]|n+1,t=>.ptr t 0::ptrs n (t+1)
def dB(s:St):List Nat→List (Nat×Nat)→Bool|k::ks,e::a=>(match lk s.B k with|some x=>yk x.T e.1&&yk x.cs.length e.2|none=>false)&&dB s ks a|[],[]=>true|_,_=>false
def unB(l:List (Nat×Nat)):List Bx:=l.map fun e=>⟨e.1,zp4 e.2⟩
def finE(tb:Tb)(ann:Ann)(res:List ResultVar)(out:z3y)(fc:Nat)(ts:List (Nat×Nat))(T:Nat)(ik:IntKind)(B0:Int→List Bx)(f:Nat)(n:Nat)(c:z9e)(s:St):Prop:=match yk f fc&&yk n ts.length&&yl n 10,c,out with
 |true,.ret,.ok vs B A=>finO tb ann res s vs B A|true,.pan v,.ok vs B A=>match v with
  |.iface b (.agg [.int a e])=>match yk b T&&ikEq a ik with|true=>(dB s (rng n 990) ts&&zae (rng n 990)&&zo4 {s with B:=z5n (rng n 990) s.B,A:=z5n [] s.A} (rng n 990) [] n [] (B0 e) [])=true∧finO tb ann res (left true (rng n 990) [] [] (B0 e) [] s) vs B A|false=>False
  |_=>False
 |_,_,_=>False
structure zgq(P:Program)(G:GI)(fc:Nat)(ts:List (Nat×Nat))(T:Nat)(ik:IntKind)(B0:Int→List Bx):Prop where ret:ConD P G fc none ⟨zp4 ts.length,[],[]⟩ (.ok [] [] [])pan:∀e,ConD P G fc (some (.iface T (.agg [.int ik e]))) ⟨ptrs ts.length 0,unB ts,[]⟩ (.ok [] (B0 e) [])
theorem zj6{w:World}{O:Nat→Prop}{φ:Nat→Nat}{α:Nat→Value}:∀(us:List Value),VRs w O φ α (zp4 us.length) us|[]=>rfl|u::us=>⟨u,us,rfl,trivial,zj6 us⟩
theorem zyx{w:World}{O:Nat→Prop}{φ:Nat→Nat}{α:Nat→Value}:∀(gs:List Nat)(t:Nat),(∀j g,gs[j]?=some g→φ (t+j)=g)→VRs w O φ α (ptrs gs.length t) (gs.map fun g=>Value.pointer (some ⟨g,0,none⟩))|[],_,_=>rfl|g::gs,t,h=>⟨_,_,rfl,by have:=h 0 g rfl;grind[VR],zyx gs (t+1) fun j a b=>by have:=h (j+1) a (by grind);grind⟩
theorem zz03y{s:St}:∀{ks:List Nat}{a:List (Nat×Nat)},dB s ks a=true→ks.length=a.length∧∀(j:Nat)(k:Nat),ks[j]?=some k→∃x e,lk s.B k=some x∧a[j]?=some e∧x.T=e.1∧x.cs.length=e.2|[],[],_=>⟨rfl,fun j k h=>by simp at h⟩|[],_::_,h=>by cases h|_::_,[],h=>by cases h|k::ks,e::a,h=>by simp only[dB,yb]at h;obtain⟨b,h2⟩:=h;obtain⟨c,d⟩:=zz03y h2;refine⟨by simp[c],fun j g f=>?_⟩;cases j with
  |zero=>
   split at b;·simp_all
   ·cases b|succ j=>grind
theorem LV.ret3{C:Cx}{n:Nat}{L:Env}{w:World}{g:FuncId}{args args' cap:Array Value}(Q:World→Prop)(f:(invoke (.fn (.func g) cap) args).run C.P w=.ok (.enter g args') w)(d:CallsD C.P g args' .returning w fun e u w'=>e=.returned (.tuple #[])∧u=.returning∧Q w')(h:∀w',Q w'→∃v,Out C n L w' v∧C.R (.returned v) w'):LV C n [{target:=.fn (.func g) cap,args:=args}] L w .returning:=fun a c hd=>by refine leaves_cons (by simp) f (d.mono ?_);rintro e u w'⟨rfl,rfl,x⟩;obtain⟨v,b,h2⟩:=h w' x;exact⟨v,b a c,h2⟩
theorem Con.ofE{P:Program}{G:GI}{tb:Tb}{cty:List (Nat×List (Option (Nat×Nat)))}{ann:Ann}{f:Nat}{fn:Func}{c:Code}{i:CIn}{o:z3y}{n:Nat}{res:List ResultVar}{fc:Nat}{ts:List (Nat×Nat)}{T:Nat}{ik:IntKind}{B0:Int→List Bx}(K:zgq P G fc ts T ik B0)(ht:TbG P tb G)(ent:∀args w,(callFunc f args).run P w=.ok (.enter f args) w)(a8:yk f NF=false)(hf:P.funcs[f]?=some fn)(D:fn.body=some c)(hn:fn.ntmps=n)(I:fn.results=res.toArray)(a9:okC ann n c=true)(a7:z3v fn c=true)(hl:yl i.vs.length n=true)(N:ann.nb=i.B.length)(E:yl i.B.length 900=true)(hw:exE tb cty ann (Con P G) (fin tb ann res o) (finE tb ann res o fc ts T ik B0) c (entry i)):Con P G f i o:=by
 refine⟨ent,a8,fun w O φ α us hv hm hB hG=>?_⟩;have E:=yn E;obtain⟨hF,h0⟩:=zde (G:=G) hv hm hB hG (by omega);have b6:us.length=i.vs.length:=hv.len;refine zmt hf D n hn (by grind) ?_;refine zn5 (z:=w0Of G i w O φ α hF hB) (C:={P:=P,f:=f,fn:=fn,R:=zec i w O φ α o,hf:=hf,lv:=true}) (n:=n) (G:=G) ht (fun _ _ _ h=>h) (fun _ _ h=>h) c (entry i) [] a9 a7 hw (fun fl s t b7=>?_) (fun f' gs fl s t=>?_) _ _ ⟨O,φ,α,h0,fun _ J=>J⟩;·cases fl with
  |normal=>grind|ret=>intro k' V w' hr;obtain⟨O',φ',α',d,h2⟩:=hr;cases o with|ok vs B A=>obtain⟨k,Q,h4⟩:=z73 (C:={P:=P,f:=f,fn:=fn,R:=zec i w O φ α (.ok vs B A),hf:=hf,lv:=true}) (n:=n) (hF:=hF) (hB:=hB) (g:=φ) ht I (fun b D=>d.keep b (by omega)) d h2 N (by omega) t;exact TW.ret Q h4|_=>exact t.elim
  |exit _=>exact t.elim|pan v=>intro V w' O' φ' α' u a1 a0 d h2 Q a ha F;cases o with|ok _ _ _=>cases t|okI _ _ _=>cases t|zjk v' B=>obtain⟨rfl,b1,hw⟩:=t;obtain⟨k,_,U,r,q,h4⟩:=zbq (ann:={nb:=ann.nb}) (res:=[]) (C:={P:=P,f:=f,fn:=fn,R:=zec i w O φ α (.zjk v' B),hf:=hf,lv:=true}) (n:=n) (hF:=hF) (hB:=hB) (g:=φ) ht (fun b D=>d.keep b (by omega)) d h2 N (by omega) hw;exact PN.nil F ⟨u,a1,a0,k,U,r,q,rfl,z8s _ _ b1 Q,h4⟩|pan v=>cases t;exact PN.nil F ⟨u,O',a1,a0,rfl,Q,d.ext,d.tr0,d.bd,d.only⟩
 ·have a2:∀{φ':Nat→Nat}{b:Nat},b<i.B.length→φ' b=ovB φ 990 gs b→φ' b=φ b:=fun{φ' b}D e=>e.trans (zyr (by omega));unfold finE at t;split at t
  ·rename_i vs B A m;simp only[yb]at m;have e1:=ym m.1.1;have e2:=ym m.1.2;subst e1;intro k' V w' hr;obtain⟨O',φ',α',d,h2⟩:=hr;have p:=K.ret.run w' O' φ' α' (gs.map fun g=>Value.pointer (some ⟨g,0,none⟩)) .nilIface (fun v hv=>by cases hv) (by grind[zj6,List.length_map]) ⟨fun b e l=>by simp at l,fun b e l=>by simp at l,fun a b la=>by simp at la,fun a b e e' l=>by simp at l,fun a b e l=>by simp at l⟩ d.bd d.gl;refine TW.retD rfl (LV.ret3 (fun w2=>Ext z0x w' w2) (zc2 (vs:=[]) (z9i:=gs.map fun g=>Value.pointer (some ⟨g,0,none⟩)) K.ret.ent) (p.mono ?_) fun w2 x=>?_);·rintro e fm w2⟨rfl,k,U,r,q,rfl,hd⟩;have Z:k=[]:=hd.res;subst Z;exact⟨rfl,rfl,hd.ext.mono fun x _ J=>by rcases J with⟨b,D,_⟩|⟨b,D,_⟩<;>simp at D⟩
   ·have Q:=d.znx x;obtain⟨k,h4,h5⟩:=z73 (C:={P:=P,f:=f,fn:=fn,R:=zec i w O φ α (.ok vs B A),hf:=hf,lv:=true}) (n:=n) (hF:=hF) (hB:=hB) (g:=ovB φ 990 gs) ht I (fun b D=>a2 D (Q.keep b (by omega))) Q h2 N (by omega) t;grind
  ·rename_i v vs B A m;simp only[yb]at m;have e1:=ym m.1.1;have e2:=ym m.1.2;have e3:=yn m.2;subst e1;split at t
   ·rename_i T' b8 e;split at t
    ·rename_i W;simp only[yb]at W;have f1:=ym W.1;have f2:=z9s W.2;obtain⟨a4,b0⟩:=t;simp only[yb]at a4;obtain⟨⟨H,a3⟩,S⟩:=a4;obtain⟨_,H⟩:=zz03y H;intro V w' O' φ' α' u a1 a0 d h2 Q a ha F;have b5:∀j g,gs[j]?=some g→φ' (990+j)=g:=fun j g hg=>by have M:=(yf.1 hg).1;exact(d.keep (990+j) (by omega)).trans (zyq hg)
     have Y:∀j,j<gs.length→(rng gs.length 990)[j]?=some (990+j):=fun j M=>zm6.2 ⟨M,rfl⟩;have X:∀j,j<gs.length→(rng gs.length 990).getD j 0=990+j:=fun j M=>by grind
     have b2:(unB ts).length=gs.length:=by simp[unB,e2]
     have a6:Mm w' O' (fun j=>φ' ((rng gs.length 990).getD j 0)) (fun j=>α' (([]:List Nat).getD j 0)) (unB ts) []:=by
      refine⟨fun j x J=>?_,fun b e l=>by simp at l,fun a b la lb hn=>?_,fun a b e e' l=>by simp at l,fun a b e l=>by simp at l⟩
      ·have M:j<gs.length:=by have:=(yf.1 J).1;omega
       obtain⟨y,ee,k1,k2,k3,k4⟩:=H j _ (Y j M);have b3:x=⟨ee.1,zp4 ee.2⟩:=by simp only[unB,List.getElem?_map,k2,Option.map_some,Option.some.injEq]at J;exact J.symm
       subst b3;obtain⟨m1,a5,m2,m3⟩:=d.box _ y k1;simp only[X j M];refine⟨m1,a5,k3▸m2,?_⟩;have:=zj6 (w:=w') (O:=O') (φ:=fun j=>φ' ((rng gs.length 990).getD j 0)) (α:=fun j=>α' (([]:List Nat).getD j 0)) a5;rw[m3.len,k4]at this;exact this
      ·rw[b2]at la lb;obtain⟨y,_,k1,_⟩:=H a _ (Y a la);obtain⟨y',_,b4,_⟩:=H b _ (Y b lb);simp only[X a la,X b lb];exact d.bb _ _ y y' k1 b4 (by omega)
     have p:=(K.pan e).run w' O' (fun j=>φ' ((rng gs.length 990).getD j 0)) (fun j=>α' (([]:List Nat).getD j 0)) (gs.map fun g=>Value.pointer (some ⟨g,0,none⟩)) u fun v hv=>by grind (by
      have:=zyx (w:=w') (O:=O') (φ:=fun j=>φ' ((rng gs.length 990).getD j 0)) (α:=fun j=>α' (([]:List Nat).getD j 0)) gs 0 fun j g hg=>by grind
      grind) a6 d.bd d.gl;simp only[zo4,yb]at S;obtain⟨⟨⟨⟨⟨⟨r1,r2⟩,r3⟩,r4⟩,r5⟩,r6⟩,r7⟩:=S;have r2:=ym r2;have key:=LV.pan1 (C:={P:=P,f:=f,fn:=fn,R:=zec i w O φ α (.ok vs B A),hf:=hf,lv:=true}) (n:=n) (L:=V) (pv:=u) (fun w2=>∃k U r q,zjp ⟨ptrs ts.length 0,unB ts,[]⟩ w' O' (fun j=>φ' ((rng gs.length 990).getD j 0)) (fun j=>α' (([]:List Nat).getD j 0)) [] (B0 e) [] w2 k U r q) (zc2 (vs:=[]) (z9i:=gs.map fun g=>Value.pointer (some ⟨g,0,none⟩)) K.ret.ent) (p.mono (by rintro e fm w2⟨rfl,k,U,r,q,rfl,hd⟩;have Z:k=[]:=hd.res;subst Z;exact⟨rfl,rfl,_,U,r,q,hd⟩)) fun w2⟨k,U,r,q,hd⟩=>by obtain⟨O4,c2,c0,m1,m2,_,_⟩:=zlt (bs:=rng gs.length 990) (as_:=[]) (as_':=[]) (vs:=[]) (A:=[]) d d (fun _ h=>h) (fun _ h=>h) (fun b e l=>⟨e,l⟩) (fun b e l=>⟨e,l⟩) a3 rfl (by grind) rfl fun j b M D=>by grind (fun j b M=>by simp at M) r2 rfl r4 r5 r6 (by grind) hd (.inl fun x J=>hd.more x J);obtain⟨b9,h5,h6⟩:=z73 (C:={P:=P,f:=f,fn:=fn,R:=zec i w O φ α (.ok vs B A),hf:=hf,lv:=true}) (n:=n) (hF:=hF) (hB:=hB) (g:=ovB φ 990 gs) ht I (fun b D=>a2 D (m1.keep b (by omega))) m1 (fun x J=>m2 x (h2 x J)) N (by omega) b0;grind
     have:=key a ha F;unfold PN;rw[F];exact this
    grind
   grind
  grind
end
section
open Go.RowKit Go.Lk
section
variable{R A:Type}{W:R→Prop}{y:Option R}
theorem S.n{p:Prop}(h:S y W)(a:p:=by(repeat' first|exact rfl|exact trivial|apply And.intro)):S y fun r=>p∧W r:=S.an a h
theorem S.zr{a:R}(h:W a:=by exact rfl):S (some a) W:=S.z h
theorem S.q{a:R}(h:W a:=by exact⟨rfl,by(repeat' first|exact trivial|exact rfl|apply And.intro),by(repeat' first|exact trivial|exact rfl|apply And.intro),rfl⟩):S (some a) W:=S.z h
theorem S.qd{a:R}(h:W a:=by exact⟨rfl,rfl,by(repeat' first|exact trivial|exact rfl|apply And.intro),by(repeat' first|exact trivial|exact rfl|apply And.intro),rfl⟩):S (some a) W:=S.z h
theorem S.qb{a:R}(h:W a:=by exact⟨rfl,rfl,rfl,by(repeat' first|exact trivial|exact rfl|apply And.intro),trivial,rfl⟩):S (some a) W:=S.z h
theorem S.no:S (none:Option R) W:=fun _ h=>by cases h
theorem S.m{Y:Type}{f:Y→List D}{xs:List Y}{F:R→Int→Prop}(h:S y fun r=>F r (xs.length:Int)):S y fun r=>Ex (lenD (xs.map f)) (F r):=S.eq z1s h
theorem S.jq{B:R→St→Prop}{σ:St}{c:Cut}(h:S y fun r=>σ.zc8 c (B r)):S y fun r=>∃J:St→Prop,σ.zc8 c J∧∀s,J s→B r s:=fun r f=>by obtain⟨a,e,d⟩:=z8y (h r f);have b:a.frc fun s=>s=a:=St.z6k.mpr rfl;exact⟨fun s=>s=a,by unfold St.zc8;rw[e];exact b,fun s g=>g▸d⟩
theorem S.kk{con:Nat→CIn→z3y→Prop}{σ:St}{f:Nat}{args:List PV}{k:R→PV→St→Prop}{kp:R→PV→St→Prop}{z:Option A}{g:A→Option R}{i:CIn}{o:A→z3y}(bs as_ as_':List Nat)(e:∀a,z=some a→con f i (o a))(h:∀a,S (g a) fun r=>zpi bs as_ as_' i args σ (k r) (kp r) (o a))(b:nrm.go σ i.vs args=zci.go bs as_ i.vs:=by first|kernel_rfl|exact rfl)(h2:zaq σ bs as_ bs i.B:=by(repeat' first|exact trivial|exact rfl|apply And.intro))(c:zgt σ as_ i.A:=by(repeat' first|exact trivial|exact rfl|apply And.intro))(d:zjw σ bs as_ (zao.go i.vs args) i=true:=by first|kernel_rfl|exact rfl):S (z>>=g) fun r=>zky con σ f args (k r) (kp r):=S.k bs as_ as_' e b h2 c d h
theorem S.k0{con:Nat→CIn→z3y→Prop}{σ:St}{f:Nat}{args:List PV}{k:R→PV→St→Prop}{kp:R→PV→St→Prop}{z:Option A}{g:A→Option R}{i:CIn}{o:A→z3y}(e:∀a,z=some a→con f i (o a))(h:∀a,S (g a) fun r=>zpi [] [] [] i args σ (k r) (kp r) (o a))(b:nrm.go σ i.vs args=zci.go [] [] i.vs:=by first|kernel_rfl|exact rfl)(h2:zaq σ [] [] [] i.B:=by exact trivial)(c:zgt σ [] i.A:=by exact trivial)(d:zjw σ [] [] (zao.go i.vs args) i=true:=by first|kernel_rfl|exact rfl):S (z>>=g) fun r=>zky con σ f args (k r) (kp r):=S.k [] [] [] e b h2 c d h
section
variable{B:R→St→Prop}{A1 A2:R→(St→Prop)→Prop}{b:Bool}{s1 s2:St}
theorem S.ja{e:Bool}(t:Nat)(a:∀r,A1 r fun s=>∃x,s=s2.ub t x∧x=e)(hB:S y fun r=>B r (s2.ub t (b&&e)))(h2:s2=s2.ub t false:=by exact rfl):S y fun r=>∃J:St→Prop,cond b (A1 r J) (J s2)∧∀s,J s→B r s:=by cases b with|true=>exact S.jb (v:=e) (s2.ub t) a hB|false=>exact S.jb (v:=false) (s2.ub t) (fun _=>⟨false,h2,rfl⟩) hB
theorem S.ja0{e:Bool}(t:Nat)(a:s1=s2.ub t e)(hB:S y fun r=>B r (s2.ub t (b&&e)))(h2:s2=s2.ub t false:=by exact rfl):S y fun r=>∃J:St→Prop,cond b (J s1) (J s2)∧∀s,J s→B r s:=S.ja (A1:=fun _ J=>J s1) t (fun _=>⟨e,a,rfl⟩) hB h2
theorem S.ju{e:Bool}(t:Nat)(a:∀r,A2 r fun s=>∃x,s=s1.ub t x∧x=e)(hB:S y fun r=>B r (s1.ub t (b||e)))(h2:s1=s1.ub t true:=by exact rfl):S y fun r=>∃J:St→Prop,cond b (J s1) (A2 r J)∧∀s,J s→B r s:=by cases b with|true=>exact S.jb (v:=true) (s1.ub t) (fun _=>⟨true,h2,rfl⟩) hB|false=>exact S.jb (v:=e) (s1.ub t) a hB
theorem S.ju0{e:Bool}(t:Nat)(a:s2=s1.ub t e)(hB:S y fun r=>B r (s1.ub t (b||e)))(h2:s1=s1.ub t true:=by exact rfl):S y fun r=>∃J:St→Prop,cond b (J s1) (J s2)∧∀s,J s→B r s:=S.ju (A2:=fun _ J=>J s2) t (fun _=>⟨e,a,rfl⟩) hB h2
end
end
section
variable{R A X:Type}{f c:X→List D}{l l2:List (List D)}{xs ys:List X}
theorem S.ixf(f:X→List D){i:Int}{F:R→List D→Prop}{g:X→Option R}(h:∀x,S (g x) fun r=>F r (f x))(hl:l=xs.map f:=by exact rfl):S (Go.Lk.ix xs i>>=g) fun r=>Ex (Go.Lk.ix l i) (F r):=S.ix hl (fun _=>rfl) h
theorem S.ixm(a:∀x,f x=c x){i:Int}{F:R→List D→Prop}{g:X→Option R}(h:∀x,S (g x) fun r=>F r (c x))(hl:l=xs.map f:=by exact rfl):S (Go.Lk.ix xs i>>=g) fun r=>Ex (Go.Lk.ix l i) (F r):=S.ix hl a h
theorem S.ixs{E:List X→List (List D)}(a:∀l,E l=l.map f)(b:∀x,f x=c x){i:Int}{F:R→List D→Prop}{g:X→Option R}(h:∀x,S (g x) fun r=>F r (c x))(hl:l=E xs:=by exact rfl):S (Go.Lk.ix xs i>>=g) fun r=>Ex (Go.Lk.ix l i) (F r):=S.ixE a hl b h
theorem S.zvi(f:X→List D){i j:Int}{F:R→List (List D)→Prop}{g:List X→Option R}(h:∀x,S (g x) fun r=>F r (x.map f))(hl:l=xs.map f:=by exact rfl):S (Go.Lk.sub xs i j>>=g) fun r=>Ex (Go.Lk.sub l i j) (F r):=S.sub hl h
theorem S.z7e(f:X→List D){n:Nat}{F:R→List (List D)→Prop}{g:List X→Option R}(h:∀x,S (g x) fun r=>F r (x.map f))(a:l2=ys.map f:=by exact rfl)(hl:l=xs.map f:=by exact rfl):S (Go.Lk.app n xs ys>>=g) fun r=>Ex (Go.Lk.app n l l2) (F r):=S.app hl a h
theorem S.apps{E:List X→List (List D)}(b:∀l,E l=l.map f){n:Nat}{F:R→List (List D)→Prop}{g:List X→Option R}(h:∀x,S (g x) fun r=>F r (E x))(a:l2=E ys:=by exact rfl)(hl:l=E xs:=by exact rfl):S (Go.Lk.app n xs ys>>=g) fun r=>Ex (Go.Lk.app n l l2) (F r):=S.appE b hl a h
theorem S.d{a:R→List UInt8→Prop}{y:Option R}{xs:List Int}(h:S y fun r=>a r (byt xs))(hl:l=xs.map (eI .u8):=by exact rfl):S y fun r=>Ex (Go.Pe.dby l) (a r):=S.dby hl h
end
section
variable{tb:Tb}{cty:List (Nat×List (Option (Nat×Nat)))}{ann:Ann}{con:Nat→CIn→z3y→Prop}{R X:Type}
theorem S.gn{a:Code}{σ:St}{c:Cut}{k:R→z9e→St→Prop}{B:R→St→Prop}{z:Option (Jn R X)}{m:Jn R X→Option R}(b:X→Ov)(d:S z fun j=>ex tb cty ann con a σ (zmm (fun s=>s.zc8 c (jG (fun x=>ovS σ c (b x)) j)) (kD k (fun _ _=>False) j)))(hB:∀x,S (m (.go x)) fun r=>B r (ovS σ c (b x)))(hd:∀r,m (.done r)=some r:=by exact fun _=>rfl):S (z>>=m) fun r=>∃J:St→Prop,ex tb cty ann con a σ (zmm (fun s=>s.zc8 c J) (k r))∧∀s,J s→B r s:=S.jn (fun x=>ovS σ c (b x)) d hd hB
theorem S.hn{a:Code}{σ:St}{c:Cut}{k:R→z9e→St→Prop}{B:R→St→Prop}{z:Option X}{m:X→Option R}(b:X→Ov)(d:∀r,S z fun x=>ex tb cty ann con a σ (zmm (fun s=>s.zc8 c fun s=>s=ovS σ c (b x)) (k r)))(hB:∀x,S (m x) fun r=>B r (ovS σ c (b x))):S (z>>=m) fun r=>∃J:St→Prop,ex tb cty ann con a σ (zmm (fun s=>s.zc8 c J) (k r))∧∀s,J s→B r s:=S.j (A':=fun r J=>ex tb cty ann con a σ (zmm (fun s=>s.zc8 c J) (k r))) (fun x=>ovS σ c (b x)) d hB
theorem S.ho{ops:Array Oper}{os:List Oper}{σ:St}{c:Cut}{kp:R→PV→St→Prop}{B:R→St→Prop}{z:Option X}{m:X→Option R}(a:X→Ov)(b:∀r,S z fun x=>zh9 tb cty ann con ops (kp r) (fun s=>s.zc8 c fun s=>s=ovS σ c (a x)) os σ)(hB:∀x,S (m x) fun r=>B r (ovS σ c (a x))):S (z>>=m) fun r=>∃J:St→Prop,zh9 tb cty ann con ops (kp r) (fun s=>s.zc8 c J) os σ∧∀s,J s→B r s:=S.j (A':=fun r J=>zh9 tb cty ann con ops (kp r) (fun s=>s.zc8 c J) os σ) (fun x=>ovS σ c (a x)) b hB
theorem S.hd{ops:Array Oper}{cs:List (Nat×Cut)}{g:Gt}{qs:List Nat}{σ:St}{c:Cut}{kp:R→PV→St→Prop}{B:R→St→Prop}{z:Option X}{m:X→Option R}(a:X→Ov)(b:∀r,S z fun x=>zfa tb cty ann con ops cs (kp r) (fun s=>s.zc8 c fun s=>s=ovS σ c (a x)) g qs σ)(hB:∀x,S (m x) fun r=>B r (ovS σ c (a x))):S (z>>=m) fun r=>∃J:St→Prop,zfa tb cty ann con ops cs (kp r) (fun s=>s.zc8 c J) g qs σ∧∀s,J s→B r s:=S.j (A':=fun r J=>zfa tb cty ann con ops cs (kp r) (fun s=>s.zc8 c J) g qs σ) (fun x=>ovS σ c (a x)) b hB
theorem S.hl{ops:Array Oper}{its:List It}{dn:List (Nat×Bool)}{σ:St}{c:Cut}{kp:R→PV→St→Prop}{B:R→St→Prop}{z:Option X}{m:X→Option R}(a:X→Ov)(b:∀r,S z fun x=>zjb tb cty ann con ops (kp r) (fun s _=>s.zc8 c fun s=>s=ovS σ c (a x)) its σ dn)(hB:∀x,S (m x) fun r=>B r (ovS σ c (a x))):S (z>>=m) fun r=>∃J:St→Prop,zjb tb cty ann con ops (kp r) (fun s _=>s.zc8 c J) its σ dn∧∀s,J s→B r s:=S.j (A':=fun r J=>zjb tb cty ann con ops (kp r) (fun s _=>s.zc8 c J) its σ dn) (fun x=>ovS σ c (a x)) b hB
end
@[reducible]def cu(L B A:List Nat):Cut:={L:=L,B:=B,A:=A}
@[reducible]def c1(L:List Nat):Cut:={L:=L}
@[reducible]def oL(L:List (Nat×PV)):Ov:=⟨L,[],[]⟩
@[reducible]def oB(L:List (Nat×PV))(B:List (Nat×Bx)):Ov:=⟨L,B,[]⟩
@[reducible]def st(L:List (Nat×PV)):St:=⟨L,[],[],none⟩
@[reducible]def sb(L:List (Nat×PV))(B:List (Nat×Bx)):St:=⟨L,B,[],none⟩
@[reducible]def PV.i(x:Int):PV:=.int .i64 x
@[reducible]def PV.b(x:Bool):PV:=.bool x
@[reducible]def PV.s(x:List UInt8):PV:=.str x
@[reducible]def PV.p(b:Nat):PV:=.ptr b 0
@[reducible]def ro{α:Type}(T:Nat)(k:IntKind)(o:α→z3y):Rs α→z3y|.ok r=>o r|.pan e=>.pan (.iface T (.agg [.int k e]))
@[reducible]def rb{α β:Type}(T:Nat)(k:IntKind)(o:α→z3y)(p:β→List Bx):Rb α β→z3y|.ok r=>o r|.pan e x=>.zjk (.iface T (.agg [.int k e])) (p x)
@[reducible]def pn(b c:Nat):PV:=match yk c 1000000 with|true=>.zg7|false=>.ptr b c
theorem Con.oE{P:Program}{G:GI}{tb:Tb}{cty:List (Nat×List (Option (Nat×Nat)))}{α:Type}{y:Option α}{f:Nat}{fn:Func}{i:CIn}{o:α→z3y}{fc:Nat}{ts:List (Nat×Nat)}{T:Nat}{ik:IntKind}{B0:Int→List Bx}(c:zgq P G fc ts T ik B0)(l:TbG P tb G)(hf:P.funcs[f]?=some fn)(ann:Ann)(res:List ResultVar)(m:S y fun r=>exE tb cty ann (Con P G) (fin tb ann res (o r)) (finE tb ann res (o r) fc ts T ik B0) (z2l fn) (entry i))(h:okC ann fn.ntmps (z2l fn)=true)(j:fn.body=some (z2l fn))(ent:∀args w,(callFunc f args).run P w=.ok (.enter f args) w)(e:z3v fn (z2l fn)=true)(b:fn.results=res.toArray)(g:yk f NF=false)(hl:yl i.vs.length fn.ntmps=true)(d:ann.nb=i.B.length)(a:yl i.B.length 900=true):S y fun r=>Con P G f i (o r):=fun r k=>Con.ofE c l ent g hf j rfl b h e hl d a (m r k)
theorem Con.oS{P:Program}{G:GI}{tb:Tb}{cty:List (Nat×List (Option (Nat×Nat)))}{α:Type}{y:Option α}{f:Nat}{fn:Func}{i:CIn}{o:α→z3y}(j:TbG P tb G)(hf:P.funcs[f]?=some fn)(ann:Ann)(res:List ResultVar)(k:S y fun r=>ex tb cty ann (Con P G) (z2l fn) (entry i) (fin tb ann res (o r)))(e:okC ann fn.ntmps (z2l fn)=true)(g:fn.body=some (z2l fn))(ent:∀args w,(callFunc f args).run P w=.ok (.enter f args) w)(b:fn.results=res.toArray)(d:yk f NF=false)(hl:yl i.vs.length fn.ntmps=true)(c:ann.nb=i.B.length)(a:yl i.B.length 1000=true):S y fun r=>Con P G f i (o r):=fun r h=>Con.of j ent d hf g rfl b e hl c a (k r h)
theorem Con.oD{P:Program}{G:GI}{tb:Tb}{cty:List (Nat×List (Option (Nat×Nat)))}{α:Type}{y:Option α}{f:Nat}{fn:Func}{i:CIn}{o:α→z3y}{fc T:Nat}{ik:IntKind}{Te:Nat}(c:zmn P fc T ik Te)(l:TbG P tb G)(hf:P.funcs[f]?=some fn)(ann:Ann)(res:List ResultVar)(m:S y fun r=>exD tb cty ann (Con P G) (fin tb ann res (o r)) (finD tb ann res (o r) fc T ik Te) (z2l fn) (entry i))(h:okC ann fn.ntmps (z2l fn)=true)(j:fn.body=some (z2l fn))(ent:∀args w,(callFunc f args).run P w=.ok (.enter f args) w)(e:z3v fn (z2l fn)=true)(b:fn.results=res.toArray)(g:yk f NF=false)(hl:yl i.vs.length fn.ntmps=true)(d:ann.nb=i.B.length)(a:yl i.B.length 900=true):S y fun r=>Con P G f i (o r):=fun r k=>Con.ofD c l ent g hf j rfl b h e hl d a (m r k)
end
section
set_option linter.unusedVariables false
open Go.RowKit Go.Lk Go.Proofs Go.Shelf
variable{P:Program}{ρ:Ren}
theorem VRs.str{w:World}{O:Nat→Prop}{φ:Nat→Nat}{α:Nat→Value}{a:List UInt8}{vs:List PV}{us:List Value}(h:VRs w O φ α (.str a::vs) us):∃b,us=.string ⟨a.toArray⟩::b∧VRs w O φ α vs b:=by obtain⟨u,b,rfl,c,h2⟩:=h;simp only[VR]at c;exact⟨b,by rw[c],h2⟩
theorem VRs.int{w:World}{O:Nat→Prop}{φ:Nat→Nat}{α:Nat→Value}{k:IntKind}{a:Int}{vs:List PV}{us:List Value}(h:VRs w O φ α (.int k a::vs) us):∃b,us=.int k a::b∧VRs w O φ α vs b:=by obtain⟨u,b,rfl,c,h2⟩:=h;simp only[VR]at c;exact⟨b,by rw[c],h2⟩
theorem VRs.nil{w:World}{O:Nat→Prop}{φ:Nat→Nat}{α:Nat→Value}{us:List Value}(h:VRs w O φ α [] us):us=[]:=h
theorem VRs.gStr{w:World}{O:Nat→Prop}{φ:Nat→Nat}{α:Nat→Value}(a:List UInt8):VRs w O φ α [.str a] [.string ⟨a.toArray⟩]:=⟨_,[],rfl,rfl,rfl⟩
theorem VRs.gInt{w:World}{O:Nat→Prop}{φ:Nat→Nat}{α:Nat→Value}(k:IntKind)(a:Int):VRs w O φ α [.int k a] [.int k a]:=⟨_,[],rfl,rfl,rfl⟩
theorem VRs.zx6{w:World}{O:Nat→Prop}{φ:Nat→Nat}{α:Nat→Value}(a:Bool):VRs w O φ α [.bool a] [.bool a]:=⟨_,[],rfl,rfl,rfl⟩
theorem Ext.bytes(w:World)(T:TypeId)(t:ByteArray):Ext z0x w (Lib.bytesWorld w T t):=by
 refine⟨?_,?_,?_,?_,fun b a _=>Lib.bytesWorld_at_old w T _ b a⟩;·simp only[Lib.bytesWorld,World.freeze];split<;>rfl
 ·simp only[Lib.bytesWorld,World.freeze];split<;>rfl
 ·simp only[Lib.bytesWorld,World.freeze];split<;>rfl
 ·rw[Lib.bytesWorld_size];omega
theorem Con.lib{G:GI}{f:Nat}{vs rs:List PV}(ent:∀args w,(callFunc f args).run P w=.ok (.enter f args) w)(h:∀w O φ α us,VRs w O φ α vs us→Bd O w→G.p w O→Calls P f us.toArray w fun e w'=>∃d,e=.returned (retU d)∧(∀O' φ' α',VRs w' O' φ' α' rs d)∧Ext z0x w w')(l:yk f NF=false:=by exact rfl):Con P G f ⟨vs,[],[]⟩ (.ok rs [] []):=by
 refine⟨ent,l,fun w O φ α us m o hB hG=>(h w O φ α us m hB hG).mono fun e w'⟨d,i,h2,j⟩=>?_⟩;have tr:Tr O w O w':=Tr.z6e j fun _ _ c=>c.elim;refine⟨d,O,φ,α,i,h2 O φ α,⟨fun b e g=>?_,fun a e g=>?_,fun a b n _ _=>?_,fun a b e e' k _ _=>?_,fun a b e k _=>?_⟩,fun _ _=>rfl,Nat.le_refl _,fun x c=>yp (hB x c) j.size,tr,fun _ c=>c,fun _ c=>.inl c,j.mono fun _ _ c=>c.elim,fun b i _=>?_,fun a e x g _=>?_⟩;·simp at g
 ·simp at g
 ·exact absurd n (yr _)
 ·simp at k
 ·simp at k
 ·exact absurd i (yr _)
 ·simp at g
theorem Ext.freeze(F:Nat→Prop)(w:World)(g n:Nat)(hF:F g):Ext F w (w.freeze ⟨g,0,none⟩ n):=by
 unfold World.freeze;split;·exact Ext.refl _ _
 ·refine⟨rfl,rfl,rfl,by simp,fun b a hf=>?_⟩;simp only[Array.getElem?_modify];rw[if_neg fun h:g=b=>hf (h▸hF)]
set_option maxHeartbeats 2000000 in
set_option maxRecDepth 100000 in
theorem zj8(L:Lays.n169 P ρ)(X:Builder.Extra P ρ)(b:Nat)(p v:Value)(l:List UInt8)(w:World)(hbk:w.heap[b]?=some (.cells #[p,v] (ρ.t 72) (0,0)))(hA:Lib.BuilderAtF (ρ.t 72) (ρ.t 5) 0 b p (Lib.byteCells l) w):Calls P (ρ.f 169) #[.pointer (some ⟨b,0,none⟩)] w fun e w'=>e=.returned (.string ⟨l.toArray⟩)∧Lib.BuilderAtF (ρ.t 72) (ρ.t 5) 0 b p (Lib.byteCells l) w'∧Ext (fun x=>v.ownBlock=some x) w w':=by
 have hblt:b<w.heap.size:=by
  rcases Nat.lt_or_ge b w.heap.size with h'|h';·exact h'
  ·simp[Array.getElem?_eq_none h']at hbk
 obtain⟨hB,v',hbk',hown,hne⟩:=id hA;rw[hbk]at hbk';have ev:v=v':=by simpa using hbk'
 subst ev;rw[Lib.byteCells_length]at hown;have mixed:=L.mixed;have t72:=L.t72;have a72:=L.a72;have z72:=L.z72;have v72:=L.v72;have u72:=run_underlying L.t72;have t70:=L.t70;have a70:=L.a70;have z70:=L.z70;have v70:=L.v70;have u70:=run_underlying L.t70;have t37:=L.t37;have a37:=L.a37;have z37:=L.z37;have v37:=L.v37;have u37:=run_underlying L.t37;have t127:=L.t127;have a127:=L.a127;have z127:=L.z127;have v127:=L.v127;have u127:=run_underlying L.t127;have t3:=L.t3;have a3:=L.a3;have z3:=L.z3;have v3:=L.v3;have u3:=run_underlying L.t3;have t9:=L.t9;have a9:=L.a9;have z9:=L.z9;have v9:=L.v9;have u9:=run_underlying L.t9;have t5:=X.t5;have a5:=X.a5;have z5:=X.z5;have v5:=X.v5;have u5:=run_underlying X.t5;rcases hown.2 with⟨rfl,hz⟩|⟨g,cap,cur,fz,rfl,hbg,hg,hfz,hnc,hcm,hcs,htake⟩
 ·obtain rfl:=ye hz;have hUS:=Any.unsafeString_none L X;have c1:w.drew.cell? ⟨b,1,none⟩=some (.slice none 0 0):=by have:w.drew.heap[b]?=some (.cells #[p,.slice none 0 0] (ρ.t 72) (0,0)):=hbk;rw[Lib.cell_of_heap this];rfl
  have hSD:(Builtin.unsafeSliceData_ #[ρ.t 37] (ρ.t 127) #[.slice none 0 0]).run P w.drew=.ok (.pointer none) w.drew:=rfl;go_enter L.f169,Body.n169_ntmps ρ;go_wp2;go_region_o;all_goals(go_wp2;go_ret;exact⟨rfl,hA.drew,Ext.drew _ _⟩)
 ·by_cases hl0:l=[]
  ·subst hl0;by_cases hc0:cap=0
   ·subst hc0;have hUS:=Any.unsafeString_none L X;have c1:w.drew.cell? ⟨b,1,none⟩=some (.slice (some ⟨g,0,none⟩) 0 0):=by have:w.drew.heap[b]?=some (.cells #[p,.slice (some ⟨g,0,none⟩) 0 0] (ρ.t 72) (0,0)):=hbk;rw[Lib.cell_of_heap this];rfl
    have hSD:(Builtin.unsafeSliceData_ #[ρ.t 37] (ρ.t 127) #[.slice (some ⟨g,0,none⟩) 0 0]).run P w.drew=.ok (.pointer (some ⟨w.drew.heap.size,0,none⟩)) (w.drew.alloc (.view ⟨g,0,none⟩ (ρ.t 5))):=Lib.run_unsafeSliceData_zero w.drew _ _ (ρ.t 5) L.t127 ⟨g,0,none⟩ 0 (ρ.t 5,cur.size) (by have hg':w.drew.heap[g]?=some (.cells cur (ρ.t 5) fz):=hg;simp[World.shape?,hg']);have c2:(w.drew.alloc (.view ⟨g,0,none⟩ (ρ.t 5))).cell? ⟨b,1,none⟩=some (.slice (some ⟨g,0,none⟩) 0 0):=by have:(w.drew.alloc (.view ⟨g,0,none⟩ (ρ.t 5))).heap[b]?=_:=(Lib.alloc_old w.drew _ b hblt).trans hbk;rw[Lib.cell_of_heap this];rfl
    have c3:(w.alloc (.view ⟨g,0,none⟩ (ρ.t 5))).drew.cell? ⟨b,1,none⟩=some (.slice (some ⟨g,0,none⟩) 0 0):=c2;have c0:w.cell? ⟨b,1,none⟩=some (.slice (some ⟨g,0,none⟩) 0 0):=c1;go_enter L.f169,Body.n169_ntmps ρ;go_wp2;go_region_o;all_goals(go_wp2;go_ret;exact⟨rfl,hA.drew.alloc _,(Ext.drew _ w).trans (Ext.alloc _ _ _)⟩)
   ·have hUS:=Any.unsafeString_none L X;have c1:w.drew.cell? ⟨b,1,none⟩=some (.slice (some ⟨g,0,none⟩) 0 cap):=by have:w.drew.heap[b]?=some (.cells #[p,.slice (some ⟨g,0,none⟩) 0 cap] (ρ.t 72) (0,0)):=hbk;rw[Lib.cell_of_heap this];rfl
    have hSD:(Builtin.unsafeSliceData_ #[ρ.t 37] (ρ.t 127) #[.slice (some ⟨g,0,none⟩) 0 cap]).run P w.drew=.ok (.pointer (some ⟨g,0,none⟩)) w.drew:=Lib.run_unsafeSliceData_row _ _ _ _ _ _ hc0;clear hc0;go_enter L.f169,Body.n169_ntmps ρ;go_wp2;go_region_o;all_goals(go_wp2;go_ret;exact⟨rfl,hA.drew,Ext.drew _ _⟩)
  ·have hl1:l.length≠0:=fun h=>hl0 (ye h);have c1:w.drew.cell? ⟨b,1,none⟩=some (.slice (some ⟨g,0,none⟩) l.length cap):=by have:w.drew.heap[b]?=some (.cells #[p,.slice (some ⟨g,0,none⟩) l.length cap] (ρ.t 72) (0,0)):=hbk;rw[Lib.cell_of_heap this];rfl
   have hSD:(Builtin.unsafeSliceData_ #[ρ.t 37] (ρ.t 127) #[.slice (some ⟨g,0,none⟩) l.length cap]).run P w.drew=.ok (.pointer (some ⟨g,0,none⟩)) w.drew:=Lib.run_unsafeSliceData_row _ _ _ _ _ _ (by omega);have hUS:(Builtin.unsafeString_ #[ρ.t 127,ρ.t 3] (ρ.t 9) #[.pointer (some ⟨g,0,none⟩),.int .i64 l.length]).run P w.drew=.ok (.string ⟨l.toArray⟩) (w.drew.freeze ⟨g,0,none⟩ l.length):=by refine Lib.run_unsafeString_row w.drew (ρ.t 127) (ρ.t 3) (ρ.t 9) (ρ.t 5) L.t127 X.cellsByte g cur.size (by have hg':w.drew.heap[g]?=some (.cells cur (ρ.t 5) fz):=hg;simp[World.shape?,hg']) l hl0 (by omega) (by unfold maxLen at hcm;omega) ?_;intro j x hx;have:=hown.cells (g:=g) rfl j (.int .u8 x.toNat) (by simp[Lib.byteCells,hx]);exact this
   have hkeep:Lib.BuilderAtF (ρ.t 72) (ρ.t 5) 0 b p (Lib.byteCells l) (w.drew.freeze ⟨g,0,none⟩ l.length):=by have hF:=hA.drew.froze (g:=g) (cap:=cap) (by rw[Lib.byteCells_length];exact c1);rw[Lib.byteCells_length]at hF;exact hF
   have hx:Ext (fun x=>(Value.slice (some ⟨g,0,none⟩) l.length cap).ownBlock=some x) w (w.drew.freeze ⟨g,0,none⟩ l.length):=(Ext.drew _ w).trans (Ext.freeze _ _ _ _ rfl);go_enter L.f169,Body.n169_ntmps ρ;go_wp2;go_region_o;all_goals(go_wp2;go_ret;exact⟨rfl,hkeep,hx⟩)
theorem RDl.ints{w:World}{O:Nat→Prop}{k:IntKind}:∀(xs:List Int)(cs:List Value),RDl w O 1 (xs.map (eI k)) cs→cs.take xs.length=xs.map (Value.int k)|[],cs,_=>by simp|x::xs,cs,h=>by obtain⟨d,h2⟩:=h;obtain⟨v,vs,a,b,e⟩:=d;cases cs with|nil=>simp at a|cons c r=>simp at a;simp only[RD]at b;have:=RDl.ints xs r (by simpa using h2);simp[this,a.1,b]
theorem RDl.zz04q{w:World}{O:Nat→Prop}{k:IntKind}:∀(xs:List Int),RDl w O 1 (xs.map (eI k)) (xs.map (Value.int k))|[]=>trivial|x::xs=>⟨⟨_,[],rfl,rfl,rfl⟩,by simpa using RDl.zz04q xs⟩
theorem zda{xs:List Int}(h:unb (byt xs)=xs):Lib.byteCells (byt xs)=xs.map (Value.int .u8):=by
 conv=>rhs;rw[←h]
 simp[Lib.byteCells,unb]
theorem Con.string{G:GI}(L:Lays.n169 P ρ)(X:Builder.Extra P ρ)(ent:∀args w,(callFunc (ρ.f 169) args).run P w=.ok (.enter (ρ.f 169) args) w)(s:ρ.t 5<1000000)(m:ρ.t 72<1000000){l:Nat}(D:l=ρ.t 5∨l=1000000+ρ.t 5)(xs:List Int)(c:unb (byt xs)=xs)(F:yk (ρ.f 169) NF=false:=by exact rfl):Con P G (ρ.f 169) ⟨[.ptr 0 0],[⟨ρ.t 72,[.z1e 0,.ref 0]⟩],[(l,1,xs.map (eI .u8))]⟩ (.ok [.str (byt xs)] [⟨ρ.t 72,[.z1e 0,.ref 0]⟩] [some (1000000+ρ.t 5,1,xs.map (eI .u8))]):=by
 refine⟨ent,F,fun w O φ α us z o hB hG=>?_⟩;obtain⟨u,K,rfl,Q,j⟩:=z;have j:K=[]:=j;subst j;simp only[VR]at Q;subst Q;obtain⟨T,us,d,p,Z,rfl,N,v,M,rfl,z,i⟩:=o.box 0 _ rfl;have i:M=[]:=i;subst i;simp only[VR]at N z;have d:=d.un m;obtain⟨rfl,q⟩:=z;have H:za8 w O l 1 (α 0) (xs.map (eI .u8)):=o.arr 0 _ rfl;have I:OwnZ w O (ρ.t 5) 1 (α 0) (xs.map (eI .u8)):=by
  rcases H with⟨k0,cs,k1,r⟩|⟨k1,_,r⟩|⟨k1,_⟩
  ·rcases D with rfl|rfl;·exact⟨cs,World.ownsRowF_of k1,r⟩
   ·exact absurd (Nat.lt_of_le_of_lt (Nat.le_add_right 1000000 (ρ.t 5)) k0) (yo _)
  ·rcases D with rfl|rfl;·exact absurd (yp s k1) (yo _)
   ·rwa[yj]at r
  ·rcases D with rfl|rfl;·exact absurd (yp s (Nat.le_trans (by decide:1000000≤2000000) k1)) (yo _)
   ·exact absurd (yp (yi s 1000000) k1) (yo _)
 obtain⟨cs,k1,r,k3,R⟩:=I;have A:cs=Lib.byteCells (byt xs):=by
  have:=RDl.ints xs cs r;have hl:cs.length=xs.length:=by simpa using k1.1
  rw[zda c,←this,List.take_of_length_le (by omega)]
 have V:(byt xs).length=xs.length:=by have:=congrArg List.length c;simpa[unb]using this
 have n:(xs.map (eI .u8)).length=(Lib.byteCells (byt xs)).length:=by simp[V,Lib.byteCells]
 have S:Lib.BuilderAtF (ρ.t 72) (ρ.t 5) 0 (φ 0) p (Lib.byteCells (byt xs)) w:=by refine⟨Nat.zero_le _,α 0,d,?_,o.ab 0 0 _ rfl yt⟩;rw[←n];rw[A]at k1;exact k1
 refine(zj8 L X (φ 0) p (α 0) (byt xs) w d S).mono fun e w'⟨B,h2,i⟩=>?_;have C:∀x,(α 0).ownBlock=some x→FI ⟨[.ptr 0 0],[⟨ρ.t 72,[.z1e 0,.ref 0]⟩],[(l,1,xs.map (eI .u8))]⟩ φ α x:=fun x c=>.inr ⟨0,by simp,c⟩;have tr:Tr O w O w':=Tr.z6e i fun x _ c=>R x c;have g:z2z w' (φ 0) (ρ.t 72) [p,α 0]:=d.keep i (o.ab 0 0 _ rfl yt);have own':za8 w' O (1000000+ρ.t 5) 1 (α 0) (xs.map (eI .u8)):=by
  refine .inr (.inl ⟨by omega,yi s 1000000,?_⟩);rw[yj];obtain⟨_,v',W,Y,_⟩:=h2;have k:z2z w' (φ 0) (ρ.t 72) [p,v']:=W;have:α 0=v':=by unfold z2z at g k;rw[g]at k;simpa using k
  subst this;refine⟨_,by rw[n];exact Y,by rw[zda c];exact RDl.zz04q xs,by simp[Lib.byteCells,Value.oneCell'],R⟩
 refine⟨[.string ⟨(byt xs).toArray⟩],O,φ,α,B,⟨_,[],rfl,rfl,rfl⟩,⟨fun b e h=>?_,fun a e h=>?_,fun a b U J hn=>?_,fun a b e e' y E hn=>?_,fun a b e y E=>?_⟩,fun _ _=>rfl,Nat.le_refl _,fun x c=>yp (hB x c) i.size,tr,fun _ c=>c,fun _ c=>.inl c,i.mono fun x _ c=>C x c,fun b B h2=>?_,fun a e x h c=>?_⟩;·match b,h with|0,h=>cases h;exact⟨T,_,.inl ⟨m,g⟩,p,_,rfl,N,_,[],rfl,⟨rfl,q⟩,rfl⟩
 ·match a,h with|0,h=>cases h;exact own'
 ·simp at U J;omega
 ·match a,b,y,E with|0,0,_,_=>exact(hn rfl).elim
 ·match a,y with
  |0,y=>
   have:b=0:=by simpa using E
   subst this;exact o.ab 0 0 _ rfl yt
 ·simp at B h2;omega
 ·match a,h with|0,h=>exact .inl ⟨0,by simp,c⟩
end
section
open Go.RowKit Go.Lk
structure Nd where
 alts:List (Nat×Nat×List Nat×List Nat)dn:List (Nat×Bool)rem:List Nat          --those that have not acted yet
 wai:List Nat
structure Dg where
 anc:List Nat
 E:List Nat
 qs:List Nat
 c:Cut
 nds:List Nd
def mkG(gs:List Gt):List (Nat×Nat×List Nat×List Nat)→Gt|[]=>.fin|(e,i,kp,qs)::r=>match r with|[]=>.one e kp qs (gs[i]?.getD .fin)|_=>.alt e kp qs (gs[i]?.getD .fin) (mkG gs r)
def zbk:List Nd→List Gt→List Gt|[],gs=>gs|n::r,gs=>zbk r (gs++[mkG gs n.alts])
def Dg.gs(d:Dg):List Gt:=zbk d.nds []
def Dg.dn(d:Dg)(i:Nat):List (Nat×Bool):=match nthO d.nds i with|some n=>n.dn|none=>[]
def zcq(a b:List (Nat×Bool)):Bool:=a.all fun p=>b.any fun q=>yk p.1 q.1&&p.2==q.2
def dro{β:Type}(d:List Nat)(n:List (Nat×β)):List (Nat×β)→List (Nat×β)|[]=>[]|(x,v)::r=>match d.any (yk x)with|true=>dro d n r|false=>match lk n x with|some u=>(x,u)::dro d n r|none=>(x,v)::dro d n r
def St.le(σ:St)(b dB a:List Nat)(v:Ov):St:=⟨dro b v.L σ.L,dro dB v.B σ.B,dro a v.A σ.A,none⟩
def zsg(tb:Tb)(cty:List (Nat×List (Option (Nat×Nat))))(ann:Ann)(con:Nat→CIn→z3y→Prop)(ops:Array Oper)(d:Dg)(Sg:Nat→St)(kp:PV→St→Prop)(m:Nat):List (Nat×Nat×List Nat×List Nat)→Prop|[]=>True|(e,j,kpl,f)::r=>(match zyp ops e with|some o=>(Sg m).frc fun σ=>exo tb cty ann con ops σ o (fun g=>zsj tb ops f g (z3z kpl (d.dn m)) fun b a=>ze5 tb ops b (z3z kpl (d.dn m))∧(zcq a (d.dn j)&&zcq (d.dn j) a)=true∧wt (b.cut d.c) fun s=>s=Sg j) kp|none=>False)∧zsg tb cty ann con ops d Sg kp m r
def zwt(tb:Tb)(cty:List (Nat×List (Option (Nat×Nat))))(ann:Ann)(con:Nat→CIn→z3y→Prop)(ops:Array Oper)(d:Dg)(Sg:Nat→St)(kp:PV→St→Prop):Nat→List Nd→Prop|_,[]=>True|m,n::r=>zsg tb cty ann con ops d Sg kp m n.alts∧zwt tb cty ann con ops d Sg kp (m+1) r
def exdag(tb:Tb)(cty:List (Nat×List (Option (Nat×Nat))))(ann:Ann)(con:Nat→CIn→z3y→Prop)(ops:Array Oper)(kp:PV→St→Prop)(k:St→Prop)(d:Dg)(σ:St):Prop:=∃Sg:Nat→St,(zsj tb ops d.qs σ [] fun b a=>ze5 tb ops b []∧(zcq a (d.dn (d.nds.length-1))&&zcq (d.dn (d.nds.length-1)) a)=true∧wt (b.cut d.c) fun s=>s=Sg (d.nds.length-1))∧zwt tb cty ann con ops d Sg kp 0 d.nds∧(Sg 0).frc k
def Nd.done(n:Nd):List Nat:=n.dn.map (·.1)
def zoo(a b:List Nat):Bool:=a.all (b.contains ·)&&b.all (a.contains ·)
def covH(anc:Anc)(rem wai a:List Nat):Bool:=wai.all (fun q=>rem.any fun e=>behind anc q e)&&rem.all fun i=>a.contains i||rem.any fun j=>behind anc i j
def zuy(ops:Array Oper)(d:Dg)(i:Nat)(n:Nd)(a:Nat×Nat×List Nat×List Nat):Bool:=Nat.blt a.2.1 i&&z7d d.anc n.rem n.wai n.done a.1 a.2.2.1 a.2.2.2&&clrN ops a.1 a.2.2.1 a.2.2.2 n.done&&match nthO d.nds a.2.1 with|some m=>covH d.anc (z0p n.rem [a.1]) (z0p n.wai a.2.2.2) (m.alts.map (·.1))&&zoo (z0p n.rem [a.1]) m.rem&&zoo (z0p n.wai a.2.2.2) m.wai&&zoo (a.2.2.1++a.2.2.2) m.done|none=>false
def zqm(ops:Array Oper)(d:Dg):List Nd→Nat→Bool|[],_=>true|n::r,i=>n.alts.all (zuy ops d i n)&&(if yk i 0 then n.alts.isEmpty else !n.alts.isEmpty)&&zqm ops d r (i+1)
def okPre(ops:Array Oper)(anc:Anc)(n:Nat)(E qs:List Nat):Bool:=okLow ops&&zyo ops anc&&zz04r ops anc (z4r ops E)&&Region.noSelect ops&&okDst ops n (z4r ops E) E&&E.all (·<ops.size)&&qs.all ((z4r ops E).contains ·)
def okD(ops:Array Oper)(d:Dg)(n:Nat):Bool:=okPre ops d.anc n d.E d.qs&&zpk ops d.qs []&&zqm ops d d.nds 0&&match nthO d.nds (d.nds.length-1)with|some m=>covH d.anc d.E (z0p (z4r ops d.E) d.qs) (m.alts.map (·.1))&&zoo d.E m.rem&&zoo (z0p (z4r ops d.E) d.qs) m.wai&&zoo d.qs m.done|none=>false
theorem z99{a b:List Nat}(h:zoo a b=true)(x:Nat):x∈a↔x∈b:=by simp only[zoo,yb,yc,List.contains_iff_mem]at h;grind
theorem zc5{a b:List Nat}(h:∀x,x∈a↔x∈b)(q:List Nat)(x:Nat):x∈z0p a q↔x∈z0p b q:=by grind[z5u]
theorem zi9{anc:Anc}{r b w w' d a:List Nat}(c:∀x,x∈r↔x∈b)(f:∀x,x∈w↔x∈w')(hd:∀x,x∈d↔x∈a)(e:Nat)(kp qs:List Nat):z7d anc r w d e kp qs=z7d anc b w' a e kp qs:=by grind[z7d]
theorem zjz{anc:Anc}{r a w w':List Nat}(b:∀x,x∈r↔x∈a)(c:∀x,x∈w↔x∈w')(g:Gt):zdd anc r w g=zdd anc a w' g:=by grind[zdd]
theorem z7t{anc:Anc}:∀{g:Gt}{r f w w' d a:List Nat},(∀x,x∈r↔x∈f)→(∀x,x∈w↔x∈w')→(∀x,x∈d↔x∈a)→z2d anc r w d g=true→z2d anc f w' a g=true
 |.fin,_,_,_,_,_,_,_,_,_,_=>rfl|.one e kp qs sub,r,f,w,w',d,a,b,c,hd,h=>by
  simp only[z2d,yb]at h⊢;refine⟨⟨?_,?_⟩,z7t (zc5 b _) (zc5 c _) (fun _=>Iff.rfl) h.2⟩;·grind[zi9]
  grind[zjz,zc5]|.alt e kp qs sub g,r,f,w,w',d,a,b,c,hd,h=>by
  simp only[z2d,yb]at h⊢;refine⟨⟨⟨?_,?_⟩,z7t (zc5 b _) (zc5 c _) (fun _=>Iff.rfl) h.1.2⟩,z7t b c hd h.2⟩;·grind[zi9]
  grind[zjz,zc5]
theorem zi8(gs:List Gt):∀(l:List (Nat×Nat×List Nat×List Nat)),(mkG gs l).zpx=l.map (·.1)|[]=>rfl|[(e,i,kp,qs)]=>rfl|(e,i,kp,qs)::b::r=>by unfold mkG;simp only[Gt.zpx,zi8 gs (b::r)];rfl
section
variable{z:W0}{V:Env}{w:World}{O:Nat→Prop}{φ:Nat→Nat}{α:Nat→Value}{σ:St}{C:Cx}{n:Nat}{ops:Array Oper}{K:Act→World→Prop}{G:GI}{con:Nat→CIn→z3y→Prop}{tb:Tb}{cty:List (Nat×List (Option (Nat×Nat)))}{ann:Ann}{ds:List Deferred}
theorem zn2{a b:List (Nat×Bool)}(h:zcq a b=true){p:Nat×Bool}(c:p∈a):p∈b:=by obtain⟨q,d,e⟩:=yd.1 (yc.1 h p c);grind[ym]
theorem zw0{anc:Anc}{kp:PV→St→Prop}{k3:St→List (Nat×Bool)→Prop}{e:Nat}{o:Oper}{kpl c:List Nat}{g:Gt}{rem wai done:List Nat}{dn:List (Nat×Bool)}(X:TbG C.P tb G)(H:∀f i o,con f i o→Con C.P G f i o)(hz:∀w O,z.G w O→G.p w O)(hn:∀(q:Nat)(o:Oper),ops[q]?=some o→dOk n o.dst=true)(R:∀v s,kp v s→zc6 z C n ds v s)(ho:ops[e]?=some o)(j:z7d anc rem wai done e kpl c=true)(F:(match(some o:Option Oper)with
   |some o=>match o.dst with|some d=>zav ops d (zb3 kpl (dn.map (·.1)))|none=>true
   |none=>true)=true)(a1:zpk ops c (zb3 kpl (dn.map (·.1)))=true)(ih:∀(dn:List (Nat×Bool))(σ:St)(w:World)(O:Nat→Prop)(φ:Nat→Nat)(α:Nat→Value)(b:Act),b.tmps.size=n→b.defers=ds→Rl z σ (Pe.z6j b) w O φ α→(∀x,z.O x→O x)→(∀p∈dn,KQ C n ops (Pe.z6j b) w O p)→(∀q∈kpl++c,z7s C.P ops b w q)→(∀q∈kpl++c,∃st,(q,st)∈dn)→k3 σ dn→DRa C ds ops K (kpl++c) g b w)(b:Act)(W:b.tmps.size=n)(B:b.defers=ds)(h:Rl z σ (Pe.z6j b) w O φ α)(hs:∀x,z.O x→O x)(hd:∀p∈dn,KQ C n ops (Pe.z6j b) w O p)(D:∀q∈done,∃st,(q,st)∈dn)(hw:exo tb cty ann con ops σ o (fun J=>zsj tb ops c J (z3z kpl dn) fun l A=>ze5 tb ops l (z3z kpl dn)∧k3 l A) kp):wpList C.P ops (QT C ds fun y w'=>∃m,Off ops c y m∧DRa C ds ops K (kpl++c) g m w') [o] b w:=by
 have ekept:(z3z kpl dn).map (·.1)=zb3 kpl (dn.map (·.1)):=by unfold z3z zb3;rw[List.filter_map];rfl
 have hb:Has n (Pe.z6j b) b:=z7h W;refine zmh (zdi (z:=z.mark w O) (rest:=[]) (K:=fun y w'=>(∀t,o.dst≠some t→y.tmps[t]?=b.tmps[t]?)→∃m,Off ops c y m∧DRa C ds ops K (kpl++c) g m w') X H (fun w O h=>hz w O h.1) (hn e o ho) h.mark hs (fun J hσ2 V2 w2 T=>?_) (fun v s hv V w O φ α u φ' α' r s2 T a ha B=>R v s hv V w O φ α u φ' α' r.zfy.1 s2 T a ha B) hw b hb B);obtain⟨O2,Z,Y,r,s2⟩:=T;obtain⟨r',t⟩:=r.zfy;refine OW.fin fun y E I a0=>?_;simp only[z7d,yb]at j;have N:∀p∈z3z kpl dn,KQ C n ops (Pe.z6j y) w2 O2 p:=fun p R=>by
  obtain⟨S,a3⟩:=zlr R;refine(hd p S).move t fun o' Q d L=>?_;have a2:∀x,o.dst=some x→d≠x∧x∉o'.looksAt ops:=fun x hx=>by simp only[hx]at F;exact z7o F p.1 (by grind) o' Q d L
  refine⟨?_,fun t a4=>?_⟩;·rw[zg3,zg3];grind
  grind[zg3]
 have M:∀q∈kpl,∃st,(q,st)∈z3z kpl dn:=fun q hq=>by
  have hc:=yc.1 j.1.2 q hq;have hm:q∈done:=by simpa using hc
  obtain⟨st,U⟩:=D q hm;exact⟨st,List.mem_filter.2 ⟨U,yd.2 ⟨q,hq,Nat.beq_refl q⟩⟩⟩
 obtain⟨m,l,A,e1,e2,e3,e4,e5,e6,e7,e8,e9⟩:=z9q (k:=k3) X.toTbOk (fun w O h=>X.gt w O (hz w O h)) hn c kpl y E.size I (r'.z6j E) N M (by grind) hσ2;exact⟨m,e1,ih A l w2 O2 Z Y m e2 e3 e4 s2 e5 e6 e7 e9⟩
theorem into{k3:Prop}{d:Dg}{Sg:Nat→St}{j:Nat}{a:List (Nat×Bool)}{b:Act}(h:Rl z σ (Pe.z6j b) w O φ α)(r:∀x,z.O x→O x)(hd:∀p∈a,KQ C n ops (Pe.z6j b) w O p){done:List Nat}(g:∀q∈done,∃st,(q,st)∈a)(f:(zcq a (d.dn j)&&zcq (d.dn j) a)=true)(u:wt (σ.cut d.c) fun s=>s=Sg j)(m:∀(O':Nat→Prop)(α':Nat→Value),Rl z (Sg j) (Pe.z6j b) w O' φ α'→(∀x,z.O x→O' x)→(∀p∈d.dn j,KQ C n ops (Pe.z6j b) w O' p)→(∀q∈done,∃st,(q,st)∈d.dn j)→k3):k3:=by simp only[yb]at f;obtain⟨A,e,l⟩:=zc u;subst l;obtain⟨O',α',k,i⟩:=zh0 (z:=z.mark w O) h.mark r e;obtain⟨v,t⟩:=k.zfy;refine m O' α' v i (fun p o=>(hd p (zn2 f.2 o)).move t fun _ _ _ _=>⟨rfl,fun _ _=>rfl⟩) fun q y=>?_;grind[zn2]
theorem zj0:∀(l:List Nd)(gs:List Gt)(i:Nat),i<gs.length→(zbk l gs)[i]?=gs[i]?|[],gs,i,_=>rfl|n::r,gs,i,h=>by simp only[zbk];rw[zj0 r _ i (by simp;omega),List.getElem?_append_left h]
theorem zz04o(gs c:List Gt):∀(l:List (Nat×Nat×List Nat×List Nat)),(∀a∈l,c[a.2.1]?=gs[a.2.1]?)→mkG c l=mkG gs l|[],_=>rfl|[(e,i,kp,qs)],h=>by grind[yh,mkG]|(e,i,kp,qs)::b::r,h=>by have f:=h _ yh;have h2:=zz04o gs c (b::r) fun a d=>h a (yg _ d);grind[mkG]
theorem zkt:∀(l:List Nd)(gs:List Gt)(j:Nat)(b:Nd),l[j]?=some b→(∀a∈b.alts,a.2.1<gs.length+j)→(zbk l gs)[gs.length+j]?=some (mkG (zbk l gs) b.alts)
 |n::r,gs,0,b,h,c=>by simp only[zbk,Nat.add_zero];grind[zz04o,zj0]|n::r,gs,j+1,b,h,c=>by
  simp only[zbk];have:=zkt r (gs++[mkG gs n.alts]) j b (by simpa using h) fun a d=>by grind
  grind
theorem zsh{d:Dg}{Sg:Nat→St}{kp:PV→St→Prop}:∀(l:List Nd)(m j:Nat)(a:Nd),zwt tb cty ann con ops d Sg kp m l→l[j]?=some a→zsg tb cty ann con ops d Sg kp (m+j) a.alts|n::r,m,0,a,h,e=>by simp at e;subst e;exact h.1|n::r,m,j+1,a,h,e=>by have:=zsh r (m+1) j a h.2 (by simpa using e);grind
theorem zgj{d:Dg}:∀(l:List Nd)(i j:Nat)(b:Nd),zqm ops d l i=true→l[j]?=some b→(∀a∈b.alts,zuy ops d (i+j) b a=true)∧(i+j=0→b.alts=[])∧(i+j≠0→b.alts≠[])
 |n::r,i,0,b,h,e=>by
  simp at e;subst e;simp only[zqm,yb]at h;refine⟨fun a f=>yc.1 h.1.1 a f,fun c=>?_,fun c=>?_⟩;·simp_all
  simp_all|n::r,i,j+1,b,h,e=>by simp only[zqm,yb]at h;have:=zgj r (i+1) j b h.2 (by simpa using e);grind
theorem zt3{d:Dg}{i:Nat}{b:Nd}(c:zqm ops d d.nds 0=true)(h:d.nds[i]?=some b):d.gs[i]?=some (mkG d.gs b.alts):=by
 obtain⟨e,_,_⟩:=zgj d.nds 0 i b c h;have:=zkt d.nds [] i b h fun a f=>by have:=e a f;simp_all[zuy]
 grind[Dg.gs]
theorem zw1{d:Dg}(e:zqm ops d d.nds 0=true):∀(m i:Nat)(c:Nd),i<m→d.nds[i]?=some c→z2d d.anc c.rem c.wai c.done (d.gs[i]?.getD .fin)=true:=by intro m;induction m with|zero=>omega|succ m p=>
  intro i c o g;obtain⟨k,_,_⟩:=zgj d.nds 0 i c e g;rw[zt3 e g,ya];have key:∀a∈c.alts,z7d d.anc c.rem c.wai c.done a.1 a.2.2.1 a.2.2.2=true∧zdd d.anc (z0p c.rem [a.1]) (z0p c.wai a.2.2.2) (d.gs[a.2.1]?.getD .fin)=true∧z2d d.anc (z0p c.rem [a.1]) (z0p c.wai a.2.2.2) (a.2.2.1++a.2.2.2) (d.gs[a.2.1]?.getD .fin)=true:=by intro a n;have h2:=k a n;simp only[zuy,yb,Nat.blt_eq,zia]at h2;obtain⟨⟨⟨k1,j⟩,k3⟩,h⟩:=h2;cases f:d.nds[a.2.1]? with|none=>grind|some md=>rw[f]at h;simp only[yb]at h;obtain⟨⟨⟨s,t⟩,u⟩,v⟩:=h;refine⟨j,?_,z7t (fun x=>(z99 t x).symm) (fun x=>(z99 u x).symm) (fun x=>(z99 v x).symm) (p a.2.1 md (by omega) f)⟩;rw[zt3 e f,ya];unfold zdd;rw[zi8];exact s
  have all:∀(l:List (Nat×Nat×List Nat×List Nat)),(∀a∈l,a∈c.alts)→z2d d.anc c.rem c.wai c.done (mkG d.gs l)=true:=by intro l;induction l with|nil=>intro _;rfl|cons a r q=>intro f;obtain⟨k1,j,k3⟩:=key _ (f _ yh);cases r with|nil=>simp_all[mkG,z2d]|cons b r=>simp_all[mkG,z2d]
  grind
theorem zwj{d:Dg}{Sg:Nat→St}{kp:PV→St→Prop}(ht:TbG C.P tb G)(Q:∀f i o,con f i o→Con C.P G f i o)(hz:∀w O,z.G w O→G.p w O)(hn:∀(q:Nat)(o:Oper),ops[q]?=some o→dOk n o.dst=true)(hp:∀v s,kp v s→zc6 z C n ds v s){N:Nat}(a3:okD ops d N=true)(a0:zwt tb cty ann con ops d Sg kp 0 d.nds)(hk:∀V w,RS z (Sg 0) V w→∀a,Has n V a→a.defers=ds→K a w):∀(m i:Nat),i<m→i<d.nds.length→∀(rem wai done:List Nat){w:World}{O:Nat→Prop}{φ:Nat→Nat}{α:Nat→Value}(b:Act),b.tmps.size=n→b.defers=ds→Rl z (Sg i) (Pe.z6j b) w O φ α→(∀x,z.O x→O x)→(∀p∈d.dn i,KQ C n ops (Pe.z6j b) w O p)→(∀q∈done,z7s C.P ops b w q)→(∀q∈done,∃st,(q,st)∈d.dn i)→z2d d.anc rem wai done (d.gs[i]?.getD .fin)=true→DRa C ds ops K done (d.gs[i]?.getD .fin) b w:=by intro m;induction m with|zero=>omega|succ m ih=>
  intro i a9 hi rem wai done w O φ α b T R h hs hd E g t;have H:=a3;simp only[okD,yb]at H;obtain⟨⟨_,F⟩,_⟩:=H;have u:d.nds[i]?=some d.nds[i]:=List.getElem?_eq_getElem hi;obtain⟨I,U,a5⟩:=zgj d.nds 0 i _ F u;rw[Nat.zero_add]at I U a5;have hg:d.gs[i]?=some (mkG d.gs d.nds[i].alts):=zt3 F u;have Z:∀a∈d.nds[i].alts,a.2.1<i:=fun a Y=>by have:=I a Y;simp_all[zuy]
  have a8:(d.dn i).map (·.1)=d.nds[i].done:=by unfold Dg.dn;rw[zia,u];rfl
  have A:∀a∈d.nds[i].alts,clrN ops a.1 a.2.2.1 a.2.2.2 ((d.dn i).map (·.1))=true:=fun a Y=>by have:=I a Y;simp_all[zuy]
  have D:=zsh d.nds 0 i _ a0 u;rw[hg,ya]at t⊢;by_cases a4:i=0;·subst a4;have J:d.nds[0].alts=[]:=U rfl;rw[J]at t⊢;exact⟨E,hk _ _ ⟨_,_,_,h,hs⟩ b (z7h T) R⟩
  ·have one:∀(e j:Nat)(kpl k:List Nat),(e,j,kpl,k)∈d.nds[i].alts→∀(rem wai done:List Nat)(g:∀q∈done,∃st,(q,st)∈d.dn i),z7d d.anc rem wai done e kpl k=true→z2d d.anc (z0p rem [e]) (z0p wai k) (kpl++k) (d.gs[j]?.getD .fin)=true→clrN ops e kpl k ((d.dn i).map (·.1))=true→(match zyp ops e with|some o=>(Sg i).frc fun σ=>exo tb cty ann con ops σ o (fun a7=>zsj tb ops k a7 (z3z kpl (d.dn i)) fun B y=>ze5 tb ops B (z3z kpl (d.dn i))∧(zcq y (d.dn j)&&zcq (d.dn j) y)=true∧wt (B.cut d.c) fun s=>s=Sg j) kp|none=>False)→∀o,ops[e]?=some o→wpList C.P ops (QT C ds fun a' w'=>∃b',Off ops k a' b'∧DRa C ds ops K (kpl++k) (d.gs[j]?.getD .fin) b' w') [o] b w:=by intro e j kpl k S rem wai done g a1 L A X o ho;have hj:j<i:=Z _ S;rw[zb9,ho]at X;replace X:=St.z6k.mp X;simp only[clrN,yb,ho]at A;refine zw0 (k3:=fun B y=>(zcq y (d.dn j)&&zcq (d.dn j) y)=true∧wt (B.cut d.c) fun s=>s=Sg j) ht Q hz hn hp ho a1 A.1 A.2 (fun y B w3 O3 b1 b0 b3 k1 k2 k3 k4 k5 k6 k7 k8=>?_) b T R h hs hd g X;exact into k3 k4 k5 k7 k8.1 k8.2 fun O' α' r' s' d' q'=>ih j (by omega) (by omega) _ _ _ b3 k1 k2 r' s' d' k6 q' L--all choices,one by one
   have all:∀(l:List (Nat×Nat×List Nat×List Nat)),l≠[]→(∀a∈l,a∈d.nds[i].alts)→∀(rem wai done:List Nat),(∀q∈done,z7s C.P ops b w q)→(∀q∈done,∃st,(q,st)∈d.dn i)→z2d d.anc rem wai done (mkG d.gs l)=true→zsg tb cty ann con ops d Sg kp i l→DRa C ds ops K done (mkG d.gs l) b w:=by intro l;induction l with|nil=>simp|cons a r a6=>intro _ W rem wai done E g t D;obtain⟨e,j,kpl,k⟩:=a;have M:=A _ (W _ yh);cases r with|nil=>simp only[mkG,z2d,yb]at t⊢;exact⟨E,fun o ho=>one e j kpl k (W _ yh) rem wai done g t.1.1 t.2 M D.1 o ho⟩|cons a2 r2=>unfold mkG at t⊢;simp only[z2d,yb]at t⊢;exact⟨fun o ho=>one e j kpl k (W _ yh) rem wai done g t.1.1.1 t.1.2 M D.1 o ho,a6 (by simp) (fun x hx=>W x (yg _ hx)) rem wai done E g t.2 D.2⟩
   grind
theorem zu9{k:St→Prop}{kp:PV→St→Prop}{d:Dg}{id:Nat}{todo:List Item}(H:TbG C.P tb G)(u:∀f i o,con f i o→Con C.P G f i o)(T:∀w O,z.G w O→G.p w O)(A:okD ops d n=true)(hn:ops.toList.all (fun o=>dOk n o.dst)=true)(a1:DrOk C ops)(Q:exdag tb cty ann con ops kp k d σ)(hk:∀s,k s→∀V w,RS z s V w→TW C n ds todo V w)(hp:∀v s,kp v s→zc6 z C n ds v s)(V:Env)(w:World)(N:RS z σ V w):TW C n ds (.code (.region id ops true)::todo) V w:=by have y:∀(q:Nat)(o:Oper),ops[q]?=some o→dOk n o.dst=true:=fun q o ho=>yc.1 hn o (by grind);obtain⟨Sg,Q,M,I⟩:=Q;obtain⟨O,φ,α,h,hs⟩:=N;have j:=A;simp only[okD,yb,zia]at j;obtain⟨⟨⟨B,a0⟩,g⟩,e⟩:=j;cases J:d.nds[d.nds.length-1]? with|none=>grind|some md=>
 rw[J]at e;simp only[yb]at e;obtain⟨⟨⟨k5,k6⟩,k7⟩,k8⟩:=e;have S:d.nds.length-1<d.nds.length:=by
  rcases Nat.lt_or_ge (d.nds.length-1) d.nds.length with q|q;·exact q
  ·grind
 have t:z2d d.anc d.E (z0p (z4r ops d.E) d.qs) d.qs (d.gs[d.nds.length-1]?.getD .fin)=true:=z7t (fun x=>(z99 k6 x).symm) (fun x=>(z99 k7 x).symm) (fun x=>(z99 k8 x).symm) (zw1 g _ _ md (yq _) J);have a2:za9 ops d.anc n d.E d.qs (d.gs[d.nds.length-1]?.getD .fin)=true:=by unfold za9;rw[yb,yb];refine⟨⟨B,?_⟩,t⟩;rw[zt3 g J,ya];unfold zdd;rw[zi8];exact k5
 have:=TW.drawP (C:=C) (n:=n) (ds:=ds) (k:=todo) (L:=V) (w:=w) (id:=id) (l:=ops.toList) d.anc d.E d.qs (d.gs[d.nds.length-1]?.getD .fin) H.mix (by omega) (by omega) fun w' x a F r=>by have h2:=h.znx x;obtain⟨b,D,m,e1,W,X,Y,Z,e6,e7,e8,R⟩:=z9q (C:=C) (ds:=ds) (done:=[]) (k:=fun D m=>(zcq m (d.dn (d.nds.length-1))&&zcq (d.dn (d.nds.length-1)) m)=true∧wt (D.cut d.c) fun s=>s=Sg (d.nds.length-1)) H.toTbOk (fun w O h=>H.gt w O (T w O h)) y d.qs a F.size r (h2.z6j F) (by simp) (by simp) (by grind) Q;refine⟨b,by omega,?_⟩;have:=into (C:=C) (n:=n) (ops:=ops) (done:=d.qs) (k3:=DRa C ds ops (TWa C todo) d.qs (d.gs[d.nds.length-1]?.getD .fin) b w') Y hs Z (by grind) R.1 R.2 fun O' α' r' s' U q'=>zwj (C:=C) (K:=TWa C todo) (G:=G) (z:=z) H u T y hp A M (fun V w N a F r=>hk _ (St.z6k.mp I) V w N a F r) _ _ (yq _) (by omega) _ _ d.qs b W X r' s' U (by grind) q' t;simp_all
 omega
end
section
variable{z:W0}{C:Cx}{n:Nat}{G:GI}{con:Nat→CIn→z3y→Prop}{tb:Tb}{cty:List (Nat×List (Option (Nat×Nat)))}{ann:Ann}{ds:List Deferred}{dd:List (Nat×Dg)}
end
def nthS:List St→Nat→St|[],_=>⟨[],[],[],none⟩|s::_,0=>s|_::r,i+1=>nthS r i
theorem S.eb{R A:Type}{W:R→Prop}{z:Option A}{g:A→Option R}(h:∀a,z=some a→S (g a) W):S (z>>=g) W:=S.b h
theorem Ex.ap{X:Type}{f:X→List D}{n:Nat}{xs ys z:List X}{l l2:List (List D)}{F:List (List D)→Prop}(h:Go.Lk.app n xs ys=some z)(k:F (z.map f))(hl:l=xs.map f:=by exact rfl)(a:l2=ys.map f:=by exact rfl):Ex (Go.Lk.app n l l2) F:=by refine⟨z.map f,?_,k⟩;unfold Go.Lk.app at h⊢;grind
theorem Ex.apE{X:Type}{f:X→List D}{E:List X→List (List D)}(b:∀l,E l=l.map f){n:Nat}{xs ys z:List X}{l l2:List (List D)}{F:List (List D)→Prop}(h:Go.Lk.app n xs ys=some z)(k:F (E z))(hl:l=E xs:=by exact rfl)(a:l2=E ys:=by exact rfl):Ex (Go.Lk.app n l l2) F:=Ex.ap (f:=f) h (by grind) (hl.trans (b xs)) (a.trans (b ys))
theorem Ex.cl{con:Nat→CIn→z3y→Prop}{σ:St}{f:Nat}{args:List PV}{k:PV→St→Prop}{kp:PV→St→Prop}{A:Type}{z:Option A}{a:A}{i:CIn}{o:A→z3y}(bs as_ as_':List Nat)(g:∀a,z=some a→con f i (o a))(h:z=some a)(b:zpi bs as_ as_' i args σ k kp (o a))(c:nrm.go σ i.vs args=zci.go bs as_ i.vs:=by exact rfl)(h2:zaq σ bs as_ bs i.B:=by(repeat' first|exact trivial|exact rfl|apply And.intro))(d:zgt σ as_ i.A:=by(repeat' first|exact trivial|exact rfl|apply And.intro))(e:zjw σ bs as_ (zao.go i.vs args) i=true:=by exact rfl):zky con σ f args k kp:=⟨bs,as_,as_',i,o a,g a h,c,h2,d,e,b⟩
theorem aT{p:Prop}(h:p:=by(repeat' first|apply And.intro|exact rfl|exact trivial)):p:=h
theorem S.dg{R:Type}{y:Option R}{tb:Tb}{cty:List (Nat×List (Option (Nat×Nat)))}{ann:Ann}{con:Nat→CIn→z3y→Prop}{ops:Array Oper}{d:Dg}{σ:St}{kp:R→PV→St→Prop}{k:R→St→Prop}(Sg:List St)(f:S y fun r=>(nthS Sg 0).frc (k r))(e:zsj tb ops d.qs σ [] fun b a=>ze5 tb ops b []∧(zcq a (d.dn (d.nds.length-1))&&zcq (d.dn (d.nds.length-1)) a)=true∧wt (b.cut d.c) fun s=>s=nthS Sg (d.nds.length-1):=by(repeat' first|apply And.intro|exact rfl|exact trivial))(h2:∀kp,zwt tb cty ann con ops d (nthS Sg) kp 0 d.nds:=by intro kp;(repeat(refine And.intro ?_ ?_;(as_aux_lemma=>(repeat' first|apply And.intro|exact rfl|exact trivial))));exact trivial):S y fun r=>exdag tb cty ann con ops (kp r) (k r) d σ:=fun r g=>⟨nthS Sg,e,h2 _,f r g⟩
end
section
open Go.RowKit Go.Lk
def exY(tb:Tb)(cty:List (Nat×List (Option (Nat×Nat))))(ann:Ann)(dd:List (Nat×Dg))(con:Nat→CIn→z3y→Prop):Code→St→(z9e→St→Prop)→Prop
 |.region id ops e,σ,k=>match lk dd id with|some d=>exdag tb cty ann con ops (fun v s=>k (.pan v) s) (fun s=>k .normal s) d σ|none=>ex tb cty ann con (.region id ops e) σ k
 |.seq a b,σ,k=>match cutOf ann.seq b with|some c=>∃J:St→Prop,exY tb cty ann dd con a σ (zmm (fun s=>s.zc8 c J) k)∧∀s,J s→exY tb cty ann dd con b s k|none=>exY tb cty ann dd con a σ (zmm (fun s=>exY tb cty ann dd con b s k) k)
 |.cond c a b,σ,k=>match σ.ev c with|some (.bool x)=>cond x (exY tb cty ann dd con a σ k) (exY tb cty ann dd con b σ k)|_=>False
 |.block i a,σ,k=>exY tb cty ann dd con a σ (kBlk i k)|c,σ,k=>ex tb cty ann con c σ k
def okY(ann:Ann)(dd:List (Nat×Dg))(n:Nat):Code→Bool
 |.region id ops e=>match lk dd id with|some d=>e&&okD ops d n&&ops.toList.all fun o=>dOk n o.dst|none=>okC ann n (.region id ops e)
 |.seq a b=>okY ann dd n a&&okY ann dd n b|.cond _ a b=>okY ann dd n a&&okY ann dd n b|.block _ a=>okY ann dd n a|c=>okC ann n c
section
variable{z:W0}{C:Cx}{n:Nat}{G:GI}{con:Nat→CIn→z3y→Prop}{tb:Tb}{cty:List (Nat×List (Option (Nat×Nat)))}{ann:Ann}{ds:List Deferred}{dd:List (Nat×Dg)}
theorem zwr(F:TbG C.P tb G)(D:∀f i o,con f i o→Con C.P G f i o)(H:∀w O,z.G w O→G.p w O)(E:C.lv=false):∀(c:Code)(σ:St)(k:z9e→St→Prop)(todo:List Item),okY ann dd n c=true→exY tb cty ann dd con c σ k→(∀y s,k y s→FS z C n ds todo y s)→KS z C n ds (.code c::todo) σ:=by intro c;have other:∀(c:Code)(σ:St)(k:z9e→St→Prop)(todo:List Item),okC ann n c=true→ex tb cty ann con c σ k→(∀y s,k y s→FS z C n ds todo y s)→KS z C n ds (.code c::todo) σ:=fun c σ k todo B h2 K=>z3c F D H c σ k todo B (.inl E) h2 K;induction c with
 |region id ops Q=>intro σ k todo g q m;unfold exY at q;unfold okY at g;cases hl:lk dd id with|none=>grind|some d=>rw[hl]at q g;simp only[yb]at g;obtain⟨⟨rfl,B⟩,h2⟩:=g;intro V w t;refine zu9 F D H B h2 (.inl E) q (fun s l V w t=>m _ _ l V w t) (fun v s l=>m _ _ l) V w t
 |seq a b r A=>
  intro σ k todo g q m;unfold okY at g;simp only[yb]at g;intro V w t;refine TW.seq ?_;unfold exY at q;split at q;·rename_i c _;obtain⟨J,B,h2⟩:=q;refine r σ _ (.code b::todo) g.1 B (fun y s l=>?_) V w t;cases y with|normal=>obtain⟨I,e,L⟩:=z8y l;exact(A I k todo g.2 (h2 I L) m).cut e|exit i=>exact(m _ _ l).code (by simp)|ret=>exact(m _ _ l).code (by simp)|pan v=>exact(m _ _ l).code (by simp)
  ·refine r σ _ (.code b::todo) g.1 q (fun y s l=>?_) V w t;cases y with|normal=>exact A s k todo g.2 l m|exit i=>exact(m _ _ l).code (by simp)|ret=>exact(m _ _ l).code (by simp)|pan v=>exact(m _ _ l).code (by simp)
 |cond c a b r A=>
  intro σ k todo g q m;unfold okY at g;simp only[yb]at g;intro V w t;unfold exY at q;split at q
  ·rename_i x M;obtain⟨O,φ,α,h,l⟩:=t;obtain⟨u,B,h2⟩:=h.ev M;simp only[VR]at h2;subst h2;refine TW.cond B (fun e=>?_) fun e=>?_;·subst e;exact r σ k todo g.1 q m V w ⟨O,φ,α,h,l⟩
   ·subst e;exact A σ k todo g.2 q m V w ⟨O,φ,α,h,l⟩
  grind|block i a r=>intro σ k todo g q m;unfold okY at g;intro V w t;refine TW.block ?_;unfold exY at q;refine r σ _ (.inBlock i::todo) g q (fun y s l=>?_) V w t;cases y with
  |normal=>exact fun V w t=>TW.inBlock (m _ _ l V w t)|exit j=>simp only[kBlk]at l;cases e:yk i j with|true=>rw[e]at l;have e:=ym e;subst e;exact⟨todo,by simp[exitTo],m _ _ l⟩|false=>rw[e]at l;have e:=Nat.ne_of_beq_eq_false e;obtain⟨N,B,h2⟩:=m _ _ l;exact⟨N,by grind[exitTo],h2⟩
  |ret=>exact m _ _ l|pan v=>exact m _ _ l
 |_=>intro σ k todo g q m;exact other _ σ k todo g q m
end
theorem Con.oY{P:Program}{G:GI}{tb:Tb}{cty:List (Nat×List (Option (Nat×Nat)))}{α:Type}{y:Option α}{f:Nat}{fn:Func}{i:CIn}{o:α→z3y}(F:TbG P tb G)(hf:P.funcs[f]?=some fn)(ann:Ann)(dd:List (Nat×Dg))(res:List ResultVar)(l:S y fun r=>exY tb cty ann dd (Con P G) (z2l fn) (entry i) (fin tb ann res (o r)))(J:okY ann dd fn.ntmps (z2l fn)=true)(E:fn.body=some (z2l fn))(ent:∀args w,(callFunc f args).run P w=.ok (.enter f args) w)(j:fn.results=res.toArray)(I:yk f NF=false)(hl:yl i.vs.length fn.ntmps=true)(k:ann.nb=i.B.length)(c:yl i.B.length 1000=true):S y fun r=>Con P G f i (o r):=by intro r H;have l:exY tb cty ann dd (Con P G) (z2l fn) (entry i) (fin tb ann res (o r)):=l r H;revert l;generalize o r=o;intro l;refine⟨ent,I,fun w O φ α us Q H hB hG=>?_⟩;have c:=yn c;obtain⟨hF,W⟩:=zde (G:=G) Q H hB hG c;have X:us.length=i.vs.length:=Q.len;refine zkz hf E fn.ntmps rfl (by grind) ?_;refine zwr (z:=w0Of G i w O φ α hF hB) (C:={P:=P,f:=f,fn:=fn,R:=zec i w O φ α o,hf:=hf}) (n:=fn.ntmps) (ds:=[]) (G:=G) F (fun _ _ _ h=>h) (fun _ _ h=>h) rfl (z2l fn) (entry i) _ [] J l (fun U s d=>?_) _ _ ⟨O,φ,α,W,fun _ Y=>Y⟩;cases U with
 |normal=>intro V w' K;obtain⟨O',φ',α',e,h2⟩:=K;cases o with|pan v=>exact d.elim|zjk _ _=>exact d.elim|okI _ _ _=>exact d.elim|ok vs B A=>obtain⟨m,p,q⟩:=z73 (C:={P:=P,f:=f,fn:=fn,R:=zec i w O φ α (.ok vs B A),hf:=hf}) (n:=fn.ntmps) (hF:=hF) (hB:=hB) (g:=φ) F j (fun b E=>e.keep b (by omega)) e h2 k c d;exact TW.fin p q
 |ret=>intro k' V w' K;obtain⟨O',φ',α',e,h2⟩:=K;cases o with|pan v=>exact d.elim|zjk _ _=>exact d.elim|okI _ _ _=>exact d.elim|ok vs B A=>obtain⟨m,p,q⟩:=z73 (C:={P:=P,f:=f,fn:=fn,R:=zec i w O φ α (.ok vs B A),hf:=hf}) (n:=fn.ntmps) (hF:=hF) (hB:=hB) (g:=φ) F j (fun b E=>e.keep b (by omega)) e h2 k c d;exact TW.ret p q
 |exit _=>exact d.elim|pan v=>intro V w' O' φ' α' u D x e h2 p a Z t;cases o with|ok _ _ _=>cases d|okI _ _ _=>cases d|pan v=>cases d;exact PN.nil t ⟨u,O',D,x,rfl,p,e.ext,e.tr0,e.bd,e.only⟩|zjk v' B=>obtain⟨rfl,L,l⟩:=d;obtain⟨m,_,T,N,M,q⟩:=zbq (ann:={nb:=ann.nb}) (res:=[]) (C:={P:=P,f:=f,fn:=fn,R:=zec i w O φ α (.zjk v' B),hf:=hf}) (n:=fn.ntmps) (hF:=hF) (hB:=hB) (g:=φ) F (fun b E=>e.keep b (by omega)) e h2 k c l;exact PN.nil t ⟨u,D,x,m,T,N,M,rfl,z8s _ _ L p,q⟩
end
end Go.Pe
