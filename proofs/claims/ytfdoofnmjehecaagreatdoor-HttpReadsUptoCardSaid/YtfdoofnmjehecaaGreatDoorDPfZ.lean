import Derived.Test.YtfdoofnmjehecaaGreatDoorDPfC
set_option linter.all false
namespace Go.Pe
open _root_.Option renaming getD_some → ya
open _root_.Bool renaming and_eq_true → yb, eq_iff_iff → yc
open _root_.List renaming all_eq_true → yd, any_eq_true → ye, contains_iff_mem → yf, getElem?_append_left → yg, length_append → yh, length_cons → yi, length_nil → yj, mem_cons_of_mem → yk, mem_cons_self → yl
open _root_.Nat renaming blt_eq → ym, eq_of_beq_eq_true → yn, lt_succ_self → yo, zero_add → yp
open Go.RowKit Go.Lk
structure Nd where
 alts:List (Nat × Nat × List Nat × List Nat)
 dn:List (Nat × Bool)
 rem:List Nat          -- those that have not acted yet
 wai:List Nat          -- the quiet zkm that wait
structure Dg where
 anc:List Nat
 E:List Nat
 qs:List Nat
 c:Cut
 nds:List Nd           -- those behind come first;the last one is the beginning
def mkG (gs:List Gt):List (Nat × Nat × List Nat × List Nat)→Gt
 | [] => .fin
 | (e,i,kp,qs)::r=>match r with
  | [] => .one e kp qs ((gs[i]?).getD .fin)
  | _ => .alt e kp qs ((gs[i]?).getD .fin) (mkG gs r)
def z7n:List Nd→List Gt→List Gt
 | [],gs=>gs
 | n::r,gs=>z7n r (gs++[mkG gs n.alts])
def Dg.gs (d:Dg):List Gt:=z7n d.nds []
def Dg.dn (d:Dg) (i:Nat):List (Nat × Bool):=match zqn d.nds i with
 | some n=>n.dn
 | none=>[]
def z8f (a b:List (Nat × Bool)):Bool:=a.all fun p=>b.any fun q=>Nat.beq p.1 q.1&&(p.2==q.2)
def ziz (tb:Tb) (cty:List (Nat × List (Option (Nat × Nat)))) (ann:Ann) (con:Nat→CIn→z2z→Prop) (ops:Array Oper) (d:Dg) (Sg:Nat→St) (kp:PV→St→Prop) (m:Nat):List (Nat × Nat × List Nat × List Nat)→Prop
 | []=>True
 | (e,j,kpl,qs2)::r=>(match zmu ops e with
  | some o=>exo tb cty ann con ops (Sg m) o (fun σ2=>zj2 tb ops qs2 σ2 (z2s kpl (d.dn m)) fun σ3 dn3=>z9g tb ops σ3 (z2s kpl (d.dn m))∧(z8f dn3 (d.dn j)&&z8f (d.dn j) dn3)=true∧wt (σ3.cut d.c) fun s=>s=Sg j) kp
  | none=>False)∧ziz tb cty ann con ops d Sg kp m r
def zly (tb:Tb) (cty:List (Nat × List (Option (Nat × Nat)))) (ann:Ann) (con:Nat→CIn→z2z→Prop) (ops:Array Oper) (d:Dg) (Sg:Nat→St) (kp:PV→St→Prop):Nat→List Nd→Prop
 | _,[]=>True
 | m,n::r=>ziz tb cty ann con ops d Sg kp m n.alts∧zly tb cty ann con ops d Sg kp (m+1) r
def zra (tb:Tb) (cty:List (Nat × List (Option (Nat × Nat)))) (ann:Ann) (con:Nat→CIn→z2z→Prop) (ops:Array Oper) (kp:PV→St→Prop) (k:St→Prop) (d:Dg) (σ:St):Prop :=
 ∃ Sg:Nat→St,(zj2 tb ops d.qs σ [] fun σ1 dn1=>z9g tb ops σ1 []∧(z8f dn1 (d.dn (d.nds.length - 1))&&z8f (d.dn (d.nds.length - 1)) dn1)=true∧wt (σ1.cut d.c) fun s=>s=Sg (d.nds.length - 1))∧zly tb cty ann con ops d Sg kp 0 d.nds∧k (Sg 0)
def Nd.done (n:Nd):List Nat:=n.dn.map (·.1)
def zgf (a b:List Nat):Bool:=a.all (b.contains ·)&&b.all (a.contains ·)
def zxd (anc:Anc) (rem wai hs:List Nat):Bool:=wai.all (fun q=>rem.any fun e=>behind anc q e)&&rem.all fun i=>hs.contains i||rem.any fun j=>behind anc i j
def zkl (ops:Array Oper) (d:Dg) (i:Nat) (n:Nd) (a:Nat × Nat × List Nat × List Nat):Bool :=
 Nat.blt a.2.1 i&&z4u d.anc n.rem n.wai n.done a.1 a.2.2.1 a.2.2.2&&zq4 ops a.1 a.2.2.1 a.2.2.2 n.done&&match zqn d.nds a.2.1 with
  | some m=>zxd d.anc (z0y n.rem [a.1]) (z0y n.wai a.2.2.2) (m.alts.map (·.1))&&zgf (z0y n.rem [a.1]) m.rem&&zgf (z0y n.wai a.2.2.2) m.wai&&zgf (a.2.2.1++a.2.2.2) m.done
  | none=>false
def zhu (ops:Array Oper) (d:Dg):List Nd→Nat→Bool
 | [],_=>true
 | n::r,i=>n.alts.all (zkl ops d i n)&&(if Nat.beq i 0 then n.alts.isEmpty else !n.alts.isEmpty)&&zhu ops d r (i+1)
def zx2 (ops:Array Oper) (anc:Anc) (n:Nat) (E qs:List Nat):Bool :=
 zuz ops&&zmt ops anc&&zqp ops anc (z3d ops E)&&Region.noSelect ops&&zuy ops n (z3d ops E) E&&E.all (· < ops.size)&&qs.all ((z3d ops E).contains ·)
def okD (ops:Array Oper) (d:Dg) (n:Nat):Bool:=zx2 ops d.anc n d.E d.qs&&zgy ops d.qs []&&zhu ops d d.nds 0&&match zqn d.nds (d.nds.length - 1) with
 | some m=>zxd d.anc d.E (z0y (z3d ops d.E) d.qs) (m.alts.map (·.1))&&zgf d.E m.rem&&zgf (z0y (z3d ops d.E) d.qs) m.wai&&zgf d.qs m.done
 | none=>false
theorem z5z {a b:List Nat} (h:zgf a b=true) (x:Nat):x∈a↔x∈b:=by
 simp only [zgf,yb,yd,yf] at h
 exact ⟨h.1 x,h.2 x⟩
theorem znv {a b:List Nat} (h:∀ x,x∈a↔x∈b) (p:Nat→Bool):a.any p=b.any p:=by
 rw [yc,ye,ye]
 exact ⟨fun ⟨x,h1,h2⟩=>⟨x,(h x).1 h1,h2⟩,fun ⟨x,h1,h2⟩=>⟨x,(h x).2 h1,h2⟩⟩
theorem zdh {a b:List Nat} (h:∀ x,x∈a↔x∈b) (p:Nat→Bool):a.all p=b.all p:=by
 rw [yc,yd,yd]
 exact ⟨fun g x hx=>g x ((h x).2 hx),fun g x hx=>g x ((h x).1 hx)⟩
theorem zdo {a b:List Nat} (h:∀ x,x∈a↔x∈b) (x:Nat):a.contains x=b.contains x:=by
 rw [yc,yf,yf]
 exact h x
theorem z5l {a b:List Nat} (h:∀ x,x∈a↔x∈b) (q:List Nat) (x:Nat):x∈z0y a q↔x∈z0y b q:=by
 rw [z3j,z3j,h x]
theorem zbl {anc:Anc} {r r' w w' d d':List Nat} (hr:∀ x,x∈r↔x∈r') (hw:∀ x,x∈w↔x∈w') (hd:∀ x,x∈d↔x∈d') (e:Nat) (kp qs:List Nat):z4u anc r w d e kp qs=z4u anc r' w' d' e kp qs:=by
 simp only [z4u,zdo hr,zdo hw,zdo hd,zdh hd]
theorem zct {anc:Anc} {r r' w w':List Nat} (hr:∀ x,x∈r↔x∈r') (hw:∀ x,x∈w↔x∈w') (g:Gt):z8v anc r w g=z8v anc r' w' g:=by
 simp only [z8v,zdh hw,zdh hr,znv hr]
theorem z55 {anc:Anc}:∀ {g:Gt} {r r' w w' d d':List Nat},(∀ x,x∈r↔x∈r')→(∀ x,x∈w↔x∈w')→(∀ x,x∈d↔x∈d')→z1x anc r w d g=true→z1x anc r' w' d' g=true
 | .fin,_,_,_,_,_,_,_,_,_,_=>rfl
 | .one e kp qs sub,r,r',w,w',d,d',hr,hw,hd,h=>by
  simp only [z1x,yb] at h ⊢
  refine ⟨⟨?_,?_⟩,z55 (z5l hr _) (z5l hw _) (fun _=>Iff.rfl) h.2⟩
  ·rw [←zbl hr hw hd];exact h.1.1
  ·rw [←zct (z5l hr _) (z5l hw _)];exact h.1.2
 | .alt e kp qs sub g,r,r',w,w',d,d',hr,hw,hd,h=>by
  simp only [z1x,yb] at h ⊢
  refine ⟨⟨⟨?_,?_⟩,z55 (z5l hr _) (z5l hw _) (fun _=>Iff.rfl) h.1.2⟩,z55 hr hw hd h.2⟩
  ·rw [←zbl hr hw hd];exact h.1.1.1
  ·rw [←zct (z5l hr _) (z5l hw _)];exact h.1.1.2
theorem zbj (gs:List Gt):∀ (l:List (Nat × Nat × List Nat × List Nat)),(mkG gs l).zhb=l.map (·.1)
 | []=>rfl
 | [(e,i,kp,qs)]=>rfl
 | (e,i,kp,qs)::b::r=>by
  unfold mkG
  simp only [Gt.zhb,zbj gs (b::r)]
  rfl
section
variable {z:W0} {V:Env} {w:World} {O:Nat→Prop} {φ:Nat→Nat} {α:Nat→Value} {σ:St} {C:Cx} {n:Nat} {ops:Array Oper} {K:Act→World→Prop} {G:GI} {con:Nat→CIn→z2z→Prop} {tb:Tb} {cty:List (Nat × List (Option (Nat × Nat)))} {ann:Ann} {ds:List Deferred}
theorem zf0 {a b:List (Nat × Bool)} (h:z8f a b=true) {p:Nat × Bool} (hp:p∈a):p∈b:=by
 obtain ⟨q,hq,e⟩:=ye.1 (yd.1 h p hp)
 simp only [yb,beq_iff_eq] at e
 have e1:=yn e.1
 have:p=q:=Prod.ext e1 e.2
 rw [this];exact hq
theorem zla {anc:Anc} {kp:PV→St→Prop} {k3:St→List (Nat × Bool)→Prop} {e:Nat} {o:Oper} {kpl qs2:List Nat} {g:Gt} {rem wai done:List Nat} {dn:List (Nat × Bool)} (ht:TbG C.P tb G) (hcon:∀ f i o,con f i o→Con C.P G f i o) (hz:∀ w O,z.G w O→G.p w O) (hn:∀ (q:Nat) (o:Oper),ops[q]? = some o→dOk n o.dst=true) (hp:∀ v s,kp v s→z81 z C n ds v s)
  (ho:ops[e]? = some o) (hnode:z4u anc rem wai done e kpl qs2=true)
  (hc2:(match (some o:Option Oper) with
   | some o=>match o.dst with
    | some d=>z6v ops d (z74 kpl (dn.map (·.1)))
    | none=>true
   | none=>true)=true) (hcq:zgy ops qs2 (z74 kpl (dn.map (·.1)))=true)
  (ih:∀ (dn:List (Nat × Bool)) (σ:St) (w:World) (O:Nat→Prop) (φ:Nat→Nat) (α:Nat→Value) (b:Act),b.tmps.size=n→b.defers=ds→Rl z σ (Pe.z4g b) w O φ α→(∀ x,z.O x→O x)→(∀ p∈dn,KQ C n ops (Pe.z4g b) w O p) →
   (∀ q∈kpl++qs2,z52 C.P ops b w q)→(∀ q∈kpl++qs2,∃ st,(q,st)∈dn)→k3 σ dn→DRa C ds ops K (kpl++qs2) g b w)
  (b:Act) (hsz:b.tmps.size=n) (hda:b.defers=ds) (h:Rl z σ (Pe.z4g b) w O φ α) (hs:∀ x,z.O x→O x) (hd:∀ p∈dn,KQ C n ops (Pe.z4g b) w O p) (hdone:∀ q∈done,∃ st,(q,st)∈dn)
  (hw:exo tb cty ann con ops σ o (fun σ2=>zj2 tb ops qs2 σ2 (z2s kpl dn) fun σ3 dn3=>z9g tb ops σ3 (z2s kpl dn)∧k3 σ3 dn3) kp) :
  wpList C.P ops (QT C ds (fun a' w'=>∃ b',Off ops qs2 a' b'∧DRa C ds ops K (kpl++qs2) g b' w')) [o] b w:=by
 have ekept:(z2s kpl dn).map (·.1)=z74 kpl (dn.map (·.1)):=by
  unfold z2s z74
  rw [List.filter_map]
  rfl
 have hb:Has n (Pe.z4g b) b:=z4w hsz
 refine zek (z92 (z:=z.mark w O) (rest:=[]) (K:=fun a' w'=>(∀ t,o.dst≠some t→a'.tmps[t]? = b.tmps[t]?)→∃ b',Off ops qs2 a' b'∧DRa C ds ops K (kpl++qs2) g b' w') ht hcon (fun w O h=>hz w O h.1) (hn e o ho) h.mark hs (fun σ2 hσ2 V2 w2 hr => ?_) (fun v s hv V w O φ α u φ' α' r s2 hr a ha hda=>hp v s hv V w O φ α u φ' α' r.zaf.1 s2 hr a ha hda) hw b hb hda)
 obtain ⟨O2,φ2,α2,r,s2⟩:=hr
 obtain ⟨r',t⟩:=r.zaf
 refine OW.fin fun a' ha' hda' hag => ?_
 simp only [z4u,yb] at hnode
 have hmv:∀ p∈z2s kpl dn,KQ C n ops (Pe.z4g a') w2 O2 p:=fun p hp=>by
  obtain ⟨hp1,hp2⟩:=ze1 hp
  refine (hd p hp1).move t fun o' ho' d hd' => ?_
  have hne:∀ x,o.dst=some x→d≠x∧x∉o'.looksAt ops:=fun x hx=>by
   simp only [hx] at hc2
   exact z4z hc2 p.1 (by rw [←ekept];exact List.mem_map.2 ⟨p,hp,rfl⟩) o' ho' d hd'
  refine ⟨?_,fun t ht' => ?_⟩
  ·rw [z8k,z8k]
   exact hag d fun e=>(hne d e).1 rfl
  ·rw [z8k,z8k]
   exact hag t fun e=>(hne t e).2 ht'
 have hkd:∀ q∈kpl,∃ st,(q,st)∈z2s kpl dn:=fun q hq=>by
  have hc:=yd.1 hnode.1.2 q hq
  have hm:q∈done:=by simpa using hc
  obtain ⟨st,hst⟩:=hdone q hm
  exact ⟨st,List.mem_filter.2 ⟨hst,ye.2 ⟨q,hq,Nat.beq_refl q⟩⟩⟩
 obtain ⟨b',σ3,dn3,e1,e2,e3,e4,e5,e6,e7,e8,e9⟩:=z69 (k:=k3) ht.toTbOk (fun w O h=>ht.gt w O (hz w O h)) hn qs2 kpl a' ha'.size hda' (r'.z4g ha') hmv hkd (by rw [ekept];exact hcq) hσ2
 exact ⟨b',e1,ih dn3 σ3 w2 O2 φ2 α2 b' e2 e3 e4 s2 e5 e6 e7 e9⟩
theorem ztr {k3:Prop} {d:Dg} {Sg:Nat→St} {j:Nat} {dn3:List (Nat × Bool)} {b:Act} (h:Rl z σ (Pe.z4g b) w O φ α) (hs:∀ x,z.O x→O x) (hd:∀ p∈dn3,KQ C n ops (Pe.z4g b) w O p) {done:List Nat} (hdone:∀ q∈done,∃ st,(q,st)∈dn3)
  (hsub:(z8f dn3 (d.dn j)&&z8f (d.dn j) dn3)=true) (hw:wt (σ.cut d.c) fun s=>s=Sg j)
  (hk:∀ (O':Nat→Prop) (α':Nat→Value),Rl z (Sg j) (Pe.z4g b) w O' φ α'→(∀ x,z.O x→O' x)→(∀ p∈d.dn j,KQ C n ops (Pe.z4g b) w O' p)→(∀ q∈done,∃ st,(q,st)∈d.dn j)→k3):k3:=by
 simp only [yb] at hsub
 obtain ⟨s',e,hj⟩:=zf hw
 subst hj
 obtain ⟨O',α',h',hs'⟩:=zax (z:=z.mark w O) h.mark hs e
 obtain ⟨r',t⟩:=h'.zaf
 refine hk O' α' r' hs' (fun p hp=>(hd p (zf0 hsub.2 hp)).move t fun _ _ _ _=>⟨rfl,fun _ _=>rfl⟩) fun q hq => ?_
 obtain ⟨st,hst⟩:=hdone q hq
 exact ⟨st,zf0 hsub.1 hst⟩
theorem z8s:∀ (l:List Nd) (gs:List Gt) (i:Nat),i<gs.length→(z7n l gs)[i]? = gs[i]?
 | [],gs,i,_=>rfl
 | n::r,gs,i,h=>by
  simp only [z7n]
  rw [z8s r _ i (by simp;omega),yg h]
theorem zql (gs gs':List Gt):∀ (l:List (Nat × Nat × List Nat × List Nat)),(∀ a∈l,gs'[a.2.1]? = gs[a.2.1]?)→mkG gs' l=mkG gs l
 | [],_=>rfl
 | [(e,i,kp,qs)],h=>by have:=h _ yl;simp only [mkG];simp only at this;rw [this]
 | (e,i,kp,qs)::b::r,h=>by
  have h1:=h _ yl
  have h2:=zql gs gs' (b::r) fun a ha=>h a (yk _ ha)
  simp only at h1
  unfold mkG
  rw [h1,h2]
theorem zdg:∀ (l:List Nd) (gs:List Gt) (j:Nat) (nd:Nd),l[j]? = some nd→(∀ a∈nd.alts,a.2.1<gs.length+j)→(z7n l gs)[gs.length+j]? = some (mkG (z7n l gs) nd.alts)
 | n::r,gs,0,nd,h,hlt=>by
  simp at h
  subst h
  simp only [z7n,Nat.add_zero]
  rw [z8s r _ _ (by simp),List.getElem?_append_right (Nat.le_refl _),Nat.sub_self]
  simp only [List.getElem?_cons_zero,Option.some.injEq]
  refine (zql _ _ _ fun a ha => ?_).symm
  have:=hlt a ha
  rw [z8s r _ _ (by simp;omega),yg (by omega)]
 | n::r,gs,j+1,nd,h,hlt=>by
  simp only [z7n]
  have:=zdg r (gs++[mkG gs n.alts]) j nd (by simpa using h) fun a ha=>by
   have:=hlt a ha
   simp only [yh,yi,yj]
   omega
  simp only [yh,yi,yj] at this
  rw [show gs.length+(j+1)=gs.length+(0+1)+j by omega]
  exact this
theorem zj0 {d:Dg} {Sg:Nat→St} {kp:PV→St→Prop}:∀ (l:List Nd) (m j:Nat) (nd:Nd),zly tb cty ann con ops d Sg kp m l→l[j]? = some nd→ziz tb cty ann con ops d Sg kp (m+j) nd.alts
 | n::r,m,0,nd,h,e=>by simp at e;subst e;exact h.1
 | n::r,m,j+1,nd,h,e=>by
  have:=zj0 r (m+1) j nd h.2 (by simpa using e)
  rwa [show m+(j+1)=m+1+j by omega]
theorem zal {d:Dg}:∀ (l:List Nd) (i j:Nat) (nd:Nd),zhu ops d l i=true→l[j]? = some nd→(∀ a∈nd.alts,zkl ops d (i+j) nd a=true)∧(i+j=0→nd.alts=[])∧(i+j≠0→nd.alts≠[])
 | n::r,i,0,nd,h,e=>by
  simp at e
  subst e
  simp only [zhu,yb] at h
  refine ⟨fun a ha=>yd.1 h.1.1 a ha,fun h0 => ?_,fun h0 => ?_⟩
  ·have:=h.1.2
   rw [show i=0 by omega] at this
   simpa using this
  ·have:=h.1.2
   rw [if_neg (by intro q;have:=yn q;omega)] at this
   intro q
   rw [q] at this
   cases this
 | n::r,i,j+1,nd,h,e=>by
  simp only [zhu,yb] at h
  have:=zal r (i+1) j nd h.2 (by simpa using e)
  rw [show i+(j+1)=i+1+j by omega]
  exact this
theorem zjf {d:Dg} {i:Nat} {nd:Nd} (hok:zhu ops d d.nds 0=true) (h:d.nds[i]? = some nd):d.gs[i]? = some (mkG d.gs nd.alts):=by
 obtain ⟨h1,_,_⟩:=zal d.nds 0 i nd hok h
 have:=zdg d.nds [] i nd h fun a ha=>by
  have:=h1 a ha
  simp only [zkl,yb,ym] at this
  simpa using this.1.1.1
 simpa [Dg.gs] using this
theorem zlb {d:Dg} (hok:zhu ops d d.nds 0=true):∀ (m i:Nat) (nd:Nd),i<m→d.nds[i]? = some nd→z1x d.anc nd.rem nd.wai nd.done ((d.gs[i]?).getD .fin)=true:=by
 intro m
 induction m with
 | zero=>intro i _ h;omega
 | succ m ih =>
  intro i nd him hnd
  obtain ⟨h1,_,_⟩:=zal d.nds 0 i nd hok hnd
  rw [yp] at h1
  rw [zjf hok hnd,ya]
  have key:∀ a∈nd.alts,z4u d.anc nd.rem nd.wai nd.done a.1 a.2.2.1 a.2.2.2=true∧z8v d.anc (z0y nd.rem [a.1]) (z0y nd.wai a.2.2.2) ((d.gs[a.2.1]?).getD .fin)=true∧z1x d.anc (z0y nd.rem [a.1]) (z0y nd.wai a.2.2.2) (a.2.2.1++a.2.2.2) ((d.gs[a.2.1]?).getD .fin)=true:=by
   intro a ha
   have h2:=h1 a ha
   simp only [zkl,yb,ym,zbm] at h2
   obtain ⟨⟨⟨k1,k2⟩,k3⟩,k4⟩:=h2
   cases hm:d.nds[a.2.1]? with
   | none=>rw [hm] at k4;cases k4
   | some md =>
    rw [hm] at k4
    simp only [yb] at k4
    obtain ⟨⟨⟨k5,k6⟩,k7⟩,k8⟩:=k4
    refine ⟨k2,?_,z55 (fun x=>(z5z k6 x).symm) (fun x=>(z5z k7 x).symm) (fun x=>(z5z k8 x).symm) (ih a.2.1 md (by omega) hm)⟩
    rw [zjf hok hm,ya]
    unfold z8v
    rw [zbj]
    exact k5
  have all:∀ (l:List (Nat × Nat × List Nat × List Nat)),(∀ a∈l,a∈nd.alts)→z1x d.anc nd.rem nd.wai nd.done (mkG d.gs l)=true:=by
   intro l
   induction l with
   | nil=>intro _;rfl
   | cons a r ihl =>
    intro hm
    obtain ⟨e,j,kp,qs⟩:=a
    obtain ⟨k1,k2,k3⟩:=key _ (hm _ yl)
    have hr:=ihl fun a ha=>hm a (yk _ ha)
    cases r with
    | nil=>simp only [mkG,z1x,yb];exact ⟨⟨k1,k2⟩,k3⟩
    | cons b r =>
     unfold mkG
     simp only [z1x,yb]
     exact ⟨⟨⟨k1,k2⟩,k3⟩,hr⟩
  exact all _ fun _ h=>h
theorem zln {d:Dg} {Sg:Nat→St} {kp:PV→St→Prop} (ht:TbG C.P tb G) (hcon:∀ f i o,con f i o→Con C.P G f i o) (hz:∀ w O,z.G w O→G.p w O) (hn:∀ (q:Nat) (o:Oper),ops[q]? = some o→dOk n o.dst=true) (hp:∀ v s,kp v s→z81 z C n ds v s) {N:Nat} (hok:okD ops d N=true)
  (hnd:zly tb cty ann con ops d Sg kp 0 d.nds) (hk:∀ V w,RS z (Sg 0) V w→∀ a,Has n V a→a.defers=ds→K a w):∀ (m i:Nat),i<m→i<d.nds.length →
  ∀ (rem wai done:List Nat) {w:World} {O:Nat→Prop} {φ:Nat→Nat} {α:Nat→Value} (b:Act),b.tmps.size=n→b.defers=ds→Rl z (Sg i) (Pe.z4g b) w O φ α→(∀ x,z.O x→O x)→(∀ p∈d.dn i,KQ C n ops (Pe.z4g b) w O p) →
   (∀ q∈done,z52 C.P ops b w q)→(∀ q∈done,∃ st,(q,st)∈d.dn i)→z1x d.anc rem wai done ((d.gs[i]?).getD .fin)=true→DRa C ds ops K done ((d.gs[i]?).getD .fin) b w:=by
 intro m
 induction m with
 | zero=>intro i h;omega
 | succ m ih =>
  intro i him hi rem wai done w O φ α b hsz hda h hs hd hst hdone hal
  have hok':=hok
  simp only [okD,yb] at hok'
  obtain ⟨⟨_,hnds⟩,_⟩:=hok'
  have hndi:d.nds[i]? = some d.nds[i]:=List.getElem?_eq_getElem hi
  obtain ⟨hoa,hz1,hz2⟩:=zal d.nds 0 i _ hnds hndi
  rw [yp] at hoa hz1 hz2
  have hg:d.gs[i]? = some (mkG d.gs d.nds[i].alts):=zjf hnds hndi
  have hlt:∀ a∈d.nds[i].alts,a.2.1<i:=fun a ha=>by
   have:=hoa a ha
   simp only [zkl,yb,ym] at this
   exact this.1.1.1
  have hdn:(d.dn i).map (·.1)=d.nds[i].done:=by
   unfold Dg.dn
   rw [zbm,hndi]
   rfl
  have hcn:∀ a∈d.nds[i].alts,zq4 ops a.1 a.2.2.1 a.2.2.2 ((d.dn i).map (·.1))=true:=fun a ha=>by
   have:=hoa a ha
   simp only [zkl,yb] at this
   rw [hdn]
   exact this.1.2
  have hex:=zj0 d.nds 0 i _ hnd hndi
  rw [yp] at hex
  rw [hg,ya] at hal ⊢
  by_cases hz0:i=0
  ·subst hz0
   have hal0:d.nds[0].alts=[]:=hz1 rfl
   rw [hal0] at hal ⊢
   exact ⟨hst,hk _ _ ⟨_,_,_,h,hs⟩ b (z4w hsz) hda⟩
  ·have hne:d.nds[i].alts≠[]:=hz2 hz0
   have one:∀ (e j:Nat) (kpl qs2:List Nat),(e,j,kpl,qs2)∈d.nds[i].alts→∀ (rem wai done:List Nat) (hdone:∀ q∈done,∃ st,(q,st)∈d.dn i),z4u d.anc rem wai done e kpl qs2=true→z1x d.anc (z0y rem [e]) (z0y wai qs2) (kpl++qs2) ((d.gs[j]?).getD .fin)=true→zq4 ops e kpl qs2 ((d.dn i).map (·.1))=true →
     (match zmu ops e with
      | some o=>exo tb cty ann con ops (Sg i) o (fun σ2=>zj2 tb ops qs2 σ2 (z2s kpl (d.dn i)) fun σ3 dn3=>z9g tb ops σ3 (z2s kpl (d.dn i))∧(z8f dn3 (d.dn j)&&z8f (d.dn j) dn3)=true∧wt (σ3.cut d.c) fun s=>s=Sg j) kp
      | none=>False)→∀ o,ops[e]? = some o→wpList C.P ops (QT C ds (fun a' w'=>∃ b',Off ops qs2 a' b'∧DRa C ds ops K (kpl++qs2) ((d.gs[j]?).getD .fin) b' w')) [o] b w:=by
    intro e j kpl qs2 hmem rem wai done hdone hno hal2 hcn hw o ho
    have hj:j<i:=hlt _ hmem
    rw [z7e,ho] at hw
    simp only [zq4,yb,ho] at hcn
    refine zla (k3:=fun σ3 dn3=>(z8f dn3 (d.dn j)&&z8f (d.dn j) dn3)=true∧wt (σ3.cut d.c) fun s=>s=Sg j) ht hcon hz hn hp ho hno hcn.1 hcn.2 (fun dn3 σ3 w3 O3 φ3 α3 b3 k1 k2 k3 k4 k5 k6 k7 k8 => ?_) b hsz hda h hs hd hdone hw
    exact ztr k3 k4 k5 k7 k8.1 k8.2 fun O' α' r' s' d' q'=>ih j (by omega) (by omega) _ _ _ b3 k1 k2 r' s' d' k6 q' hal2
   -- all choices,one by one
   have all:∀ (l:List (Nat × Nat × List Nat × List Nat)),l≠[]→(∀ a∈l,a∈d.nds[i].alts)→∀ (rem wai done:List Nat),(∀ q∈done,z52 C.P ops b w q)→(∀ q∈done,∃ st,(q,st)∈d.dn i)→z1x d.anc rem wai done (mkG d.gs l)=true→ziz tb cty ann con ops d Sg kp i l→DRa C ds ops K done (mkG d.gs l) b w:=by
    intro l
    induction l with
    | nil=>intro h;exact (h rfl).elim
    | cons a r ihl =>
     intro _ hm rem wai done hst hdone hal hex
     obtain ⟨e,j,kpl,qs2⟩:=a
     have hc1:=hcn _ (hm _ yl)
     cases r with
     | nil =>
      simp only [mkG,z1x,yb] at hal ⊢
      exact ⟨hst,fun o ho=>one e j kpl qs2 (hm _ yl) rem wai done hdone hal.1.1 hal.2 hc1 hex.1 o ho⟩
     | cons a2 r2 =>
      unfold mkG at hal ⊢
      simp only [z1x,yb] at hal ⊢
      exact ⟨fun o ho=>one e j kpl qs2 (hm _ yl) rem wai done hdone hal.1.1.1 hal.1.2 hc1 hex.1 o ho,ihl (by simp) (fun x hx=>hm x (yk _ hx)) rem wai done hst hdone hal.2 hex.2⟩
   exact all _ hne (fun a ha=>ha) rem wai done hst hdone hal hex
theorem zk7 {k:St→Prop} {kp:PV→St→Prop} {d:Dg} {id:Nat} {todo:List Item} (ht:TbG C.P tb G) (hcon:∀ f i o,con f i o→Con C.P G f i o) (hz:∀ w O,z.G w O→G.p w O) (hok:okD ops d n=true) (hn:ops.toList.all (fun o=>dOk n o.dst)=true)
  (hdo:ztl C ops) (hw:zra tb cty ann con ops kp k d σ) (hk:∀ s,k s→∀ V w,RS z s V w→TW C n ds todo V w) (hp:∀ v s,kp v s→z81 z C n ds v s) (V:Env) (w:World) (hr:RS z σ V w):TW C n ds (.code (.region id ops true)::todo) V w:=by
 have hn':∀ (q:Nat) (o:Oper),ops[q]? = some o→dOk n o.dst=true:=fun q o ho=>yd.1 hn o (by
  have:=List.mem_of_getElem? (l:=ops.toList) (i:=q) (a:=o) (by simpa using ho)
  exact this)
 obtain ⟨Sg,hw,hnd,hk0⟩:=hw
 obtain ⟨O,φ,α,h,hs⟩:=hr
 have hok':=hok
 simp only [okD,yb,zbm] at hok'
 obtain ⟨⟨⟨hpre,hcq⟩,hnds⟩,hlast⟩:=hok'
 cases hm:d.nds[d.nds.length - 1]? with
 | none=>rw [hm] at hlast;cases hlast
 | some md =>
 rw [hm] at hlast
 simp only [yb] at hlast
 obtain ⟨⟨⟨k5,k6⟩,k7⟩,k8⟩:=hlast
 have hlen:d.nds.length - 1<d.nds.length:=by
  rcases Nat.lt_or_ge (d.nds.length - 1) d.nds.length with q|q
  ·exact q
  ·rw [List.getElem?_eq_none q] at hm;cases hm
 have hal:z1x d.anc d.E (z0y (z3d ops d.E) d.qs) d.qs ((d.gs[d.nds.length - 1]?).getD .fin)=true :=
  z55 (fun x=>(z5z k6 x).symm) (fun x=>(z5z k7 x).symm) (fun x=>(z5z k8 x).symm) (zlb hnds _ _ md (yo _) hm)
 have hdr:z6k ops d.anc n d.E d.qs ((d.gs[d.nds.length - 1]?).getD .fin)=true:=by
  unfold z6k
  rw [yb,yb]
  refine ⟨⟨hpre,?_⟩,hal⟩
  rw [zjf hnds hm,ya]
  unfold z8v
  rw [zbj]
  exact k5
 have:=TW.zr9 (C:=C) (n:=n) (ds:=ds) (k:=todo) (L:=V) (w:=w) (id:=id) (l:=ops.toList) d.anc d.E d.qs ((d.gs[d.nds.length - 1]?).getD .fin) ht.mix (by simpa using hdr) (by simpa using hdo) fun w' x a ha hda=>by
  have h2:=h.zfv x
  obtain ⟨b,σ1,dn1,e1,e2,e3,e4,e5,e6,e7,e8,e9⟩:=z69 (C:=C) (ds:=ds) (done:=[]) (k:=fun σ1 dn1=>(z8f dn1 (d.dn (d.nds.length - 1))&&z8f (d.dn (d.nds.length - 1)) dn1)=true∧wt (σ1.cut d.c) fun s=>s=Sg (d.nds.length - 1)) ht.toTbOk (fun w O h=>ht.gt w O (hz w O h)) hn' d.qs a ha.size hda (h2.z4g ha) (by simp) (by simp) (by simpa using hcq) hw
  refine ⟨b,by simpa using e1,?_⟩
  have:=ztr (C:=C) (n:=n) (ops:=ops) (done:=d.qs) (k3:=DRa C ds ops (TWa C todo) d.qs ((d.gs[d.nds.length - 1]?).getD .fin) b w') e4 hs e5 (by simpa using e7) e9.1 e9.2 fun O' α' r' s' d' q' =>
   zln (C:=C) (K:=TWa C todo) (G:=G) (z:=z) ht hcon hz hn' hp hok hnd (fun V w hr a ha hda=>hk _ hk0 V w hr a ha hda) _ _ (yo _) (by omega) _ _ d.qs b e2 e3 r' s' d' (by simpa using e6) q' hal
  simpa using this
 simpa using this
end
section
variable {z:W0} {C:Cx} {n:Nat} {G:GI} {con:Nat→CIn→z2z→Prop} {tb:Tb} {cty:List (Nat × List (Option (Nat × Nat)))} {ann:Ann} {ds:List Deferred} {dd:List (Nat × Dg)}
end
def zux:List St→Nat→St
 | [],_=>⟨[],[],[],none⟩
 | s::_,0=>s
 | _::r,i+1=>zux r i
theorem S.eb {R A:Type} {W:R→Prop} {z:Option A} {g:A→Option R} (h:∀ a,z=some a→S (g a) W):S (z >>= g) W:=S.b h
theorem Ex.cl {con:Nat→CIn→z2z→Prop} {σ:St} {f:Nat} {args:List PV} {k:PV→St→Prop} {kp:PV→St→Prop} {A:Type} {z:Option A} {a:A} {i:CIn} {o:A→z2z} (bs as as':List Nat) (hc:∀ a,z=some a→con f i (o a)) (h:z=some a) (h0:zgw bs as as' i args σ k kp (o a))
  (h1:nrm.go σ i.vs args=z8b.go bs as i.vs:=by exact rfl) (h2:z6s σ bs as bs i.B:=by (repeat' first|exact trivial|exact rfl|apply And.intro)) (h3:zar σ as i.A:=by (repeat' first|exact trivial|exact rfl|apply And.intro)) (h4:zcr σ bs as (z7t.go i.vs args) i=true:=by exact rfl):zdk con σ f args k kp :=
 ⟨bs,as,as',i,o a,hc a h,h1,h2,h3,h4,h0⟩
theorem S.dg {R:Type} {y:Option R} {tb:Tb} {cty:List (Nat × List (Option (Nat × Nat)))} {ann:Ann} {con:Nat→CIn→z2z→Prop} {ops:Array Oper} {d:Dg} {σ:St} {kp:R→PV→St→Prop} {k:R→St→Prop} (Sg:List St) (h3:S y fun r=>k r (zux Sg 0))
  (h1:zj2 tb ops d.qs σ [] fun σ1 dn1=>z9g tb ops σ1 []∧(z8f dn1 (d.dn (d.nds.length - 1))&&z8f (d.dn (d.nds.length - 1)) dn1)=true∧wt (σ1.cut d.c) fun s=>s=zux Sg (d.nds.length - 1):=by (repeat' first|apply And.intro|exact rfl|exact trivial))
  (h2:∀ kp,zly tb cty ann con ops d (zux Sg) kp 0 d.nds:=by intro kp;(repeat (refine And.intro ?_ ?_;(as_aux_lemma=>(repeat' first|apply And.intro|exact rfl|exact trivial))));exact trivial) :
  S y (fun r=>zra tb cty ann con ops (kp r) (k r) d σ):=fun r hm=>⟨zux Sg,h1,h2 _,h3 r hm⟩
end Go.Pe
