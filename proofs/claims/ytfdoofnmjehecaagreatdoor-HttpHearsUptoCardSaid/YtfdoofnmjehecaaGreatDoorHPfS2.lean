import Derived.Test.YtfdoofnmjehecaaGreatDoorHPfA
set_option linter.all false
namespace Go.Pe
open _root_.Option renaming bind_eq_some_iff → ya, map_eq_some_iff → yb
open _root_.Bool renaming and_eq_true → yc, false_eq_true → yd, not_eq_true' → ye, or_eq_false_iff → yf
open _root_.List renaming all_cons → yg, all_eq_true → yh, any_eq_true → yi, cons_append → yj, filterMap_cons → yk, filter_map → yl, getElem?_eq_some_iff → ym, mem_append → yn, mem_append_left → yo, mem_cons → yp, mem_cons_of_mem → yq, mem_cons_self → yr, mem_filter → yt, mem_map → yv, mem_of_getElem? → yw, take_append_drop → yx, toArray → yy
open _root_.Nat renaming add_sub_cancel → yz, add_zero → yaa, beq → yab, beq_refl → yac, ble → yad, blt → yae, blt_eq → yaf, eq_of_beq_eq_true → yag, le_of_ble_eq_true → yah, le_refl → yai, le_trans → yaj, lt_of_lt_of_le → yak, lt_or_ge → yal, ne_of_beq_eq_false → yam, zero_add → yan
open _root_.Array renaming toList_inj → yao
open Go.RowKit Go.Lk
section
section
variable{z:W0}{fL fL':FL}{fB fB':FB}{fA fA':FA}{V:Env}{w w':World}{O O':Nat→Prop}{φ φ':Nat→Nat}{α α':Nat→Value}{σ σ':St}
theorem Ext.after(h:Rel z fL fB fA V w O φ α){H:Nat→Prop}(x:Ext H w w')(a:∀y,H y→z.F y∨z.w.heap.size≤y):Ext z.F z.w w':=h.ext.step x fun y c b=>by grind
theorem Bd.new{b:Nat}{T:TypeId}{us:List Value}{H:Nat→Prop}(hB:Bd O w)(x:Ext H w w')(c:zmk w' b T us):Bd (Ins O b) w':=fun y a=>by
 rcases a with rfl|a;·exact c.lt
 ·exact yak (hB y a) x.size
theorem Rel.newBG(h:Rl z σ V w O φ α){d key b:Nat}{T:TypeId}{us:List Value}{cs:List PV}{pv:PV}{pu:Value}(hf:σ.zaa key=true)(p:zmk w' b T us)(x:Ext z0x w w')(k:w.heap.size≤b)(s:VRs w O φ α cs us)(A:z5k.go (fun y=>y≠key) (fun _=>True) cs)(r:VR w' (Ins O b) (ren φ key b) α pv pu):Rl z {σ with B:=(key,⟨T,cs⟩)::σ.B,L:=(d,pv)::σ.L} ((d,pu)::V) w' (Ins O b) (ren φ key b) α:=by
 have t:Tr O w (Ins O b) w':=Tr.zb7 x (fun _ _ f=>f.elim) k;have i:=h.reB hf b;have h2:=i.move x t (fun y g=>.inr g) (Bd.new h.bd x p) (fun _ _ _ f=>f) (fun _ _ _ _ _ f=>f) (Ext.after h x fun _ f=>f.elim) fun y g=>by
  rcases g with rfl|g;·exact .inr (yaj h.ext.size k)
  ·exact h.only y g
 have l:ren φ key b key=b:=by simp[ren]
 have j:VRs w' (Ins O b) (ren φ key b) α cs us:=VRs.re (kb:=fun y=>y≠key) (ka:=fun _=>True) fun y g=>by simp[ren,g] (fun _ _=>rfl) _ _ A (VRs.tr t _ _ s);have m:=h2.addB (b:=key) (e:=⟨T,cs⟩) (us:=us) (.inl l) (by grind) j fun c e' q _=>by have:=i.boxLt q;omega fun a e' o f=>by have:=i.arrLt o f;omega (by rw[l];exact .inr (yaj h.ext.size k));have n:=m.put (d:=d) (v:=pv) (u:=pu) r;exact n.mono Le.cons Le.cons (Le.refl _)
theorem Rel.newB(h:Rl z σ V w O φ α){d key b:Nat}{T:TypeId}{us:List Value}{cs:List PV}(hf:σ.zaa key=true)(a:zmk w' b T us)(x:Ext z0x w w')(e:w.heap.size≤b)(c:VRs w O φ α cs us)(f:z5k.go (fun y=>y≠key) (fun _=>True) cs):Rl z {σ with B:=(key,⟨T,cs⟩)::σ.B,L:=(d,.ptr key 0)::σ.L} ((d,.pointer (some ⟨b,0,none⟩))::V) w' (Ins O b) (ren φ key b) α:=h.newBG hf a x e c f (by grind[VR,ren])
theorem Rel.newA(h:Rl z σ V w O φ α){d key:Nat}{v:Value}{e:Arr}{H:Nat→Prop}(hf:σ.z7y key=true)(x:Ext H w w')(t:Tr O w O' w')(more:∀y,O y→O' y)(g:Bd O' w')(only':∀y,O' y→O y∨w.heap.size≤y)(hB:∀b e,lk σ.B b=some e→¬H (φ b))(J:∀a e,lk σ.A a=some e→∀y,(α a).ownBlock=some y→¬H y)(p:∀y,H y→z.F y∨z.w.heap.size≤y)(ho:za8 w' O' e.T e.n v e.l)(m:∀y,v.ownBlock=some y→H y∨w.heap.size≤y)(I:∀y,v.ownBlock=some y→e.mine=false∧z.F y∨z.w.heap.size≤y):Rl z {σ with A:=(key,e)::σ.A,L:=(d,.ref key)::σ.L} ((d,v)::V) w' O' φ (zm2 α key v):=by
 have k1:=h.reA hf v;have i:zm2 α key v key=v:=by simp[zm2]
 obtain⟨D,E,G⟩:=zcr hf;have j:∀a e,lk σ.A a=some e→zm2 α key v a=α a:=fun a e q=>by grind[zm2]
 have s:=k1.move x t more g hB fun a e q y f=>by grind (Ext.after h x p) fun y f=>by
  rcases only' y f with f|f;·exact h.only y f
  ·exact .inr (yaj h.ext.size f)
 have k3:=s.addA (a:=key) (e:=e) (by grind) fun c e' o _ y f=>by
  rw[i];intro k;rw[j c e' o]at f;rcases m y k with h2|h2;·grind
  ·have:=h.arrLt o f;omega fun b e' r=>by
  rw[i];intro k;rcases m _ k with h2|h2;·grind
  ·have:=h.boxLt r;omega (fun y f=>by grind);have C:=k3.put (d:=d) (v:=.ref key) (u:=v) ⟨i.symm,za8.one' ho⟩;exact C.mono Le.cons (Le.refl _) Le.cons
theorem Rel.zp9(h:Rl z σ V w O φ α){d:Nat}{v:PV}{u:Value}(a:VR w O φ α v u):Rl z {σ with L:=(d,v)::σ.L} ((d,u)::V) w O φ α:=(h.put a).mono Le.cons (Le.refl _) (Le.refl _)
def putE(d:Option Nat)(u:Value)(V:Env):Env:=match d with|some d=>(d,u)::V|none=>V
theorem Rel.putO(h:Rl z σ V w O φ α)(d:Option Nat){v:PV}{u:Value}(a:VR w O φ α v u):Rl z (σ.put d v) (putE d u V) w O φ α:=by cases d with|none=>exact h|some d=>exact h.zp9 a
theorem Rel.znx(h:Rl z σ V w O φ α)(x:Ext z0x w w'):Rl z σ V w' O φ α:=h.move x (Tr.z6e x fun _ _ a=>a.elim) (fun _ b=>b) (h.bd.ext x) (fun _ _ _ a=>a) (fun _ _ _ _ _ a=>a) (Ext.after h x fun _ a=>a.elim) h.only
theorem Rel.newAN(h:Rl z σ V w O φ α){d key b T m len:Nat}{us:List Value}{l:List (List D)}{mine:Bool}(f:T<1000000)(hf:σ.z7y key=true)(g:z2z w' b T us)(x:Ext z0x w w')(e:w.heap.size≤b)(hl:l.length=len)(i:len≤maxLen)(k:us.length=len*m)(j:RDl w O m l us):Rl z {σ with A:=(key,⟨mine,T,m,l⟩)::σ.A,L:=(d,.ref key)::σ.L} ((d,.slice (some ⟨b,0,none⟩) len len)::V) w' (Ins O b) φ (zm2 α key (.slice (some ⟨b,0,none⟩) len len)):=by
 have t:Tr O w (Ins O b) w':=Tr.zb7 x (fun _ _ c=>c.elim) e;exact h.newA hf x t (fun y a=>.inr a) (Bd.new h.bd x (T:=T) (us:=us) (.inl ⟨f,g⟩)) fun y a=>by
  rcases a with rfl|a;·exact .inr e
  grind (fun _ _ _ c=>c) (fun _ _ _ _ _ c=>c) (fun _ c=>c.elim) (.inl ⟨f,Own.zb7 g hl i k (j.tr t) (.inl rfl)⟩) fun y a=>by grind[Value.ownBlock] fun y a=>by simp only[Value.ownBlock,Option.some.injEq]at a;subst a;exact .inr (yaj h.ext.size e)
theorem Rel.zqj(h:Rl z σ V w O φ α){key b:Nat}{e:Bx}{us:List Value}{cs:List PV}(hk:lk σ.B key=some e)(n:zmk w' (φ key) e.T us)(x:Ext (At (φ key)) w w')(j:VRs w O φ α cs us)(_:b=b):Rl z {σ with B:=zgn key ⟨e.T,cs⟩ σ.B} V w' O φ α:=by
 have ho:=(h.box key e hk).1;have t:Tr O w O w':=Tr.z6e x fun y _ f=>by cases f;exact ho
 have l:=h.mono (Le.refl _) (fB':=del (lk σ.B) key) (fun t v j=>(z57 j).2) (Le.refl _);have h2:=l.move x t (fun _ f=>f) (h.bd.ext x) (fun c e' g d=>by obtain⟨k,g⟩:=z57 g;exact h.bb c key e' e g hk k d) (fun a e' i y f d=>by cases d;exact h.ab a key e' e i hk f) (Ext.after h x fun y f=>by cases f;exact(h.bF key e hk).elim (fun q=>.inl q.2) .inr) h.only;have m:=h2.addB (b:=key) (e:=⟨e.T,cs⟩) (us:=us) ho n (VRs.tr t _ _ j) (fun c e' g k d=>h.bb c key e' e (z57 g).2 hk k d) (fun a e' i d=>h.ab a key e' e i hk d) (h.bF key e hk);exact m.mono (Le.refl _) Le.zgn (Le.refl _)
theorem Rel.zz053(h:Rl z σ V w O φ α){a:Nat}{e:Arr}{l:List (List D)}(hk:lk σ.A a=some e)(ho:za8 w' O e.T e.n (α a) l)(x:Ext (fun y=>(α a).ownBlock=some y) w w'):Rl z {σ with A:=zgn a {e with l:=l} σ.A} V w' O φ α:=by have t:Tr O w O w':=Tr.z6e x fun y _ d=>h.arrO hk d;have j:=h.mono (Le.refl _) (Le.refl _) (fA':=del (lk σ.A) a) fun t v o=>(z57 o).2;have h2:=j.move x t (fun _ d=>d) (h.bd.ext x) (fun c e' f g=>h.ab a c e e' hk f g) (fun c e' f y d g=>by obtain⟨i,f⟩:=z57 f;exact h.aa c a e' e f hk i y d g) (Ext.after h x fun y d=>(h.aF a e hk y d).elim (fun q=>.inl q.2) .inr) h.only;have k:=h2.addA (a:=a) (e:={e with l:=l}) ho (fun c e' f i y d g=>h.aa c a e' e (z57 f).2 hk i y d g) (fun b e' m g=>h.ab a b e e' hk m g) (h.aF a e hk);exact k.mono (Le.refl _) (Le.refl _) Le.zgn
theorem RDs.len{w:World}{O:Nat→Prop}:∀{l:List D}{us:List Value},RDs w O l us→us.length=l.length|[],us,h=>by cases h;rfl|d::l,us,h=>by obtain⟨v,vs,rfl,_,h⟩:=h;simp[RDs.len h]
theorem toD_ok{c:Option (Nat×Nat)}{v:PV}{d:D}{u:Value}(e:toD c v=some d)(h:VR w O φ α v u):RD w O d u:=by
 unfold toD at e;split at e;·grind[VR,RD]
 ·grind[VR,RD]
 ·grind[VR,RD]
 ·cases e;exact h
 ·split at e;·cases e;subst h;exact .inl ⟨⟨_,rfl⟩,rfl⟩
  ·cases e
 ·cases e;obtain⟨us,vs,rfl,a,h2⟩:=h;obtain rfl:us=[]:=a;obtain rfl:vs=[]:=h2;rfl
 ·cases e
theorem toDs_ok:∀{cs:List PV}{a:List (Option (Nat×Nat))}{ds:List D}{us:List Value},toDs a cs=some ds→VRs w O φ α cs us→RDs w O ds us|[],a,ds,us,e,h=>by cases e;exact h|v::vs,a,ds,us,e,h=>by obtain⟨u,b,rfl,h2,j⟩:=h;cases a with
  |nil=>
   simp only[toDs]at e;split at e;·rename_i d f g i;cases e;exact⟨u,b,rfl,toD_ok g h2,toDs_ok i j⟩
   ·cases e|cons c a=>
   simp only[toDs]at e;split at e;·rename_i d f g i;cases e;exact⟨u,b,rfl,toD_ok g h2,toDs_ok i j⟩
   ·cases e
theorem zk6{f:List (Option (Nat×Nat))}{m:Nat}:∀{us:List PV}{is:List Nat}{xs:List Value}{ds:List (List D)}{i:Nat},zd0 i is=true→is.length=us.length→VRs w O φ α us xs→us.all (fun x=>! z5t x)=true→elsD f us=some ds→ds.all (fun x=>yab x.length m)=true→∃cs,flat m i (is.zip xs)=some cs∧RDl w O m ds cs∧cs.length=us.length*m∧ds.length=us.length|[],is,xs,ds,i,_,hl,h,_,e,_=>by cases h;cases e;simp only[List.zip_nil_right,flat];exact⟨[],rfl,trivial,by simp,rfl⟩|u::us,is,xs,ds,i,b,hl,h,c,e,a=>by obtain⟨x,q,rfl,h2,k⟩:=h;cases is with|nil=>simp at hl|cons j is=>
   simp only[zd0,yc]at b;simp only[yg,yc]at c;unfold elsD at e;split at e
   ·rename_i d g l n;cases e;simp only[yg,yc]at a;obtain⟨cs,k1,t,k3,p⟩:=zk6 b.2 (by grind) k c.2 n a.2;have o:=toDs_ok l (h2.cells (by grind));have r:=RDs.len o;have s:=yag a.1;refine⟨x.cells.toList++cs,?_,?_,?_,by simp[p]⟩;·grind[List.zip_cons_cons,flat]
    ·refine⟨?_,?_⟩;·grind
     grind
    grind
   ·cases e
theorem zwk:∀{l:List (List D)}{s:List UInt8},dby l=some s→∃xs:List Int,l=xs.map (eI .u8)∧s=byt xs
 |[],s,e=>by cases e;exact⟨[],rfl,rfl⟩|x::r,s,e=>by
  unfold dby at e;split at e;·grind
  ·rename_i n c b;split at e;·rename_i d a;cases e;obtain⟨rfl,rfl⟩:=b;obtain⟨xs,rfl,rfl⟩:=zwk a;exact⟨n::xs,rfl,rfl⟩
   ·cases e
  ·cases e
end
def RS(z:W0)(σ:St)(V:Env)(w:World):Prop:=∃O φ α,Rl z σ V w O φ α∧∀x,z.O x→O x
def zc6(z:W0)(C:Cx)(n:Nat)(ds:List Deferred)(v:PV)(s:St):Prop:=∀V w O φ α u φ' α',Rl z s V w O φ α→(∀x,z.O x→O x)→VR w O φ' α' v u→∀a,Has n V a→a.defers=ds→PN C a [{v:=u,recovered:=false}] w
def NX(z:W0)(C:Cx)(n:Nat)(ds:List Deferred)(ops:Array Oper)(rest:List Oper)(K:Act→World→Prop)(s:St):Prop:=∀V w,RS z s V w→OW C n ds ops rest K V w
theorem Rel.tr0{z:W0}{fL:FL}{fB:FB}{fA:FA}{V:Env}{w:World}{O:Nat→Prop}{φ:Nat→Nat}{α:Nat→Value}(h:Rel z fL fB fA V w O φ α):Tr z.O z.w O w:=⟨h.ext.size,fun b d ho=>h.ext.block b d fun hf=>ho (z.hF b hf),fun b d ho a=>by
  rcases h.only b a with c|c;·exact ho c
  ·omega⟩
theorem zt9{kb ka:Nat→Prop}(v:Value):z5k kb ka (zvv v):=by unfold zvv;split<;>trivial
theorem zo2{kb ka:Nat→Prop}:∀(l:List Value),z5k.go kb ka (l.map zvv)|[]=>trivial|v::l=>⟨zt9 v,zo2 l⟩
theorem zyn{kb ka:Nat→Prop}(v:Value):z5k kb ka (ofV v):=by
 unfold ofV;split;·exact zo2 _
 ·exact zt9 v
theorem zmu{kb ka:Nat→Prop}{v:PV}(h:z5k kb ka v):z5k.go kb ka (cellsOf v):=by cases v with|agg cs=>exact h|_=>exact⟨h,trivial⟩
theorem zz09w{kb ka:Nat→Prop}{σ:St}(a:∀t v,lk σ.L t=some v→z5k kb ka v){x:Operand}{v:PV}(e:σ.ev x=some v):z5k kb ka v:=by cases x with|tmp t=>exact a t v e|const c=>cases e;exact zyn c|global g=>cases e|func f=>
  simp only[St.ev]at e;split at e;·cases e
  ·cases e;exact⟨trivial,trivial⟩
theorem zdx{td:TypeDesc}{ky:Option IntKind}(h:kyOf td=some ky):td=kdT ky:=by unfold kyOf at h;split at h<;>first|(cases h;rfl)|cases h
theorem toKey_ok{w:World}{O:Nat→Prop}{φ:Nat→Nat}{α:Nat→Value}{ky:Option IntKind}{v:PV}{kd:D}{u:Value}(e:toKey ky v=some kd)(h:VR w O φ α v u):zvs ky kd∧RD w O kd u:=by
 unfold toKey at e;split at e
 ·split at e;·rename_i a;cases e;exact⟨(z9s a).symm,by grind[VR,RD]⟩
  ·cases e
 ·cases e;exact⟨trivial,by grind[VR,RD]⟩
 ·cases e
theorem zz06u{a b:Option IntKind}(h:kyEq a b=true):a=b:=by unfold kyEq at h;grind[z9s]
theorem bq_eq{a b:Bool}(h:bq a b=true):a=b:=by cases a<;>cases b<;>first|rfl|cases h
theorem z96{σ:St}{ky:Option IntKind}{g:Bool}{u:PV}{m:Nat×List (List D)}(h:ze0 σ ky g u=some m):u=.mp m.1∧∃e,lk σ.B m.1=some e∧e.cs=[.md (.cont ky g m.2)]∧e.T=1000000:=by
 unfold ze0 at h;split at h
 ·split at h
  ·split at h
   ·split at h;·rename_i a;simp only[yc]at a;cases h;rw[zz06u a.1.2,bq_eq a.2];simp_all
    ·cases h
   ·cases h
  ·cases h
 ·cases h
theorem zjt{w:World}{O:Nat→Prop}{φ:Nat→Nat}{α:Nat→Value}{g:Bool}{n:Nat}{ds:List D}{r:PV}{v:Value}(e:z8c g n (ofDs ds)=some r)(h:zvx w O g ds v):VR w O φ α r v:=by cases g with
 |true=>
  obtain⟨us,rfl,h2⟩:=h;unfold z8c at e;simp only at e;split at e;·cases e;exact⟨us,rfl,zey h2⟩
  ·cases e|false=>obtain⟨d,rfl,h2⟩:=h;grind[ofDs,z8c,zym]
theorem zrl{w:World}{O:Nat→Prop}{φ:Nat→Nat}{α:Nat→Value}{g:Bool}{c:List (Option (Nat×Nat))}{ds:List D}{v:PV}{u:Value}(b:aggQ g v=true)(e:toDs c (cellsOf v)=some ds)(h:VR w O φ α v u):zvx w O g ds u:=by cases g with|true=>cases v<;>simp only[aggQ,yd]at b;obtain⟨us,rfl,h2⟩:=h;exact⟨us,rfl,toDs_ok e h2⟩|false=>
  have f:zvw v=true:=by simpa[aggQ]using b
  have h2:cellsOf v=[v]:=by cases v<;>first|rfl|simp[zvw]at f
  rw[h2]at e;have a:=toDs_ok e (us:=[u]) (w:=w) (O:=O) (φ:=φ) (α:=α) ⟨u,[],rfl,h,rfl⟩;cases ds with|nil=>cases a|cons d ds=>obtain⟨v',vs,i,j,k⟩:=a;cases i;cases ds with|nil=>exact⟨d,rfl,j⟩|cons m ds=>obtain⟨_,_,l,_⟩:=k;cases l
theorem OW.valN{C:Cx}{n:Nat}{ds:List Deferred}{k:Act→World→Prop}{L:Env}{w:World}{ops:Array Oper}{o:Oper}{rest:List Oper}{v:Value}{w':World}(e:o.guard=none)(hd:o.dst=none)(f:∀a,Has n L a→(execOp a.eval o).run C.P w=.ok (.value v) w')(h:OW C n ds ops rest k L w'):OW C n ds ops (o::rest) k L w:=fun a b d=>wpList_plain e fun K c=>by unfold Oper.wp;rw[f a b,Oper.upon_value,hd];exact c _ _ (h _ b.same (by grind[Act.put]))
theorem zfc:∀(L:List MapEntry)(i:Nat)(e:MapEntry),(L.map (·.born)).Nodup→L[i]?=some e→(L.filter fun x=>! x.born==e.born)=L.eraseIdx i|x::L,0,e,hn,h=>by simp_all|x::L,i+1,e,hn,h=>by simp only[List.map_cons,List.nodup_cons]at hn;rw[List.filter_cons_of_pos (by grind),List.eraseIdx_cons_succ,zfc L i e hn.2 h]|[],i,e,_,h=>by simp at h
theorem zuq{a:List MapEntry}{seen:Array Nat}{i:Nat}{e:MapEntry}(hn:(a.map (·.born)).Nodup)(h:(zg6 a seen.toList)[i]?=some e):zg6 a (seen.push e.born).toList=(zg6 a seen.toList).eraseIdx i:=by rw[←zfc (zg6 a seen.toList) i e (List.Nodup.sublist (List.Sublist.map _ List.filter_sublist) hn) h];grind[zg6,List.filter_filter]
theorem Rel.dropB{z:W0}{V:Env}{w:World}{O:Nat→Prop}{φ:Nat→Nat}{α:Nat→Value}{σ:St}(h:Rl z σ V w O φ α){b:Nat}{e:Bx}(n:lk σ.B b=some e):Rl z {σ with B:=zan b σ.B} V w (fun x=>O x∧x≠φ b) φ α:=by
 have td:Tr O w (fun x=>O x∧x≠φ b) w:=Tr.drop w fun x f=>f.1;refine⟨fun t v p=>?_,fun c e' g=>?_,fun a e' m=>?_,fun c d i j k h2 hn=>h.bb c d i j (z4j k).2 (z4j h2).2 hn,h.aa,fun a c i j k h2=>h.ab a c i j k (z4j h2).2,fun c e' g=>h.bF c e' (z4j g).2,h.aF,fun x f=>h.bd x f.1,h.ext,fun x f=>h.only x f.1,z.hG td h.gl,h.keep⟩;·obtain⟨u,h2,l⟩:=h.env t v p;exact⟨u,h2,l.tr td⟩
 ·obtain⟨r,g⟩:=z4j g;obtain⟨h2,us,l,o⟩:=h.box c e' g;exact⟨⟨h2,h.bb c b e' e g n r⟩,us,l,VRs.tr td _ _ o⟩
 ·exact(h.arr a e' m).down (fun x f=>f.1) fun x f=>⟨h.arrO m f,fun q=>h.ab a b e' e m n (q▸f)⟩
section
variable{z:W0}{V:Env}{w:World}{O:Nat→Prop}{φ:Nat→Nat}{α:Nat→Value}{σ:St}{C:Cx}{n:Nat}{ops:Array Oper}{o:Oper}{rest:List Oper}{K:Act→World→Prop}
theorem zzb{ann:Ann}{x:Operand}{d:Nat}(h:roSt ann x=some d):x=.tmp d:=by unfold roSt at h;grind
theorem zkh{β:Type}{a:Nat}{x v:β}:∀{l:List (Nat×β)},lk l a=some v→lk (zgn a x l) a=some x
 |[],h=>by cases h|(s,y)::r,h=>by
  unfold zgn;split;·grind[lk]
  ·rename_i e;unfold lk at h⊢;rw[e]at h⊢;exact zkh h
theorem zki{β:Type}{a t:Nat}{x:β}(hn:t≠a):∀{l:List (Nat×β)},lk (zgn a x l) t=lk l t
 |[]=>rfl|(s,y)::r=>by
  unfold zgn;split;·grind[yag,lk]
  ·unfold lk;rw[zki hn]
theorem zaw{β:Type}{a t:Nat}{x v:β}{l:List (Nat×β)}(h:lk (zan a l) t=some v):lk (zan a (zgn a x l)) t=some v:=by grind[z4j,zbu,zki]
theorem ztx{key E:Nat}{k:St→Prop}(h:Rl z σ V w O φ α)(a:σ.born key E k):∃s α',Rl z s V w O φ α'∧k s:=by
 obtain⟨s,b,a⟩:=zc a;obtain⟨α',h2⟩:=z7q _ h b;split at a;·rename_i c;exact⟨_,α',zbg h2 c fun u d=>by grind[VR],a⟩
 grind
theorem OW.panD{ds:List Deferred}{x:Operand}{T:TypeId}{u:Value}(d:o.guard=none)(ho:o.op=.panic x)(f:Lk.ev V x=some (.iface T u))(h:∀a,Has n V a→a.defers=ds→PN C a [{v:=.iface T u,recovered:=false}] w):OW C n ds ops (o::rest) K V w:=fun a c b=>wpList_plain d fun K g=>by
  have e:(execOp a.eval o).run C.P w=.halt (.panic (.iface T u)) w:=by simp[execOp,ho,c.ev f,Instr.panic]
  unfold Oper.wp;rw[e,Oper.upon_panic];exact h a c b
set_option maxRecDepth 100000 in
theorem zjs{ds:List Deferred}{tb:Tb}{cty:List (Nat×List (Option (Nat×Nat)))}{k:St→Prop}(Z:TbOk C.P tb)(hg:o.guard=none)(hn:dOk n o.dst=true)(h:Rl z σ V w O φ α)(Y:∀x,z.O x→O x)(hk:∀s,k s→NX z C n ds ops rest K s)(f:actM tb cty σ o k):OW C n ds ops (o::rest) K V w:=by
 unfold actM at f;split at f;case h_1=>
  rename_i t ho;replace f:=zc f;obtain⟨d,hd,f⟩:=f;rw[hd]at hn;split at f
  ·replace f:=zc f;obtain⟨ky,h1,f⟩:=f;replace f:=zc f;obtain⟨s,h2,f⟩:=f;split at f;·rename_i hf;refine OW.val (v:=.map (some w.heap.size)) (w':=w.alloc (.map #[] 0)) hg hd hn fun a A=>by simp[execOp,ho,Instr.makeMap] ?_;have hx:Ext z0x w (w.alloc (.map #[] 0)):=Ext.alloc _ _ _;refine hk _ f _ _ ⟨_,_,_,h.newBG (T:=1000000) (us:=[encE []]) hf (.inr (.inl ⟨by omega,by omega,#[],0,heap_alloc_new w _,Stamped.nil,rfl⟩)) hx (yai _) ⟨_,[],rfl,⟨[],rfl,trivial⟩,rfl⟩ ⟨trivial,trivial⟩ (by simp[VR,ren]),fun y hy=>.inr (Y y hy)⟩
   grind
  grind
 case h_2=>
  rename_i t x y v ho;split at f
  ·rename_i hd;split at f
   ·rename_i kt et hu;replace f:=zc f;obtain⟨ky,h1,f⟩:=f;replace f:=zc f;obtain⟨s,h2,f⟩:=f;replace f:=zc f;obtain⟨v0,h3,f⟩:=f;replace f:=zc f;obtain⟨σ',h4,f⟩:=f;replace f:=zc f;obtain⟨u,Q,f⟩:=f;replace f:=zc f;obtain⟨kv,h6,f⟩:=f;replace f:=zc f;obtain⟨v',h7,f⟩:=f;replace f:=zc f;obtain⟨kd,h8,f⟩:=f;replace f:=zc f;obtain⟨vd,h9,f⟩:=f;replace f:=zc f;obtain⟨m,D,f⟩:=f;split at f
    ·rename_i hq;obtain⟨l,H,f⟩:=f;cases H;obtain⟨k1,k2,_,_⟩:=z1n _ h Y h4;obtain⟨rfl,e,B,e2,S⟩:=z96 D;obtain⟨td,E,I⟩:=ya.1 h1;obtain⟨xu,j,p⟩:=k1.ev Q;obtain⟨yu,L,M⟩:=k1.ev h6;obtain⟨vu,a0,a1⟩:=k1.ev h7;subst p;obtain⟨X,clock,m1,m2,m3⟩:=k1.ze0 B e2 S;obtain⟨q1,q2⟩:=toKey_ok h8 M;have J:C.P.underlying kt=some (kdT ky):=by rw[Z.und _ _ E,zdx I]
     obtain⟨G,clock',w',R,W,r3,r4,r5⟩:=ze7 (Z.und _ _ hu) J m1 m2 m3 q1 q2 (zrl hq h9 a1);refine OW.unit (w':=w') hg hd (fun a A=>?_) ?_;·simp only[execOp,ho,A.ev j,A.ev L,A.ev a0,Sem.run_bind,R,Result.andThen_ok];rfl
     ·have F:=k1.zqj (e:=e) (us:=[encE G.toList]) (cs:=[.md (.cont ky s.1 (zb6 m.2 kd vd))]) B (by exact .inr (.inl ⟨by omega,by omega,G,clock',W,r3,rfl⟩)) r5 ⟨_,[],rfl,⟨_,rfl,r4⟩,rfl⟩ (rfl:m.1=m.1);rw[S]at F;exact hk _ f _ _ ⟨_,_,_,F,k2⟩
    grind
   grind
  grind
 case h_3=>
  rename_i t x y v ho;split at f
  ·rename_i hd;split at f
   ·rename_i kt et hu;replace f:=zc f;obtain⟨ky,h1,f⟩:=f;replace f:=zc f;obtain⟨s,h2,f⟩:=f;replace f:=zc f;obtain⟨v0,h3,f⟩:=f;replace f:=zc f;obtain⟨σ',h4,f⟩:=f;replace f:=zc f;obtain⟨u,Q,f⟩:=f;replace f:=zc f;obtain⟨kv,h6,f⟩:=f;replace f:=zc f;obtain⟨v',h7,f⟩:=f;replace f:=zc f;obtain⟨kd,h8,f⟩:=f;replace f:=zc f;obtain⟨vd,h9,f⟩:=f;replace f:=zc f;obtain⟨m,D,f⟩:=f;split at f
    ·rename_i hq;obtain⟨l,H,f⟩:=f;cases H;obtain⟨k1,k2,_,_⟩:=z1n _ h Y h4;obtain⟨rfl,e,B,e2,S⟩:=z96 D;obtain⟨td,E,I⟩:=ya.1 h1;obtain⟨xu,j,p⟩:=k1.ev Q;obtain⟨yu,L,M⟩:=k1.ev h6;obtain⟨vu,a0,a1⟩:=k1.ev h7;subst p;obtain⟨X,clock,m1,m2,m3⟩:=k1.ze0 B e2 S;obtain⟨q1,q2⟩:=toKey_ok h8 M;have J:C.P.underlying kt=some (kdT ky):=by rw[Z.und _ _ E,zdx I]
     obtain⟨G,clock',w',R,W,r3,r4,r5⟩:=ze7 (Z.und _ _ hu) J m1 m2 m3 q1 q2 (zrl hq h9 a1);refine OW.unit (w':=w') hg hd (fun a A=>?_) ?_;·simp only[execOp,ho,A.ev j,A.ev L,A.ev a0,Sem.run_bind,R,Result.andThen_ok];rfl
     ·have F:=k1.zqj (e:=e) (us:=[encE G.toList]) (cs:=[.md (.cont ky s.1 (zb6 m.2 kd vd))]) B (by exact .inr (.inl ⟨by omega,by omega,G,clock',W,r3,rfl⟩)) r5 ⟨_,[],rfl,⟨_,rfl,r4⟩,rfl⟩ (rfl:m.1=m.1);rw[S]at F;exact hk _ f _ _ ⟨_,_,_,F,k2⟩
    grind
   grind
  grind
 case h_4=>
  rename_i t x y c ho;replace f:=zc f;obtain⟨d,hd,f⟩:=f;rw[hd]at hn;split at f
  ·rename_i kt et hu;replace f:=zc f;obtain⟨ky,h1,f⟩:=f;replace f:=zc f;obtain⟨⟨g,nn⟩,h2,f⟩:=f;replace f:=zc f;obtain⟨zz,h3,f⟩:=f;replace f:=zc f;obtain⟨u,Q,f⟩:=f;replace f:=zc f;obtain⟨kv,h6,f⟩:=f;replace f:=zc f;obtain⟨kd,h8,f⟩:=f;replace f:=zc f;obtain⟨zd,h9,f⟩:=f;replace f:=zc f;obtain⟨m,D,f⟩:=f;split at f
   ·rename_i hq;obtain⟨dd,H,f⟩:=f;cases H;replace f:=zc f;obtain⟨r,E,f⟩:=f;obtain⟨rfl,e,B,e2,S⟩:=z96 D;obtain⟨td,a4,I⟩:=ya.1 h1;obtain⟨xu,j,p⟩:=h.ev Q;obtain⟨yu,L,M⟩:=h.ev h6;subst p;obtain⟨X,clock,m1,m2,m3⟩:=h.ze0 B e2 S;obtain⟨q1,q2⟩:=toKey_ok h8 M;have J:C.P.underlying kt=some (kdT ky):=by rw[Z.und _ _ a4,zdx I]
    obtain⟨v,ok,R,W⟩:=zvg (Z.und _ _ hu) J (Z.zer _ _ h3) m1 m3 q1 q2 c;have hv:zvx w O g (zlv m.2 kd zd) v∧ok=znw m.2 kd:=by
     rcases W with⟨r3,rfl,rfl⟩|⟨b3,r3,r4,rfl⟩;·simp only[zlv,znw,r3,and_true];exact zrl hq h9 (zkl (φ:=φ) (α:=α) _)
     ·simp_all[zlv,znw]
    have hr:=zjt (φ:=φ) (α:=α) E hv.1;refine OW.val (w':=w) hg hd hn fun a A=>by simp only[execOp,ho,A.ev j,A.ev L,Sem.run_bind,R,Result.andThen_ok];rfl ?_;split at f;·exact hk _ f _ _ ⟨_,_,_,h.zp9 hr,Y⟩
    ·obtain⟨b,a5,f⟩:=f;cases a5;exact hk _ f _ _ ⟨_,_,_,h.zp9 (v:=.tup [r,.bool _]) ⟨[v,.bool ok],rfl,v,_,rfl,hr,_,[],rfl,by rw[hv.2];rfl,rfl⟩,Y⟩
   grind
  grind
 case h_5=>
  rename_i t x ho;replace f:=zc f;obtain⟨d,hd,f⟩:=f;rw[hd]at hn;split at f
  ·rename_i kt et hu;replace f:=zc f;obtain⟨ky,h1,f⟩:=f;replace f:=zc f;obtain⟨⟨g,nn⟩,h2,f⟩:=f;replace f:=zc f;obtain⟨u,Q,f⟩:=f;replace f:=zc f;obtain⟨m,D,f⟩:=f;split at f
   ·rename_i hf;rw[yc]at hf;have b5:=yah hf.1;obtain⟨rfl,e,B,e2,S⟩:=z96 D;obtain⟨xu,j,p⟩:=h.ev Q;subst p;obtain⟨X,clock,m1,m2,m3⟩:=h.ze0 B e2 S;have a6:=h.dropB B;have td:Tr O w (fun x=>O x∧x≠φ m.1) w:=Tr.drop w fun x hx=>hx.1;refine OW.val (w':=w.alloc (.mapIter (some (φ m.1)) clock #[] clock)) hg hd hn fun a A=>by simp only[execOp,ho,A.ev j,Sem.run_bind,zzk (Z.und _ _ hu) m1,Result.andThen_ok];rfl ?_;have hx:Ext z0x w (w.alloc (.mapIter (some (φ m.1)) clock #[] clock)):=Ext.alloc _ _ _;have hl:zg6 X.toList (#[]:Array Nat).toList=X.toList:=by simp[zg6]
    refine hk _ f _ _ ⟨_,_,_,a6.newB (T:=2000000) (us:=[encI (φ m.1) clock (#[]:Array Nat).toList clock]) hf.2 (.inr (.inr ⟨by omega,φ m.1,clock,#[],clock,heap_alloc_new w _,rfl⟩)) hx (yai _) ⟨_,[],rfl,⟨φ m.1,#[],clock,X,rfl,⟨m1,m2,fun q=>q.2 rfl⟩,by rw[hl];exact m3.tr td,trivial⟩,rfl⟩ ⟨trivial,trivial⟩,fun y hy=>.inr ⟨Y y hy,fun q=>?_⟩⟩;have h3:=z.hB y hy;rcases h.bF _ e B with h4|h4;·omega
    ·omega
   grind
  grind
 case h_6=>
  rename_i x ho;replace f:=zc f;obtain⟨d,hd,f⟩:=f;rw[hd]at hn;replace f:=zc f;obtain⟨u,Q,f⟩:=f;split at f
  ·rename_i b off;replace f:=zc f;obtain⟨e,B,f⟩:=f;split at f
   ·rename_i ky g cur rem hc;split at f
    ·rename_i F;rw[yc]at F;have U:=yag F.1;subst U;have F:=yag F.2;obtain⟨xu,j,p⟩:=h.ev Q;subst p;obtain⟨_,us,i1,i2⟩:=h.box b e B;obtain⟨mm,since,seen,last,i3,rfl⟩:=i1.iter (by omega);rw[hc]at i2;obtain⟨uu,b1,j1,j2,j3⟩:=i2;cases j1;obtain⟨m',seen',clock',X,j4,⟨j5,j6,j7⟩,j8,j9⟩:=j2;obtain⟨p1,p2,N,p4⟩:=zse j4;subst p1 p2 p4;have N:seen=seen':=yao.1 N;subst N;rcases zz035 (P:=C.P) (ty:=o.type) j5 i3 j6.1 with⟨R,W⟩|⟨i,en,R,w',W,r3,r4⟩
     ·rw[R]at j8;have a3:rem=[]:=by cases rem with|nil=>rfl|cons _ _=>exact j8.elim
      refine OW.val (v:=.tuple #[.bool false]) (w':=w) hg hd hn fun a A=>by simp only[execOp,ho,A.ev j,yaa,Sem.run_bind,W,Result.andThen_ok];rfl (hk _ (f.1 a3) _ _ ⟨_,_,_,h.zp9 (v:=.tup [.bool false]) ⟨[.bool false],rfl,_,[],rfl,rfl,rfl⟩,Y⟩)
     ·obtain⟨xx,r5,r6⟩:=j8.get R;have a2:=h.zqj (e:=e) (us:=[encI mm last (seen.push en.born).toList last]) (cs:=[.md (.it ky g (some xx) (rem.eraseIdx i))]) B (by exact .inr (.inr ⟨by omega,mm,last,_,last,r3,rfl⟩)) W ⟨_,[],rfl,⟨mm,seen.push en.born,last,X,rfl,⟨j5,j6,j7⟩,by rw[zuq j6.2.1 R];exact j8.erase i,en.born,en,by simp,find_born en _ j6.2.1 ?_,r6⟩,rfl⟩ (rfl:b=b);·rw[F]at a2;exact OW.val (v:=.tuple #[.bool true,en.key,en.val]) (w':=w') hg hd hn fun a A=>by simp only[execOp,ho,A.ev j,yaa,Sem.run_bind,r4,Result.andThen_ok];rfl (hk _ (f.2 i xx r5) _ _ ⟨_,_,_,a2.zp9 (v:=.tup [.bool true,.undef,.undef]) ⟨[.bool true,en.key,en.val],rfl,_,_,rfl,rfl,_,_,rfl,trivial,_,[],rfl,trivial,rfl⟩,Y⟩)
      ·have:=yw R;exact(yt.1 this).1
    grind
   grind
  grind
 case h_7=>
  rename_i x ho;replace f:=zc f;obtain⟨d,hd,f⟩:=f;rw[hd]at hn;replace f:=zc f;obtain⟨u,Q,f⟩:=f;split at f
  ·rename_i b off;replace f:=zc f;obtain⟨e,B,f⟩:=f;split at f
   ·rename_i ky g kd dd rem hc;split at f;·rename_i F;rw[yc]at F;have U:=yag F.1;subst U;have F:=yag F.2;replace f:=zc f;obtain⟨r,E,f⟩:=f;obtain⟨xu,j,p⟩:=h.ev Q;subst p;obtain⟨_,us,i1,i2⟩:=h.box b e B;obtain⟨mm,since,seen,last,i3,rfl⟩:=i1.iter (by omega);rw[hc]at i2;obtain⟨uu,b1,j1,j2,j3⟩:=i2;cases j1;obtain⟨m',seen',clock',X,j4,⟨j5,j6,j7⟩,j8,bb,en,j9,a7,kk,b2,a8,b6,a9,b0⟩:=j2;obtain⟨p1,p2,N,p4⟩:=zse j4;subst p1 p2 p4;have N:seen=seen':=yao.1 N;subst N;cases a8;refine OW.val (v:=.tuple #[en.key,en.val]) (w':=w) hg hd hn fun a A=>by simp only[execOp,ho,A.ev j,yaa,Sem.run_bind,zzh j5 i3 j9 a7,Result.andThen_ok];rfl (hk _ f _ _ ⟨_,_,_,h.zp9 (v:=.tup [ofD kd,r]) ⟨[en.key,en.val],rfl,_,_,rfl,zym a9,_,[],rfl,zjt E b0,rfl⟩,Y⟩)
    grind
   grind
  grind
 case h_8=>
  rename_i c ho;obtain⟨cal,cargs,cty'⟩:=c;simp only at f;split at f
  ·rename_i x y t tr ea et;split at f
   ·rename_i hd;split at f
    ·rename_i kt b4 hu;replace f:=zc f;obtain⟨ky,h1,f⟩:=f;replace f:=zc f;obtain⟨s,h2,f⟩:=f;replace f:=zc f;obtain⟨u,Q,f⟩:=f;replace f:=zc f;obtain⟨kv,h6,f⟩:=f;replace f:=zc f;obtain⟨kd,h8,f⟩:=f;replace f:=zc f;obtain⟨m,D,f⟩:=f;obtain⟨l,H,f⟩:=f;cases H;have ea:cargs=#[x,y]:=by apply yao.1;simpa using ea
     subst ea;obtain⟨rfl,e,B,e2,S⟩:=z96 D;obtain⟨td,E,I⟩:=ya.1 h1;obtain⟨xu,j,p⟩:=h.ev Q;obtain⟨yu,L,M⟩:=h.ev h6;subst p;obtain⟨X,clock,m1,m2,m3⟩:=h.ze0 B e2 S;obtain⟨q1,q2⟩:=toKey_ok h8 M;have J:C.P.underlying kt=some (kdT ky):=by rw[Z.und _ _ E,zdx I]
     have h0:cty'[0]?=some t:=by rw[←Array.getElem?_toList,et];rfl
     obtain⟨G,clock',w',R,W,r3,r4,r5⟩:=zve (ty:=o.type) (Z.und _ _ hu) J m1 m2 m3 q1 q2 h0;have F:=h.zqj (e:=e) (us:=[encE G.toList]) (cs:=[.md (.cont ky s.1 (zjj m.2 kd))]) B (by exact .inr (.inl ⟨by omega,by omega,G,clock',W,r3,rfl⟩)) r5 ⟨_,[],rfl,⟨_,rfl,r4⟩,rfl⟩ (rfl:m.1=m.1);rw[S]at F;refine OW.valN (v:=.tuple #[]) (w':=w') hg hd (fun a A=>?_) (hk _ f _ _ ⟨_,_,_,F,Y⟩);simp[execOp,ho,resolve,invoke,builtin,A.ev j,A.ev L,R]
    grind
   grind
  grind
 grind
set_option maxRecDepth 100000 in
theorem zvy{ds:List Deferred}{tb:Tb}{cty:List (Nat×List (Option (Nat×Nat)))}{ann:Ann}{con:Nat→CIn→z3y→Prop}{k:St→Prop}{kp:PV→St→Prop}(H:TbOk C.P tb)(X:o.guard=none)(hn:dOk n o.dst=true)(h:Rl z σ V w O φ α)(hs:∀x,z.O x→O x)(hk:∀s,k s→NX z C n ds ops rest K s)(hp:∀v s,kp v s→zc6 z C n ds v s)(hc:∀c x vs f as_ cs,o.op=.call c→c.callee=.value x→σ.evs c.args.toList=some vs→σ.ev x=some (.fn f as_ cs)→zky con σ f (as_++vs++cs) (fun v σ=>k (σ.put o.dst v)) kp→OW C n ds ops (o::rest) K V w)(i:act tb cty ann con σ o k kp):OW C n ds ops (o::rest) K V w:=by
 unfold act at i;split at i;case h_1=>
  rename_i T ho;replace i:=zc i;obtain⟨d,hd,i⟩:=i;replace i:=zc i;obtain⟨zz,L,i⟩:=i;split at i
  ·rename_i G;rw[yc]at G;obtain⟨G,hT⟩:=G;have hT:T<1000000:=by simpa[yaf]using hT
   rw[hd]at hn;have hz:=zo3 (w:=w) (O:=O) (φ:=φ) (α:=α) zz;refine OW.alloc X hd hn ho (H.zer _ _ L) (cs:=zz.cells.toList) (by simp) fun b w' I x Y=>?_;have b8:=h.newB (d:=d) G (.inl ⟨hT,I⟩) x Y hz (zmu (zyn zz));split at i;·exact hk _ i _ _ ⟨_,_,_,b8,fun y D=>.inr (hs y D)⟩
   ·obtain⟨s,α',k1,k2⟩:=ztx b8 i;exact hk _ k2 _ _ ⟨_,_,_,k1,fun y D=>.inr (hs y D)⟩
  grind
 case h_2=>
  rename_i T x ho;replace i:=zc i;obtain⟨d,hd,i⟩:=i;replace i:=zc i;obtain⟨v,L,i⟩:=i;split at i
  ·replace i:=zc i;obtain⟨d0,d6,i⟩:=i;split at i
   ·rw[hd]at hn;obtain⟨u,h2,Q⟩:=h.ev L;have hz:=Q.cells (by grind);have c8:=toDs_ok d6 hz;refine OW.box X hd hn ho h2 (cs:=u.cells.toList) (by simp) fun b w' I x Y=>?_;have k4:=h.znx x;have t:Tr O w O w':=Tr.z6e x fun _ _ E=>E.elim;have e0:¬O b:=fun hO=>by have:=h.bd b hO;omega
    refine hk _ i _ _ ⟨_,_,_,k4.zp9 (v:=.zai d0 0) ⟨b,0,by simp,u.cells.toList,RDs.len c8,⟨e0,_,_,_,I,fun j y hj=>by grind⟩,c8.tr t⟩,hs⟩
   grind
  split at i
  ·rename_i G;simp only[yc]at G;obtain⟨G,hT⟩:=G;have hT:T<1000000:=by simpa[yaf]using hT
   rw[hd]at hn;obtain⟨u,h2,Q⟩:=h.ev L;have hz:=Q.cells (by grind);refine OW.box X hd hn ho h2 (cs:=u.cells.toList) (by simp) fun b w' I x Y=>?_;exact hk _ i _ _ ⟨_,_,_,h.newB G.1 (.inl ⟨hT,I⟩) x Y hz (zmu (zz09w (zcs G.1).2.1 L)),fun y D=>.inr (hs y D)⟩
  grind
 case h_3=>
  rename_i T x y ho;split at i
  ·rename_i hd;replace i:=zc i;obtain⟨⟨g,m⟩,L,i⟩:=i;split at i
   ·rename_i d e8;obtain rfl:_=Operand.tmp d:=zzb e8;replace i:=zc i;obtain⟨v0,_,i⟩:=i;replace i:=zc i;obtain⟨σ',h6,i⟩:=i;obtain⟨k1,k2,_,_⟩:=z1n _ h hs h6;replace i:=zc i;obtain⟨u,h2,i⟩:=i;replace i:=zc i;obtain⟨v,Q,i⟩:=i;obtain⟨a,h4,J⟩:=k1.env d u h2;split at i
    ·rename_i b off;replace i:=zc i;obtain⟨e,M,i⟩:=i;replace i:=zc i;obtain⟨ds,h8,i⟩:=i;obtain⟨M,U⟩:=z9y M;split at i
     ·rename_i G;simp only[yc]at G;obtain⟨⟨⟨⟨⟨N,W⟩,a0⟩,a2⟩,d4⟩,f8⟩:=G;have N:=yag N;have W:=yah W;have a0:=yag a0;have a2:=yag a2;subst N;obtain⟨c,h9,B⟩:=k1.ev Q;have hu:z5t v=false:=by cases v<;>first|rfl|grind[cellsOf,zvw]
      have F:=B.cells hu;have c9:=VRs.len F;have a4:=toDs_ok h8 F;have g0:=RDs.len a4;obtain⟨d3,us,Z,a5⟩:=k1.box b e M;have Z:=Z.un U;have f0:=VRs.len a5;subst J;refine OW.store X hd ho (H.shp _ _ L) h4 h9 (vs:=c.cells.toList) (by simp) (by omega) Z (by simp_all) (VRs.zuz F d4) rfl fun w' I x=>?_;have d1:us.take 0++c.cells.toList++us.drop (0+m)=c.cells.toList:=by rw[List.drop_eq_nil_of_le (by omega)];simp
      rw[c9,a2,d1]at I;have t:Tr _ w _ w':=Tr.z6e (O:=zd6 O α (lk σ.A) (ze6 v0)) x fun y _ D=>by cases D;exact d3
      have T1:=k1.zqj M (.inl ⟨U,I⟩) x F (rfl:b=b);have T2:=T1.dropB (b:=b) (e:=⟨e.T,cellsOf v⟩) (zkh M);have hz:∀y,z.O y→y≠φ b:=fun y D q=>by
       have Q:=z.hB y D;rcases k1.bF _ _ M with h4|h4;·omega
       ·omega
      refine hk _ i _ _ ⟨_,φ,α,⟨fun tt vv hv=>?_,fun bb ee he=>T2.box bb ee (zaw he),T2.arr,fun p q e1 e2 L h2=>T2.bb p q e1 e2 (zaw L) (zaw h2),T2.aa,fun a p e1 e2 L h2=>T2.ab a p e1 e2 L (zaw h2),fun p e1 L=>T2.bF p e1 (zaw L),T2.aF,T2.bd,T2.ext,T2.only,T2.gl,T2.keep⟩,fun y D=>⟨k2 y D,hz y D⟩⟩;rcases z4h hv with⟨rfl,rfl⟩|⟨f9,hv⟩;·refine⟨_,h4,φ b,0,rfl,c.cells.toList,by omega,⟨fun E=>E.2 rfl,_,_,_,I,fun j y hj=>by grind⟩,?_⟩;exact(a4.tr t).tr (Tr.drop w' fun y D=>D.1)
      ·exact T2.env tt vv hv
     grind
    grind
   replace i:=zc i;obtain⟨u,h2,i⟩:=i;replace i:=zc i;obtain⟨v,Q,i⟩:=i;obtain⟨a,h4,J⟩:=h.ev h2;split at i
   ·rename_i b off;replace i:=zc i;obtain⟨e,h6,i⟩:=i;obtain⟨h6,c4⟩:=z9y h6;replace i:=zc i;obtain⟨f6,a7,i⟩:=i;unfold stC at a7;split at a7
    ·rename_i G;cases a7;simp only[yc]at G;obtain⟨⟨N,W⟩,a0⟩:=G;have N:=yag N;obtain⟨c,M,h8⟩:=h.ev Q;have hu:z5t v=false:=by cases v<;>first|rfl|grind[cellsOf,zvw]
     have h9:=h8.cells hu;have l9:=VRs.len h9;obtain⟨_,us,B,F⟩:=h.box b e h6;have B:=B.un c4;have c9:=VRs.len F;subst J;refine OW.store X hd ho (H.shp _ _ L) h4 M (vs:=c.cells.toList) (by simp) (by omega) B (by grind) (VRs.zuz h9 a0) rfl fun w' I x=>?_;refine hk _ i _ _ ⟨_,_,_,h.zqj h6 (.inl ⟨c4,I⟩) x ?_ (rfl:b=b),hs⟩;rw[l9,N];exact((VRs.take off F).append h9).append (VRs.drop _ F)
    ·cases a7
   ·rename_i ak am ai;replace i:=zc i;obtain⟨σ',h6,i⟩:=i;replace i:=zc i;obtain⟨e,M,i⟩:=i;replace i:=zc i;obtain⟨v',h8,i⟩:=i;replace i:=zc i;obtain⟨ds,h9,i⟩:=i;split at i
    ·rename_i G;simp only[yc]at G;obtain⟨⟨⟨N,W⟩,a0⟩,a2⟩:=G;have N:=yag N;have W:=yag W;have a0:=yag a0;obtain⟨l,B,i⟩:=i;obtain⟨k1,k2,k3,_⟩:=z1n _ h hs h6;obtain⟨c,F,a4⟩:=k1.ev h8;have hu:z5t v'=false:=by cases v'<;>first|rfl|grind[cellsOf,zvw]
     have Z:=a4.cells hu;have a5:=toDs_ok h9 Z;have f0:=RDs.len a5;obtain⟨b,len,cap,j,c0,d2,f7⟩:=J;have d8:l=e.l.set j ds∧j<e.l.length:=by
      refine⟨zzn B d2,?_⟩;unfold Go.Lk.setx at B;split at B;·omega
      ·cases B
     obtain⟨rfl,hj⟩:=d8;have c5:=z8i M;have M:=c5.1;rcases c5.2 with U|U;case inr=>have b9:=(k1.arr ak e M).mk_ U;exact OW.zz0be (m:=e.n) (b:=b) (j:=j) X hd ho (by rw[←W];exact H.shp _ _ L) (by grind) F (vs:=c.cells.toList) (by simp) (by omega) c0 b9 hj (VRs.zuz Z a2) a5 fun w' R x=>hk _ i _ _ ⟨_,_,_,k1.zz053 M (.inr (.inr ⟨U,R⟩)) x,k2⟩
     have b9:=(k1.arr ak e M).un U;refine OW.zz0bd (f:=id) (l:=e.l) (a:=ds) (m:=e.n) (b:=b) (q:=0) (j:=j) X hd ho (by rw[←W];exact H.shp _ _ L) (by grind) F (vs:=c.cells.toList) (by simp) (by omega) c0 (by simpa using b9) hj (VRs.zuz Z a2) a5 fun w' R x=>?_;exact hk _ i _ _ ⟨_,_,_,k1.zz053 M (.inl ⟨U,by simp_all⟩) x,k2⟩
    grind
   grind
  grind
 case h_4=>
  rename_i t len parts ho;replace i:=zc i;obtain⟨d,hd,i⟩:=i;rw[hd]at hn;split at i
  ·rename_i e he;replace i:=zc i;obtain⟨f5,_,i⟩:=i;replace i:=zc i;obtain⟨σ',h2,i⟩:=i;replace i:=zc i;obtain⟨us,Q,i⟩:=i;replace i:=zc i;obtain⟨⟨g,m⟩,h4,i⟩:=i;replace i:=zc i;obtain⟨zz,J,i⟩:=i;replace i:=zc i;obtain⟨ds,h6,i⟩:=i;split at i
   ·rename_i G;simp only[yc]at G;obtain⟨⟨⟨⟨⟨⟨b1,b2⟩,b3⟩,b4⟩,b5⟩,b6⟩,b7⟩:=G;have b2:=yag b2;have b3:=yag b3;have b5:=yah b5;obtain⟨k1,k2,k3,_⟩:=z1n _ h hs h2;obtain⟨xs,M,h8⟩:=k1.evs Q;have l8:=VRs.len h8;have lp:parts.toList.length=us.length:=by
     have:∀{l:List Operand}{r:List PV},σ'.evs l=some r→r.length=l.length:=by intro l;induction l with|nil=>intro r hr;cases hr;rfl|cons q l ih=>grind[St.evs]
     simpa using(this Q).symm
    obtain⟨cs,h9,B,F,a4⟩:=zk6 b1 (by grind) h8 b6 h6 b7;have lz:((parts.toList.map (·.1)).zip xs).length=len:=by rw[List.length_zip,List.length_map,l8,lp];omega
    have c7:len≤maxLen:=by unfold maxLen;omega
    have b0:ds.length=len:=by omega
    refine OW.buildSlice X hd hn ho (H.und _ _ he) (H.shp _ _ h4) (H.zer _ _ J) b3 (zmj M) h9 lz b4 fun b w' I x Y=>?_;split at i
    ·split at i;·rename_i hf;rw[yc]at hf;exact hk _ i _ _ ⟨_,_,_,k1.newAN (by simp_all) hf.1 I x Y b0 c7 (by rw[F,b2]) B,fun y D=>.inr (k2 y D)⟩
     grind
    ·have k4:=k1.znx x;have t:Tr _ w _ w':=Tr.z6e (O:=zd6 O α (lk σ.A) (ze6.go f5)) x fun _ _ E=>E.elim;exact hk _ i _ _ ⟨_,_,_,k4.zp9 (v:=.sl e m ds) (RD.zb7 I k1.bd Y b0 c7 (by rw[F,b2]) (B.tr t)),k2⟩
   grind
  grind
 case h_5=>
  rename_i x ho;replace i:=zc i;obtain⟨v,L,i⟩:=i;split at i;·obtain⟨u,h2,Q⟩:=h.ev L;have h4:=Q;obtain⟨y,rfl,_⟩:=h4;exact OW.panD X ho h2 fun a ha d5=>hp _ _ i _ _ _ _ _ _ _ _ h hs Q a ha d5
  grind
 case h_6=>
  rename_i s t x ho;replace i:=zc i;obtain⟨d,hd,i⟩:=i;rw[hd]at hn;replace i:=zc i;obtain⟨v,L,i⟩:=i;obtain⟨u,h2,Q⟩:=h.ev L;split at i
  ·rename_i e e1 e2;split at i
   ·rename_i e3;obtain⟨c1,c2⟩:=zgx i;subst Q;split at c2
    ·split at c2
     ·rename_i hf;refine OW.toBytesM (O:=O) X hd hn ho (H.und _ _ e1) (H.und _ _ e2) (H.und _ _ e3) h2 c1 fun v' w' x G Y hr=>?_;have t:Tr O w (Ins O w.heap.size) w':=Tr.zb7 x (fun _ _ E=>E.elim) (yai _);refine hk _ c2 _ _ ⟨_,_,_,h.newA (e:=⟨true,e+2000000,1,zvq _⟩) hf x t (fun y D=>.inr D) (fun y D=>?_) (fun y D=>?_) (fun _ _ _ E=>E) (fun _ _ _ _ _ E=>E) (fun _ E=>E.elim) (.inr (.inr ⟨Nat.le_add_left _ _,?_⟩)) (fun y D=>?_) fun y D=>?_,fun y D=>.inr (hs y D)⟩
      ·rcases D with rfl|D;·omega
       ·have:=h.bd y D;omega
      ·rcases D with rfl|D;·omega
       grind
      ·rw[yz];exact hr _ (.inl rfl)
      ·grind
      ·rw[G]at D;cases D;exact .inr h.ext.size
     grind
    ·refine OW.toBytes X hd hn ho (H.und _ _ e1) (H.und _ _ e2) (H.und _ _ e3) h2 h.bd c1 fun v' w' x hr=>?_;exact hk _ c2 _ _ ⟨_,_,_,(h.znx x).zp9 (v:=.sl e 1 (zvq _)) hr,hs⟩
   grind
  ·rename_i T l e e1 e2;split at i;·rename_i e3;obtain⟨str,c1,c2⟩:=i;obtain⟨xs,rfl,rfl⟩:=zwk c1;exact OW.toStr X hd hn ho (H.und _ _ e1) (H.und _ _ e3) (H.und _ _ e2) h2 Q (hk _ c2 _ _ ⟨_,_,_,h.zp9 (v:=.str _) rfl,hs⟩)
   grind
  ·rename_i a e e1 e2;replace i:=zc i;obtain⟨S,h4,i⟩:=i;split at i;·rename_i e3 e4;obtain⟨str,c1,c2⟩:=i;obtain⟨xs,c3,rfl⟩:=zwk c1;obtain⟨_,J⟩:=(h.arr a S (z8i h4).1).data (z8i h4).2;rw[c3]at J;have d9:=yag e4;rw[d9]at J;rw[←Q.1]at J;exact OW.toStr X hd hn ho (H.und _ _ e1) (H.und _ _ e3) (H.und _ _ e2) h2 J (hk _ c2 _ _ ⟨_,_,_,h.zp9 (v:=.str _) rfl,hs⟩)
   grind
  grind
 case h_7=>
  rename_i c ho;obtain⟨cal,cargs,cty'⟩:=c;simp only at i;split at i
  ·rename_i x y ea;replace i:=zc i;obtain⟨d,hd,i⟩:=i;rw[hd]at hn;replace i:=zc i;obtain⟨u,L,i⟩:=i;replace i:=zc i;obtain⟨v0,_,i⟩:=i;split at i
   ·rename_i t t2 et;have ea:cargs=#[x,y]:=by apply yao.1;simpa using ea
    have et:cty'=#[t,t2]:=by apply yao.1;simpa using et
    subst ea et;split at i
    ·rename_i e he;replace i:=zc i;obtain⟨⟨iz,im,ib⟩,h2,i⟩:=i;replace i:=zc i;obtain⟨σ',Q,i⟩:=i;replace i:=zc i;obtain⟨v,h4,i⟩:=i;replace i:=zc i;obtain⟨l2,J,i⟩:=i;split at i
     ·rename_i G;simp only[yc]at G;obtain⟨⟨b1,b2⟩,b3⟩:=G;have b1:=yag b1;obtain⟨k1,k2,k3,_⟩:=z1n _ h hs Q;obtain⟨uy,h6,M⟩:=k1.ev h4;obtain⟨ux,h8,h9⟩:=h.ev L--the step itself
      have step:∀l r,Own w (zd6 O α (lk σ.A) (ze6 v0)) e im ux l→Go.Lk.app ib l l2=some r→(∀v' w' O',Grew w (zd6 O α (lk σ.A) (ze6 v0)) e im ux w' O' v' r→OW C n ds ops rest K ((d,v')::V) w')→OW C n ds ops (o::rest) K V w:=by
       intro l r R c6 a1;obtain⟨hr,a6⟩:=zrz c6;subst hr;unfold apL at J;split at J
       ·split at J;·rename_i hq;cases J;simp only[yc]at hq;have q1:=yag hq.1;have q2:=yag hq.2;subst q1 q2;exact OW.zw4 X hd hn ho (H.und _ _ he) (H.inf _ _ h2) b1 b2 b3 h8 h6 R k1.bd M a6 a1
        ·cases J
       ·split at J;·rename_i hq;cases J;have q1:=yag hq;subst q1;subst M;exact OW.zw4 X hd hn ho (H.und _ _ he) (H.inf _ _ h2) b1 b2 b3 h8 h6 R k1.bd (.inl ⟨⟨_,rfl⟩,rfl⟩) a6 a1
        ·cases J
       ·split at J
        ·rename_i e5 e6;cases e6;subst M;refine OW.zz05i X hd hn ho (H.und _ _ he) (H.und _ _ e5) (H.inf _ _ h2) h8 h6 R k1.bd (by grind[zvq,unb]) fun v' w' O' hG=>a1 v' w' O' ?_;have e7:∀q:List UInt8,zvq q=q.map zc7:=fun q=>by simp[zvq,unb,zc7,eI]
         grind
        ·cases J
       ·cases J
      split at i
      ·split at i
       ·rename_i hf;rw[yc]at hf;have d7:e<1000000:=by simpa[yaf]using hf.2
        have hf:=hf.1;obtain⟨r,c1,c2⟩:=i;subst h9;refine step [] r (Own.nil _ _ _ _) c1 fun v' w' O' hG=>hk _ c2 _ _ ⟨_,_,_,k1.newA hf hG.ext hG.tr hG.more hG.bd hG.only (fun _ _ _ E=>by simp[Value.ownBlock]at E) (fun _ _ _ _ _ E=>by simp[Value.ownBlock]at E) (fun _ E=>by simp[Value.ownBlock]at E) (.inl ⟨d7,hG.own⟩) hG.at_ fun y D=>?_,fun y D=>hG.more y (k2 y D)⟩;rcases hG.at_ y D with E|E;·simp[Value.ownBlock]at E
        ·exact .inr (yaj h.ext.size E)
       grind
      ·rename_i a;split at i
       ·rename_i S a8;split at i
        ·rename_i hf;simp only[yc]at hf;obtain⟨⟨⟨f1,f2⟩,f3⟩,f4⟩:=hf;have f2:=yag f2;have f3:=yag f3;obtain⟨r,c1,c2⟩:=i;have B:=(zsx a8).1;have a9:=(zsx a8).2;have F:=(k1.arr a S B).mk_ a9;have e9:=h9.1;rw[f2,yz,f3,←e9]at F;obtain⟨hr,a6⟩:=zrz c1;subst hr;have k5:Rl z {σ' with A:=zan a σ'.A} V w (zd6 O α (lk σ.A) (ze6 v0)) φ α:=k1.mono (Le.refl _) (Le.refl _) fun t v hv=>(z4j hv).2;cases v<;>simp only[strP,yd]at f4;rename_i s;unfold apL at J;simp only at J;split at J
         ·rename_i e5 e6;cases J;cases e6;subst M;refine OW.zz05h X hd hn ho (H.und _ _ he) (H.und _ _ e5) (H.inf _ _ h2) h8 h6 F k1.bd (by grind[zvq,unb]) fun v' w' O' hG=>hk _ c2 _ _ ⟨_,_,_,k5.newA (e:={S with l:=S.l++zvq s}) f1 hG.ext hG.tr hG.more hG.bd hG.only (fun b e' G E=>?_) (fun c e' hc y D E=>?_) (fun y D=>?_) (.inr (.inr ⟨a9,?_⟩)) hG.at_ fun y D=>?_,fun y D=>hG.more y (k2 y D)⟩;·rw[e9]at E;exact k1.ab a b S e' B G E
          ·rw[e9]at E;obtain⟨n1,hc⟩:=z4j hc;exact k1.aa c a e' S hc B n1 y D E
          ·rw[e9]at D;exact(k1.aF a S B y D).elim (fun q=>.inl q.2) .inr
          ·have e7:∀q:List UInt8,zvq q=q.map zc7:=fun q=>by simp[zvq,unb,zc7,eI]
           rw[f2,yz,f3,e7];exact hG.own
          ·rcases hG.at_ y D with E|E;·rw[e9]at E;exact k1.aF a S B y E
           ·exact .inr (yaj h.ext.size E)
         ·cases J
        grind
       replace i:=zc i;obtain⟨S,B,i⟩:=i;split at i
       ·rename_i hf;simp only[yc]at hf;obtain⟨⟨f1,f2⟩,f3⟩:=hf;have f2:=yag f2;have f3:=yag f3;obtain⟨r,c1,c2⟩:=i;have a3:=zsy B;have B:=a3.1;have F:=(k1.arr a S B).un a3.2;have e9:=h9.1;subst f2 f3;rw[←e9]at F;have k5:Rl z {σ' with A:=zan a σ'.A} V w (zd6 O α (lk σ.A) (ze6 v0)) φ α:=k1.mono (Le.refl _) (Le.refl _) fun t v hv=>(z4j hv).2;refine step S.l r F c1 fun v' w' O' hG=>hk _ c2 _ _ ⟨_,_,_,k5.newA (e:={S with l:=r}) f1 hG.ext hG.tr hG.more hG.bd hG.only (fun b e' G E=>?_) (fun c e' hc y D E=>?_) (fun y D=>?_) (.inl ⟨a3.2,hG.own⟩) hG.at_ fun y D=>?_,fun y D=>hG.more y (k2 y D)⟩;·rw[e9]at E;exact k1.ab a b S e' B G E
        ·rw[e9]at E;obtain⟨n1,hc⟩:=z4j hc;exact k1.aa c a e' S hc B n1 y D E
        ·rw[e9]at D;exact(k1.aF a S B y D).elim (fun q=>.inl q.2) .inr
        ·rcases hG.at_ y D with E|E;·rw[e9]at E;exact k1.aF a S B y E
         ·exact .inr (yaj h.ext.size E)
       grind
      grind
     grind
    grind
   grind
  ·replace i:=zc i;grind
  grind[zjs]
 grind[zjs]
end
end
section
structure GI where
 p:World→(Nat→Prop)→Prop
 tr:∀{O w O' w'},Tr O w O' w'→p w O→p w' O'
structure TbG(P:Program)(tb:Tb)(G:GI):Prop extends TbOk P tb where gt:∀w O,G.p w O→GtOk tb w O
structure Mm(w:World)(O:Nat→Prop)(φ:Nat→Nat)(α:Nat→Value)(B:List Bx)(A:List (Option (Nat×Nat×List (List D)))):Prop where
 box:∀b e,B[b]?=some e→O (φ b)∧∃us,zmk w (φ b) e.T us∧VRs w O φ α e.cs us
 arr:∀a e,A[a]?=some (some e)→za8 w O e.1 e.2.1 (α a) e.2.2
 bb:∀a b,a<B.length→b<B.length→a≠b→φ a≠φ b
 aa:∀a b e e',A[a]?=some (some e)→A[b]?=some (some e')→a≠b→∀x,(α a).ownBlock=some x→(α b).ownBlock≠some x
 ab:∀a b e,A[a]?=some (some e)→b<B.length→(α a).ownBlock≠some (φ b)
def FI(i:CIn)(φ:Nat→Nat)(α:Nat→Value)(x:Nat):Prop:=(∃b,b<i.B.length∧φ b=x)∨∃a,a<i.A.length∧(α a).ownBlock=some x
def retU:List Value→Value|[u]=>u|us=>.tuple (yy us)
structure zjp(i:CIn)(w:World)(O:Nat→Prop)(φ:Nat→Nat)(α:Nat→Value)(vs:List PV)(B:List Bx)(A:List (Option (Nat×Nat×List (List D))))(w':World)(us:List Value)(O':Nat→Prop)(φ':Nat→Nat)(α':Nat→Value):Prop where
 res:VRs w' O' φ' α' vs us
 mm:Mm w' O' φ' α' B A
 same:∀b,b<i.B.length→φ' b=φ b
 long:i.B.length≤B.length
 bd:Bd O' w'
 tr:Tr O w O' w'
 more:∀x,O x→O' x
 only:∀x,O' x→O x∨w.heap.size≤x
 ext:Ext (FI i φ α) w w'
 newB:∀b,b<B.length→i.B.length≤b→w.heap.size≤φ' b
 newA:∀a e x,A[a]?=some (some e)→(α' a).ownBlock=some x→(∃c,c<i.A.length∧(α c).ownBlock=some x)∨w.heap.size≤x
def zec(i:CIn)(w:World)(O:Nat→Prop)(φ:Nat→Nat)(α:Nat→Value)(o:z3y)(e:Ending)(w':World):Prop:=match o with|.ok vs B A=>∃us O' φ' α',e=.returned (retU us)∧zjp i w O φ α vs B A w' us O' φ' α'|.okI vs B A=>∃us O' φ' α',e=.returned (retU us)∧zjp i w O φ α vs B A w' us O' φ' α'∧∀a,a<i.A.length→α' a=α a|.pan v=>∃u O' φ' α',e=.panicked [{v:=u,recovered:=false}]∧VR w' O' φ' α' v u∧Ext (FI i φ α) w w'∧Tr O w O' w'∧Bd O' w'∧∀x,O' x→O x∨w.heap.size≤x|.zjk v B=>∃u φv αv us O' φ' α',e=.panicked [{v:=u,recovered:=false}]∧VR w' O' φv αv v u∧zjp i w O φ α [] B [] w' us O' φ' α'
structure Con(P:Program)(G:GI)(f:Nat)(i:CIn)(o:z3y):Prop where
 ent:∀args w,(callFunc f args).run P w=.ok (.enter f args) w
 nn:yab f NF=false
 run:∀w O φ α us,VRs w O φ α i.vs us→Mm w O φ α i.B (i.A.map some)→Bd O w→G.p w O→Calls P f us.toArray w (zec i w O φ α o)
def idx(x:Nat):List Nat→Option Nat|[]=>none|y::r=>if y=x then some 0 else(idx x r).map (·+1)
theorem zlk{x:Nat}:∀{l:List Nat}{j:Nat},idx x l=some j→l[j]?=some x
 |y::r,j,h=>by
  unfold idx at h;split at h;·grind
  ·obtain⟨k,a,rfl⟩:=yb.1 h;simpa using zlk a
theorem zsq{x:Nat}:∀{l:List Nat},idx x l=none→x∉l
 |[],_=>by simp|y::r,h=>by
  unfold idx at h;split at h;·cases h
  ·rename_i a;have:=zsq (Option.map_eq_none_iff.1 h);grind
theorem z83:∀{l:List Nat},zae l=true→∀(i j x:Nat),l[i]?=some x→l[j]?=some x→i=j
 |[],_,i,j,x,h,_=>by simp at h|y::r,hn,i,j,x,a,h2=>by
  simp only[zae,yc,ye]at hn;have b:∀k:Nat,r[k]?≠some y:=fun k hk=>by have:r.any (yab y)=true:=yi.2 ⟨y,yw hk,yac y⟩;grind
  cases i with|zero=>grind|succ i=>cases j with|zero=>grind|succ j=>rw[z83 hn.2 i j x (by grind) (by grind)]
theorem zz0a5{l:List Nat}(hn:zae l=true){j x:Nat}(h:l[j]?=some x):idx x l=some j:=by cases a:idx x l with|none=>exact(zsq a (yw h)).elim|some k=>rw[z83 hn k j x (zlk a) h]
def ov{β:Type}(ks:List Nat)(a f:Nat→β):Nat→β:=fun x=>match idx x ks with|some j=>a j|none=>f x
theorem zv0{β:Type}{ks:List Nat}{a f:Nat→β}(hn:zae ks=true){j x:Nat}(h:ks[j]?=some x):ov ks a f x=a j:=by unfold ov;rw[zz0a5 hn h]
theorem zys{β:Type}{ks:List Nat}{a f:Nat→β}{x:Nat}(h:x∉ks):ov ks a f x=f x:=by
 unfold ov;split;·rename_i j b;exact(h (yw (zlk b))).elim
 ·rfl
section
variable{w w':World}{O O':Nat→Prop}{φ φ':Nat→Nat}{α α':Nat→Value}{bs as_:List Nat}{nb na:Nat}
theorem zs0{a b:Nat}(h:yae a b=true):a<b:=by simp_all
mutual
theorem zz04w (e:∀ j x,j<nb→bs[j]? = some x→φ' j=φ x) (d:∀ j x,j<na→as_[j]? = some x→α' j=α x) (o:nb≤bs.length) (g:na≤as_.length):∀ (v:PV) (u:Value),inR nb na v=true→VR w O φ α (zci bs as_ v) u→VR w O φ' α' v u
 | .int k n,u,_,h=>h
 | .bool b,u,_,h=>h
 | .str s,u,_,h=>h
 | .sl T n l,u,_,h=>h
 | .nil,u,_,h=>h
 | .zfr,u,_,h=>h
 | .zg7,u,_,h=>h
 | .undef,u,_,h=>trivial
 | .gone,u,_,h=>h
 | .err _,u,_,h=>h
 | .z1e b,u,k,h=>by
  have k:=zs0 k
  grind [zci,VR]
 | .mp b,u,k,h=>by
  have k:=zs0 k
  grind [zci,VR]
 | .md _,u,_,h=>h
 | .zai cs off,u,_,h=>h
 | .zd7 x m i off,u,k,h=>by cases k
 | .ref a,u,k,h=>by
  have k:=zs0 k
  grind [zci,VR]
 | .ptr b off,u,k,h=>by
  have k:=zs0 k
  grind [zci,VR]
 | .agg cs,u,k,h=>by
  obtain ⟨us,c,h2⟩:=h
  exact ⟨us,c,zbc e d o g cs us k h2⟩
 | .tup cs,u,k,h=>by
  obtain ⟨us,c,h2⟩:=h
  exact ⟨us,c,zbc e d o g cs us k h2⟩
 | .iface T v,u,k,h=>by
  obtain ⟨x,c,h2⟩:=h
  exact ⟨x,c,zz04w e d o g v x k h2⟩
 | .fn f as_' cs,u,k,h=>by
  simp only [inR,yc] at k
  obtain ⟨us,vs,c,h2,q⟩:=h
  exact ⟨us,vs,c,zbc e d o g as_' us k.1 h2,zbc e d o g cs vs k.2 q⟩
theorem zbc (e:∀ j x,j<nb→bs[j]? = some x→φ' j=φ x) (d:∀ j x,j<na→as_[j]? = some x→α' j=α x) (o:nb≤bs.length) (g:na≤as_.length):∀ (vs:List PV) (us:List Value),inR.go nb na vs=true→VRs w O φ α (zci.go bs as_ vs) us→VRs w O φ' α' vs us
 | [],us,_,h=>h
 | v::vs,us,k,h=>by
  simp only [inR.go,yc] at k
  obtain ⟨u,p,c,h2,q⟩:=h
  exact ⟨u,p,c,zz04w e d o g v u k.1 h2,zbc e d o g vs p k.2 q⟩
end
mutual
theorem zz9 (e:∀ j x,bs[j]? = some x→φ' x=φ j) (d:∀ j x,as_[j]? = some x→α' x=α j) (o:nb≤bs.length) (g:na≤as_.length):∀ (v:PV) (u:Value),inR nb na v=true→VR w O φ α v u→VR w O φ' α' (zci bs as_ v) u
 | .int k n,u,_,h=>h
 | .bool b,u,_,h=>h
 | .str s,u,_,h=>h
 | .sl T n l,u,_,h=>h
 | .nil,u,_,h=>h
 | .zfr,u,_,h=>h
 | .zg7,u,_,h=>h
 | .undef,u,_,h=>trivial
 | .gone,u,_,h=>h
 | .err _,u,_,h=>h
 | .z1e b,u,k,h=>by
  grind [zci,VR]
 | .mp b,u,k,h=>by
  grind [zci,VR]
 | .md _,u,_,h=>h
 | .zai cs off,u,_,h=>h
 | .zd7 x m i off,u,k,h=>by cases k
 | .ref a,u,k,h=>by
  grind [zci,VR]
 | .ptr b off,u,k,h=>by
  grind [zci,VR]
 | .agg cs,u,k,h=>by
  obtain ⟨us,c,h2⟩:=h
  exact ⟨us,c,zc0 e d o g cs us k h2⟩
 | .tup cs,u,k,h=>by
  obtain ⟨us,c,h2⟩:=h
  exact ⟨us,c,zc0 e d o g cs us k h2⟩
 | .iface T v,u,k,h=>by
  obtain ⟨x,c,h2⟩:=h
  exact ⟨x,c,zz9 e d o g v x k h2⟩
 | .fn f as_' cs,u,k,h=>by
  simp only [inR,yc] at k
  obtain ⟨us,vs,c,h2,q⟩:=h
  exact ⟨us,vs,c,zc0 e d o g as_' us k.1 h2,zc0 e d o g cs vs k.2 q⟩
theorem zc0 (e:∀ j x,bs[j]? = some x→φ' x=φ j) (d:∀ j x,as_[j]? = some x→α' x=α j) (o:nb≤bs.length) (g:na≤as_.length):∀ (vs:List PV) (us:List Value),inR.go nb na vs=true→VRs w O φ α vs us→VRs w O φ' α' (zci.go bs as_ vs) us
 | [],us,_,h=>h
 | v::vs,us,k,h=>by
  simp only [inR.go,yc] at k
  obtain ⟨u,p,c,h2,q⟩:=h
  exact ⟨u,p,c,zz9 e d o g v u k.1 h2,zc0 e d o g vs p k.2 q⟩
end
mutual
theorem z8s:∀ (v:PV) (u:Value),zct v=false→VR w O φ α v u→VR w' O' φ α v u
 | .int k n,u,_,h=>h
 | .bool b,u,_,h=>h
 | .str s,u,_,h=>h
 | .sl T n l,u,k,h=>by cases k
 | .nil,u,_,h=>h
 | .zfr,u,_,h=>h
 | .zg7,u,_,h=>h
 | .undef,u,_,h=>trivial
 | .gone,u,_,h=>h
 | .z1e _,u,_,h=>h
 | .err _,u,_,h=>h
 | .zai cs off,u,k,h=>by cases k
 | .md _,u,k,h=>by cases k
 | .mp _,u,k,h=>h
 | .zd7 x m i off,u,k,h=>h
 | .ref a,u,k,h=>h
 | .ptr b off,u,k,h=>h
 | .agg cs,u,k,h=>by
  obtain ⟨us,c,h2⟩:=h
  exact ⟨us,c,zbv cs us k h2⟩
 | .tup cs,u,k,h=>by
  obtain ⟨us,c,h2⟩:=h
  exact ⟨us,c,zbv cs us k h2⟩
 | .iface T v,u,k,h=>by
  obtain ⟨x,c,h2⟩:=h
  exact ⟨x,c,z8s v x k h2⟩
 | .fn f as_' cs,u,k,h=>by
  simp only [zct,yf] at k
  obtain ⟨us,vs,c,h2,e⟩:=h
  exact ⟨us,vs,c,zbv as_' us k.1 h2,zbv cs vs k.2 e⟩
theorem zbv:∀ (vs:List PV) (us:List Value),zct.go vs=false→VRs w O φ α vs us→VRs w' O' φ α vs us
 | [],us,_,h=>h
 | v::vs,us,k,h=>by
  simp only [zct.go,yf] at k
  obtain ⟨u,d,c,h2,e⟩:=h
  exact ⟨u,d,c,z8s v u k.1 h2,zbv vs d k.2 e⟩
end
end
section
variable{w:World}{φ:Nat→Nat}{α:Nat→Value}{σ:St}{O O2:Nat→Prop}
mutual
theorem zz0an (d:∀ x,O2 x→O x) (o:∀ a e,lk σ.A a=some e→za8 w O e.T e.n (α a) e.l) (wv:PV):∀ (v:PV) (u:Value),(∀ a∈zao wv v,∀ e,lk σ.A a=some e→∀ x,O2 x→(α a).ownBlock≠some x)→VR w O φ α v u→VR w O2 φ α (nrm σ wv v) u
 | .ref a,u,hl,h=>by
  cases wv with
  | sl T n l =>
   show VR w O2 φ α (match lkU σ.A a with
    | some e => .sl e.T e.n e.l
    | none => .undef) u
   cases r:lkU σ.A a with
   | none=>trivial
   | some e =>
    obtain ⟨r,y⟩:=zsy r
    have g:=((o a e r).un y).data
    rw [←h.1] at g
    exact g.tr (Tr.drop w fun x z=>⟨d x z,by rw [h.1];grind [zao]⟩)
  | _=>exact h
 | .nil,u,hl,h=>by
  cases wv with
  | sl T n l =>
   simp only [VR] at h
   subst h
   exact .inl ⟨⟨_,rfl⟩,rfl⟩
  | _=>exact h
 | .agg vs,u,hl,h=>by
  obtain ⟨us,g,h2⟩:=h
  cases wv with
  | agg j=>exact ⟨us,g,zcw d o j vs us hl h2⟩
  | _=>exact ⟨us,g,VRs.tr (Tr.drop w d) vs us h2⟩
 | .tup vs,u,hl,h=>by
  obtain ⟨us,g,h2⟩:=h
  cases wv with
  | tup j=>exact ⟨us,g,zcw d o j vs us hl h2⟩
  | _=>exact ⟨us,g,VRs.tr (Tr.drop w d) vs us h2⟩
 | .int k n,u,hl,h=>by cases wv<;>exact h
 | .bool b,u,hl,h=>by cases wv<;>exact h
 | .str s,u,hl,h=>by cases wv<;>exact h
 | .zfr,u,hl,h=>by
  cases wv with
  | err _=>exact .inl ⟨rfl,h⟩
  | _=>exact h
 | .zg7,u,hl,h=>by cases wv<;>exact h
 | .undef,u,hl,h=>by cases wv<;>trivial
 | .gone,u,hl,h=>by cases wv<;>exact h
 | .z1e _,u,hl,h=>by cases wv<;>exact h
 | .err _,u,hl,h=>by cases wv<;>exact h
 | .ptr b off,u,hl,h=>by cases wv<;>exact h
 | .zd7 x m i off,u,hl,h=>by cases wv<;>exact h
 | .sl T n l,u,hl,h=>by cases wv<;>exact VR.tr (Tr.drop w d) (.sl T n l) u h
 | .mp b,u,hl,h=>by cases wv<;>exact h
 | .md c,u,hl,h=>by cases wv<;>exact VR.tr (Tr.drop w d) (.md c) u h
 | .zai cs off,u,hl,h=>by cases wv<;>exact VR.tr (Tr.drop w d) (.zai cs off) u h
 | .iface T v,u,hl,h=>by
  cases wv with
  | err _ =>
   obtain ⟨x,g,_⟩:=h
   exact .inr ⟨rfl,T,x,g⟩
  | _=>exact VR.tr (Tr.drop w d) (.iface T v) u h
 | .fn f as_ cs,u,hl,h=>by cases wv<;>exact VR.tr (Tr.drop w d) (.fn f as_ cs) u h
theorem zcw (d:∀ x,O2 x→O x) (o:∀ a e,lk σ.A a=some e→za8 w O e.T e.n (α a) e.l):∀ (j vs:List PV) (us:List Value),(∀ a∈zao.go j vs,∀ e,lk σ.A a=some e→∀ x,O2 x→(α a).ownBlock≠some x)→VRs w O φ α vs us→VRs w O2 φ α (nrm.go σ j vs) us
 | [],vs,us,hl,h=>by
  have:nrm.go σ [] vs=vs:=by cases vs<;>rfl
  rw [this]
  exact VRs.tr (Tr.drop w d) vs us h
 | wv::j,[],us,hl,h=>h
 | wv::j,v::vs,us,hl,h=>by
  obtain ⟨u,p,g,h2,t⟩:=h
  simp only [zao.go,yn] at hl
  exact ⟨u,p,g,zz0an d o wv v u (fun a q=>hl a (.inl q)) h2,zcw d o j vs p (fun a q=>hl a (.inr q)) t⟩
end
end
theorem zcm{σ:St}{bs as_:List Nat}:∀{ks:List Nat}{a:List Bx},zaq σ bs as_ ks a→∀(j:Nat)(e:Bx),a[j]?=some e→∃(b:Nat)(x:Bx),ks[j]?=some b∧lk σ.B b=some x∧x.T=e.T∧nrm.go {σ with A:=[]} e.cs x.cs=zci.go bs as_ e.cs|_,[],_,j,e,h=>by simp at h|[],_::_,c,_,_,_=>c.elim|b::ks,e::a,c,j,e',h=>by obtain⟨d,h2⟩:=c;cases j with|zero=>grind|succ j=>simpa using zcm h2 j e' (by simpa using h)
theorem zju{σ:St}:∀{ks:List Nat}{c:List (Nat×Nat×List (List D))},zgt σ ks c→∀(j:Nat)(e:Nat×Nat×List (List D)),c[j]?=some e→∃(a:Nat)(x:Arr),ks[j]?=some a∧lk σ.A a=some x∧x.T=e.1∧x.n=e.2.1∧x.l=e.2.2|_,[],_,j,e,h=>by simp at h|[],_::_,d,_,_,_=>d.elim|b::ks,e::c,d,j,e',h=>by obtain⟨f,h2⟩:=d;cases j with|zero=>grind|succ j=>simpa using zju h2 j e' (by simpa using h)
theorem zi6{β:Type}{t:Nat}{v:β}:∀{l l2:List (Nat×β)},lk (l++l2) t=some v→lk l t=some v∨lk l2 t=some v
 |[],l2,h=>.inr h|(s,x)::r,l2,h=>by
  simp only[yj]at h;rcases z4h h with⟨rfl,rfl⟩|⟨b,h2⟩;·simp[lk]
  ·rcases zi6 h2 with a|a;·grind[lk]
   grind
theorem ztt{bs as_:List Nat}{x:Nat}{e:Bx}:∀{ks:List Nat}{c:List Bx},lk (zipB bs as_ ks c) x=some e→∃(j:Nat)(a:Bx),ks[j]?=some x∧c[j]?=some a∧e=⟨a.T,zci.go bs as_ a.cs⟩
 |[],[],h=>by cases h|[],_::_,h=>by cases h|_::_,[],h=>by cases h|b::ks,a::c,h=>by
  simp only[zipB]at h;rcases z4h h with⟨rfl,rfl⟩|⟨_,h⟩;·exact⟨0,a,rfl,rfl,rfl⟩
  ·obtain⟨j,d,g,h2,f⟩:=ztt h;exact⟨j+1,d,by grind,by grind,f⟩
theorem zmi{m:Bool}{x:Nat}{e:Arr}:∀{ks:List Nat}{c:List (Option (Nat×Nat×List (List D)))},lk (zipA m ks c) x=some e→∃(j:Nat)(a:Nat×Nat×List (List D)),ks[j]?=some x∧c[j]?=some (some a)∧e=⟨m,a.1,a.2.1,a.2.2⟩
 |[],[],h=>by cases h|[],_::_,h=>by cases h|_::_,[],h=>by cases h|b::ks,some a::c,h=>by
  simp only[zipA]at h;rcases z4h h with⟨rfl,rfl⟩|⟨_,h⟩;·exact⟨0,a,rfl,rfl,rfl⟩
  ·obtain⟨j,d,g,h2,f⟩:=zmi h;exact⟨j+1,d,by grind,by grind,f⟩|b::ks,none::c,h=>by simp only[zipA]at h;obtain⟨j,d,g,h2,f⟩:=zmi h;exact⟨j+1,d,by grind,by grind,f⟩
theorem zgs{σ:St}:∀{as_:List Nat},z9f σ as_=true→∀a∈as_,∀e,lk σ.A a=some e→e.mine=true
 |b::as_,h,a,c,e,d=>by
  simp only[z9f,yc]at h;rcases yp.1 c with rfl|c;·grind
  ·exact zgs h.2 a c e d
theorem zdm{b:Nat}{e:Bx}:∀{f:List Nat}{σ σ':St},σ.freeze f=some σ'→lk σ'.B b=some e→∃c,lk σ.B b=some c
 |[],σ,σ',h,k=>by cases h;grind|a::f,σ,σ',h,k=>by
  unfold St.freeze at h;split at h
  ·rename_i d _;split at h;·obtain⟨c,g⟩:=zdm h k;have h2:(lk σ.B b).map (fun x:Bx=>({x with cs:=x.cs.map (zd8 a d)}:Bx))=some c:=(zkg (fun x:Bx=>({x with cs:=x.cs.map (zd8 a d)}:Bx)) σ.B b).symm.trans g;grind[yb]
   ·cases h
  ·exact zdm h k
theorem zz04j{σ:St}:∀{as_:List Nat},as_.all σ.z7y=true→(∀t v,lk σ.L t=some v→z5k (fun _=>True) (fun x=>x∉as_) v)∧(∀b e,lk σ.B b=some e→z5k.go (fun _=>True) (fun x=>x∉as_) e.cs)∧∀a∈as_,lk σ.A a=none|[],_=>⟨fun _ _ _=>z5k.all (fun _=>trivial) fun _=>by simp,fun _ _ _=>z5k.alls (fun _=>trivial) fun _=>by simp,fun _ h=>by simp at h⟩|a::as_,h=>by simp only[yg,yc]at h;obtain⟨k,h2,g⟩:=zcr h.1;obtain⟨i,j,l⟩:=zz04j h.2;refine⟨fun t v f=>(h2 t v f).and (fun _ _ _=>trivial) fun x k1 c=>by simp[k1,c] (i t v f),fun b e d=>z5k.ands (fun _ _ _=>trivial) fun x k1 c=>by simp[k1,c] (g b e d) (j b e d),fun x m=>?_⟩;grind
theorem zz04k{σ:St}:∀{bs:List Nat},bs.all σ.zaa=true→(∀t v,lk σ.L t=some v→z5k (fun x=>x∉bs) (fun _=>True) v)∧(∀b e,lk σ.B b=some e→z5k.go (fun x=>x∉bs) (fun _=>True) e.cs)∧∀a∈bs,1000≤a∧lk σ.B a=none|[],_=>⟨fun _ _ _=>z5k.all fun _=>by simp fun _=>trivial,fun _ _ _=>z5k.alls fun _=>by simp fun _=>trivial,fun _ h=>by simp at h⟩|a::as_,h=>by simp only[yg,yc]at h;obtain⟨k,h2,g⟩:=zcs h.1;obtain⟨i,j,l⟩:=zz04k h.2;refine⟨fun t v f=>(h2 t v f).and fun x k1 c=>by simp[k1,c] (fun _ _ _=>trivial) (i t v f),fun b e d=>z5k.ands fun x k1 c=>by simp[k1,c] (fun _ _ _=>trivial) (g b e d) (j b e d),fun x m=>?_⟩;grind
end
section
theorem zz07s{w:World}{O:Nat→Prop}{φ:Nat→Nat}{α:Nat→Value}:∀{vs:List PV}{us:List Value},VRs w O φ α vs us→VR w O φ α (retV vs) (retU us)|[],us,h=>by cases h;exact⟨[],rfl,rfl⟩|[v],us,h=>by obtain⟨u,a,rfl,h2,b⟩:=h;cases b;exact h2|v::v'::vs,us,h=>by have d:=h;obtain⟨u,a,rfl,h2,e,c,rfl,b⟩:=h;exact⟨_,rfl,d⟩
theorem zz06h{nb na:Nat}{B:List Bx}(h:B.all (fun e=>inR.go nb na e.cs)=true){j:Nat}{e:Bx}(a:B[j]?=some e):inR.go nb na e.cs=true:=yh.1 h e (yw a)
section
variable{z:W0}{V:Env}{w w':World}{O O':Nat→Prop}{φ φ':Nat→Nat}{α α':Nat→Value}{σ s:St}{bs as_ as_':List Nat}{i:CIn}{vs:List PV}{B:List Bx}{A:List (Option (Nat×Nat×List (List D)))}
theorem zlt{Ob Oc:Nat→Prop}{us:List Value}(h:Rl z σ V w O φ α)(hb:Rl z s V w Ob φ α)(a8:∀x,Ob x→O x)(hc:∀x,Oc x→Ob x)(sB:∀b e,lk s.B b=some e→∃f,lk σ.B b=some f)(sA:∀a e,lk s.A a=some e→∃f,lk σ.A a=some f)(nb:zae bs=true)(na:zae as_'=true)(lb:i.B.length≤bs.length)(la:i.A.length=as_.length)(pB:∀j b,j<i.B.length→bs[j]?=some b→∃e,lk σ.B b=some e)(pA:∀j a,j<i.A.length→as_[j]?=some a→∃e,lk σ.A a=some e)(lB:B.length=bs.length)(lA:A.length=as_'.length)(rv:inR.go B.length A.length vs=true)(rB:B.all (fun e=>inR.go B.length A.length e.cs)=true)(fA:as_'.all ({s with B:=z5n bs s.B,A:=z5n as_ s.A}:St).z7y=true)(fB:(bs.drop i.B.length).all ({s with B:=z5n bs s.B,A:=z5n as_ s.A}:St).zaa=true)(hd:zjp i w Oc (fun j=>φ (bs.getD j 0)) (fun j=>α (as_.getD j 0)) vs B A w' us O' φ' α')(hl:(∀x,Ob x→O' x)∨zdz vs B A=false):∃O2 a0 X,Rl z (left (z9f σ as_) bs as_ as_' B A s) V w' O2 a0 X∧(∀x,Ob x→O2 x)∧VR w' O2 a0 X (retV (zci.go bs as_' vs)) (retU us)∧X=ov as_' α' α:=by
 have gb:∀j b,bs[j]?=some b→bs.getD j 0=b:=fun j b e=>by grind
 have ga:∀j b,as_[j]?=some b→as_.getD j 0=b:=fun j b e=>by grind
 have bsj:∀j,j<i.B.length→∃b,bs[j]?=some b:=fun j I=>⟨bs[j]'(by omega),by simp⟩;have asj:∀j,j<i.A.length→∃b,as_[j]?=some b:=fun j I=>⟨as_[j]'(by omega),by simp⟩--the blocks that the call may turn
 have fiB:∀x,FI i (fun j=>φ (bs.getD j 0)) (fun j=>α (as_.getD j 0)) x→(∃b e,b∈bs∧lk σ.B b=some e∧φ b=x)∨∃a e,a∈as_∧lk σ.A a=some e∧(α a).ownBlock=some x:=fun x d=>by
  rcases d with⟨j,I,d⟩|⟨j,I,d⟩;·grind
  grind
 have hH:∀x,FI i (fun j=>φ (bs.getD j 0)) (fun j=>α (as_.getD j 0)) x→z.F x∨z.w.heap.size≤x:=fun x d=>by
  rcases fiB x d with⟨b,e,_,l,rfl⟩|⟨a,e,_,l,h2⟩;·exact(h.bF b e l).elim (fun q=>.inl q.2) .inr
  ·exact(h.aF a e l x h2).elim (fun q=>.inl q.2) .inr
 have a7:Tr Ob w (fun x=>O' x∨Ob x) w':=⟨hd.tr.size,fun b r hn=>hd.tr.block b r fun C=>hn (hc b C),fun b r hn C=>by
  rcases C with C|C;·exact hd.tr.owned b r (fun h'=>hn (hc b h')) C
  grind⟩;have nB:∀b e,lk (z5n bs s.B) b=some e→¬FI i (fun j=>φ (bs.getD j 0)) (fun j=>α (as_.getD j 0)) (φ b):=fun b e g d=>by
  obtain⟨n1,l⟩:=z5b g;obtain⟨f,h2⟩:=sB b e l;rcases fiB _ d with⟨b',e',n,R,Y⟩|⟨a,e',n,R,Y⟩;·exact h.bb b' b e' f R h2 (fun q=>n1 (q▸n)) Y
  ·exact h.ab a b e' f R h2 Y
 have nA:∀a e,lk (z5n as_ s.A) a=some e→∀y,(α a).ownBlock=some y→¬FI i (fun j=>φ (bs.getD j 0)) (fun j=>α (as_.getD j 0)) y:=fun a e g y hy d=>by
  obtain⟨n1,l⟩:=z5b g;obtain⟨f,h2⟩:=sA a e l;rcases fiB _ d with⟨b',e',n,R,Y⟩|⟨L,e',n,R,Y⟩;·exact h.ab a b' f e' h2 R (by grind)
  ·exact h.aa L a e' f R h2 (fun q=>n1 (q▸n)) y Y hy
 have b1:Rl z {s with B:=z5n bs s.B,A:=z5n as_ s.A} V w Ob φ α:=hb.mono (Le.refl _) (fun t v P=>(z5b P).2) fun t v P=>(z5b P).2;have Z:Rl z {s with B:=z5n bs s.B,A:=z5n as_ s.A} V w' (fun x=>O' x∨Ob x) φ α:=b1.move hd.ext a7 (fun y hy=>.inr hy) (fun x d=>by
   rcases d with d|d;·exact hd.bd x d
   ·exact yak (hb.bd x d) hd.tr.size) nB nA (Ext.after h hd.ext hH) fun x d=>by
   rcases d with d|d
   ·rcases hd.only x d with l|l;·exact hb.only x (hc x l)
    ·exact .inr (yaj h.ext.size l)
   ·exact hb.only x d--the names
 obtain⟨a3,a4,a9⟩:=zz04j fA;obtain⟨a5,a6,b0⟩:=zz04k fB;have eφ:∀x,x∉bs.drop i.B.length→ov bs φ' φ x=φ x:=fun x d=>by
  by_cases S:x∈bs
  ·obtain⟨j,I⟩:=List.getElem?_of_mem S;have:j<i.B.length:=by
    rcases yal j i.B.length with l|l;·exact l
    ·exact(d (yw (i:=j-i.B.length) (by grind))).elim
   rw[zv0 nb I,hd.same j this,gb j x I]
  ·exact zys S
 have eα:∀x,x∉as_'→ov as_' α' α x=α x:=fun x d=>zys d;have M:Rl z {s with B:=z5n bs s.B,A:=z5n as_ s.A} V w' (fun x=>O' x∨Ob x) (ov bs φ' φ) (ov as_' α' α):=Z.re (kb:=fun x=>x∉bs.drop i.B.length) (ka:=fun x=>x∉as_') fun x d S=>by grind eφ eα (fun t v P=>(a5 t v P).and (fun _ k1 _=>k1) (fun _ _ p=>p) (a3 t v P)) (fun b e g=>⟨fun S=>(z5b g).1 (List.mem_of_mem_drop S),z5k.ands (fun _ k1 _=>k1) (fun _ _ p=>p) (a6 b e g) (a4 b e g)⟩) fun a e g S=>by grind--what comes back
 have up:∀v u,(zdz vs B A=false→zct v=false)→VR w' O' φ' α' v u→VR w' (fun x=>O' x∨Ob x) φ' α' v u:=fun v u P hr=>by
  rcases hl with hl|hl;·exact hr.tr (Tr.drop w' fun x d=>d.elim id (hl x))
  grind[z8s]
 have ups:∀W E,(zdz vs B A=false→zct.go W=false)→VRs w' O' φ' α' W E→VRs w' (fun x=>O' x∨Ob x) φ' α' W E:=fun v u P hr=>by
  rcases hl with hl|hl;·exact VRs.tr (Tr.drop w' fun x d=>d.elim id (hl x)) _ _ hr
  grind[zbv]
 have lends_p:zdz vs B A=false→zct.go vs=false∧(B.any fun e=>zct.go e.cs)=false∧(A.any fun e=>e.isSome)=false:=fun C=>by grind[zdz]
 have ro:∀{cs:List PV}{E:List Value},inR.go B.length A.length cs=true→VRs w' (fun x=>O' x∨Ob x) φ' α' cs E→VRs w' (fun x=>O' x∨Ob x) (ov bs φ' φ) (ov as_' α' α) (zci.go bs as_' cs) E:=fun{cs E}hi hr=>zc0 (fun j x e=>zv0 nb e) (fun j x e=>zv0 na e) (by omega) (by omega) cs E hi hr;have upA:∀a e,A[a]?=some (some e)→za8 w' (fun x=>O' x∨Ob x) e.1 e.2.1 (α' a) e.2.2:=fun a e g=>by
  have l:=hd.mm.arr a e g;rcases hl with hl|hl;·exact l.down (fun x d=>d.elim id (hl x)) fun x d=>.inl (l.mem x d)
  ·have:=(lends_p hl).2.2;rw[List.any_eq_false]at this;exact(this _ (yw g) rfl).elim
 have rest_old:∀b e,lk (z5n bs s.B) b=some e→φ b<w.heap.size∧∃f,lk σ.B b=some f∧b∉bs:=fun b e g=>⟨b1.boxLt g,by obtain⟨n1,l⟩:=z5b g;grind⟩;have rest_oldA:∀a e,lk (z5n as_ s.A) a=some e→(∀x,(α a).ownBlock=some x→x<w.heap.size)∧(∃f,lk σ.A a=some f)∧a∉as_∧a∉as_':=fun a e g=>⟨fun x d=>b1.arrLt g d,sA a e (z5b g).2,(z5b g).1,fun S=>by grind⟩;have boxL:∀b e,lk (zipB bs as_' bs B++z5n bs s.B) b=some e→(∃j f,bs[j]?=some b∧B[j]?=some f∧e=⟨f.T,zci.go bs as_' f.cs⟩∧ov bs φ' φ b=φ' j)∨lk (z5n bs s.B) b=some e∧b∉bs∧ov bs φ' φ b=φ b:=fun b e g=>by
  rcases zi6 g with l|l;·grind[ztt,zv0]
  grind
 have arrL:∀a e,lk (zipA (z9f σ as_) as_' A++z5n as_ s.A) a=some e→(∃j f,as_'[j]?=some a∧A[j]?=some (some f)∧e=⟨z9f σ as_,f.1,f.2.1,f.2.2⟩∧ov as_' α' α a=α' j)∨lk (z5n as_ s.A) a=some e∧ov as_' α' α a=α a:=fun a e g=>by
  rcases zi6 g with l|l;·grind[zmi,zv0]
  grind
 have newBlk:∀j f x,A[j]?=some (some f)→(α' j).ownBlock=some x→(∃a e,a∈as_∧lk σ.A a=some e∧(α a).ownBlock=some x)∨w.heap.size≤x:=fun j f x g d=>by
  rcases hd.newA j f x g d with⟨c,k1,p⟩|k1;·grind
  omega
 have boxBlk:∀j b,bs[j]?=some b→j<B.length→(∃e,b∈bs∧lk σ.B b=some e∧φ' j=φ b)∨w.heap.size≤φ' j:=fun j b I a1=>by
  rcases yal j i.B.length with l|l;·obtain⟨y,hy⟩:=pB j b l I;exact .inl ⟨y,yw I,hy,by rw[hd.same j l,gb j b I]⟩
  ·exact .inr (hd.newB j a1 l)
 have jlt:∀{j:Nat}{f:Bx},B[j]?=some f→j<B.length:=fun{j f}I=>(ym.1 I).1;refine⟨fun x=>O' x∨Ob x,ov bs φ' φ,ov as_' α' α,⟨M.env,fun b e g=>?_,fun a e g=>?_,fun a b e e' ha r hn=>?_,fun a b e e' ha r hn x d=>?_,fun a b e e' ha r=>?_,fun b e g=>?_,fun a e g x d=>?_,Z.bd,Z.ext,Z.only,Z.gl,M.keep⟩,fun x d=>.inr d,?_⟩
 ·rcases boxL b e g with⟨j,f,k1,p,rfl,o⟩|⟨k1,_,_⟩;·obtain⟨k5,E,k6,k7⟩:=hd.mm.box j f p;grind
  ·exact M.box b e k1
 ·rcases arrL a e g with⟨j,f,k1,p,rfl,o⟩|⟨k1,_⟩;·grind
  ·exact M.arr a e k1
 ·rcases boxL a e ha with⟨j,f,k1,p,rfl,o⟩|⟨k1,k5,o⟩<;>rcases boxL b e' r with⟨Q,N,m,D,rfl,k⟩|⟨m,a2,k⟩;·rw[o,k];exact hd.mm.bb j Q (jlt p) (jlt D) fun q=>hn (by grind)
  ·rw[o,k];obtain⟨q1,J,K,U⟩:=rest_old b e' m;rcases boxBlk j a k1 (jlt p)with⟨y,n,G,H⟩|n;·rw[H];exact h.bb a b y J G K hn
   ·omega
  ·rw[o,k];obtain⟨q1,J,K,U⟩:=rest_old a e k1;rcases boxBlk Q b m (jlt D)with⟨y,n,G,H⟩|n;·rw[H];exact h.bb a b J y K G hn
   ·omega
  ·exact M.bb a b e e' k1 m hn
 ·rcases arrL a e ha with⟨j,f,k1,p,rfl,o⟩|⟨k1,o⟩<;>rcases arrL b e' r with⟨Q,N,m,D,rfl,k⟩|⟨m,k⟩;·rw[o]at d;rw[k];exact hd.mm.aa j Q f N p D (fun q=>hn (by grind)) x d
  ·rw[o]at d;rw[k];intro C;obtain⟨q1,⟨J,K⟩,U,_⟩:=rest_oldA b e' m;rcases newBlk j f x p d with⟨L,y,n,G,H⟩|n;·exact h.aa L b y J G K (fun q=>U (q▸n)) x H C
   grind
  ·rw[o]at d;rw[k];intro C;obtain⟨q1,⟨J,K⟩,U,_⟩:=rest_oldA a e k1;rcases newBlk Q N x D C with⟨L,y,n,G,H⟩|n;·exact h.aa L a y J G K (fun q=>U (q▸n)) x H d
   grind
  ·exact M.aa a b e e' k1 m hn x d
 ·rcases arrL a e ha with⟨j,f,k1,p,rfl,o⟩|⟨k1,o⟩<;>rcases boxL b e' r with⟨Q,N,m,D,rfl,k⟩|⟨m,a2,k⟩;·rw[o,k];exact hd.mm.ab j Q f p (jlt D)
  ·rw[o,k];intro C;obtain⟨q1,J,K,U⟩:=rest_old b e' m;rcases newBlk j f _ p C with⟨L,y,n,G,H⟩|n;·exact h.ab L b y J G K H
   ·omega
  ·rw[o,k];intro C;obtain⟨q1,⟨J,K⟩,U,_⟩:=rest_oldA a e k1;rcases boxBlk Q b m (jlt D)with⟨y,n,G,H⟩|n;·rw[H]at C;exact h.ab a b J y K G C
   grind
  ·exact M.ab a b e e' k1 m
 ·rcases boxL b e g with⟨j,f,k1,p,rfl,o⟩|⟨k1,_,_⟩
  ·rw[o];rcases boxBlk j b k1 (jlt p)with⟨y,n,G,H⟩|n;·rw[H];exact h.bF b y G
   ·exact .inr (yaj h.ext.size n)
  ·exact M.bF b e k1
 ·rcases arrL a e g with⟨j,f,k1,p,rfl,o⟩|⟨k1,o⟩
  ·rw[o]at d;rcases newBlk j f x p d with⟨L,y,n,G,H⟩|n
   ·rcases h.aF L y G x H with⟨m4,m5⟩|m4;·grind[zgs]
    omega
   ·exact .inr (yaj h.ext.size n)
  ·exact M.aF a e k1 x d
 ·exact⟨zz07s (ro rv (ups _ _ (fun C=>(lends_p C).1) hd.res)),rfl⟩
theorem Rel.zg0:∀(as_ as_':List Nat){σ:St},Rl z σ V w O φ α→(∀(j a f:Nat),as_[j]?=some a→as_'[j]?=some f→α a=α f)→Rl z (σ.zg0 as_ as_') V w O φ α
 |[],_,σ,h,_=>h|_::_,[],σ,h,_=>h|a::as_,f::as_',σ,h,n=>by
  have o:∀(j b k:Nat),as_[j]?=some b→as_'[j]?=some k→α b=α k:=fun j b k B h2=>n (j+1) b k (by grind) (by grind);have g:α a=α f:=n 0 a f rfl rfl;unfold St.zg0 Go.Pe.zg0;split
  ·rename_i e hk;have c:∀t x,lk ((a,e)::zan f σ.A) t=some x→t=a∧x=e∨t≠f∧t≠a∧lk σ.A t=some x:=fun t x d=>by
    simp only[lk]at d;split at d;·simp_all
    ·rename_i m;obtain⟨k1,i⟩:=z4j d;exact .inr ⟨k1,fun q=>by simp_all,i⟩
   have h2:Rl z {σ with A:=(a,e)::zan f σ.A} V w O φ α:=by
    refine⟨h.env,h.box,fun t x d=>?_,h.bb,fun t u x y d r hn v l=>?_,fun t b x y d m=>?_,h.bF,fun t x d=>?_,h.bd,h.ext,h.only,h.gl,h.keep⟩
    ·rcases c t x d with⟨rfl,rfl⟩|⟨k1,i,k3⟩;·rw[g];exact h.arr _ _ hk
     ·exact h.arr _ _ k3
    ·rcases c t x d with⟨rfl,rfl⟩|⟨k1,i,k3⟩<;>rcases c u y r with⟨rfl,rfl⟩|⟨s,l2,p⟩;·omega
     ·rw[g]at l;exact h.aa _ _ _ _ hk p (fun q=>s q.symm) v l
     ·rw[g];exact h.aa _ _ _ _ k3 hk k1 v l
     ·exact h.aa _ _ _ _ k3 p hn v l
    ·rcases c t x d with⟨rfl,rfl⟩|⟨k1,i,k3⟩;·rw[g];exact h.ab _ _ _ _ hk m
     ·exact h.ab _ _ _ _ k3 m
    ·rcases c t x d with⟨rfl,rfl⟩|⟨k1,i,k3⟩;·rw[g];exact h.aF _ _ hk
     ·exact h.aF _ _ k3
   exact Rel.zg0 as_ as_' h2 o
  ·exact Rel.zg0 as_ as_' h o
end
section
variable{z:W0}{V:Env}{w:World}{O:Nat→Prop}{φ:Nat→Nat}{α:Nat→Value}{σ:St}{C:Cx}{n:Nat}{ops:Array Oper}{o:Oper}{rest:List Oper}{K:Act→World→Prop}
theorem zu0{ds:List Deferred}{G:GI}{con:Nat→CIn→z3y→Prop}{k:St→Prop}{kp:PV→St→Prop}(a8:∀f i o,con f i o→Con C.P G f i o)(hz:∀w O,z.G w O→G.p w O)(hg:o.guard=none)(hn:dOk n o.dst=true)(h:Rl z σ V w O φ α)(hs:∀x,z.O x→O x)(hk:∀s,k s→NX z C n ds ops rest K s)(hp:∀v s,kp v s→zc6 z C n ds v s){c:Call}{x:Operand}{vs:List PV}{f:Nat}{m r:List PV}(ho:o.op=.call c)(a9:c.callee=.value x)(b4:σ.evs c.args.toList=some vs)(g:σ.ev x=some (.fn f m r))(hw:zky con σ f (m++vs++r) (fun v σ=>k (σ.put o.dst v)) kp):OW C n ds ops (o::rest) K V w:=by
 obtain⟨bs,as_,as_',i,out,b7,h1,h2,h3,h4,h5⟩:=hw;have hC:=a8 _ _ _ b7;obtain⟨cal,cargs,cty⟩:=c;simp only at a9 b4;subst a9;obtain⟨ux,e1,b6,b5,b3,e2,e3⟩:=h.ev g;rw[zpt hC.nn]at b3;subst b3;obtain⟨ua,e4,e5⟩:=h.evs b4;have e6:VRs w O φ α (m++vs++r) (b6++ua++b5):=VRs.append (VRs.append e2 e5) e3;simp only[zjw,yc]at h4;obtain⟨⟨⟨⟨⟨⟨q1,q2⟩,q3⟩,q4⟩,q5⟩,q6⟩,q7⟩:=h4;have q3:=yah q3;have q4:=yag q4--what is owned for the call
 have a0:∀y,zd6 O α (lk σ.A) (zao.go i.vs (m++vs++r)) y→O y:=fun y d=>d.1;have ls:∀a∈zao.go i.vs (m++vs++r),(∃e,lk σ.A a=some e)∧a∉as_:=fun a J=>by have:=yh.1 q7 a J;simp only[yc,ye]at this;refine⟨Option.isSome_iff_exists.1 this.1,fun hm=>?_⟩;have h':as_.any (yab a)=true:=yi.2 ⟨a,hm,yac a⟩;grind
 have gb:∀j b,bs[j]?=some b→bs.getD j 0=b:=fun j b e=>by grind
 have ga:∀j b,as_[j]?=some b→as_.getD j 0=b:=fun j b e=>by grind
 have td:Tr O w (zd6 O α (lk σ.A) (zao.go i.vs (m++vs++r))) w:=Tr.drop w a0;have b9:VRs w (zd6 O α (lk σ.A) (zao.go i.vs (m++vs++r))) (fun j=>φ (bs.getD j 0)) (fun j=>α (as_.getD j 0)) i.vs (b6++ua++b5):=by have:=zcw (σ:=σ) (O:=O) (φ:=φ) (α:=α) (O2:=zd6 O α (lk σ.A) (zao.go i.vs (m++vs++r))) a0 h.arr i.vs _ _ (fun a J _ _ y d=>d.2 a J (by grind)) e6;rw[h1]at this;exact zbc fun j y _ e=>by rw[gb j y e] fun j y _ e=>by rw[ga j y e] q3 (by omega) _ _ q5 this
 have pB:∀(j:Nat)(e:Bx),i.B[j]?=some e→∃(b:Nat)(y:Bx),bs[j]?=some b∧lk σ.B b=some y∧y.T=e.T∧nrm.go {σ with A:=[]} e.cs y.cs=zci.go bs as_ e.cs:=zcm h2;have pA:∀(j:Nat)(e:Nat×Nat×List (List D)),i.A[j]?=some e→∃(a:Nat)(y:Arr),as_[j]?=some a∧lk σ.A a=some y∧y.T=e.1∧y.n=e.2.1∧y.l=e.2.2:=zju h3;have geB:∀j(S:j<i.B.length),i.B[j]?=some i.B[j]:=fun j S=>by simp
 have geA:∀j(S:j<i.A.length),i.A[j]?=some i.A[j]:=fun j S=>by simp
 have ownIn:∀a y,lk σ.A a=some y→a∈as_→∀b,(α a).ownBlock=some b→zd6 O α (lk σ.A) (zao.go i.vs (m++vs++r)) b:=fun a y d hm b hb=>⟨h.arrO d hb,fun a' a1 _ hh=>by obtain⟨⟨e',b8⟩,a4⟩:=ls a' a1;exact h.aa a' a e' y b8 d (fun q=>a4 (q▸hm)) b hh hb⟩;have aget:∀(j:Nat)(e:Nat×Nat×List (List D)),(i.A.map some)[j]?=some (some e)→i.A[j]?=some e:=fun j e L=>by grind
 have c3:Mm w (zd6 O α (lk σ.A) (zao.go i.vs (m++vs++r))) (fun j=>φ (bs.getD j 0)) (fun j=>α (as_.getD j 0)) i.B (i.A.map some):=by
  refine⟨fun j e L=>?_,fun j e L=>?_,fun a b la lb hn=>?_,fun a b e e' J hb hn y d=>?_,fun a b e J lb=>?_⟩;·obtain⟨b,y,k1,E,k3,M⟩:=pB j e L;obtain⟨k5,us,k6,k7⟩:=h.box b y E;simp only[gb j b k1];refine⟨⟨k5,fun a J _=>h.ab a b _ y (ls a J).1.choose_spec E⟩,us,k3▸k6,?_⟩;have h8:=zcw (σ:={σ with A:=[]}) (O:=zd6 O α (lk σ.A) (zao.go i.vs (m++vs++r))) (φ:=φ) (α:=α) (O2:=zd6 O α (lk σ.A) (zao.go i.vs (m++vs++r))) (fun _ g=>g) (fun _ _ g=>by cases g) e.cs _ _ (fun _ _ _ g=>by cases g) (VRs.tr td _ _ k7);rw[M]at h8;exact zbc fun j y _ e=>by rw[gb j y e] fun j y _ e=>by rw[ga j y e] q3 (by omega) _ _ (zz06h q6 L) h8
  ·obtain⟨a,y,k1,E,k3,M,k5⟩:=pA j e (aget j e L);simp only[ga j a k1];have:=(h.arr a y E).down a0 (ownIn a y E (yw k1));grind
  ·obtain⟨b1,y1,k1,E,_⟩:=pB a _ (geB a la);obtain⟨b2,y2,k3,M,_⟩:=pB b _ (geB b lb);simp only[gb a b1 k1,gb b b2 k3];exact h.bb b1 b2 y1 y2 E M fun q=>hn (z83 q1 a b b1 k1 (q▸k3))
  ·obtain⟨b1,y1,k1,E,_⟩:=pA a e (aget a e J);obtain⟨b2,y2,k3,M,_⟩:=pA b e' (aget b e' hb);simp only[ga a b1 k1]at d;simp only[ga b b2 k3];exact h.aa b1 b2 y1 y2 E M (fun q=>hn (z83 q2 a b b1 k1 (q▸k3))) y d
  ·obtain⟨b1,y1,k1,E,_⟩:=pA a e (aget a e J);obtain⟨b2,y2,k3,M,_⟩:=pB b _ (geB b lb);simp only[ga a b1 k1,gb b b2 k3];exact h.ab b1 b2 y1 y2 E M
 have a6:∀j b,j<i.B.length→bs[j]?=some b→∃e,lk σ.B b=some e:=fun j b S hb=>by grind
 have a5:∀j a,j<i.A.length→as_[j]?=some a→∃e,lk σ.A a=some e:=fun j b S hb=>by grind
 refine OW.callM hg rfl hn ho e1 e4 hC.ent ((hC.run w _ _ _ _ b9 c3 (fun y d=>h.bd y d.1) (hz _ _ (z.hG td h.gl))).mono fun e w' H=>?_)
 cases out with|ok rvs B A=>
  obtain⟨us,O',φ',α',rfl,hd⟩:=H;replace h5:=zc h5;obtain⟨s,hf,I,a3⟩:=h5;simp only[zo4,yc]at I;obtain⟨⟨⟨⟨⟨⟨r1,W⟩,X⟩,r4⟩,r5⟩,r6⟩,r7⟩:=I;have W:=yag W;have X:=yag X;have key:∃Ob,Rl z s V w Ob φ α∧(∀y,Ob y→O y)∧(∀y,zd6 O α (lk σ.A) (zao.go i.vs (m++vs++r)) y→Ob y)∧(∀y,z.O y→Ob y)∧(∀b e,lk s.B b=some e→∃R,lk σ.B b=some R)∧(∀b e,lk s.A b=some e→∃R,lk σ.A b=some R)∧((∀x,Ob x→O' x)∨zdz rvs B A=false):=by cases hl:zdz rvs B A with|true=>rw[hl]at hf;obtain⟨k1,E,k3,_⟩:=z1n _ h hs hf;exact⟨_,k1,fun y d=>d.1,fun y d=>d,E,fun b e=>zdm hf,fun b e L=>⟨e,k3 b e L⟩,.inl fun x g=>hd.more x g⟩|false=>rw[hl]at hf;cases hf;grind
  obtain⟨Ob,k1,E,k3,M,k5,k6,k7⟩:=key;obtain⟨O2,Z,Y,N,Q,U,_⟩:=zlt h k1 E k3 k5 k6 q1 r1 q3 q4 a6 a5 W X r4 r5 r6 r7 hd k7;have m4:=N.putO o.dst U;have m5:=hk _ (by grind[St.zbr]) _ _ ⟨O2,Z,Y,m4,fun y d=>Q y (M y d)⟩;unfold CallK;grind[putE]|okI rvs B A=>
  obtain⟨us,O',φ',α',rfl,hd,b0⟩:=H;replace h5:=zc h5;obtain⟨s,hf,I,a3⟩:=h5;simp only[zo4,yc]at I;obtain⟨⟨⟨⟨⟨⟨⟨r1,W⟩,X⟩,r4⟩,r5⟩,r6⟩,r7⟩,r8⟩:=I;have W:=yag W;have X:=yag X;have key:∃Ob,Rl z s V w Ob φ α∧(∀y,Ob y→O y)∧(∀y,zd6 O α (lk σ.A) (zao.go i.vs (m++vs++r)) y→Ob y)∧(∀y,z.O y→Ob y)∧(∀b e,lk s.B b=some e→∃R,lk σ.B b=some R)∧(∀b e,lk s.A b=some e→∃R,lk σ.A b=some R)∧((∀x,Ob x→O' x)∨zdz rvs B A=false):=by cases hl:zdz rvs B A with|true=>rw[hl]at hf;obtain⟨k1,E,k3,_⟩:=z1n _ h hs hf;exact⟨_,k1,fun y d=>d.1,fun y d=>d,E,fun b e=>zdm hf,fun b e L=>⟨e,k3 b e L⟩,.inl fun x g=>hd.more x g⟩|false=>rw[hl]at hf;cases hf;grind
  obtain⟨Ob,k1,E,k3,M,k5,k6,k7⟩:=key;obtain⟨O2,Z,Y,N,Q,U,m0⟩:=zlt h k1 E k3 k5 k6 q1 r1 q3 q4 a6 a5 W X r4 r5 r6 r7 hd k7;have N:=Rel.zg0 as_ as_' N fun j a a' J a1=>by
   have c2:j<i.A.length:=by have:=(ym.1 J).1;omega
   have a4:a∉as_':=fun hm=>by have:=yh.1 r8 a (yw J);grind[yac]
   rw[m0,zys a4,zv0 r1 a1,b0 j c2];grind
  have m4:=N.putO o.dst U;have m5:=hk _ (by grind[St.zbr]) _ _ ⟨O2,Z,Y,m4,fun y d=>Q y (M y d)⟩;unfold CallK;grind[putE]|pan v=>
  obtain⟨u,O',φ',α',rfl,d1,d2,d3,d4,d5⟩:=H;have fi:∀y,FI i (fun j=>φ (bs.getD j 0)) (fun j=>α (as_.getD j 0)) y→z.F y∨z.w.heap.size≤y:=fun y d=>by
   rcases d with⟨j,S,rfl⟩|⟨j,S,d⟩;·obtain⟨b,e,k1,E,_⟩:=pB j _ (geB j S);simp only[gb j b k1];exact(h.bF b e E).elim (fun q=>.inl q.2) .inr
   ·obtain⟨b,e,k1,E,_⟩:=pA j _ (geA j S);simp only[ga j b k1]at d;exact(h.aF b e E y d).elim (fun q=>.inl q.2) .inr
  obtain⟨c4,c0⟩:=h5;have h6:Rl z (σ.lost bs (as_++zao.go i.vs (m++vs++r))) V w O φ α:=h.mono (Le.refl _) (fun t v hv=>(z5b hv).2) fun t v hv=>(z5b hv).2;have fiB:∀x,FI i (fun j=>φ (bs.getD j 0)) (fun j=>α (as_.getD j 0)) x→(∃b e,b∈bs∧lk σ.B b=some e∧φ b=x)∨∃a e,a∈as_∧lk σ.A a=some e∧(α a).ownBlock=some x:=fun x g=>by
   rcases g with⟨j,S,g⟩|⟨j,S,g⟩;·grind
   grind
  have h7:=h6.move d2 (O':=fun x=>O' x∨O x) ⟨d3.size,fun b a7 hn=>d3.block b a7 fun hh=>hn hh.1,fun b a7 hn hh=>by grind⟩ (fun y d=>.inr d) (fun x g=>by
    rcases g with g|g;·exact d4 x g
    ·exact yak (h.bd x g) d3.size) (fun b e L g=>by
    obtain⟨n1,k1⟩:=z5b L;rcases fiB _ g with⟨b',e',N,Q,U⟩|⟨a,e',N,Q,U⟩;·exact h.bb b' b e' e Q k1 (fun q=>n1 (q▸N)) U
    ·exact h.ab a b e' e Q k1 U) (fun a e L y d g=>by
    obtain⟨n1,k1⟩:=z5b L;rcases fiB _ g with⟨b',e',N,Q,U⟩|⟨a',e',N,Q,U⟩;·exact h.ab a b' e e' k1 Q (by grind)
    ·exact h.aa a' a e' e Q k1 (fun q=>n1 (yo _ (q▸N))) y U d) (Ext.after h d2 fi) (fun x g=>by
    rcases g with g|g
    ·rcases d5 x g with h1|h1;·exact h.only x h1.1
     ·exact .inr (yaj h.ext.size h1)
    ·exact h.only x g);exact fun a J a2=>hp v _ c0 V w' _ φ α u φ' α' h7 (fun x g=>.inr (hs x g)) (z8s v u c4 d1) a J a2|zjk v B=>
  obtain⟨u,φv,αv,us,O',φ',α',rfl,hv,hd⟩:=H;replace h5:=zc h5;obtain⟨s,hf,I,a3⟩:=h5;simp only[zo4,yc,ye]at I;obtain⟨⟨⟨⟨⟨⟨⟨r1,W⟩,X⟩,r4⟩,r5⟩,r6⟩,r7⟩,r8⟩:=I;have W:=yag W;have X:=yag X;have key:∃Ob,Rl z s V w Ob φ α∧(∀y,Ob y→O y)∧(∀y,zd6 O α (lk σ.A) (zao.go i.vs (m++vs++r)) y→Ob y)∧(∀y,z.O y→Ob y)∧(∀b e,lk s.B b=some e→∃R,lk σ.B b=some R)∧(∀b e,lk s.A b=some e→∃R,lk σ.A b=some R)∧((∀x,Ob x→O' x)∨zdz [] B []=false):=by cases hl:zdz [] B []with|true=>rw[hl]at hf;obtain⟨k1,E,k3,_⟩:=z1n _ h hs hf;exact⟨_,k1,fun y d=>d.1,fun y d=>d,E,fun b e=>zdm hf,fun b e L=>⟨e,k3 b e L⟩,.inl fun x g=>hd.more x g⟩|false=>rw[hl]at hf;cases hf;grind
  obtain⟨Ob,k1,E,k3,M,k5,k6,k7⟩:=key;obtain⟨O2,Z,Y,N,Q,U,_⟩:=zlt h k1 E k3 k5 k6 q1 r1 q3 q4 a6 a5 W X r4 r5 r6 r7 hd k7;exact fun a J a2=>hp v _ (St.z6k.mp a3) V w' O2 Z Y u φv αv N (fun y d=>Q y (M y d)) (z8s v u r8 hv) a J a2
end
end
section
section
variable{z:W0}{V:Env}{w:World}{O:Nat→Prop}{φ:Nat→Nat}{α:Nat→Value}{σ:St}{C:Cx}{n:Nat}{ops:Array Oper}{o:Oper}{rest:List Oper}{K:Act→World→Prop}{G:GI}{con:Nat→CIn→z3y→Prop}{tb:Tb}{cty:List (Nat×List (Option (Nat×Nat)))}{ann:Ann}{ds:List Deferred}
theorem OW.valO{v:Value}{w':World}(f:o.guard=none)(hn:dOk n o.dst=true)(g:∀a,Has n V a→(execOp a.eval o).run C.P w=.ok (.value v) w')(h:OW C n ds ops rest K (putE o.dst v V) w'):OW C n ds ops (o::rest) K V w:=fun a b e=>wpList_plain f fun K c=>by unfold Oper.wp;rw[g a b,Oper.upon_value];revert h hn;cases o.dst with|none=>exact fun _ h=>c _ _ (h _ b.same (by grind[Act.put]))|some d=>exact fun hn h=>c _ _ (h _ (b.put (by grind[dOk,yaf])) (by grind[Act.put]))
theorem OW.notO{j s:Nat}{b:Bool}{x:Value}(g:o.guard=some (j,b))(i:ops[j]?.bind (·.dst)=some s)(k:Env.get V s=some x)(m:x=.bool !b∨x=Go.undef)(hn:dOk n o.dst=true)(h:OW C n ds ops rest K (putE o.dst Go.undef V) w):OW C n ds ops (o::rest) K V w:=fun a c f=>wpList_step fun K e=>by
  have l:Region.wanted o (yielded ops a.tmps)=false:=by rcases m with rfl|rfl<;>cases b<;>simp[Region.wanted,g,yielded,i,c.get s _ k,Go.undef]
  rw[if_neg (by simp[l])];revert h hn;cases o.dst with|none=>exact fun _ h=>e _ _ (h _ c.same (by grind[Act.put]))|some d=>exact fun hn h=>e _ _ (h _ (c.put (by grind[dOk,yaf])) (by grind[Act.put]))
theorem zom{k:St→Prop}{kp:PV→St→Prop}(ht:TbG C.P tb G)(hcon:∀f i o,con f i o→Con C.P G f i o)(hz:∀w O,z.G w O→G.p w O)(hg:o.guard=none)(hn:dOk n o.dst=true)(h:Rl z σ V w O φ α)(hs:∀x,z.O x→O x)(hk:∀s,k s→NX z C n ds ops rest K s)(hp:∀v s,kp v s→zc6 z C n ds v s)(hw:run tb cty ann con σ o k kp):OW C n ds ops (o::rest) K V w:=by
 unfold run at hw;simp only[St.go_eq,St.zz048]at hw;split at hw;·obtain⟨v,u,h1,h2,h3,_⟩:=zba (n:=n) ht.toTbOk (fun w O h=>ht.gt w O (hz w O h)) h hw;exact OW.valO hg hn h3 (hk _ h1 _ _ ⟨_,_,_,h.putO o.dst h2,hs⟩)
 ·exact zvy ht.toTbOk hg hn h hs hk hp (fun c x vs f as_ cs ho hcx hvs hx hcw=>zu0 hcon hz hg hn h hs hk hp ho hcx hvs hx hcw) hw
theorem zdi{k:St→Prop}{kp:PV→St→Prop}(ht:TbG C.P tb G)(hcon:∀f i o,con f i o→Con C.P G f i o)(hz:∀w O,z.G w O→G.p w O)(hn:dOk n o.dst=true)(h:Rl z σ V w O φ α)(hs:∀x,z.O x→O x)(hk:∀s,k s→NX z C n ds ops rest K s)(hp:∀v s,kp v s→zc6 z C n ds v s)(hw:exo tb cty ann con ops σ o k kp):OW C n ds ops (o::rest) K V w:=by
 unfold exo at hw;simp only[St.go_eq,zb9]at hw;split at hw;·grind[zom]
 ·rename_i j b hg;split at hw;·exact hw.elim
  ·rename_i s hj;have hB:∀b',Env.get V s=some (.bool b')→Rl z (σ.zor s b') V w O φ α:=fun b' e=>⟨fun t v hv=>by
     rcases z4h hv with⟨rfl,rfl⟩|⟨_,h2⟩;·exact⟨_,e,rfl⟩
     ·exact h.env t v h2,h.box,h.arr,h.bb,h.aa,h.ab,h.bF,h.aF,h.bd,h.ext,h.only,h.gl,h.keep⟩;have yes:run tb cty ann con (σ.zor s b) o k kp→Env.get V s=some (.bool b)→OW C n ds ops (o::rest) K V w:=fun hw hu=>OW.yes hg hj hu (zom (o:={o with guard:=none}) ht hcon hz rfl hn (hB _ hu) hs hk hp hw);have no:k ((σ.zor s !b).put o.dst .gone)→Env.get V s=some (.bool !b)→OW C n ds ops (o::rest) K V w:=fun hw hu=>OW.notO hg hj hu (.inl rfl) hn (hk _ hw _ _ ⟨_,_,_,(hB _ hu).putO o.dst (v:=.gone) rfl,hs⟩);have gone:k (σ.put o.dst .gone)→∀u,Env.get V s=some u→u=Go.undef→OW C n ds ops (o::rest) K V w:=fun hw u hu e=>OW.notO hg hj hu (.inr e) hn (hk _ hw _ _ ⟨_,_,_,h.putO o.dst (v:=.gone) rfl,hs⟩);split at hw;·rename_i c hc;obtain⟨u,h1,h2⟩:=h.env s _ hc;simp only[VR]at h2;grind
   ·rename_i hc;obtain⟨u,h1,h2⟩:=h.env s _ hc;exact gone hw u h1 h2
   grind
theorem z7x{k:St→Prop}{kp:PV→St→Prop}(e:TbG C.P tb G)(a:∀f i o,con f i o→Con C.P G f i o)(g:∀w O,z.G w O→G.p w O)(hk:∀s,k s→NX z C n ds ops rest K s)(d:∀v s,kp v s→zc6 z C n ds v s):∀(os:List Oper)(σ:St),os.all (fun o=>dOk n o.dst)=true→zh9 tb cty ann con ops kp k os σ→NX z C n ds ops (os++rest) K σ|[],σ,_,c=>hk σ c|o::os,σ,hn,c=>fun V w⟨O,φ,α,h,j⟩=>by simp only[yg,yc]at hn;exact zdi e a g hn.1 h j (fun s b=>z7x e a g hk d os s hn.2 b) d c
theorem RS.cut{s:St}{c:Cut}(h:RS z σ V w)(e:σ.cut c=some s):RS z s V w:=by obtain⟨O,φ,α,h,d⟩:=h;obtain⟨O',α',b,a⟩:=zh0 h d e;exact⟨O',φ,α',b,a⟩
theorem zrx{β:Type}{p:β→Bool}{l:List β}(h:l.all p=true)(m:Nat):(l.take m).all p=true∧(l.drop m).all p=true:=by grind
theorem zfb{k:St→Prop}{kp:PV→St→Prop}(j:TbG C.P tb G)(a:∀f i o,con f i o→Con C.P G f i o)(q:∀w O,z.G w O→G.p w O)(hk:∀s,k s→NX z C n ds ops [] K s)(h:∀v s,kp v s→zc6 z C n ds v s):∀(l:List (Nat×Nat×Cut))(os:List Oper)(σ:St),os.all (fun o=>dOk n o.dst)=true→zn8 tb cty ann con ops kp k l os σ→NX z C n ds ops os K σ|[],os,σ,hn,t=>by have:=z7x (rest:=[]) j a q hk h os σ hn t;grind|(g,m,c)::r,os,σ,hn,t=>by have b:=zrx hn g;have:=z7x (rest:=os.drop g) j a q (fun σ1⟨J,x,h2⟩=>by have d:=zrx b.2 m;have:=z7x (rest:=(os.drop g).drop m) (k:=fun s=>s.zc8 c J) j a q (fun s B=>by obtain⟨u,e,y⟩:=z8y B;exact fun V w A=>zfb j a q hk h r _ u d.2 (St.z6k.mp (h2 u y)) V w (A.cut e)) h ((os.drop g).take m) σ1 d.1 x;rwa[yx]at this) h (os.take g) σ b.1 t;simp_all
end
end
section
def Vr(ops:Array Oper)(o:Oper)(V:Env):Env:=(o.looksAt ops).filterMap fun t=>(Env.get V t).map fun v=>(t,v)
theorem zz09e{ops:Array Oper}{o:Oper}{V:Env}{t:Nat}{v:Value}(h:Env.get (Vr ops o V) t=some v):t∈o.looksAt ops∧Env.get V t=some v:=by unfold Vr at h;revert h;induction o.looksAt ops with|nil=>intro h;cases h|cons s l b=>cases a:Env.get V s with|none=>grind|some x=>grind[Env.get,yag]
theorem Vr_of{ops:Array Oper}{o:Oper}{V:Env}{t:Nat}{v:Value}(a:t∈o.looksAt ops)(h:Env.get V t=some v):Env.get (Vr ops o V) t=some v:=by unfold Vr;revert a;induction o.looksAt ops with|nil=>simp|cons s l c=>
  intro a;simp only[yk];by_cases e:s=t;·simp_all[Env.get]
  ·have b:t∈l:=by
    rcases yp.1 a with rfl|a;·grind
    ·exact a
   cases d:Env.get V s with|none=>exact c b|some x=>grind[Env.get,yag]
theorem zdw{β:Type}{t:Nat}{v:β}:∀{ks:List Nat}{l:List (Nat×β)},lk (zb2 ks l) t=some v→t∈ks
 |[],l,h=>by cases h|x::r,l,h=>by
  unfold zb2 at h;split at h
  ·rcases z4h h with⟨rfl,rfl⟩|⟨_,h2⟩;·simp
   ·exact yq _ (zdw h2)
  ·exact yq _ (zdw h)
section
variable{z:W0}{V V':Env}{w w':World}{O O':Nat→Prop}{φ:Nat→Nat}{α:Nat→Value}{σ σ1:St}{C:Cx}{n:Nat}{ops:Array Oper}{o:Oper}{K:Act→World→Prop}{G:GI}{con:Nat→CIn→z3y→Prop}{tb:Tb}{cty:List (Nat×List (Option (Nat×Nat)))}{ann:Ann}{ds:List Deferred}
theorem zwo{σ σ':St}:∀{xs:List Operand},(∀x∈xs,σ'.ev x=σ.ev x)→σ'.evs xs=σ.evs xs|[],_=>rfl|x::xs,h=>by simp only[St.evs,h x yr,zwo fun y a=>h y (yq _ a)]
theorem zti{σ':St}{op:Op}{k:PV→Prop}(a:∀x∈op.operands,σ'.ev x=σ.ev x)(hB:σ'.B=σ.B)(l:σ'.A=σ.A)(h:qop tb σ op k):qop tb σ' op k:=by
 have hl:∀td u(kk:Int→Prop),lenW td σ u kk→lenW td σ' u kk:=fun td u kk=>by simp_all[lenW,lenM]
 have i:∀g m u,znv σ g m u k→znv σ' g m u k:=fun g m u=>by simp_all[znv,loadP]
 revert h;unfold qop;split;case h_1=>grind[Op.operands]
 case h_2=>grind[Op.operands]
 case h_3=>grind[Op.operands]
 case h_4=>simp_all[Op.operands]
 case h_5=>grind[Op.operands]
 case h_6=>grind[Op.operands]
 case h_7=>grind[Op.operands]
 case h_8=>grind[zwo,Op.operands]
 case h_9=>grind[Op.operands]
 case h_10=>grind[Op.operands]
 case h_11=>grind[Op.operands]
 case h_12=>grind[Op.operands]
 case h_13=>grind[Op.operands,ze]
 case h_14=>grind[Op.operands]
 case h_15=>rename_i x y;rw[a y (by simp[Op.operands]),l];grind[Op.operands]
 case h_16=>
  rename_i t x j f;have o:∀y,j=some y→σ'.ev y=σ.ev y:=fun y p=>a y (by grind[Op.operands]);have n:∀y,f=some y→σ'.ev y=σ.ev y:=fun y p=>a y (by grind[Op.operands]);rw[a x (by simp[Op.operands])];refine ze fun _=>ze fun _=>?_;have d:∀kk:Int→Prop,loW σ j kk→loW σ' j kk:=fun kk=>by unfold loW;grind
  have b:∀td u(kk:Int→Prop),hiW td σ u f kk→hiW td σ' u f kk:=fun td u kk=>by unfold hiW;grind
  grind[zsz]
 case h_17=>
  rename_i c;split;·rename_i x t d b q;rw[a x (by
    have e:c.args=#[x]:=by apply yao.1;simpa using b
    simp[Op.operands,Call.operands,e])];grind[ze]
  ·rename_i x y d b;have e:c.args=#[x,y]:=by apply yao.1;simpa using b
   grind[Op.operands,Call.operands]
  ·rename_i x y d b;have e:c.args=#[x,y]:=by apply yao.1;simpa using b
   grind[Op.operands,Call.operands]
  ·exact id
 case h_18=>grind[Op.operands]
 case h_19=>grind[zwo,Op.operands]
 case h_20=>grind[Op.operands]
 simp
theorem zlw{x:Operand}(d:x∈o.op.operands):(σ.only ops o).ev x=σ.ev x:=by cases x with
 |tmp t=>
  have a:t∈o.looksAt ops:=by unfold Oper.looksAt;exact yo _ (List.mem_filterMap.2 ⟨.tmp t,by grind,rfl⟩)
  show lk (zb2 (o.looksAt ops) σ.L) t=lk σ.L t;revert a;induction o.looksAt ops with|nil=>simp|cons s l h=>
   intro a;unfold zb2;by_cases e:s=t;·subst e;cases c:lk σ.L s with
    |none=>
     by_cases hl:s∈l;·grind
     ·cases b:lk (zb2 l σ.L) s with|none=>rfl|some y=>grind[zdw]
    |some v=>simp[lk]
   ·grind[lk,yag]|const v=>rfl|global g=>rfl|func f=>rfl
theorem zz02s:stb (σ.only ops o) o.op=stb σ o.op:=by
 unfold stb;split;·grind[zlw,Op.operands]
 ·rename_i c ho;split
  ·rename_i x a;have:x∈c.args:=by rw[←Array.mem_toList_iff,a];simp
   grind[zlw,Op.operands,Call.operands]
  ·rfl
 ·rfl
theorem Rel.lim(h:Rl z σ V w O φ α)(o:Oper):Rl z (σ.only ops o) (Vr ops o V) w O φ α:=⟨fun t v a=>by obtain⟨u,b,h2⟩:=h.env t v (z9z a);exact⟨u,Vr_of (zdw a) b,h2⟩,h.box,h.arr,h.bb,h.aa,h.ab,h.bF,h.aF,h.bd,h.ext,h.only,h.gl,h.keep⟩
theorem Rel.zor(h:Rl z σ V w O φ α){s:Nat}{b:Bool}(e:Env.get V s=some (.bool b)):Rl z (σ.zor s b) V w O φ α:=⟨fun t v a=>by
  rcases z4h a with⟨rfl,rfl⟩|⟨_,h2⟩;·exact⟨_,e,rfl⟩
  ·exact h.env t v h2,h.box,h.arr,h.bb,h.aa,h.ab,h.bF,h.aF,h.bd,h.ext,h.only,h.gl,h.keep⟩
def KQ(C:Cx)(n:Nat)(ops:Array Oper)(V:Env)(w:World)(O:Nat→Prop)(p:Nat×Bool):Prop:=∃(o:Oper)(d:Nat)(u:Value),ops[p.1]?=some o∧o.dst=some d∧Env.get V d=some u∧d∉o.looksAt ops∧((u=Go.undef∧∃j b s x,o.guard=some (j,b)∧ops[j]?.bind (·.dst)=some s∧Env.get V s=some x∧(x=.bool !b∨x=Go.undef))∨((o.guard=none∨∃j b s,o.guard=some (j,b)∧ops[j]?.bind (·.dst)=some s∧Env.get V s=some (.bool b))∧(p.2=true→∀w' O',Tr O w O' w'→EX C n (Vr ops o V) w' o u)))
def KN(C:Cx)(n:Nat)(ops:Array Oper)(V:Env)(w:World)(q:Nat):Prop:=∃(o:Oper)(d:Nat)(u:Value),ops[q]?=some o∧o.dst=some d∧Env.get V d=some u∧((u=Go.undef∧∃j b s x,o.guard=some (j,b)∧ops[j]?.bind (·.dst)=some s∧Env.get V s=some x∧(x=.bool !b∨x=Go.undef))∨((o.guard=none∨∃j b s,o.guard=some (j,b)∧ops[j]?.bind (·.dst)=some s∧Env.get V s=some (.bool b))∧EX C n (Vr ops o V) w o u))
theorem z7z{j s:Nat}{b:Bool}(a:o.guard=some (j,b))(c:ops[j]?.bind (·.dst)=some s):s∈o.looksAt ops:=by grind[Oper.looksAt]
theorem Vr_eq(h:∀t∈o.looksAt ops,Env.get V' t=Env.get V t):Vr ops o V'=Vr ops o V:=by unfold Vr;revert h;induction o.looksAt ops with|nil=>intro _;rfl|cons s l a=>grind
theorem KQ.move{p:Nat×Bool}(h:KQ C n ops V w O p)(t:Tr O w O' w')(g:∀o,ops[p.1]?=some o→∀d,o.dst=some d→Env.get V' d=Env.get V d∧∀t∈o.looksAt ops,Env.get V' t=Env.get V t):KQ C n ops V' w' O' p:=by
 obtain⟨o,d,u,a,h2,r,e,f⟩:=h;obtain⟨q,c⟩:=g o a d h2;refine⟨o,d,u,a,h2,by grind,e,?_⟩;rcases f with⟨k1,j,b,s,x,k3,v,y,z⟩|⟨k1,k⟩;·grind[z7z]
 ·refine .inr ⟨?_,fun i m O2 l=>by rw[Vr_eq c];exact k i m O2 (t.trans l)⟩;grind[z7z]
theorem KN.move{q:Nat}(h:KN C n ops V w q)(b:∀o,ops[q]?=some o→∀d,o.dst=some d→Env.get V' d=Env.get V d∧∀t∈o.looksAt ops,Env.get V' t=Env.get V t):KN C n ops V' w q:=by obtain⟨o,d,u,a,h2,f,g⟩:=h;obtain⟨c,e⟩:=b o a d h2;refine⟨o,d,u,a,h2,by grind,?_⟩;grind[z7z,Vr_eq]
theorem z7o{d:Nat}:∀{dn:List Nat},zav ops d dn=true→∀p∈dn,∀o,ops[p]?=some o→∀e,o.dst=some e→e≠d∧d∉o.looksAt ops
 |q::r,h,p,b,o,ho,e,c=>by
  simp only[zav,yc]at h;rcases yp.1 b with rfl|b;·have a:=h.1;rw[ho]at a;simp only[c,yc,ye]at a;refine⟨yam a.1,fun f=>?_⟩;have:(o.looksAt ops).any (yab d)=true:=yi.2 ⟨d,f,yac d⟩;grind
  ·exact z7o h.2 p b o ho e c
theorem z6o{d t:Nat}{u:Value}(h:t≠d):Env.get ((d,u)::V) t=Env.get V t:=by grind[Env.get,yag]
theorem zz03e{op:Op}(h:synQ op=true):stb σ op=true:=by cases op<;>first|rfl|cases h
theorem zn7{dn:List (Nat×Bool)}{ix:List Nat}{q:Nat}{k:St→List (Nat×Bool)→Prop}(ht:TbOk C.P tb)(hgt:∀w O,z.G w O→GtOk tb w O)(h:Rl z σ V w O φ α)(hn:∀o,ops[q]?=some o→dOk n o.dst=true)(hcq:zpk ops [q] ix=true)(hw:exq tb ops σ dn q k):∃d u b σ1 o,ops[q]?=some o∧o.dst=some d∧yae d n=true∧zav ops d ix=true∧k σ1 ((q,b)::dn)∧Rl z σ1 ((d,u)::V) w O φ α∧KQ C n ops ((d,u)::V) w O (q,b)∧KN C n ops ((d,u)::V) w q∧(synQ o.op=true→b=true):=by
 unfold exq at hw;simp only[St.go_eq,zb9]at hw;split at hw;·exact hw.elim
 ·rename_i o ho;have hn:=hn o ho;split at hw
  ·rename_i d hd hq
   ·have hcl:=hcq;simp only[zpk,ho,hd,yc,ye,and_true]at hcl;have hdl:d∉o.looksAt ops:=fun hm=>by have:(o.looksAt ops).any (yab d)=true:=yi.2 ⟨d,hm,yac d⟩;grind
    rw[hd]at hn;have gd:∀u:Value,Env.get ((d,u)::V) d=some u:=fun u=>by simp[Env.get]
    have ev:∀u:Value,Vr ops o ((d,u)::V)=Vr ops o V:=fun u=>Vr_eq fun t ht'=>z6o fun e=>hdl (e▸ht')--wanted
    have yes:∀(σ':St),Rl z σ' V w O φ α→(o.guard=none∨∃j b s,o.guard=some (j,b)∧ops[j]?.bind (·.dst)=some s∧Env.get V s=some (.bool b))→(qop tb σ' o.op fun v=>k (σ'.put (some d) v) ((q,stb σ' o.op)::dn))→∃d u b σ1 o,ops[q]?=some o∧o.dst=some d∧yae d n=true∧zav ops d ix=true∧k σ1 ((q,b)::dn)∧Rl z σ1 ((d,u)::V) w O φ α∧KQ C n ops ((d,u)::V) w O (q,b)∧KN C n ops ((d,u)::V) w q∧(synQ o.op=true→b=true):=fun σ' h' hg hw'=>by
     obtain⟨v,u,k1,k2,k3,k4⟩:=zba (n:=n) ht hgt (h'.lim (ops:=ops) o) (zti (fun x hx=>zlw hx) rfl rfl hw');rw[zz02s]at k4;have hg':o.guard=none∨∃j b s,o.guard=some (j,b)∧ops[j]?.bind (·.dst)=some s∧Env.get ((d,u)::V) s=some (.bool b):=by
      rcases hg with hg|⟨j,b,s,g1,g2,g3⟩;·exact .inl hg
      ·grind[z6o,z7z]
     exact⟨d,u,_,_,o,ho,hd,hn,hcl.1,k1,h'.zp9 k2,⟨o,d,u,ho,hd,gd u,hdl,.inr ⟨hg',fun hs w2 O2 t2=>by grind⟩⟩,⟨o,d,u,ho,hd,gd u,.inr ⟨hg',by grind⟩⟩,zz03e⟩
    have no:∀(σ':St)(j s:Nat)(b:Bool)(x:Value),Rl z σ' V w O φ α→o.guard=some (j,b)→ops[j]?.bind (·.dst)=some s→Env.get V s=some x→x=.bool !b∨x=Go.undef→k (σ'.put (some d) .gone) ((q,true)::dn)→∃d u b σ1 o,ops[q]?=some o∧o.dst=some d∧yae d n=true∧zav ops d ix=true∧k σ1 ((q,b)::dn)∧Rl z σ1 ((d,u)::V) w O φ α∧KQ C n ops ((d,u)::V) w O (q,b)∧KN C n ops ((d,u)::V) w q∧(synQ o.op=true→b=true):=fun σ' j s b x h' g1 g2 g3 g4 hk=>by
     have g5:Env.get ((d,Go.undef)::V) s=some x:=by rw[z6o (t:=s) (d:=d) fun e=>hdl (by grind[z7z])];exact g3
     exact⟨d,Go.undef,true,_,o,ho,hd,hn,hcl.1,hk,h'.zp9 (v:=.gone) rfl,⟨o,d,_,ho,hd,gd _,hdl,.inl ⟨rfl,j,b,s,x,g1,g2,g5,g4⟩⟩,⟨o,d,_,ho,hd,gd _,.inl ⟨rfl,j,b,s,x,g1,g2,g5,g4⟩⟩,fun _=>rfl⟩
    split at hw;·grind
    ·rename_i j b hg;split at hw;·exact hw.elim
     ·rename_i s hj;split at hw
      ·rename_i c hc;obtain⟨x,h1,h2⟩:=h.env s _ hc;subst h2;split at hw
       ·rcases zpm hw with⟨rfl,hw⟩|⟨rfl,hw⟩;·exact yes _ (h.zor h1) (.inr ⟨j,_,s,hg,hj,h1⟩) hw
        ·exact no _ j s _ _ (h.zor h1) hg hj h1 (.inl rfl) hw
       ·rcases zpm hw with⟨rfl,hw⟩|⟨rfl,hw⟩;·exact no _ j s _ _ (h.zor h1) hg hj h1 (.inl rfl) hw
        ·exact yes _ (h.zor h1) (.inr ⟨j,_,s,hg,hj,h1⟩) hw
      ·rename_i hc;obtain⟨x,h1,h2⟩:=h.env s _ hc;exact no σ j s b x h hg hj h1 (.inr h2) hw
      grind
  grind
theorem zk3{k:St→List (Nat×Bool)→Prop}(A:TbOk C.P tb)(i:∀w O,z.G w O→GtOk tb w O)(hn:∀(q:Nat)(o:Oper),ops[q]?=some o→dOk n o.dst=true):∀(qs:List Nat){σ:St}{V:Env}{dn:List (Nat×Bool)},Rl z σ V w O φ α→zpk ops qs (dn.map (·.1))=true→zsj tb ops qs σ dn k→(∀p∈dn,KQ C n ops V w O p)→∃(f:Env)(σ1:St)(a:List (Nat×Bool)),qvOk ops n qs f=true∧k σ1 a∧Rl z σ1 (f++V) w O φ α∧(∀p∈a,KQ C n ops (f++V) w O p)∧(∀q∈qs,KN C n ops (f++V) w q)∧(∀p∈dn,p∈a)∧(∀q∈qs,∃b,(q,b)∈a)∧a.map (·.1)=qs.reverse++dn.map (·.1)∧∀p∈dn,∀o,ops[p.1]?=some o→∀d,o.dst=some d→Env.get (f++V) d=Env.get V d∧∀t∈o.looksAt ops,Env.get (f++V) t=Env.get V t
 |[],σ,V,dn,h,_,y,hd=>⟨[],σ,dn,rfl,y,h,hd,by simp,fun _ h=>h,by simp,by simp,fun _ _ _ _ _ _=>⟨rfl,fun _ _=>rfl⟩⟩|q::r,σ,V,dn,h,l,y,hd=>by
  have s:zpk ops [q] (dn.map (·.1))=true:=by simp only[zpk,yc]at l⊢;exact⟨l.1,trivial⟩
  have F:zpk ops r (q::dn.map (·.1))=true:=by simp only[zpk,yc]at l;exact l.2
  obtain⟨d,u,b,R,o,ho,I,H,v,hk,h2,J,x,_⟩:=zn7 A i h (hn q) s y;have keep:∀p∈dn,∀o,ops[p.1]?=some o→∀e,o.dst=some e→Env.get ((d,u)::V) e=Env.get V e∧∀t∈o.looksAt ops,Env.get ((d,u)::V) t=Env.get V t:=fun p c o' g e m=>by obtain⟨T,U⟩:=z7o v p.1 (yv.2 ⟨p,c,rfl⟩) o' g e m;grind[z6o]
  obtain⟨f,σ1,a,k1,K,k3,B,L,M,S,N,D⟩:=zk3 A i hn r h2 (by grind) hk (fun p c=>by
   rcases yp.1 c with rfl|c;·exact J
   ·exact(hd p c).move (Tr.refl _ _) (keep p c));have E:f++(d,u)::V=f++[(d,u)]++V:=by simp
  rw[E]at k3 B L D;refine⟨f++[(d,u)],σ1,a,?_,K,k3,B,fun Q j=>?_,fun p c=>M p (yq _ c),fun p c=>?_,by rw[N];simp,fun p c o' g e m=>?_⟩
  ·unfold qvOk at k1⊢;rw[List.all_append,yc];refine⟨yh.2 fun p c=>?_,?_⟩;·have:=yh.1 k1 p c;grind
   ·grind[z9l]
  ·rcases yp.1 j with rfl|j;·exact x.move fun o' g e m=>D (Q,b) yr o' g e m
   grind
  ·grind
  grind
mutual
theorem zwm:∀ (v:PV) (u c:Value),detP v=true→VR w O φ α v u→VR w O φ α v c→u=c
 | .int _ _,u,c,_,h,a=>by grind [VR]
 | .bool _,u,c,_,h,a=>by grind [VR]
 | .str _,u,c,_,h,a=>by grind [VR]
 | .nil,u,c,_,h,a=>by grind [VR]
 | .ref _,u,c,_,h,a=>by grind [VR]
 | .ptr _ _,u,c,_,h,a=>by grind [VR]
 | .zfr,u,c,_,h,a=>by grind [VR]
 | .zg7,u,c,_,h,a=>by grind [VR]
 | .agg cs,u,c,hd,h,a=>by
  obtain ⟨us,rfl,h⟩:=h
  obtain ⟨b,rfl,a⟩:=a
  rw [zpn cs us b hd h a]
 | .tup cs,u,c,hd,h,a=>by
  obtain ⟨us,rfl,h⟩:=h
  obtain ⟨b,rfl,a⟩:=a
  rw [zpn cs us b hd h a]
 | .iface T v,u,c,hd,h,a=>by
  obtain ⟨x,rfl,h⟩:=h
  obtain ⟨i,rfl,a⟩:=a
  rw [zwm v x i hd h a]
 | .sl _ _ _,_,_,hd,_,_=>by cases hd
 | .zai _ _,_,_,hd,_,_=>by cases hd
 | .zd7 _ _ _ _,_,_,hd,_,_=>by cases hd
 | .fn _ _ _,_,_,hd,_,_=>by cases hd
 | .undef,_,_,hd,_,_=>by cases hd
 | .gone,_,_,hd,_,_=>by cases hd
 | .z1e _,_,_,hd,_,_=>by cases hd
 | .err _,_,_,hd,_,_=>by cases hd
 | .mp _,_,_,hd,_,_=>by cases hd
 | .md _,_,_,hd,_,_=>by cases hd
theorem zpn:∀ (vs:List PV) (us b:List Value),detP.go vs=true→VRs w O φ α vs us→VRs w O φ α vs b→us=b
 | [],us,b,_,h,a=>by rw [show us=[] from h,show b=[] from a]
 | v::vs,us,b,hd,h,a=>by
  simp only [detP.go,yc] at hd
  obtain ⟨u,r,rfl,f,h2⟩:=h
  obtain ⟨c,g,rfl,d,e⟩:=a
  rw [zwm v u c hd.1 f d,zpn vs r g hd.2 h2 e]
end
theorem zik(g:TbOk C.P tb)(c:∀w O,z.G w O→GtOk tb w O)(h:Rl z σ V w O φ α):∀{dn:List (Nat×Bool)},ze5 tb ops σ dn→(∀p∈dn,KQ C n ops V w O p)→∀p∈dn,KN C n ops V w p.1
 |[],_,_,p,b=>by cases b|(q,st)::r,a,hd,p,b=>by
  have k:ze5 tb ops σ r:=by cases st with|true=>exact a|false=>exact a.2
  rcases yp.1 b with rfl|b
  ·obtain⟨o,d,u,e,h2,i,E,j⟩:=hd _ yr;refine⟨o,d,u,e,h2,i,?_⟩;rcases j with⟨k1,k3⟩|⟨k1,s⟩;·grind
   ·refine .inr ⟨k1,?_⟩;cases st with|true=>exact s rfl w O (Tr.refl _ _)|false=>
     have a:=a.1;simp only[e,h2]at a;split at a;·rename_i v l;obtain⟨f,a⟩:=a;obtain⟨v',F,t,y,A,_⟩:=zba (n:=n) g c (h.lim (ops:=ops) o) (zti (fun x m=>zlw m) rfl rfl a);obtain⟨H,B,D⟩:=h.env d _ l;grind[zwm]
     grind
  ·exact zik g c h k (fun p b=>hd p (yq _ b)) p b
theorem KN.stab{q:Nat}{b:Act}(h:KN C n ops V w q)(a:Has n V b):z7s C.P ops b w q:=by
 obtain⟨o,d,u,p,h2,r,y⟩:=h;intro o' f D c;rw[p]at f;cases f;rw[h2]at c;cases c;have z:=a.get d u r;rcases y with⟨rfl,j,bb,s,x,i,k,l,m⟩|⟨g,B⟩
 ·have A:Region.wanted o (yielded ops b.tmps)=false:=by rcases m with rfl|rfl<;>cases bb<;>simp[Region.wanted,i,yielded,k,a.get s _ l,Go.undef]
  grind
 ·have A:Region.wanted o (yielded ops b.tmps)=true:=by
   rcases g with g|⟨j,bb,s,i,k,l⟩;·simp[Region.wanted,g]
   ·simp[Region.wanted,i,yielded,k,a.get s _ l]
  exact⟨fun _=>⟨u,z,B b ⟨a.size,fun t v e=>a.get t v (zz09e e).2⟩⟩,fun E=>by grind⟩
theorem zmh{b:Act}(h:wpList C.P ops (QT C ds fun f w'=>(∀t,o.dst≠some t→f.tmps[t]?=b.tmps[t]?)→K f w') [o] b w):wpList C.P ops (QT C ds K) [o] b w:=by
 have put:∀d v t,o.dst≠some t→(({b with defers:=d}:Act).put o.dst v).tmps[t]?=b.tmps[t]?:=fun d v t g=>by unfold Act.put;grind
 unfold wpList at h⊢;split at h
 ·rename_i e;rw[if_pos e];rcases h with h|h;·left;refine zf5 (o:=o) (a:=b) (b:=b) (fun d v w c=>?_) (fun _ _ c=>c) zjr _ h;exact⟨c.1,c.2 (put _ v)⟩
  grind[zjr]
 ·rename_i e;rw[if_neg e];exact⟨h.1,h.2 (put b.defers _)⟩
def z6j(a:Act):Env:=(List.range a.tmps.size).filterMap fun t=>a.tmps[t]?.map fun v=>(t,v)
theorem zdf{a:Act}{t:Nat}{v:Value}:Env.get (z6j a) t=some v↔a.tmps[t]?=some v:=by
 have key:∀l:List Nat,Env.get (l.filterMap fun t=>a.tmps[t]?.map fun v=>(t,v)) t=some v↔t∈l∧a.tmps[t]?=some v:=by intro l;induction l with|nil=>simp[Env.get]|cons s l b=>simp only[yk];cases c:a.tmps[s]? with|none=>grind|some x=>
    simp only[Option.map_some];by_cases e:s=t;·simp_all[Env.get]
    ·rw[z6o (Ne.symm e),b];grind
 grind[z6j]
theorem z7h{a:Act}(h:a.tmps.size=n):Has n (z6j a) a:=⟨h,fun _ _ e=>zdf.1 e⟩
theorem Rel.z6j{a:Act}(h:Rl z σ V w O φ α)(c:Has n V a):Rl z σ (Pe.z6j a) w O φ α:=⟨fun t v d=>by obtain⟨u,b,h2⟩:=h.env t v d;exact⟨u,zdf.2 (c.get t u b),h2⟩,h.box,h.arr,h.bb,h.aa,h.ab,h.bF,h.aF,h.bd,h.ext,h.only,h.gl,h.keep⟩
def W0.mark(z:W0)(w:World)(O:Nat→Prop):W0:={z with G:=fun w' O'=>z.G w' O'∧Tr O w O' w',hG:=fun t h=>⟨z.hG t h.1,h.2.trans t⟩}
theorem Rel.mark(h:Rl z σ V w O φ α):Rl (z.mark w O) σ V w O φ α:=⟨h.env,h.box,h.arr,h.bb,h.aa,h.ab,h.bF,h.aF,h.bd,h.ext,h.only,⟨h.gl,Tr.refl _ _⟩,h.keep⟩
theorem Rel.zfy{b:World}{a:Nat→Prop}(h:Rl (z.mark b a) σ V w O φ α):Rl z σ V w O φ α∧Tr a b O w:=⟨⟨h.env,h.box,h.arr,h.bb,h.aa,h.ab,h.bF,h.aF,h.bd,h.ext,h.only,h.gl.1,h.keep⟩,h.gl.2⟩
theorem zlr{kp:List Nat}{dn:List (Nat×Bool)}{p:Nat×Bool}(h:p∈z3z kp dn):p∈dn∧p.1∈kp:=by grind[z3z,yag]
theorem zg3(a:Act)(t:Nat):Env.get (Pe.z6j a) t=a.tmps[t]?:=by cases b:a.tmps[t]? with|some x=>exact zdf.2 b|none=>cases c:Env.get (Pe.z6j a) t with|none=>rfl|some y=>grind[zdf]
theorem fullV{a b:Act}{c:Env}(d:Has n (c++Pe.z6j a) b)(h:a.tmps.size=n)(t:Nat):Env.get (c++Pe.z6j a) t=b.tmps[t]?:=by cases e:Env.get (c++Pe.z6j a) t with|some x=>exact(d.get t x e).symm|none=>
  have:∀{l l2:Env},Env.get (l++l2) t=none→Env.get l2 t=none:=by intro l l2;induction l with|nil=>exact id|cons p l i=>grind[Env.get]
  have h2:a.tmps[t]?=none:=by cases g:a.tmps[t]? with|none=>rfl|some x=>grind[zdf]
  have f:=d.size;grind
theorem z9q{k:St→List (Nat×Bool)→Prop}(A:TbOk C.P tb)(j:∀w O,z.G w O→GtOk tb w O)(hn:∀(q:Nat)(o:Oper),ops[q]?=some o→dOk n o.dst=true)(qs done:List Nat){dn:List (Nat×Bool)}(a:Act)(l:a.tmps.size=n)(r:a.defers=ds)(h:Rl z σ (Pe.z6j a) w O φ α)(hd:∀p∈dn,KQ C n ops (Pe.z6j a) w O p)(f:∀q∈done,∃b,(q,b)∈dn)(I:zpk ops qs (dn.map (·.1))=true)(J:zsj tb ops qs σ dn fun σ1 c=>ze5 tb ops σ1 dn∧k σ1 c):∃(b:Act)(σ1:St)(c:List (Nat×Bool)),Off ops qs a b∧b.tmps.size=n∧b.defers=ds∧Rl z σ1 (Pe.z6j b) w O φ α∧(∀p∈c,KQ C n ops (Pe.z6j b) w O p)∧(∀q∈done++qs,z7s C.P ops b w q)∧(∀q∈done++qs,∃st,(q,st)∈c)∧c.map (·.1)=qs.reverse++dn.map (·.1)∧k σ1 c:=by
 obtain⟨L,σ1,c,B,⟨D,E⟩,v,x,F,H,K,m,_⟩:=zk3 A j hn qs h I J hd;obtain⟨b,i,e⟩:=(z7h l).off B;have y:=fullV i l;refine⟨b,σ1,c,e,i.size,by rw[←e.defers];exact r,v.z6j i,fun p s=>(x p s).move (Tr.refl _ _) fun o _ d _=>⟨(zg3 b d).trans (y d).symm,fun t _=>(zg3 b t).trans (y t).symm⟩,fun q g=>?_,fun q g=>?_,m,E⟩
 ·rcases yn.1 g with g|g;·obtain⟨st,u⟩:=f q g;exact(zik A j v D (fun p s=>x p (H p s)) (q,st) u).stab i
  ·exact(F q g).stab i
 grind
theorem zz0b2{cs:List (Nat×Cut)}{e:Nat}{k:St→Prop}{w':World}{V':Env}(h:rst cs e σ k)(d:RS z σ V' w'):∃s,RS z s V' w'∧k s:=by
 unfold rst at h;split at h;·obtain⟨J,b,h2⟩:=h;obtain⟨s,a,c⟩:=zc b;exact⟨s,d.cut a,St.z6k.mp (h2 s (St.z6k.mp c))⟩
 grind
theorem zry{cs:List (Nat×Cut)}{anc:Anc}{k:St→Prop}{kp:PV→St→Prop}{e:Nat}{o:Oper}{kpl c:List Nat}{g:Gt}{rem wai done:List Nat}{dn:List (Nat×Bool)}(Y:TbG C.P tb G)(I:∀f i o,con f i o→Con C.P G f i o)(hz:∀w O,z.G w O→G.p w O)(hn:∀(q:Nat)(o:Oper),ops[q]?=some o→dOk n o.dst=true)(T:∀v s,kp v s→zc6 z C n ds v s)(_hk:∀s,k s→∀V w,RS z s V w→∀a,Has n V a→a.defers=ds→K a w)(ho:ops[e]?=some o)(m:z7d anc rem wai done e kpl c=true)(M:z2d anc (z0p rem [e]) (z0p wai c) (kpl++c) g=true)(H:(match(some o:Option Oper)with
   |some o=>match o.dst with|some d=>zav ops d (zb3 kpl (dn.map (·.1)))|none=>true
   |none=>true)=true)(a5:zpk ops c (zb3 kpl (dn.map (·.1)))=true)(a4:clrA ops g (c.reverse++zb3 kpl (dn.map (·.1)))=true)(ih:∀(dn:List (Nat×Bool))(rem wai done:List Nat)(σ:St)(w:World)(O:Nat→Prop)(φ:Nat→Nat)(α:Nat→Value)(b:Act),b.tmps.size=n→b.defers=ds→Rl z σ (Pe.z6j b) w O φ α→(∀x,z.O x→O x)→(∀p∈dn,KQ C n ops (Pe.z6j b) w O p)→(∀q∈done,z7s C.P ops b w q)→(∀q∈done,∃st,(q,st)∈dn)→z2d anc rem wai done g=true→clrA ops g (dn.map (·.1))=true→zdh tb cty ann con ops cs kp k g dn σ→DRa C ds ops K done g b w)(b:Act)(X:b.tmps.size=n)(D:b.defers=ds)(h:Rl z σ (Pe.z6j b) w O φ α)(hs:∀x,z.O x→O x)(hd:∀p∈dn,KQ C n ops (Pe.z6j b) w O p)(E:∀q∈done,∃st,(q,st)∈dn)(hw:exo tb cty ann con ops σ o (fun y=>rst cs e y fun y=>zsj tb ops c y (z3z kpl dn) fun j l=>ze5 tb ops j (z3z kpl dn)∧zdh tb cty ann con ops cs kp k g l j) kp):wpList C.P ops (QT C ds fun B w'=>∃A,Off ops c B A∧DRa C ds ops K (kpl++c) g A w') [o] b w:=by
 have ekept:(z3z kpl dn).map (·.1)=zb3 kpl (dn.map (·.1)):=by unfold z3z zb3;rw[yl];rfl
 have hb:Has n (Pe.z6j b) b:=z7h X;refine zmh (zdi (z:=z.mark w O) (rest:=[]) (K:=fun B w'=>(∀t,o.dst≠some t→B.tmps[t]?=b.tmps[t]?)→∃A,Off ops c B A∧DRa C ds ops K (kpl++c) g A w') Y I (fun w O h=>hz w O h.1) (hn e o ho) h.mark hs (fun y hσ2 V2 w2 L=>?_) (fun v s hv V w O φ α u φ' α' r Z L a ha D=>T v s hv V w O φ α u φ' α' r.zfy.1 Z L a ha D) hw b hb D);obtain⟨a2,L,hσ2⟩:=zz0b2 hσ2 L;obtain⟨O2,a1,a0,r,Z⟩:=L;obtain⟨r',t⟩:=r.zfy;refine OW.fin fun B F J a3=>?_;simp only[z7d,yc]at m;have R:∀p∈z3z kpl dn,KQ C n ops (Pe.z6j B) w2 O2 p:=fun p T=>by
  obtain⟨U,a7⟩:=zlr T;refine(hd p U).move t fun o' S d N=>?_;have a6:∀x,o.dst=some x→d≠x∧x∉o'.looksAt ops:=fun x hx=>by simp only[hx]at H;exact z7o H p.1 (by grind) o' S d N
  refine⟨?_,fun t a8=>?_⟩;·rw[zg3,zg3];grind
  grind[zg3]
 have Q:∀q∈kpl,∃st,(q,st)∈z3z kpl dn:=fun q hq=>by
  have hc:=yh.1 m.1.2 q hq;have hm:q∈done:=by simpa using hc
  obtain⟨st,W⟩:=E q hm;exact⟨st,yt.2 ⟨W,yi.2 ⟨q,hq,yac q⟩⟩⟩
 obtain⟨A,j,l,e1,e2,e3,e4,e5,e6,e7,e8,e9⟩:=z9q (k:=fun j l=>zdh tb cty ann con ops cs kp k g l j) Y.toTbOk (fun w O h=>Y.gt w O (hz w O h)) hn c kpl B F.size J (r'.z6j F) R Q (by grind) hσ2;exact⟨A,e1,ih l _ _ _ j w2 O2 a1 a0 A e2 e3 e4 Z e5 e6 e7 M (by grind) e9⟩
theorem z9m{cs:List (Nat×Cut)}{anc:Anc}{k:St→Prop}{kp:PV→St→Prop}(D:TbG C.P tb G)(l:∀f i o,con f i o→Con C.P G f i o)(E:∀w O,z.G w O→G.p w O)(hn:∀(q:Nat)(o:Oper),ops[q]?=some o→dOk n o.dst=true)(B:∀v s,kp v s→zc6 z C n ds v s)(hk:∀s,k s→∀V w,RS z s V w→∀a,Has n V a→a.defers=ds→K a w):∀(g:Gt)(dn:List (Nat×Bool))(rem wai done:List Nat){σ:St}{w:World}{O:Nat→Prop}{φ:Nat→Nat}{α:Nat→Value}(b:Act),b.tmps.size=n→b.defers=ds→Rl z σ (Pe.z6j b) w O φ α→(∀x,z.O x→O x)→(∀p∈dn,KQ C n ops (Pe.z6j b) w O p)→(∀q∈done,z7s C.P ops b w q)→(∀q∈done,∃st,(q,st)∈dn)→z2d anc rem wai done g=true→clrA ops g (dn.map (·.1))=true→zdh tb cty ann con ops cs kp k g dn σ→DRa C ds ops K done g b w|.fin,dn,rem,wai,done,σ,w,O,φ,α,b,t,m,h,A,_,u,_,_,_,y=>⟨u,hk σ y _ _ ⟨_,_,_,h,A⟩ b (z7h t) m⟩|.one e kpl F g,dn,rem,wai,done,σ,w,O,φ,α,b,t,m,h,A,hd,u,d,j,c,y=>by simp only[z2d,yc]at j;simp only[clrA,clrN,yc]at c;refine⟨u,fun o ho=>?_⟩;unfold zdh at y;rw[zb9,ho]at y;rw[ho]at c;exact zry D l E hn B hk ho j.1.1 j.2 c.1.1 c.1.2 c.2 (fun dn rem wai done σ w O φ α b=>z9m D l E hn B hk g dn rem wai done b) b t m h A hd d y|.alt e kpl F g r,dn,rem,wai,done,σ,w,O,φ,α,b,t,m,h,A,hd,u,d,j,c,y=>by simp only[z2d,yc]at j;simp only[clrA,clrN,yc]at c;refine⟨fun o ho=>?_,z9m D l E hn B hk r dn rem wai done b t m h A hd u d j.2 c.2 y.2⟩;have y:=y.1;rw[zb9,ho]at y;rw[ho]at c;exact zry D l E hn B hk ho j.1.1.1 j.1.2 c.1.1.1 c.1.1.2 c.1.2 (fun dn rem wai done σ w O φ α b=>z9m D l E hn B hk g dn rem wai done b) b t m h A hd d y
theorem zz03v{e:Act→World→Prop}{b:Act}(f:∀a w,K a w→e a w)(h:wpList C.P ops (QT C ds K) [o] b w):wpList C.P ops (QT C ds e) [o] b w:=by
 unfold wpList at h⊢;split at h
 ·rename_i d;rw[if_pos d];rcases h with h|h;·left;refine zf5 (o:=o) (a:=b) (b:=b) (fun g v w c=>?_) (fun _ _ c=>c) zjr _ h;exact⟨c.1,f _ _ c.2⟩
  grind[zjr]
 ·rename_i d;rw[if_neg d];exact⟨h.1,f _ _ h.2⟩
def SI(C:Cx)(ds:List Deferred)(ops:Array Oper)(K:List Nat→Act→World→Prop):List It→List Nat→Act→World→Prop|[],done,b,w=>K done b w|.q q::r,done,b,w=>∃c,Off ops [q] b c∧SI C ds ops K r (done++[q]) c w|.a e kpl::r,done,b,w=>(∀q∈done,z7s C.P ops b w q)∧∀o,ops[e]?=some o→wpList C.P ops (QT C ds fun d w'=>SI C ds ops K r kpl d w') [o] b w
theorem SI.app{K:List Nat→Act→World→Prop}:∀(l r:List It),SI C ds ops K (l++r)=SI C ds ops (SI C ds ops K r) l|[],r=>by simp only[List.nil_append,SI]|.q q::l,r=>by simp only[yj,SI,SI.app l r]|.a e kpl::l,r=>by simp only[yj,SI,SI.app l r]
theorem offTr{q:Nat}{qs:List Nat}{a b c:Act}(d:Off ops [q] a b)(h2:Off ops qs b c):Off ops (q::qs) a c:=⟨d.size.trans h2.size,d.defers.trans h2.defers,fun t e=>(d.get t fun x f=>e x (by grind)).trans (h2.get t fun x f=>e x (yq _ f))⟩
theorem SI.qs{K:List Nat→Act→World→Prop}{c:List Nat→Act→World→Prop}{r:List It}(h:∀done b w,SI C ds ops K r done b w→c done b w):∀(qs done:List Nat)(b:Act)(w:World),SI C ds ops K (qsIt qs r) done b w→∃a,Off ops qs b a∧c (done++qs) a w|[],done,b,w,d=>⟨b,⟨rfl,rfl,fun _ _=>rfl⟩,by rw[List.append_nil];exact h _ _ _ d⟩|q::qs,done,b,w,⟨e,f,h2⟩=>by obtain⟨a,g,i⟩:=SI.qs h qs _ _ _ h2;grind[offTr]
theorem SI.g:∀(g:Gt),zmv g=true→∀done b w,SI C ds ops (fun done b w=>(∀q∈done,z7s C.P ops b w q)∧K b w) (zun g) done b w→DRa C ds ops K done g b w|.fin,_,done,b,w,h=>h|.one e kpl qs sub,a,done,b,w,⟨d,h2⟩=>⟨d,fun o ho=>zz03v (fun c w' f=>SI.qs (SI.g sub a) qs kpl c w' f) (h2 o ho)⟩|.alt _ _ _ _ _,a,_,_,_,_=>by simp[zmv]at a
def Inv(z:W0)(C:Cx)(n:Nat)(ds:List Deferred)(ops:Array Oper)(σ:St)(dn:List (Nat×Bool))(b:Act)(w:World):Prop:=∃O φ α,b.tmps.size=n∧b.defers=ds∧Rl z σ (Pe.z6j b) w O φ α∧(∀x,z.O x→O x)∧∀p∈dn,KQ C n ops (Pe.z6j b) w O p∧KN C n ops (Pe.z6j b) w p.1∧∀o,ops[p.1]?=some o→synQ o.op=true→p.2=true
theorem zrw:∀{dn:List (Nat×Bool)},allT dn=true→∀p∈dn,p.2=true
 |(_,b)::r,h,p,a=>by
  simp only[allT,yc]at h;rcases yp.1 a with rfl|a;·exact h.1
  ·exact zrw h.2 p a
theorem Inv.stab{dn:List (Nat×Bool)}{done:List Nat}{b:Act}(h:Inv z C n ds ops σ dn b w)(a:∀q∈done,∃st,(q,st)∈dn):∀q∈done,z7s C.P ops b w q:=by obtain⟨O,φ,α,d,h2,g,i,e⟩:=h;intro q f;obtain⟨st,c⟩:=a q f;exact(e (q,st) c).2.1.stab (z7h d)
theorem KQ.now{q:Nat}(h:KQ C n ops V w O (q,true)):KN C n ops V w q:=by
 obtain⟨o,d,u,a,h2,b,f,c⟩:=h;refine⟨o,d,u,a,h2,b,?_⟩;rcases c with⟨k1,k3⟩|⟨k1,e⟩;·grind
 ·exact .inr ⟨k1,e rfl w O (Tr.refl _ _)⟩
theorem zkb{kpl:List Nat}{dn:List (Nat×Bool)}:(z3z kpl dn).map (·.1)=zb3 kpl (dn.map (·.1)):=by unfold z3z zb3;rw[yl];rfl
theorem zwq{K:List Nat→Act→World→Prop}{k:St→List (Nat×Bool)→Prop}{kp:PV→St→Prop}(ht:TbG C.P tb G)(H:∀f i o,con f i o→Con C.P G f i o)(hz:∀w O,z.G w O→G.p w O)(hn:∀(q:Nat)(o:Oper),ops[q]?=some o→dOk n o.dst=true)(g:∀v s,kp v s→zc6 z C n ds v s)(i:It)(dn:List (Nat×Bool))(done:List Nat)(b:Act)(w:World)(E:zl0 ops [i] (dn.map (·.1))=true)(hk:∀σ' l done' j w',k σ' l→Inv z C n ds ops σ' l j w'→l.map (·.1)=dnI i (dn.map (·.1))→(∀q∈done',∃st,(q,st)∈l)→K done' j w')(M:ex1 tb cty ann con ops kp i σ dn k)(Z:Inv z C n ds ops σ dn b w)(A:∀q∈done,∃st,(q,st)∈dn):SI C ds ops K [i] done b w:=by cases i with
 |q q=>
  obtain⟨O,φ,α,N,h2,R,S,T⟩:=Z;simp only[zl0,yc,and_true]at E;obtain⟨d,u,b1,σ1,o,ho,a3,Y,U,a0,a7,a5,a2,b4⟩:=zn7 (k:=k) ht.toTbOk (fun w O h=>ht.gt w O (hz w O h)) R (hn q) E M;have a6:qvOk ops n [q] [(d,u)]=true:=by simp only[qvOk,yg,List.all_nil,List.any_cons,List.any_nil,Y,z9l,ho,a3,Option.bind_some,Bool.and_true,Bool.or_false,Bool.true_and,beq_self_eq_true]
  have e4:Rl z σ1 ([(d,u)]++Pe.z6j b) w O φ α:=a7;obtain⟨j,D,m⟩:=(z7h N).off a6;have fb:=fullV D N;have same:∀t,Env.get (Pe.z6j j) t=Env.get ((d,u)::Pe.z6j b) t:=fun t=>(zg3 j t).trans (fb t).symm;have keep:∀p∈dn,∀o,ops[p.1]?=some o→∀e,o.dst=some e→Env.get (Pe.z6j j) e=Env.get (Pe.z6j b) e∧∀t∈o.looksAt ops,Env.get (Pe.z6j j) t=Env.get (Pe.z6j b) t:=fun p g o' c e he=>by obtain⟨n1,n2⟩:=z7o U p.1 (yv.2 ⟨p,g,rfl⟩) o' c e he;grind[z6o]
  refine⟨j,m,hk σ1 _ _ j w a0 ⟨O,φ,α,D.size,by rw[←m.defers];exact h2,e4.z6j D,S,fun p g=>?_⟩ rfl fun x Q=>?_⟩
  ·rcases yp.1 g with rfl|g;·exact⟨a5.move (Tr.refl _ _) fun _ _ d _=>⟨same d,fun t _=>same t⟩,a2.move fun _ _ d _=>⟨same d,fun t _=>same t⟩,fun o' c=>by grind⟩
   ·obtain⟨g1,g2,g3⟩:=T p g;exact⟨g1.move (Tr.refl _ _) (keep p g),g2.move (keep p g),g3⟩
  grind|a e kpl=>
  simp only[ex1,zl9]at M;split at M
  ·rename_i hT;split at M
   ·rename_i o ho;rw[zb9]at ho;refine⟨Z.stab A,fun o' c=>?_⟩;rw[ho]at c;cases c;simp only[zl0,ho,yc,and_true]at E;obtain⟨O,φ,α,N,h2,R,S,T⟩:=Z;have D:Has n (Pe.z6j b) b:=z7h N;refine zmh (zdi (z:=z.mark w O) (rest:=[]) (K:=fun y w'=>(∀t,o.dst≠some t→y.tmps[t]?=b.tmps[t]?)→SI C ds ops K [] kpl y w') ht H (fun w O h=>hz w O h.1) (hn e o ho) R.mark S (fun a9 hσ2 V2 w2 hr=>?_) (fun v s hv V w O φ α u φ' α' r s2 hr a ha X=>g v s hv V w O φ α u φ' α' r.zfy.1 s2 hr a ha X) M b D h2);obtain⟨O2,b0,a8,r,s2⟩:=hr;obtain⟨r',t⟩:=r.zfy;refine OW.fin fun y B I b2=>?_;have a1:∀p∈z3z kpl dn,KQ C n ops (Pe.z6j y) w2 O2 p∧KN C n ops (Pe.z6j y) w2 p.1∧∀o,ops[p.1]?=some o→synQ o.op=true→p.2=true:=fun p g=>by
     obtain⟨J,a4⟩:=zlr g;have L:=(T p J).1.move (V':=Pe.z6j y) t fun o' c d W=>by
      have b3:∀x,o.dst=some x→d≠x∧x∉o'.looksAt ops:=fun x Q=>by have F:=E.1;simp only[Q]at F;exact z7o F p.1 (by rw[←zkb];grind) o' c d W
      refine⟨?_,fun t b5=>?_⟩;·rw[zg3,zg3];grind
      grind[zg3]
     have h2:=zrw hT p g;obtain⟨q,st⟩:=p;subst h2;exact⟨L,L.now,fun _ _ _=>rfl⟩
    refine hk a9 _ kpl y w2 hσ2 ⟨O2,b0,a8,B.size,I,r'.z6j B,s2,a1⟩ zkb fun q L=>?_;have hm:=yh.1 E.2 q L;obtain⟨x,Q,e⟩:=yi.1 hm;obtain⟨p,J,a4⟩:=yv.1 Q;have e:=yag e;exact⟨p.2,yt.2 ⟨by grind,yi.2 ⟨q,L,by simp⟩⟩⟩
   grind
  grind
theorem zmw{i:It}{r:List It}{dn:List Nat}(h:zl0 ops (i::r) dn=true):zl0 ops [i] dn=true∧zl0 ops r (dnI i dn)=true:=by cases i with|q q=>simp_all[zl0]|a e kpl=>simp_all[zl0]
theorem zl1:∀{l r:List It}{dn:List Nat},zl0 ops (l++r) dn=true→zl0 ops l dn=true∧zl0 ops r (dnIs l dn)=true|[],_,_,h=>⟨rfl,h⟩|i::l,r,dn,h=>by obtain⟨c,h2⟩:=zmw h;obtain⟨d,b⟩:=zl1 h2;refine⟨?_,b⟩;cases i with|q q=>simp_all[zl0]|a e kpl=>simp_all[zl0]
theorem z9n{K:List Nat→Act→World→Prop}{k:St→List (Nat×Bool)→Prop}{kp:PV→St→Prop}(B:TbG C.P tb G)(c:∀f i o,con f i o→Con C.P G f i o)(D:∀w O,z.G w O→G.p w O)(hn:∀(q:Nat)(o:Oper),ops[q]?=some o→dOk n o.dst=true)(A:∀v s,kp v s→zc6 z C n ds v s):∀(l:List It)(σ:St)(dn:List (Nat×Bool))(done:List Nat)(b:Act)(w:World),zl0 ops l (dn.map (·.1))=true→(∀σ' a done' d w',k σ' a→Inv z C n ds ops σ' a d w'→a.map (·.1)=dnIs l (dn.map (·.1))→(∀q∈done',∃st,(q,st)∈a)→K done' d w')→zjb tb cty ann con ops kp k l σ dn→Inv z C n ds ops σ dn b w→(∀q∈done,∃st,(q,st)∈dn)→SI C ds ops K l done b w|[],σ,dn,done,b,w,_,hk,x,m,hd=>hk σ dn done b w x m rfl hd|i::r,σ,dn,done,b,w,I,hk,x,m,hd=>by obtain⟨h,J⟩:=zmw I;have:=zwq (K:=SI C ds ops K r) B c D hn A i dn done b w h (fun σ' a done' d w' u t e j=>z9n B c D hn A r σ' a done' d w' (by grind) (fun y g done2 E N M L H F=>hk y g done2 E N M L (by rw[H,e];rfl) F) u t j) x m hd;rw[←SI.app]at this;exact this
theorem Inv.cut{s:St}{c:Cut}{dn:List (Nat×Bool)}{l:List Nat}{b:Act}(h:Inv z C n ds ops σ dn b w)(e:σ.cut c=some s)(B:l=dn.map (·.1)):Inv z C n ds ops s (l.map fun q=>(q,synO ops q)) b w:=by
 obtain⟨O,φ,α,v,h2,x,y,A⟩:=h;obtain⟨O',α',r,i⟩:=zh0 x.mark y e;obtain⟨a,t⟩:=r.zfy;refine⟨O',φ,α',v,h2,a,i,fun p D=>?_⟩;obtain⟨q,k,rfl⟩:=yv.1 D;rw[B]at k;obtain⟨p,g,rfl⟩:=yv.1 k;obtain⟨j,m,H⟩:=A p g;have I:synO ops p.1=true→p.2=true:=fun E=>by obtain⟨o,d,u,k1,_⟩:=j;grind[synO,zb9]
 refine⟨?_,m,fun o ho E=>by grind[synO,zb9]⟩;have f:=j.move (V':=Pe.z6j b) t fun _ _ _ _=>⟨rfl,fun _ _=>rfl⟩;obtain⟨o,d,u,k1,F,k3,G,J⟩:=f;refine⟨o,d,u,k1,F,k3,G,?_⟩;grind
theorem zz02o{done l:List Nat}{dn:List (Nat×Bool)}(h:∀q∈done,∃st,(q,st)∈dn)(c:l=dn.map (·.1)):∀q∈done,∃st,(q,st)∈l.map fun q=>(q,synO ops q):=fun q a=>by obtain⟨st,b⟩:=h q a;grind
theorem zh8{K:List Nat→Act→World→Prop}{k:St→Prop}{kp:PV→St→Prop}(u:TbG C.P tb G)(a:∀f i o,con f i o→Con C.P G f i o)(x:∀w O,z.G w O→G.p w O)(hn:∀(q:Nat)(o:Oper),ops[q]?=some o→dOk n o.dst=true)(t:∀v s,kp v s→zc6 z C n ds v s)(hk:∀σ' d done' h w',k σ'→Inv z C n ds ops σ' d h w'→(∀q∈done',∃st,(q,st)∈d)→K done' h w'):∀(l:List (Nat×Nat×Cut))(its:List It)(σ:St)(dn:List (Nat×Bool))(done:List Nat)(b:Act)(w:World),zl0 ops its (dn.map (·.1))=true→zws tb cty ann con ops kp k l its σ dn→Inv z C n ds ops σ dn b w→(∀q∈done,∃st,(q,st)∈dn)→SI C ds ops K its done b w|[],its,σ,dn,done,b,w,j,T,I,hd=>z9n u a x hn t its σ dn done b w j (fun σ' d done' h w' Q L _ E=>hk σ' d done' h w' Q L E) T I hd|(y,m,c)::r,its,σ,dn,done,b,w,j,T,I,hd=>by rw[←yx y its]at j⊢;obtain⟨B,g⟩:=zl1 j;rw[SI.app];refine z9n u a x hn t (its.take y) σ dn done b w B (fun σ1 A done1 W w1 R M Z F=>?_) T I hd;obtain⟨J,h1,h2⟩:=R;rw[←Z]at g;rw[←yx m (its.drop y)]at g⊢;obtain⟨D,a0⟩:=zl1 g;rw[SI.app];refine z9n u a x hn t ((its.drop y).take m) σ1 A done1 W w1 D (fun a1 Y done2 X w2 S N U H=>?_) h1 M F;obtain⟨V,e,hj⟩:=zc S;exact zh8 u a x hn t hk r _ V _ done2 X w2 (by grind[dnA,Function.comp_def]) (St.z6k.mp (h2 V (St.z6k.mp hj))) (N.cut e U.symm) (zz02o H U.symm)
theorem zpp{k:St→Prop}{kp:PV→St→Prop}{d:Drw}{id:Nat}{todo:List Item}(B:TbG C.P tb G)(m:∀f i o,con f i o→Con C.P G f i o)(Q:∀w O,z.G w O→G.p w O)(a0:DrOk C ops)(F:za9 ops d.anc n d.E d.qs d.g=true)(N:clrG ops d.g d.qs=true)(j:(match d.lin with|some _=>zmv d.g&&zl0 ops (qsIt d.qs (zun d.g)) []|none=>true)=true)(hn:ops.toList.all (fun o=>dOk n o.dst)=true)(D:zpr tb cty ann con ops kp k d σ)(hk:∀s,k s→∀V w,RS z s V w→TW C n ds todo V w)(T:∀v s,kp v s→zc6 z C n ds v s)(V:Env)(w:World)(A:RS z σ V w):TW C n ds (.code (.region id ops true)::todo) V w:=by have y:∀(q:Nat)(o:Oper),ops[q]?=some o→dOk n o.dst=true:=fun q o ho=>yh.1 hn o (by grind);cases hl:d.lin with
 |some l=>
  rw[hl]at j;simp only[yc]at j;unfold zpr at D;rw[hl]at D;obtain⟨O,φ,α,h,H⟩:=A;have:=TW.drawP (C:=C) (n:=n) (ds:=ds) (k:=todo) (L:=V) (w:=w) (id:=id) (l:=ops.toList) d.anc d.E d.qs d.g B.mix (by omega) (by omega) fun w' x a t c=>by have h2:=h.znx x;have:=zh8 (C:=C) (ds:=ds) (G:=G) (z:=z) (K:=fun done b w=>(∀q∈done,z7s C.P ops b w q)∧TWa C todo b w) B m Q y T (fun σ' X done' W w' u S hd=>by refine⟨S.stab hd,?_⟩;obtain⟨O,φ,α,I,h2,h3,h4,h5⟩:=S;exact hk σ' u _ _ ⟨_,_,_,h3,h4⟩ W (z7h I) h2) l (qsIt d.qs (zun d.g)) σ [] [] a w' j.2 D ⟨O,φ,α,t.size,c,h2.z6j t,H,by simp⟩ (by simp);obtain⟨b,Y,R⟩:=SI.qs (SI.g (C:=C) d.g j.1) d.qs [] a w' this;exact⟨b,by omega,by omega⟩
  omega|none=>
 obtain⟨k0,D,hk⟩:∃k0:St→Prop,zfa tb cty ann con ops d.cs kp k0 d.g d.qs σ∧∀s,k0 s→∀V w,RS z s V w→TW C n ds todo V w:=by
  revert D;unfold zpr;rw[hl];simp only;split;·grind
  ·rintro⟨J,I,h2⟩;refine⟨_,I,fun s H V w A=>?_⟩;obtain⟨U,e,hj⟩:=z8y H;exact hk U (St.z6k.mp (h2 U hj)) V w (A.cut e)
 obtain⟨O,φ,α,h,H⟩:=A;have M:z2d d.anc d.E (z0p (z4r ops d.E) d.qs) d.qs d.g=true:=by simp only[za9,yc]at F;exact F.2
 simp only[clrG,yc]at N;have:=TW.drawP (C:=C) (n:=n) (ds:=ds) (k:=todo) (L:=V) (w:=w) (id:=id) (l:=ops.toList) d.anc d.E d.qs d.g B.mix (by omega) (by omega) fun w' x a t c=>by have h2:=h.znx x;obtain⟨b,σ1,r,Y,R,Z,e4,e5,e6,e7,e8,e9⟩:=z9q (C:=C) (ds:=ds) (done:=[]) (k:=fun σ1 r=>zdh tb cty ann con ops d.cs kp k0 d.g r σ1) B.toTbOk (fun w O h=>B.gt w O (Q w O h)) y d.qs a t.size c (h2.z6j t) (by simp) (by simp) (by grind) D;refine⟨b,by omega,?_⟩;have:=z9m (C:=C) (K:=TWa C todo) (G:=G) (z:=z) (anc:=d.anc) B m Q y T (fun s u V w A a t c=>hk s u V w A a t c) d.g r _ _ d.qs b R Z e4 H e5 (by grind) (by grind) M (by grind) e9;simp_all
 omega
end
end
section
section
variable{z:W0}{V:Env}{w:World}{O:Nat→Prop}{φ:Nat→Nat}{α:Nat→Value}{σ:St}{C:Cx}{n:Nat}{ops:Array Oper}{o:Oper}{rest:List Oper}{K:Act→World→Prop}{G:GI}{con:Nat→CIn→z3y→Prop}{tb:Tb}{cty:List (Nat×List (Option (Nat×Nat)))}{ann:Ann}{ds:List Deferred}
def KS(z:W0)(C:Cx)(n:Nat)(ds:List Deferred)(todo:List Item)(s:St):Prop:=∀V w,RS z s V w→TW C n ds todo V w
def FS(z:W0)(C:Cx)(n:Nat)(ds:List Deferred)(todo:List Item):z9e→St→Prop|.normal,s=>KS z C n ds todo s|.exit i,s=>∃a,exitTo i todo=some a∧KS z C n ds a s|.ret,s=>∀a,KS z C n ds (.code .ret::a) s|.pan v,s=>zc6 z C n ds v s
theorem KS.cut{todo:List Item}{s:St}{c:Cut}(e:σ.cut c=some s)(h:KS z C n ds todo s):KS z C n ds todo σ:=fun V w a=>h V w (a.cut e)
theorem FS.code{c:Code}{todo:List Item}{a:z9e}{s:St}(h:FS z C n ds todo a s)(hn:a≠.normal):FS z C n ds (.code c::todo) a s:=by cases a with|normal=>grind|exit i=>exact h|ret=>exact h|pan v=>exact h
theorem FS.loop{c:Code}{todo:List Item}{a:z9e}{s:St}(h:FS z C n ds todo a s)(hn:a≠.normal):FS z C n ds (.inLoop c::todo) a s:=by cases a with|normal=>grind|exit i=>exact h|ret=>exact h|pan v=>exact h
def okC(ann:Ann)(n:Nat):Code→Bool
 |.region id ops c=>(ops.toList.all fun o=>dOk n o.dst)&&(match c with
  |true=>match lk ann.drw id with|some d=>za9 ops d.anc n d.E d.qs d.g&&clrG ops d.g d.qs&&(match d.lin with|some _=>zmv d.g&&zl0 ops (qsIt d.qs (zun d.g)) []|none=>true)|none=>false
  |false=>true)|.seq a b=>okC ann n a&&okC ann n b|.cond _ a b=>okC ann n a&&okC ann n b|.block _ a=>okC ann n a|.loop a=>okC ann n a|_=>true
def z3v(fn:Func):Code→Bool
 |.region _ ops c=>!c||ops.toList.all fun o=>match o.dst with|some d=>fn.results.toList.all fun r=>!yab (zr8 r) d|none=>true
 |.seq a b=>z3v fn a&&z3v fn b|.cond _ a b=>z3v fn a&&z3v fn b|.block _ a=>z3v fn a|.loop a=>z3v fn a|_=>true
theorem zyj{C:Cx}{id:Nat}{ops:Array Oper}(h:C.lv=false∨z3v C.fn (.region id ops true)=true):DrOk C ops:=by
 rcases h with h|h;·exact .inl h
 ·refine .inr fun q t b r c e=>?_;simp only[z3v,Bool.not_true,Bool.false_or,yh]at h;unfold z9l at b;obtain⟨o,ho,hd⟩:=ya.1 b;have a:=h o (by grind);rw[hd]at a;have h2:=yh.1 a r c;simp_all
theorem z3c(A:TbG C.P tb G)(m:∀f i o,con f i o→Con C.P G f i o)(B:∀w O,z.G w O→G.p w O):∀(c:Code)(σ:St)(k:z9e→St→Prop)(todo:List Item),okC ann n c=true→C.lv=false∨z3v C.fn c=true→ex tb cty ann con c σ k→(∀y s,k y s→FS z C n ds todo y s)→KS z C n ds (.code c::todo) σ
 |.skip,σ,k,todo,_,_,g,hk=>fun V w r=>TW.skip (hk _ _ g V w r)|.label _,σ,k,todo,_,_,g,hk=>fun V w r=>TW.label (hk _ _ g V w r)|.ret,σ,k,todo,_,_,g,hk=>fun V w r=>hk _ _ g todo V w r|.exit i,σ,k,todo,_,_,g,hk=>fun V w r=>by obtain⟨Q,I,h2⟩:=hk _ _ g;exact TW.exit I (h2 V w r)|.region id ops R,σ,k,todo,hn,t,g,hk=>by simp only[okC,yc]at hn;cases R with|true=>obtain⟨d,hd,g⟩:=zc g;have F:=hn.2;simp only[hd,yc]at F;intro V w r;exact zpp A m B (zyj t) F.1.1 F.1.2 F.2 hn.1 g (fun s q V w r=>hk _ _ q V w r) (fun v s q=>hk _ _ q) V w r|false=>have hn:=hn.1;intro V w r;have:=zfb (K:=TWa C todo) (ops:=ops) (G:=G) A m B (k:=fun s=>k .normal s) (kp:=fun v s=>k (.pan v) s) (fun s q V w r=>OW.done (hk _ _ q V w r)) (fun v s q=>hk _ _ q) _ ops.toList σ hn g V w r;have h2:=TW.region (id:=id) (l:=ops.toList) (k:=todo) (by omega);omega
 |.seq a b,σ,k,todo,hn,t,g,hk=>by
  simp only[okC,yc]at hn;have D:C.lv=false∨z3v C.fn a=true:=t.imp id fun L=>by simp_all[z3v]
  have E:C.lv=false∨z3v C.fn b=true:=t.imp id fun L=>by simp_all[z3v]
  intro V w r;refine TW.seq ?_;unfold ex at g;split at g;·rename_i c _;obtain⟨J,I,h2⟩:=g;refine z3c A m B a σ _ (.code b::todo) hn.1 D I (fun y s q=>?_) V w r;cases y with|normal=>obtain⟨N,e,M⟩:=z8y q;exact(z3c A m B b N k todo hn.2 E (St.z6k.mp (h2 N M)) hk).cut e|exit i=>exact(hk _ _ q).code (by simp)|ret=>exact(hk _ _ q).code (by simp)|pan v=>exact(hk _ _ q).code (by simp)
  ·refine z3c A m B a σ _ (.code b::todo) hn.1 D g (fun y s q=>?_) V w r;cases y with|normal=>exact z3c A m B b s k todo hn.2 E q hk|exit i=>exact(hk _ _ q).code (by simp)|ret=>exact(hk _ _ q).code (by simp)|pan v=>exact(hk _ _ q).code (by simp)
 |.cond c a b,σ,k,todo,hn,t,g,hk=>by
  simp only[okC,yc]at hn;have D:C.lv=false∨z3v C.fn a=true:=t.imp id fun L=>by simp_all[z3v]
  have E:C.lv=false∨z3v C.fn b=true:=t.imp id fun L=>by simp_all[z3v]
  intro V w r;unfold ex at g;split at g
  ·rename_i x U;obtain⟨O,φ,α,h,q⟩:=r;obtain⟨u,I,h2⟩:=h.ev U;simp only[VR]at h2;subst h2;refine TW.cond I (fun e=>?_) fun e=>?_;·subst e;exact z3c A m B a σ k todo hn.1 D g hk V w ⟨O,φ,α,h,q⟩
   ·subst e;exact z3c A m B b σ k todo hn.2 E g hk V w ⟨O,φ,α,h,q⟩
  grind|.block i a,σ,k,todo,hn,t,g,hk=>by intro V w r;refine TW.block ?_;unfold ex at g;refine z3c A m B a σ _ (.inBlock i::todo) hn t g (fun y s q=>?_) V w r;cases y with
  |normal=>exact fun V w r=>TW.inBlock (hk _ _ q V w r)|exit j=>simp only[kBlk]at q;cases e:yab i j with|true=>rw[e]at q;have e:=yag e;subst e;exact⟨todo,by simp[exitTo],hk _ _ q⟩|false=>rw[e]at q;have e:=yam e;obtain⟨Q,I,h2⟩:=hk _ _ q;exact⟨Q,by grind[exitTo],h2⟩
  |ret=>exact hk _ _ q|pan v=>exact hk _ _ q
 |.loop a,σ,k,todo,hn,t,g,hk=>by
  unfold ex at g;obtain⟨c,X,g⟩:=zc g;obtain⟨W,S,g⟩:=zc g;rw[St.z6k]at g;have key:KS z C n ds (.code a::.inLoop a::todo) W:=g (KS z C n ds (.code a::.inLoop a::todo)) fun s q=>by refine z3c A m B a s _ (.inLoop a::todo) hn t (St.z6k.mp q) fun y N H=>?_;cases y with|normal=>obtain⟨Y,T,M⟩:=z8y H;exact fun V w r=>TW.inLoop (M V w (r.cut T))|exit i=>exact(hk _ _ H).loop (by simp)|ret=>exact(hk _ _ H).loop (by simp)|pan v=>exact(hk _ _ H).loop (by simp)
  exact fun V w r=>TW.loop (key V w (r.cut S))|.rangeFunc ..,σ,k,todo,hn,_,g,hk=>g.elim|.scope _,σ,k,todo,hn,_,g,hk=>g.elim|.goto _,σ,k,todo,hn,_,g,hk=>g.elim|.refuse _,σ,k,todo,hn,_,g,hk=>g.elim
theorem zz00v{m:Nat}{cs:List PV}{v:PV}(h:z8c true m cs=some v):v=.agg cs:=by grind[z8c]
theorem zvz{m:Nat}{cs:List PV}{v:PV}(h:z8c false m cs=some v):cs=[v]:=by cases cs with|nil=>simp[z8c]at h|cons c cs=>cases cs with|nil=>grind[z8c]|cons d cs=>simp[z8c]at h
theorem zr6(n:TbG C.P tb G)(h:Rl z σ V w O φ α):∀{res:List ResultVar}{rs:List PV},resV tb σ res=some rs→∃us,RVs C V w res us∧VRs w O φ α rs us
 |[],rs,e=>by cases e;exact⟨[],rfl,rfl⟩|.tmp t::r,rs,e=>by
  unfold resV at e;split at e;·rename_i v vs d h2;cases e;obtain⟨u,f,o⟩:=h.env t v d;obtain⟨us,i,j⟩:=zr6 n h h2;exact⟨u::us,⟨u,us,rfl,f,i⟩,u,us,rfl,o,j⟩
  ·cases e|.cell t T::r,rs,e=>by
  unfold resV at e;split at e
  ·rename_i b q;split at e
   ·rename_i ex s d h2;split at e;·rename_i v vs c f o;cases e;obtain⟨u,i,j⟩:=h.env t _ q;simp only[VR]at j;subst j;obtain⟨_,xs,k,l⟩:=h.box b ex (z9y d).1;have k:=k.un (z9y d).2;obtain⟨us,p,a⟩:=zr6 n h o;have hl:=VRs.len l;have c:=yag c;obtain⟨g,m⟩:=s;cases g with|true=>obtain rfl:=zz00v f;exact⟨_::us,⟨_,us,rfl,⟨_,_,xs,true,m,i,n.shp _ _ h2,k,by omega,rfl⟩,p⟩,_,us,rfl,⟨xs,rfl,l⟩,a⟩|false=>rw[zvz f]at l c;obtain⟨x,A,rfl,k1,y⟩:=l;cases y;exact⟨x::us,⟨x,us,rfl,⟨_,_,[x],false,m,i,n.shp _ _ h2,k,c,rfl⟩,p⟩,x,us,rfl,k1,a⟩
    ·cases e
   ·cases e
  ·cases e
theorem zm6:∀{n i j x:Nat},(rng n i)[j]?=some x↔j<n∧x=i+j|0,i,j,x=>by simp[rng]|n+1,i,0,x=>by grind[rng]|n+1,i,j+1,x=>by simp only[rng,List.getElem?_cons_succ];rw[zm6];omega
theorem zm7:∀{n i:Nat},(rng n i).length=n|0,i=>rfl|n+1,i=>by simp[rng,zm7]
theorem zcl{σ:St}:∀{A:List (Option (Nat×Nat×List (List D)))}{i:Nat},zkv σ i A→∀(j:Nat)(e:Nat×Nat×List (List D)),A[j]?=some (some e)→∃x,lk σ.A (i+j)=some x∧x.T=e.1∧x.n=e.2.1∧x.l=e.2.2
 |[],i,_,j,e,h=>by simp at h|none::r,i,a,j,e,h=>by cases j with|zero=>simp at h|succ j=>obtain⟨x,k1,b⟩:=zcl (i:=i+1) a j e (by simpa using h);grind
 |some c::r,i,a,j,e,h=>by obtain⟨d,h2⟩:=a;cases j with|zero=>grind|succ j=>obtain⟨x,k1,b⟩:=zcl h2 j e (by simpa using h);grind
theorem zsd{β:Type}:∀{l:List β}{i t:Nat}{v:β},lk (en i l) t=some v→i≤t∧l[t-i]?=some v
 |[],_,_,_,h=>by cases h|x::l,i,t,v,h=>by
  unfold en at h;rcases z4h h with⟨rfl,rfl⟩|⟨a,h2⟩;·simp
  ·obtain⟨b,c⟩:=zsd h2;grind
end
def w0Of(G:GI)(i:CIn)(w:World)(O:Nat→Prop)(φ:Nat→Nat)(α:Nat→Value)(hF:∀x,FI i φ α x→O x)(hB:Bd O w):W0:=⟨w,O,FI i φ α,G.p,hF,hB,G.tr,φ⟩
theorem Out.of{C:Cx}{n:Nat}{V:Env}{w:World}{res:List ResultVar}{us:List Value}(h:C.fn.results=res.toArray)(a:RVs C V w res us):Out C n V w (retU us):=by
 have hl:us.length=res.length:=by clear h;induction res generalizing us with|nil=>cases a;rfl|cons r res c=>obtain⟨v,vs,rfl,_,h2⟩:=a;simp[c h2]
 match res,us,a,hl,h with|[r],[u],a,_,h=>obtain⟨v,vs,e,b,h2⟩:=a;cases e;exact Out.single h b|[],[],a,_,h=>exact Out.many h a rfl|r::d::rs,u::f::us,a,_,h=>exact Out.many h a rfl
theorem zbq{C:Cx}{n:Nat}{tb:Tb}{ann:Ann}{G:GI}{i:CIn}{w w':World}{O O':Nat→Prop}{φ φ':Nat→Nat}{α α':Nat→Value}{hF:∀x,FI i φ α x→O x}{hB:Bd O w}{σ:St}{V:Env}{vs:List PV}{B:List Bx}{A:List (Option (Nat×Nat×List (List D)))}{res:List ResultVar}(ht:TbG C.P tb G){g:Nat→Nat}(a0:∀b,b<i.B.length→φ' b=φ b)(h:Rl {w0Of G i w O φ α hF hB with φ0:=g} σ V w' O' φ' α')(hs:∀x,O x→O' x)(S:ann.nb=i.B.length)(M:i.B.length≤1000)(s:finO tb ann res σ vs B A):∃us,(C.fn.results=res.toArray→Out C n V w' (retU us))∧∃O' φ' α',zjp i w O φ α vs B A w' us O' φ' α':=by
 obtain⟨σ1,e1,s⟩:=zc s;obtain⟨rs,e2,s⟩:=zc s;obtain⟨r,e3,s⟩:=zc s;obtain⟨k,e4,X,Y,e7,Z⟩:=zc s;obtain⟨f,K⟩:=z7q _ (σ:={σ with L:=zb2 (ztl res) σ.L}) (h.mono (fun _ _=>z9z) (Le.refl _) (Le.refl _)) e1;obtain⟨us,h2,h3⟩:=zr6 (C:=C) ht K e2;obtain⟨m,h5,h6,h7⟩:=z1n _ K hs e3;simp only[yc]at Z;obtain⟨⟨⟨⟨r1,r2⟩,r3⟩,W⟩,I⟩:=Z;have I:=yag I;have W:∀x∈k,1000≤x:=fun x c=>yah (yh.1 W x c);rw[S]at X Y I;have a1:(rng i.B.length 0++k).length=B.length:=by rw[List.length_append,zm7,I]
 have kget:∀j x,(rng i.B.length 0++k)[j]?=some x→j<i.B.length∧x=j∨i.B.length≤j∧k[j-i.B.length]?=some x∧1000≤x:=fun j x c=>by
  rcases yal j i.B.length with F|F;·grind[zm6]
  ·rw[List.getElem?_append_right (by grind),zm7]at c;exact .inr ⟨F,c,W x (yw c)⟩
 have kinj:∀j H x,(rng i.B.length 0++k)[j]?=some x→(rng i.B.length 0++k)[H]?=some x→j=H:=fun j H x c U=>by
  rcases kget j x c with⟨k1,d⟩|⟨k1,d,k3⟩<;>rcases kget H x U with⟨m1,m2⟩|⟨m1,m2,m3⟩;·omega
  ·omega
  ·omega
  grind[z83]
 have kd:∀j x,(rng i.B.length 0++k)[j]?=some x→(rng i.B.length 0++k).getD j 0=x:=fun j x e=>by grind
 have kex:∀j,j<B.length→∃x,(rng i.B.length 0++k)[j]?=some x:=fun j F=>⟨(rng i.B.length 0++k)[j]'(by omega),by simp⟩;have hb:∀j x,j<B.length→(rng i.B.length 0++k)[j]?=some x→(fun j=>φ' ((rng i.B.length 0++k).getD j 0)) j=φ' x:=fun j x _ e=>by grind
 have N:∀j x,j<A.length→(rng A.length 0)[j]?=some x→f j=f x:=fun j x _ e=>by have:=(zm6.1 e).2;grind
 have toCall:∀{Q:Nat→Prop}{vs:List PV}{us:List Value},inR.go B.length A.length vs=true→VRs w' Q φ' f (zci.go (rng i.B.length 0++k) (rng A.length 0) vs) us→VRs w' Q (fun j=>φ' ((rng i.B.length 0++k).getD j 0)) f vs us:=fun{Q vs us}hi hr=>zbc hb N (by omega) (by simp[zm7]) vs us hi hr;have o:=zcw (σ:=σ1) (O:=O') (φ:=φ') (α:=f) (O2:=zd6 O' f (lk σ1.A) (zao.go vs rs)) (fun x c=>c.1) K.arr vs rs us (fun a N e z x c=>c.2 a N (by rw[z];rfl)) h3;rw[X]at o;have boxK:∀(j:Nat)(e:Bx),B[j]?=some e→∃(b:Nat)(x:Bx),(rng i.B.length 0++k)[j]?=some b∧lk r.B b=some x∧x.T=e.T∧nrm.go {r with A:=[]} e.cs x.cs=zci.go (rng i.B.length 0++k) (rng A.length 0) e.cs:=zcm Y;have boxE:∀j,j<B.length→∃(b:Nat)(x:Bx),(rng i.B.length 0++k)[j]?=some b∧lk r.B b=some x:=fun j F=>by obtain⟨b,x,k1,d,_⟩:=boxK j B[j] (by simp);grind
 have arrK:=zcl e7;refine⟨us,fun E=>Out.of E h2,_,_,_,⟨toCall r1 o,⟨fun j e z=>?_,fun j e z=>?_,fun a b la v hn=>?_,fun a b e e' u h9 hn x c=>?_,fun a b e u v=>?_⟩,fun b R=>?_,by omega,m.bd,m.tr0,h5,m.only,m.ext,fun b v R=>?_,fun a e x u c=>?_⟩⟩;·obtain⟨b,x,k1,d,k3,p⟩:=boxK j e z;obtain⟨k5,xs,k6,k7⟩:=m.box b x d;simp only[kd j b k1];refine⟨k5,xs,k3▸k6,?_⟩;have u:=zcw (σ:={r with A:=[]}) (O:=zd6 O' f (lk σ1.A) (zao.go vs rs)) (φ:=φ') (α:=f) (O2:=zd6 O' f (lk σ1.A) (zao.go vs rs)) (fun _ c=>c) (fun _ _ c=>by cases c) e.cs _ _ (fun _ _ _ c=>by cases c) k7;grind
 ·obtain⟨x,k1,d,k3,p⟩:=arrK j e z;rw[yan]at k1;have:=m.arr j x k1;grind
 ·obtain⟨J,y1,k1,d⟩:=boxE a la;obtain⟨l,t,k3,p⟩:=boxE b v;simp only[kd a J k1,kd b l k3];exact m.bb J l y1 t d p fun q=>hn (kinj a b J k1 (q▸k3))
 ·obtain⟨y,k1,_⟩:=arrK a e u;obtain⟨x2,d,_⟩:=arrK b e' h9;rw[yan]at k1 d;exact m.aa a b y x2 k1 d hn x c
 ·obtain⟨y,k1,_⟩:=arrK a e u;obtain⟨l,t,k3,p⟩:=boxE b v;rw[yan]at k1;simp only[kd b l k3];exact m.ab a l y t k1 p
 ·grind
 ·obtain⟨l,t,k3,p⟩:=boxE b v;simp only[kd b l k3];rcases kget b l k3 with⟨k1,_⟩|⟨_,_,k1⟩;·omega
  ·rcases m.bF l t p with⟨d,_⟩|d;·omega
   ·exact d
 ·obtain⟨y,k1,_⟩:=arrK a e u;rw[yan]at k1;rcases m.aF a y k1 x c with⟨_,d⟩|d
  ·rcases d with⟨b,v,d⟩|d
   ·obtain⟨l,t,k3,p⟩:=boxE b (by omega);rcases kget b l k3 with⟨_,rfl⟩|⟨k5,_⟩;·have:=m.ab a l y t k1 p;grind
    ·omega
   grind
  ·exact .inr d
theorem z73{C:Cx}{n:Nat}{tb:Tb}{ann:Ann}{G:GI}{i:CIn}{w w':World}{O O':Nat→Prop}{φ φ':Nat→Nat}{α α':Nat→Value}{hF:∀x,FI i φ α x→O x}{hB:Bd O w}{σ:St}{V:Env}{vs:List PV}{B:List Bx}{A:List (Option (Nat×Nat×List (List D)))}{res:List ResultVar}(k:TbG C.P tb G)(c:C.fn.results=res.toArray){g:Nat→Nat}(d:∀b,b<i.B.length→φ' b=φ b)(h:Rl {w0Of G i w O φ α hF hB with φ0:=g} σ V w' O' φ' α')(j:∀x,O x→O' x)(e:ann.nb=i.B.length)(a:i.B.length≤1000)(l:finO tb ann res σ vs B A):∃us,Out C n V w' (retU us)∧zec i w O φ α (.ok vs B A) (.returned (retU us)) w':=by obtain⟨us,f,O',φ',α',h2⟩:=zbq (C:=C) (n:=n) (hF:=hF) (hB:=hB) k d h j e a l;exact⟨us,f c,us,O',φ',α',rfl,h2⟩
theorem zde{G:GI}{i:CIn}{w:World}{O:Nat→Prop}{φ:Nat→Nat}{α:Nat→Value}{us:List Value}(o:VRs w O φ α i.vs us)(j:Mm w O φ α i.B (i.A.map some))(hB:Bd O w)(hG:G.p w O)(g:i.B.length≤1000):∃hF:∀x,FI i φ α x→O x,Rl (w0Of G i w O φ α hF hB) (entry i) (zja 0 us) w O φ α:=by
 have hF:∀x,FI i φ α x→O x:=fun x d=>by
  rcases d with⟨b,r,rfl⟩|⟨a,q,d⟩;·exact(j.box b i.B[b] (by simp)).1
  ·exact(j.arr a i.A[a] (by simp)).mem x d
 refine⟨hF,?_⟩;have getA:∀{a:Nat}{e:Arr},lk (entry i).A a=some e→i.A[a]?=some (e.T,e.n,e.l)∧e.mine=false:=fun{a e}c=>by obtain⟨_,f⟩:=zsd c;grind
 have getA':∀{a:Nat}{e:Arr},lk (entry i).A a=some e→(i.A.map some)[a]?=some (some (e.T,e.n,e.l)):=fun{a e}c=>by grind
 have getB:∀{b:Nat}{e:Bx},lk (entry i).B b=some e→i.B[b]?=some e:=fun{b e}c=>by simpa using(zsd c).2
 have ltB:∀{b:Nat}{e:Bx},lk (entry i).B b=some e→b<i.B.length:=fun{b e}c=>(ym.1 (getB c)).1;have k:Rl (w0Of G i w O φ α hF hB) (entry i) (zja 0 us) w O φ α:=by
  refine⟨fun t v e=>?_,fun b e c=>j.box b e (getB c),fun a e c=>j.arr a _ (getA' c),fun a b e e' f h2 hn=>j.bb a b (ltB f) (ltB h2) hn,fun a b e e' f h2 hn x d=>j.aa a b _ _ (getA' f) (getA' h2) hn x d,fun a b e e' f h2=>j.ab a b _ (getA' f) (ltB h2),fun b e c=>.inl ⟨yak (ltB c) g,.inl ⟨b,ltB c,rfl⟩⟩,fun a e c x d=>.inl ⟨(getA c).2,.inr ⟨a,(ym.1 (getA c).1).1,d⟩⟩,hB,Ext.refl _ _,fun x d=>.inl d,hG,fun _ _=>rfl⟩;obtain⟨_,f⟩:=zsd e;obtain⟨u,h2,m⟩:=o.get (i:=t) (by omega);refine⟨u,?_,m⟩;have:∀(us:List Value)(i t:Nat),us[t]?=some u→Env.get (zja i us) (i+t)=some u:=by intro us;induction us with|nil=>simp|cons x us s=>intro i t h;unfold zja Env.get;cases t with|zero=>simp_all|succ t=>grind[yag]
  simpa using this us 0 t h2
 exact k
theorem Con.of{P:Program}{G:GI}{tb:Tb}{cty:List (Nat×List (Option (Nat×Nat)))}{ann:Ann}{f:Nat}{fn:Func}{c:Code}{i:CIn}{o:z3y}{n:Nat}{res:List ResultVar}(D:TbG P tb G)(ent:∀args w,(callFunc f args).run P w=.ok (.enter f args) w)(E:yab f NF=false)(hf:P.funcs[f]?=some fn)(y:fn.body=some c)(hn:fn.ntmps=n)(k:fn.results=res.toArray)(F:okC ann n c=true)(hl:yad i.vs.length n=true)(l:ann.nb=i.B.length)(d:yad i.B.length 1000=true)(J:ex tb cty ann (Con P G) c (entry i) (fin tb ann res o)):Con P G f i o:=by refine⟨ent,E,fun w O φ α us M U hB hG=>?_⟩;have d:=yah d;obtain⟨hF,S⟩:=zde (G:=G) M U hB hG d;have T:us.length=i.vs.length:=M.len;refine zkz hf y n hn (by grind) ?_;refine z3c (z:=w0Of G i w O φ α hF hB) (C:={P:=P,f:=f,fn:=fn,R:=zec i w O φ α o,hf:=hf}) (n:=n) (ds:=[]) (G:=G) D (fun _ _ _ h=>h) (fun _ _ h=>h) c (entry i) _ [] F (.inl rfl) J (fun Q s e=>?_) _ _ ⟨O,φ,α,S,fun _ W=>W⟩;cases Q with
 |normal=>intro V w' H;obtain⟨O',φ',α',j,h2⟩:=H;cases o with|pan v=>exact e.elim|zjk _ _=>exact e.elim|okI _ _ _=>exact e.elim|ok vs B A=>obtain⟨m,p,q⟩:=z73 (C:={P:=P,f:=f,fn:=fn,R:=zec i w O φ α (.ok vs B A),hf:=hf}) (n:=n) (hF:=hF) (hB:=hB) (g:=φ) D k (fun b y=>j.keep b (by omega)) j h2 l d e;exact TW.fin p q
 |ret=>intro Y V w' H;obtain⟨O',φ',α',j,h2⟩:=H;cases o with|pan v=>exact e.elim|zjk _ _=>exact e.elim|okI _ _ _=>exact e.elim|ok vs B A=>obtain⟨m,p,q⟩:=z73 (C:={P:=P,f:=f,fn:=fn,R:=zec i w O φ α (.ok vs B A),hf:=hf}) (n:=n) (hF:=hF) (hB:=hB) (g:=φ) D k (fun b y=>j.keep b (by omega)) j h2 l d e;exact TW.ret p q
 |exit _=>exact e.elim|pan v=>intro V w' O' φ' α' u x t j h2 p a X r;cases o with|ok _ _ _=>cases e|okI _ _ _=>cases e|pan v=>cases e;exact PN.nil r ⟨u,O',x,t,rfl,p,j.ext,j.tr0,j.bd,j.only⟩|zjk v' B=>obtain⟨rfl,I,J⟩:=e;obtain⟨m,_,N,L,K,q⟩:=zbq (ann:={nb:=ann.nb}) (res:=[]) (C:={P:=P,f:=f,fn:=fn,R:=zec i w O φ α (.zjk v' B),hf:=hf}) (n:=n) (hF:=hF) (hB:=hB) (g:=φ) D (fun b y=>j.keep b (by omega)) j h2 l d J;exact PN.nil r ⟨u,x,t,m,N,L,K,rfl,z8s _ _ I p,q⟩
end
section
def zpa(t b:Nat):PV→PV
 |.ptr x off=>match yab x b with|true=>.ptr t off|false=>.ptr x off
 |.z1e x=>match yab x b with|true=>.z1e t|false=>.z1e x
 |.mp x=>match yab x b with|true=>.mp t|false=>.mp x
 |.agg cs=>.agg (go cs)|.tup cs=>.tup (go cs)|.iface T v=>.iface T (zpa t b v)|.fn f a c=>.fn f (go a) (go c)|v=>v
where go:List PV→List PV|[]=>[]|v::vs=>zpa t b v::go vs
def St.freeT(σ:St)(t:Nat):Bool:=(lk σ.B t).isNone&&σ.L.all (fun p=>noK (some t) none p.2)&&σ.B.all (fun p=>zed (some t) none p.2.cs)&&yae t 1000
def St.zz8(σ:St)(t b:Nat):Option St:=match lk σ.B b,σ.freeT t with|some e,true=>some {σ with L:=σ.L.map fun p=>(p.1,zpa t b p.2),B:=(t,⟨e.T,zpa.go t b e.cs⟩)::(zan b σ.B).map fun p=>(p.1,⟨p.2.T,zpa.go t b p.2.cs⟩)}|_,_=>none
def St.renB(σ:St)(f b:Nat):Option St:=match yab f NF with|true=>none|false=>σ.zz8 999 b
theorem zil{σ s:St}{f b:Nat}(h:σ.renB f b=some s):yab f NF=false∧σ.zz8 999 b=some s:=by grind[St.renB]
def dfr1:Code→Option (Operand×Option Operand)
 |.region _ ops false=>match ops.toList with
  |[o]=>match o.op,o.guard,o.dst with
   |.defer c,none,none=>match c.callee,c.args.toList with|.value x,[y]=>some (x,some y)|.value x,[]=>some (x,none)|_,_=>none
   |_,_,_=>none
  |_=>none
 |_=>none
def dfr2:Code→Option (Oper×Nat×Operand)
 |.region _ ops false=>match ops.toList with
  |[m,o]=>match m.op,m.guard,m.dst,o.op,o.guard,o.dst with
   |.makeFunc _ _ _,none,some d,.defer c,none,none=>match c.callee,c.args.toList with|.value x,[]=>some (m,d,x)|_,_=>none
   |_,_,_,_,_,_=>none
  |_=>none
 |_=>none
def exD(tb:Tb)(cty:List (Nat×List (Option (Nat×Nat))))(ann:Ann)(con:Nat→CIn→z3y→Prop)(k:z9e→St→Prop)(kD:Nat→z9e→St→Prop):Code→St→Prop
 |.seq a b,σ=>match dfr1 a with
  |some (x,some y)=>match σ.ev x,σ.ev y with|some (.fn f [] []),some (.ptr c 0)=>wt (σ.renB f c) fun s=>ex tb cty ann con b s (kD f)|_,_=>False
  |some (x,none)=>match σ.ev x with|some (.fn f [] [.ptr c 0])=>wt (σ.renB f c) fun s=>ex tb cty ann con b s (kD f)|_=>False
  |none=>match dfr2 a with
   |some (m,d,x)=>qop tb σ m.op fun v=>(σ.put (some d) v).go fun σ=>match σ.ev x with|some (.fn f [] [.ptr c 0])=>wt (σ.renB f c) fun s=>ex tb cty ann con b s (kD f)|_=>False
   |none=>ex tb cty ann con a σ (zmm (fun s=>exD tb cty ann con k kD b s) k)
 |_,_=>False
section
variable{z:W0}{V:Env}{w:World}{O:Nat→Prop}{φ:Nat→Nat}{α:Nat→Value}{σ:St}{C:Cx}{n:Nat}{G:GI}{con:Nat→CIn→z3y→Prop}{tb:Tb}{cty:List (Nat×List (Option (Nat×Nat)))}{ann:Ann}
mutual
theorem zr4 {c b:Nat}:∀ (v:PV) (u:Value),z5k (fun x=>x≠c) (fun _=>True) v→VR w O φ α v u→VR w O (ren φ c (φ b)) α (zpa c b v) u
 | .int k n,u,_,h=>h
 | .bool b,u,_,h=>h
 | .str s,u,_,h=>h
 | .sl T n l,u,_,h=>h
 | .nil,u,_,h=>h
 | .zfr,u,_,h=>h
 | .zg7,u,_,h=>h
 | .undef,u,_,h=>trivial
 | .gone,u,_,h=>h
 | .err _,u,_,h=>h
 | .zai cs off,u,_,h=>h
 | .zd7 x m i off,u,k,h=>h
 | .ref a,u,k,h=>h
 | .ptr x off,u,k,h=>by
  have k:x≠c:=k
  grind [zpa,yag,VR,ren]
 | .z1e x,u,k,h=>by
  have k:x≠c:=k
  grind [zpa,yag,VR,ren]
 | .mp x,u,k,h=>by
  have k:x≠c:=k
  grind [zpa,yag,VR,ren]
 | .md _,u,_,h=>h
 | .agg cs,u,k,h=>by
  obtain ⟨us,d,h2⟩:=h
  exact ⟨us,d,za3 cs us k h2⟩
 | .tup cs,u,k,h=>by
  obtain ⟨us,d,h2⟩:=h
  exact ⟨us,d,za3 cs us k h2⟩
 | .iface T v,u,k,h=>by
  obtain ⟨x,d,h2⟩:=h
  exact ⟨x,d,zr4 v x k h2⟩
 | .fn f as_' cs,u,k,h=>by
  obtain ⟨us,vs,d,h2,g⟩:=h
  exact ⟨us,vs,d,za3 as_' us k.1 h2,za3 cs vs k.2 g⟩
theorem za3 {c b:Nat}:∀ (vs:List PV) (us:List Value),z5k.go (fun x=>x≠c) (fun _=>True) vs→VRs w O φ α vs us→VRs w O (ren φ c (φ b)) α (zpa.go c b vs) us
 | [],us,_,h=>h
 | v::vs,us,k,h=>by
  obtain ⟨u,e,d,h2,g⟩:=h
  exact ⟨u,e,d,zr4 v u k.1 h2,za3 vs e k.2 g⟩
end
theorem Rel.zz8{σ':St}{c b:Nat}(h:Rl z σ V w O φ α)(e:σ.zz8 c b=some σ'):Rl {z with φ0:=ren z.φ0 c (φ b)} σ' V w O (ren φ c (φ b)) α:=by
 unfold St.zz8 at e;split at e
 ·rename_i eb q hf;cases e;simp only[St.freeT,yc,yh]at hf;obtain⟨⟨⟨K,G⟩,H⟩,E⟩:=hf;have E:c<1000:=by simpa[yaf]using E
  have N:∀t v,lk σ.L t=some v→z5k (fun x=>x≠c) (fun _=>True) v:=fun t v r=>noK.b (x:=0) (G _ (zi7 r));have M:∀b e,lk σ.B b=some e→z5k.go (fun x=>x≠c) (fun _=>True) e.cs:=fun b e g=>zed.b (H _ (zi7 g));have P:∀x e,lk σ.B x=some e→x≠c:=fun x e g s=>by grind
  have m:ren φ c (φ b) c=φ b:=by simp[ren]
  have j:∀x,x≠c→ren φ c (φ b) x=φ x:=fun x s=>by simp[ren,s]
  have get:∀x e,lk ((c,(⟨eb.T,zpa.go c b eb.cs⟩:Bx))::(zan b σ.B).map fun p=>(p.1,(⟨p.2.T,zpa.go c b p.2.cs⟩:Bx))) x=some e→x=c∧e=⟨eb.T,zpa.go c b eb.cs⟩∨x≠c∧x≠b∧∃f,lk σ.B x=some f∧e=⟨f.T,zpa.go c b f.cs⟩:=fun x e g=>by
   rcases z4h g with d|⟨d,h2⟩;·exact .inl d
   ·have i:(lk (zan b σ.B) x).map (fun y:Bx=>(⟨y.T,zpa.go c b y.cs⟩:Bx))=some e:=(zkg (fun y:Bx=>(⟨y.T,zpa.go c b y.cs⟩:Bx)) (zan b σ.B) x).symm.trans h2;grind[yb,z4j]
  refine⟨fun t v r=>?_,fun x e g=>?_,h.arr,fun x y e e' g C hn=>?_,h.aa,fun a x e e' F g=>?_,fun x e g=>?_,h.aF,h.bd,h.ext,h.only,h.gl,fun x s=>?_⟩;·simp only at r;rw[zkg]at r;obtain⟨J,d,rfl⟩:=yb.1 r;obtain⟨u,h2,i⟩:=h.env t J d;grind[zr4]
  ·rcases get x e g with⟨rfl,rfl⟩|⟨d,h2,f,i,rfl⟩;·rw[m];obtain⟨k1,us,I,k3⟩:=h.box b eb q;grind[za3]
   ·rw[j x d];obtain⟨k1,us,I,k3⟩:=h.box x f i;grind[za3]
  ·rcases get x e g with⟨rfl,rfl⟩|⟨d,h2,f,i,rfl⟩<;>rcases get y e' C with⟨rfl,rfl⟩|⟨n,A,l,o,rfl⟩;·omega
   ·rw[m,j y n];exact h.bb b y eb l q o (Ne.symm A)
   ·rw[m,j x d];exact h.bb x b f eb i q h2
   ·rw[j x d,j y n];exact h.bb x y f l i o hn
  ·rcases get x e' g with⟨rfl,rfl⟩|⟨d,h2,f,i,rfl⟩;·rw[m];exact h.ab a b e eb F q
   ·rw[j x d];exact h.ab a x e f F i
  ·rcases get x e g with⟨rfl,rfl⟩|⟨d,h2,f,i,rfl⟩
   ·rw[m];rcases h.bF b eb q with⟨_,k⟩|k;·grind
    grind
   ·rw[j x d];exact h.bF x f i
  ·show ren φ c (φ b) x=ren z.φ0 c (φ b) x;by_cases D:x=c;·grind[ren]
   ·simp only[ren,D,if_false];exact h.keep x s
 ·cases e
def dCaps(cl:Bool)(g:Nat):List Value:=match cl with|true=>[Value.pointer (some ⟨g,0,none⟩)]|false=>[]
def dArgs(cl:Bool)(g:Nat):List Value:=match cl with|true=>[]|false=>[Value.pointer (some ⟨g,0,none⟩)]
def dOfF(cl:Bool)(f g:Nat):Deferred:={target:=.fn (.func f) (dCaps cl g).toArray,args:=(dArgs cl g).toArray}
theorem TW.zz040{C:Cx}{n:Nat}{ds:List Deferred}{k:List Item}{L:Env}{w:World}{id:Nat}{m o:Oper}{a:Nat}{v:Value}{x:Operand}{xs:Array Operand}{ts:Array TypeId}{g:FuncId}{vs z9i:List Value}(p:m.guard=none)(l:m.dst=some a)(z:yae a n=true)(q:EX C n L w m v)(y:o.guard=none)(hd:o.dst=none)(ho:o.op=.defer {callee:=.value x,args:=xs,argTypes:=ts})(A:Lk.ev ((a,v)::L) x=some (.func (.func g) #[] z9i.toArray))(r:Lk.evs ((a,v)::L) xs.toList=some vs)(h:TW C n ({target:=.fn (.func g) z9i.toArray,args:=vs.toArray}::ds) k ((a,v)::L) w):TW C n ds (.code (.region id [m,o].toArray false)::k) L w:=fun c e b cs=>by
 have t:wpList C.P [m,o].toArray (QT C ({target:=.fn (.func g) z9i.toArray,args:=vs.toArray}::ds) (TWa C k)) [m,o] c w:=wpList_plain p fun K j=>by
   unfold Oper.wp;rw[q c e,Oper.upon_value,l];refine j _ _ ?_;have i:=e.put (d:=a) (v:=v) (by simp_all);have u:(c.put (some a) v).defers=ds:=by simpa[Act.put]using b
   have s:xs.map (c.put (some a) v).eval=vs.toArray:=by apply yao.1;simpa using i.evs r
   have f:(execOp (c.put (some a) v).eval o).run C.P w=.ok (.defer {target:=.fn (.func g) z9i.toArray,args:=vs.toArray}) w:=by simp[execOp,ho,resolve,i.ev A,s,Deferred.ofValue]
   exact wpList_plain y fun K j=>by unfold Oper.wp;rw[f];simp only[Oper.upon,hd,Act.put];refine j _ _ ⟨?_,h _ ⟨i.size,i.get⟩ ?_⟩<;>simp[b]
 have h2:wpOps C.P [m,o].toArray (QT C ({target:=.fn (.func g) z9i.toArray,args:=vs.toArray}::ds) (TWa C k)) (List.range [m,o].toArray.size) c w:=by rw[List.range_eq_range',←Array.length_toList,wpOps_eq_wpList [m,o].toArray.toList 0 (by simp)];exact t
 exact(z9c h2 cs).of_steps (.one step_region)
theorem zn4(ht:TbG C.P tb G)(hcon:∀f i o,con f i o→Con C.P G f i o)(hz:∀w O,z.G w O→G.p w O){k:z9e→St→Prop}{kD:Nat→z9e→St→Prop}:∀(c:Code)(σ:St)(todo:List Item),okC ann n c=true→z3v C.fn c=true→exD tb cty ann con k kD c σ→(∀fl s,k fl s→fl≠.normal→FS z C n [] todo fl s)→(∀cl f g fl s,kD f fl s→FS {z with φ0:=ren z.φ0 999 g} C n [dOfF cl f g] todo fl s)→KS z C n [] (.code c::todo) σ
 |.seq a b,σ,todo,hn,hd,hw,hk,hkD=>by
  simp only[okC,yc]at hn;simp only[z3v,yc]at hd;intro V w hr;refine TW.seq ?_;unfold exD at hw;split at hw
  ·rename_i x y hx;unfold dfr1 at hx;split at hx
   ·rename_i id ops;split at hx
    ·rename_i o ho;split at hx
     ·rename_i c hop hg hdst;obtain⟨cal,cargs,cty'⟩:=c;split at hx
      ·rename_i x' y' hcx hcy;cases hx;simp only at hcx hcy;subst hcx;have e1:ops=[o].toArray:=by apply yao.1;simpa using ho
       subst e1;obtain⟨O,φ,α,h,hs⟩:=hr;split at hw;·rename_i f bx hf hb;obtain⟨s,hs1,hw⟩:=zc hw;obtain⟨hnf,hs1⟩:=zil hs1;obtain⟨uf,h1,us,vs,rfl,h2,h3⟩:=h.ev hf;obtain⟨ub,h4,h5⟩:=h.ev hb;simp only[VR]at h5;subst h5;have h2:us=[]:=h2;have h3:vs=[]:=h3;subst h2 h3;rw[zpt hnf]at h1;refine TW.zz041 (z9i:=[]) (vs:=[Value.pointer (some ⟨φ bx,0,none⟩)]) hg hdst hop h1 (by grind[Lk.evs]) ?_;have:=z3c (z:={z with φ0:=ren z.φ0 999 (φ bx)}) (ds:=[dOfF false f (φ bx)]) (G:=G) ht hcon hz b s (kD f) todo hn.2 (.inr hd.2) hw fun fl s hk=>hkD false f (φ bx) fl s hk;exact this V w ⟨O,_,α,h.zz8 hs1,hs⟩
       grind
      ·cases hx
      ·cases hx
     ·cases hx
    ·cases hx
   ·cases hx
  ·rename_i x hx;unfold dfr1 at hx;split at hx
   ·rename_i id ops;split at hx
    ·rename_i o ho;split at hx
     ·rename_i c hop hg hdst;obtain⟨cal,cargs,cty'⟩:=c;split at hx;·cases hx
      ·rename_i x' hcx hcy;cases hx;simp only at hcx hcy;subst hcx;have e1:ops=[o].toArray:=by apply yao.1;simpa using ho
       subst e1;obtain⟨O,φ,α,h,hs⟩:=hr;split at hw;·rename_i f bx hf;obtain⟨s,hs1,hw⟩:=zc hw;obtain⟨hnf,hs1⟩:=zil hs1;obtain⟨uf,h1,us,vs,rfl,h2,h3⟩:=h.ev hf;have h2:us=[]:=h2;obtain⟨u,vs',rfl,h5,h6⟩:=h3;have h6:vs'=[]:=h6;simp only[VR]at h5;subst h2 h5 h6;rw[zpt hnf]at h1;refine TW.zz041 (z9i:=[Value.pointer (some ⟨φ bx,0,none⟩)]) (vs:=[]) hg hdst hop h1 (by grind[Lk.evs]) ?_;have:=z3c (z:={z with φ0:=ren z.φ0 999 (φ bx)}) (ds:=[dOfF true f (φ bx)]) (G:=G) ht hcon hz b s (kD f) todo hn.2 (.inr hd.2) hw fun fl s hk=>hkD true f (φ bx) fl s hk;exact this V w ⟨O,_,α,h.zz8 hs1,hs⟩
       grind
      ·cases hx
     ·cases hx
    ·cases hx
   ·cases hx
  ·split at hw
   ·rename_i m d x hx;unfold dfr2 at hx;split at hx
    ·rename_i id ops _;split at hx
     ·rename_i m' o ho;split at hx
      ·rename_i fn0 fs0 cs0 dm c hmop hmg hmd hop hg hdst;obtain⟨cal,cargs,cty'⟩:=c;split at hx
       ·rename_i x' hcx hcy;cases hx;simp only at hcx hcy;subst hcx;have e1:ops=[m,o].toArray:=by apply yao.1;simpa using ho
        subst e1;obtain⟨O,φ,α,h,hs⟩:=hr;have hnm:dOk n m.dst=true:=by have h7:=hn.1;simp only[okC,yg,yc]at h7;first|exact h7.1|exact h7.1.1|exact h7.2.1
        rw[hmd]at hnm;obtain⟨v,u,hw,hv,hex,_⟩:=zba (C:=C) (n:=n) (V:=V) ht.toTbOk (fun w O hg=>ht.gt w O (hz w O hg)) h hw;rw[St.go_eq]at hw;have h0:=h.zp9 (d:=d) hv;split at hw;·rename_i f bx hf;obtain⟨s,hs1,hw⟩:=zc hw;obtain⟨hnf,hs1⟩:=zil hs1;obtain⟨uf,h1,us,vs,rfl,h2,h3⟩:=h0.ev hf;have h2:us=[]:=h2;obtain⟨u',vs',rfl,h5,h6⟩:=h3;have h6:vs'=[]:=h6;simp only[VR]at h5;subst h2 h5 h6;rw[zpt hnf]at h1;refine TW.zz040 (z9i:=[Value.pointer (some ⟨φ bx,0,none⟩)]) (vs:=[]) hmg hmd hnm hex hg hdst hop h1 (by grind[Lk.evs]) ?_;have:=z3c (z:={z with φ0:=ren z.φ0 999 (φ bx)}) (ds:=[dOfF true f (φ bx)]) (G:=G) ht hcon hz b s (kD f) todo hn.2 (.inr hd.2) hw fun fl s hk=>hkD true f (φ bx) fl s hk;exact this _ w ⟨O,_,α,h0.zz8 hs1,hs⟩
        grind
       ·cases hx
      ·cases hx
     ·cases hx
    ·cases hx
   refine z3c (ds:=[]) (G:=G) ht hcon hz a σ _ (.code b::todo) hn.1 (.inr hd.1) hw (fun fl s hs=>?_) V w hr;cases fl with|normal=>exact zn4 ht hcon hz b s todo hn.2 hd.2 hs hk hkD|exit i=>exact(hk _ _ hs (by simp)).code (by simp)|ret=>exact(hk _ _ hs (by simp)).code (by simp)|pan v=>exact(hk _ _ hs (by simp)).code (by simp)
 |.skip,σ,todo,_,_,hw,_,_=>hw.elim|.label _,σ,todo,_,_,hw,_,_=>hw.elim|.ret,σ,todo,_,_,hw,_,_=>hw.elim|.exit _,σ,todo,_,_,hw,_,_=>hw.elim|.region _ _ _,σ,todo,_,_,hw,_,_=>hw.elim|.cond _ _ _,σ,todo,_,_,hw,_,_=>hw.elim|.block _ _,σ,todo,_,_,hw,_,_=>hw.elim|.loop _,σ,todo,_,_,hw,_,_=>hw.elim|.rangeFunc ..,σ,todo,_,_,hw,_,_=>hw.elim|.scope _,σ,todo,_,_,hw,_,_=>hw.elim|.goto _,σ,todo,_,_,hw,_,_=>hw.elim|.refuse _,σ,todo,_,_,hw,_,_=>hw.elim
end
structure zmn(P:Program)(f T:Nat)(ik:IntKind)(Te:Nat):Prop where
 ent:∀args w,(callFunc f args).run P w=.ok (.enter f args) w
 ret:∀w b,CallsD P f (yy [Value.pointer (some ⟨b,0,none⟩)]) .returning w (fun e u w'=>e=.returned (.tuple #[])∧u=.returning∧Ext z0x w w')pan:∀w b c e,z2z w b Te [c]→CallsD P f (yy [Value.pointer (some ⟨b,0,none⟩)]) (.panicking [{v:=Value.iface T (Value.agg (yy [Value.int ik e])),recovered:=false}]) w fun e' u w'=>e'=.returned (.tuple #[])∧u=.panicking [{v:=Value.iface T (Value.agg (yy [Value.int ik e])),recovered:=true}]∧z2z w' b Te [Value.int ik e]∧Ext (At b) w w'
def finD(tb:Tb)(ann:Ann)(res:List ResultVar)(out:z3y)(fc T:Nat)(ik:IntKind)(Te:Nat)(f:Nat)(d:z9e)(s:St):Prop:=match yab f fc,d,out with
 |true,.ret,.ok vs B A=>finO tb ann res s vs B A|true,.pan v,.ok vs B A=>match v,lkB s.B 999 with
  |.iface c (.agg [.int b e]),some ⟨a,[_]⟩=>match yab c T&&ikEq b ik&&yab a Te with|true=>finO tb ann res {s with B:=zgn 999 ⟨a,[.int b e]⟩ s.B} vs B A|false=>False
  |_,_=>False
 |_,_,_=>False
theorem Con.ofD{P:Program}{G:GI}{tb:Tb}{cty:List (Nat×List (Option (Nat×Nat)))}{ann:Ann}{f:Nat}{fn:Func}{c:Code}{i:CIn}{o:z3y}{n:Nat}{res:List ResultVar}{fc T:Nat}{ik:IntKind}{Te:Nat}(F:zmn P fc T ik Te)(U:TbG P tb G)(ent:∀args w,(callFunc f args).run P w=.ok (.enter f args) w)(a1:yab f NF=false)(hf:P.funcs[f]?=some fn)(Q:fn.body=some c)(hn:fn.ntmps=n)(p:fn.results=res.toArray)(a2:okC ann n c=true)(a0:z3v fn c=true)(hl:yad i.vs.length n=true)(H:ann.nb=i.B.length)(l:yad i.B.length 900=true)(hw:exD tb cty ann (Con P G) (fin tb ann res o) (finD tb ann res o fc T ik Te) c (entry i)):Con P G f i o:=by
 refine⟨ent,a1,fun w O φ α us hv hm hB hG=>?_⟩;have l:=yah l;obtain⟨hF,h0⟩:=zde (G:=G) hv hm hB hG (by omega);have a6:us.length=i.vs.length:=hv.len;refine zmt hf Q n hn (by grind) ?_;have hN:∀b,b<i.B.length→b≠999:=fun b Q=>by omega
 refine zn4 (z:=w0Of G i w O φ α hF hB) (C:={P:=P,f:=f,fn:=fn,R:=zec i w O φ α o,hf:=hf,lv:=true}) (n:=n) (G:=G) U (fun _ _ _ h=>h) (fun _ _ h=>h) c (entry i) [] a2 a0 hw (fun fl s d a7=>?_) (fun cl f' g fl s d=>?_) _ _ ⟨O,φ,α,h0,fun _ hx=>hx⟩;·cases fl with
  |normal=>grind|ret=>intro k' V w' J;obtain⟨O',φ',α',j,h2⟩:=J;cases o with|pan v=>exact d.elim|zjk _ _=>exact d.elim|okI _ _ _=>exact d.elim|ok vs B A=>obtain⟨q,t,I⟩:=z73 (C:={P:=P,f:=f,fn:=fn,R:=zec i w O φ α (.ok vs B A),hf:=hf,lv:=true}) (n:=n) (hF:=hF) (hB:=hB) (g:=φ) U p (fun b Q=>j.keep b (by omega)) j h2 H (by omega) d;exact TW.ret t I
  |exit _=>exact d.elim|pan v=>intro V w' O' φ' α' u N M j h2 t a ha m;cases o with|ok _ _ _=>cases d|okI _ _ _=>cases d|zjk v' B=>obtain⟨rfl,a3,hw⟩:=d;obtain⟨q,_,O3,a5,a4,I⟩:=zbq (ann:={nb:=ann.nb}) (res:=[]) (C:={P:=P,f:=f,fn:=fn,R:=zec i w O φ α (.zjk v' B),hf:=hf,lv:=true}) (n:=n) (hF:=hF) (hB:=hB) (g:=φ) U (fun b Q=>j.keep b (by omega)) j h2 H (by omega) hw;exact PN.nil m ⟨u,N,M,q,O3,a5,a4,rfl,z8s _ _ a3 t,I⟩|pan v=>cases d;exact PN.nil m ⟨u,O',N,M,rfl,t,j.ext,j.tr0,j.bd,j.only⟩
 ·unfold finD at d;split at d;·rename_i vs B A k;have k:=yag k;subst k;intro k' V w' J;obtain⟨O',φ',α',j,h2⟩:=J;refine TW.retD rfl (LV.ret2 (z9i:=dCaps cl g) (vs:=dArgs cl g) F.ent (by cases cl<;>exact F.ret w' g) fun Y x=>?_);have t:=j.znx x;obtain⟨q,I,h5⟩:=z73 (C:={P:=P,f:=f,fn:=fn,R:=zec i w O φ α (.ok vs B A),hf:=hf,lv:=true}) (n:=n) (hF:=hF) (hB:=hB) (g:=ren φ 999 g) U p (fun b Q=>(t.keep b (by omega)).trans (by grind[ren,w0Of])) t h2 H (by omega) d;grind
  ·rename_i v vs B A k;have k:=yag k;subst k;split at d
   ·rename_i T' W e Z c0 E;split at d
    ·rename_i D;simp only[yc]at D;have e1:=yag D.1.1;have e2:=z9s D.1.2;have e3:=yag D.2;subst e1 e2 e3;intro V w' O' φ' α' u N M j h2 t a ha m;obtain⟨x,rfl,q,rfl,y,r,rfl,hy,J⟩:=t;simp only[VR]at hy;subst hy;have J:r=[]:=J;subst J;obtain⟨E,S⟩:=z9y E;obtain⟨k1,a8,X,k3⟩:=j.box 999 _ E;have X:=X.un S;obtain⟨c1,r1,rfl,_,K⟩:=k3;have K:r1=[]:=K;subst K;have e9:φ' 999=g:=(j.keep 999 (by decide)).trans (by simp[ren]);rw[e9]at X;have key:=LV.pan2 (C:={P:=P,f:=f,fn:=fn,R:=zec i w O φ α (.ok vs B A),hf:=hf,lv:=true}) (n:=n) (L:=V) (z9i:=dCaps cl g) (vs:=dArgs cl g) (fun Y=>z2z Y g Z [Value.int W e]∧Ext (At g) w' Y) F.ent (by cases cl<;>exact F.pan w' g c1 e X) fun Y⟨q1,q2⟩=>by have I:=j.zqj (b:=0) (cs:=[.int W e]) E (by rw[e9];exact .inl ⟨S,q1⟩) (by grind) ⟨_,[],rfl,rfl,rfl⟩ rfl;obtain⟨q,h5,h6⟩:=z73 (C:={P:=P,f:=f,fn:=fn,R:=zec i w O φ α (.ok vs B A),hf:=hf,lv:=true}) (n:=n) (hF:=hF) (hB:=hB) (g:=ren φ 999 g) U p (fun b Q=>(I.keep b (by omega)).trans (by grind[ren,w0Of])) I h2 H (by omega) d;grind
     have:=key a ha m;unfold PN;rw[m];exact this
    grind
   grind
  grind
end
section
inductive Rs(α:Type)where|ok(a:α)|pan(e:Int)
inductive Rb(α β:Type)where|ok(a:α)|pan(e:Int)(p:β)
theorem zpf{a e v:Bool}(h:a=true)(p:v=e):v=(a&&e):=by grind
theorem zpe{a e:Bool}(h:a=false):false=(a&&e):=by rw[h];rfl
section
variable{R A:Type}{W:R→Prop}{y:Option R}
theorem S.an{p:Prop}(b:p)(h:S y W):S y fun r=>p∧W r:=fun r a=>⟨b,h r a⟩
theorem S.b{z:Option A}{g:A→Option R}(h:∀a,z=some a→S (g a) W):S (z>>=g) W:=by intro r d;obtain⟨a,c,h2⟩:=bnd d;exact h a c r h2
theorem S.two{V:R→Prop}(h:S y V)(h2:S y W):S y fun r=>V r∧W r:=fun r a=>⟨h r a,h2 r a⟩
theorem S.jb{X:Type}{B:R→St→Prop}{A':R→(St→Prop)→Prop}{v:X}(a:X→St)(d:∀r,A' r fun s=>∃b,s=a b∧b=v)(hB:S y fun r=>B r (a v)):S y fun r=>∃J:St→Prop,A' r J∧∀s,J s→B r s:=fun r e=>⟨_,d r,fun s⟨b,c,h2⟩=>by subst c h2;exact hB r e⟩
end
section
variable{tb:Tb}{cty:List (Nat×List (Option (Nat×Nat)))}{ann:Ann}{con:Nat→CIn→z3y→Prop}
theorem S.lw3{g i j R:Type}{a:Code}{c:Cut}{k:R→z9e→St→Prop}{σ:St}{L:g→i→j→Option R}{Bd:(g→i→j→Option R)→g→i→j→Option R}{b:g}{d:i}{e:j}(l:g→i→j→Ov)(p:∀motive:g→i→j→R→Prop,(∀f:g→i→j→Option R,(∀b d e r,f b d e=some r→motive b d e r)→∀b d e r,Bd f b d e=some r→motive b d e r)→∀b d e r,L b d e=some r→motive b d e r)(n:σ=ovS σ c (l b d e))(h:∀(f:g→i→j→Option R)(I:R→St→Prop),(∀b d e,S (f b d e) fun r=>I r (ovS σ c (l b d e)))→∀b d e,S (Bd f b d e) fun r=>Stp tb cty ann con a c (k r) (I r) (ovS σ c (l b d e))):S (L b d e) fun r=>LW (Stp tb cty ann con a c (k r)) σ:=by intro r m;rw[n];exact p (fun b d e r=>LW (Stp tb cty ann con a c (k r)) (ovS σ c (l b d e))) (fun f o b d e r m=>LW.fold (zbi a c (k r)) (h f (fun r=>LW (Stp tb cty ann con a c (k r))) o b d e r m)) b d e r m
theorem S.lw4{i j l m R:Type}{a:Code}{c:Cut}{k:R→z9e→St→Prop}{σ:St}{L:i→j→l→m→Option R}{Bd:(i→j→l→m→Option R)→i→j→l→m→Option R}{b:i}{d:j}{e:l}{g:m}(n:i→j→l→m→Ov)(s:∀motive:i→j→l→m→R→Prop,(∀f:i→j→l→m→Option R,(∀b d e g r,f b d e g=some r→motive b d e g r)→∀b d e g r,Bd f b d e g=some r→motive b d e g r)→∀b d e g r,L b d e g=some r→motive b d e g r)(p:σ=ovS σ c (n b d e g))(h:∀(f:i→j→l→m→Option R)(I:R→St→Prop),(∀b d e g,S (f b d e g) fun r=>I r (ovS σ c (n b d e g)))→∀b d e g,S (Bd f b d e g) fun r=>Stp tb cty ann con a c (k r) (I r) (ovS σ c (n b d e g))):S (L b d e g) fun r=>LW (Stp tb cty ann con a c (k r)) σ:=by intro r o;rw[p];exact s (fun b d e g r=>LW (Stp tb cty ann con a c (k r)) (ovS σ c (n b d e g))) (fun f q b d e g r o=>LW.fold (zbi a c (k r)) (h f (fun r=>LW (Stp tb cty ann con a c (k r))) q b d e g r o)) b d e g r o
theorem S.lw5{j l m n o R:Type}{a:Code}{c:Cut}{k:R→z9e→St→Prop}{σ:St}{L:j→l→m→n→o→Option R}{Bd:(j→l→m→n→o→Option R)→j→l→m→n→o→Option R}{b:j}{d:l}{e:m}{g:n}{i:o}(p:j→l→m→n→o→Ov)(u:∀motive:j→l→m→n→o→R→Prop,(∀f:j→l→m→n→o→Option R,(∀b d e g i r,f b d e g i=some r→motive b d e g i r)→∀b d e g i r,Bd f b d e g i=some r→motive b d e g i r)→∀b d e g i r,L b d e g i=some r→motive b d e g i r)(s:σ=ovS σ c (p b d e g i))(h:∀(f:j→l→m→n→o→Option R)(I:R→St→Prop),(∀b d e g i,S (f b d e g i) fun r=>I r (ovS σ c (p b d e g i)))→∀b d e g i,S (Bd f b d e g i) fun r=>Stp tb cty ann con a c (k r) (I r) (ovS σ c (p b d e g i))):S (L b d e g i) fun r=>LW (Stp tb cty ann con a c (k r)) σ:=by intro r q;rw[s];exact u (fun b d e g i r=>LW (Stp tb cty ann con a c (k r)) (ovS σ c (p b d e g i))) (fun f t b d e g i r q=>LW.fold (zbi a c (k r)) (h f (fun r=>LW (Stp tb cty ann con a c (k r))) t b d e g i r q)) b d e g i r q
end
section
variable{R A X:Type}{f c:X→List D}{E:List X→List (List D)}{l l2:List (List D)}{xs ys:List X}
theorem S.ixE(a:∀l,E l=l.map f){i:Int}{F:R→List D→Prop}{g:X→Option R}(hl:l=E xs)(b:∀x,f x=c x)(h:∀x,S (g x) fun r=>F r (c x)):S (Go.Lk.ix xs i>>=g) fun r=>Ex (Go.Lk.ix l i) (F r):=S.ix (hl.trans (a xs)) b h
theorem S.appE(b:∀l,E l=l.map f){n:Nat}{F:R→List (List D)→Prop}{g:List X→Option R}(hl:l=E xs)(a:l2=E ys)(h:∀x,S (g x) fun r=>F r (E x)):S (Go.Lk.app n xs ys>>=g) fun r=>Ex (Go.Lk.app n l l2) (F r):=S.app (f:=f) (hl.trans (b xs)) (a.trans (b ys)) fun x=>by grind
end
section
variable{tb:Tb}{cty:List (Nat×List (Option (Nat×Nat)))}{ann:Ann}{con:Nat→CIn→z3y→Prop}{R X:Type}
def kD{Y:Type}(k:R→Y)(no:Y):Jn R X→Y|.done r=>k r|.go _=>no
def jG(a:X→St)(j:Jn R X):St→Prop:=fun s=>match j with|.go x=>s=a x|.done _=>False
theorem S.jn{a:Code}{σ:St}{c:Cut}{k:R→z9e→St→Prop}{B:R→St→Prop}{z:Option (Jn R X)}{m:Jn R X→Option R}(b:X→St)(e:S z fun j=>ex tb cty ann con a σ (zmm (fun s=>s.zc8 c (jG b j)) (kD k (fun _ _=>False) j)))(hd:∀r,m (.done r)=some r)(hB:∀x,S (m (.go x)) fun r=>B r (b x)):S (z>>=m) fun r=>∃J:St→Prop,ex tb cty ann con a σ (zmm (fun s=>s.zc8 c J) (k r))∧∀s,J s→B r s:=by
 intro r f;obtain⟨j,d,h2⟩:=bnd f;refine⟨jG b j,z8n a _ _ _ (zb1 (fun _=>id) ?_) (e j d),?_⟩;·cases j with|done g=>rw[hd]at h2;cases h2;exact fun _ _=>id|go x=>exact fun _ _ h=>h.elim
 ·cases j with|done g=>exact fun _ h=>h.elim|go x=>intro s h;cases h;exact hB x r h2
theorem S.dn{a b:Type}{k:R→a→b→Prop}{p:a}{q:b}{y:Option R}(h:S y fun r=>k r p q):S (y>>=fun r=>some (Jn.done r:Jn R X)) fun j=>kD k (fun _ _=>False) j p q:=by intro j d;obtain⟨r,c,h2⟩:=bnd d;cases h2;exact h r c
theorem z1s{Y:Type}{f:Y→List D}{xs:List Y}:lenD (xs.map f)=some (xs.length:Int):=by simp[lenD]
theorem z5z{Y:Type}{f:Y→List D}{E:List Y→List (List D)}(a:∀l,E l=l.map f){xs:List Y}:lenD (E xs)=some (xs.length:Int):=by grind[z1s]
theorem Ex.i{Y:Type}{z:Option Y}{k:Y→Prop}{a:Y}(b:z=some a)(h:k a):Ex z k:=⟨a,b,h⟩
theorem jbI{Y:Type}{a:Y→St}{v b:Y}{s:St}(h:s=a b)(p:b=v):∃b,s=a b∧b=v:=⟨b,h,p⟩
end
end
section
section
variable{K V:Type}[DecidableEq K]
def z6r:List (K×V)→K→V→V|[],_,z=>z|(a,v)::r,k,z=>if k=a then v else z6r r k z
def mhasT:List (K×V)→K→Bool|[],_=>false|(a,_)::r,k=>if k=a then true else mhasT r k
def z3p:List (K×V)→K→V→List (K×V)|[],k,v=>[(k,v)]|(a,b)::r,k,v=>if k=a then(k,v)::r else(a,b)::z3p r k v
variable{R:Type}{y:Option R}{f:K×V→List D}{kf:K→D}{vf:V→List D}(hf:∀x,f x=kf x.1::vf x.2)(hk:∀a b,kEq (kf a) (kf b)=decide (a=b))
include hf hk
theorem zye(k:K)(z:V):∀l:List (K×V),zlv (l.map f) (kf k) (vf z)=vf (z6r l k z)∧znw (l.map f) (kf k)=mhasT l k
 |[]=>⟨rfl,rfl⟩|(a,v)::r=>by
  obtain⟨b,h2⟩:=zye k z r;by_cases e:k=a;·subst e;simp[zlv,znw,mgD,hf,hk,z6r,mhasT]
  ·simp only[zlv,znw]at b h2;simp[zlv,znw,mgD,hf,hk,z6r,mhasT,e,b,h2]
theorem zny(k:K)(v:V):∀l:List (K×V),zb6 (l.map f) (kf k) (vf v)=(z3p l k v).map f
 |[]=>by simp[zb6,z3p,hf]|(a,b)::r=>by
  have c:=zny k v r;by_cases e:k=a;·subst e;simp[zb6,hf,hk,z3p]
  ·simp only[List.map_cons,hf,zb6,hk,e,decide_false,yd,if_false,z3p,c]
theorem S.mget{l:List (K×V)}{k:K}{z:V}{c:V→List D}{kd:D}{b:List D}{F:R→List D→Prop}(a:kd=kf k)(g:b=vf z)(d:∀x,vf x=c x)(h:S y fun r=>F r (c (z6r l k z))):S y fun r=>Ex (some (zlv (l.map f) kd b)) (F r):=by subst a g;rw[(zye hf hk k z l).1,d];exact fun r e=>⟨_,rfl,h r e⟩
theorem S.z97{l:List (K×V)}{k:K}{v:V}{kd:D}{b:List D}{F:R→List (List D)→Prop}{g:List (K×V)→Option R}(a:kd=kf k)(d:b=vf v)(h:∀m,S (g m) fun r=>F r (m.map f)):S (some (z3p l k v)>>=g) fun r=>Ex (some (zb6 (l.map f) kd b)) (F r):=by subst a d;rw[zny hf hk k v l];exact fun r c=>⟨_,rfl,h _ r c⟩
end
theorem z9w(a b:List UInt8):kEq (.str a) (.str b)=decide (a=b):=rfl
theorem z5i(k:IntKind)(a b:Int):kEq (.int k a) (.int k b)=decide (a=b):=rfl
theorem S.wv{R A X:Type}{z:Option X}{g:X→Option R}{k:R→A→Prop}(w:Option A)(vf:X→A)(c:∀x,z=some x→w=some (vf x))(h:∀x,S (g x) fun r=>k r (vf x)):S (z>>=g) fun r=>wt w (k r):=fun r b=>by obtain⟨x,a,h2⟩:=ya.1 b;rw[c x a];exact h x r h2
theorem S.di{R:Type}{p:Prop}[Decidable p]{b c:Option R}{W:R→Prop}(d:p→S b W)(h2:S c W):S (if p then b else c) W:=fun r a=>by
 by_cases h:p;·rw[if_pos h]at a;exact d h r a
 ·rw[if_neg h]at a;exact h2 r a
section
variable{tb:Tb}{cty:List (Nat×List (Option (Nat×Nat)))}{ann:Ann}{con:Nat→CIn→z3y→Prop}{R X:Type}{a:Code}{c:Cut}{k:R→z9e→St→Prop}{σ:St}
end
end
end Go.Pe
