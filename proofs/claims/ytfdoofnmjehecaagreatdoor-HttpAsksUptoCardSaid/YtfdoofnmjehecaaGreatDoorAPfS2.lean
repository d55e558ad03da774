import Derived.Test.YtfdoofnmjehecaaGreatDoorAPfA
set_option linter.all false
namespace Go.Pe
open _root_.Option renaming bind_eq_some_iff → ya, map_eq_some_iff → yb
open _root_.Bool renaming and_eq_true → yc, false_eq_true → yd, not_eq_true' → ye, or_eq_false_iff → yf
open _root_.List renaming all_cons → yg, all_eq_true → yh, any_eq_true → yi, cons_append → yj, filterMap_cons → yk, filter_map → yl, getElem?_eq_some_iff → ym, mem_append → yn, mem_append_left → yo, mem_cons → yp, mem_cons_of_mem → yq, mem_cons_self → yr, mem_filter → yt, mem_map → yv, mem_of_getElem? → yw, take_append_drop → yx, toArray → yy
open _root_.Nat renaming add_sub_cancel → yz, add_zero → yaa, beq → yab, beq_refl → yac, ble → yad, blt → yae, blt_eq → yaf, eq_of_beq_eq_true → yag, le_of_ble_eq_true → yah, le_refl → yai, le_trans → yaj, lt_of_lt_of_le → yak, lt_or_ge → yal, ne_of_beq_eq_false → yam, zero_add → yan
open _root_.Array renaming toList_inj → yao
open Go.RowKit Go.Lk
section
section
variable {z:W0} {fL fL':FL} {fB fB':FB} {fA fA':FA} {V:Env} {w w':World} {O O':Nat→Prop} {φ φ':Nat→Nat} {α α':Nat→Value} {σ σ':St}
theorem Ext.after (h:Rel z fL fB fA V w O φ α) {H:Nat→Prop} (x:Ext H w w') (hH:∀ y,H y→z.F y∨z.w.heap.size≤y):Ext z.F z.w w':=h.ext.step x fun y hy hh=>by
 grind
theorem Bd.new {b:Nat} {T:TypeId} {us:List Value} {H:Nat→Prop} (hB:Bd O w) (x:Ext H w w') (hb:zkf w' b T us):Bd (Ins O b) w':=fun y hy=>by
 rcases hy with rfl|hy
 ·exact hb.lt
 ·exact yak (hB y hy) x.size
theorem Rel.newBG (h:Rl z σ V w O φ α) {d key b:Nat} {T:TypeId} {us:List Value} {cs:List PV} {pv:PV} {pu:Value} (hf:σ.z97 key=true) (hb:zkf w' b T us) (x:Ext z14 w w') (hw:w.heap.size≤b) (hv:VRs w O φ α cs us) (kc:z56.go (fun y=>y≠key) (fun _=>True) cs)
  (hp:VR w' (Ins O b) (ren φ key b) α pv pu):Rl z { σ with B:=(key,⟨T,cs⟩)::σ.B,L:=(d,pv)::σ.L } ((d,pu)::V) w' (Ins O b) (ren φ key b) α:=by
 have t:Tr O w (Ins O b) w':=Tr.z9x x (fun _ _ hh=>hh.elim) hw
 have h1:=h.reB hf b
 have h2:=h1.move x t (fun y hy => .inr hy) (Bd.new h.bd x hb) (fun _ _ _ hh=>hh) (fun _ _ _ _ _ hh=>hh) (Ext.after h x fun _ hh=>hh.elim) fun y hy=>by
  rcases hy with rfl|hy
  ·exact .inr (yaj h.ext.size hw)
  ·exact h.only y hy
 have er:ren φ key b key=b:=by simp [ren]
 have hv2:VRs w' (Ins O b) (ren φ key b) α cs us:=VRs.re (kb:=fun y=>y≠key) (ka:=fun _=>True) (fun y hy=>by simp [ren,hy]) (fun _ _=>rfl) _ _ kc (VRs.tr t _ _ hv)
 have h3:=h2.addB (b:=key) (e:=⟨T,cs⟩) (us:=us) (.inl er) (by grind) hv2 (fun c e' hc _=>by
  have:=h1.boxLt hc
  omega) (fun a e' ha hh=>by
  have:=h1.arrLt ha hh
  omega) (by rw [er];exact .inr (yaj h.ext.size hw))
 have h4:=h3.put (d:=d) (v:=pv) (u:=pu) hp
 exact h4.mono Le.cons Le.cons (Le.refl _)
theorem Rel.newB (h:Rl z σ V w O φ α) {d key b:Nat} {T:TypeId} {us:List Value} {cs:List PV} (hf:σ.z97 key=true) (hb:zkf w' b T us) (x:Ext z14 w w') (hw:w.heap.size≤b) (hv:VRs w O φ α cs us) (kc:z56.go (fun y=>y≠key) (fun _=>True) cs) :
  Rl z { σ with B:=(key,⟨T,cs⟩)::σ.B,L:=(d,.ptr key 0)::σ.L } ((d,.pointer (some ⟨b,0,none⟩))::V) w' (Ins O b) (ren φ key b) α :=
 h.newBG hf hb x hw hv kc (by grind [VR,ren])
theorem Rel.newA (h:Rl z σ V w O φ α) {d key:Nat} {v:Value} {e:Arr} {H:Nat→Prop} (hf:σ.z6u key=true) (x:Ext H w w') (t:Tr O w O' w') (more:∀ y,O y→O' y) (bd':Bd O' w') (only':∀ y,O' y→O y∨w.heap.size≤y)
  (hB:∀ b e,lk σ.B b=some e→¬H (φ b)) (hA:∀ a e,lk σ.A a=some e→∀ y,(α a).ownBlock=some y→¬H y) (hH:∀ y,H y→z.F y∨z.w.heap.size≤y) (ho:z95 w' O' e.T e.n v e.l)
  (h1:∀ y,v.ownBlock=some y→H y∨w.heap.size≤y) (h3:∀ y,v.ownBlock=some y→(e.mine=false∧z.F y)∨z.w.heap.size≤y) :
  Rl z { σ with A:=(key,e)::σ.A,L:=(d,.ref key)::σ.L } ((d,v)::V) w' O' φ (zk0 α key v):=by
 have k1:=h.reA hf v
 have er:zk0 α key v key=v:=by simp [zk0]
 obtain ⟨f1,f2,f3⟩:=zbf hf
 have hA':∀ a e,lk σ.A a=some e→zk0 α key v a=α a:=fun a e ha=>by
  grind [zk0]
 have k2:=k1.move x t more bd' hB (fun a e ha y hy=>by grind) (Ext.after h x hH) fun y hy=>by
  rcases only' y hy with hy|hy
  ·exact h.only y hy
  ·exact .inr (yaj h.ext.size hy)
 have k3:=k2.addA (a:=key) (e:=e) (by grind) (fun c e' hc _ y hy=>by
  rw [er]
  intro hh
  rw [hA' c e' hc] at hy
  rcases h1 y hh with h2|h2
  ·grind
  ·have:=h.arrLt hc hy;omega) (fun b e' hb=>by
  rw [er]
  intro hh
  rcases h1 _ hh with h2|h2
  ·grind
  ·have:=h.boxLt hb;omega) (fun y hy=>by grind)
 have k4:=k3.put (d:=d) (v:=.ref key) (u:=v) ⟨er.symm,z95.one' ho⟩
 exact k4.mono Le.cons (Le.refl _) Le.cons
theorem Rel.zne (h:Rl z σ V w O φ α) {d:Nat} {v:PV} {u:Value} (hv:VR w O φ α v u):Rl z { σ with L:=(d,v)::σ.L } ((d,u)::V) w O φ α:=(h.put hv).mono Le.cons (Le.refl _) (Le.refl _)
def putE (d:Option Nat) (u:Value) (V:Env):Env:=match d with
 | some d=>(d,u)::V
 | none=>V
theorem Rel.putO (h:Rl z σ V w O φ α) (d:Option Nat) {v:PV} {u:Value} (hv:VR w O φ α v u):Rl z (σ.put d v) (putE d u V) w O φ α:=by
 cases d with
 | none=>exact h
 | some d=>exact h.zne hv
theorem Rel.zm3 (h:Rl z σ V w O φ α) (x:Ext z14 w w'):Rl z σ V w' O φ α :=
 h.move x (Tr.z5n x fun _ _ hh=>hh.elim) (fun _ hy=>hy) (h.bd.ext x) (fun _ _ _ hh=>hh) (fun _ _ _ _ _ hh=>hh) (Ext.after h x fun _ hh=>hh.elim) h.only
theorem Rel.newAN (h:Rl z σ V w O φ α) {d key b T m len:Nat} {us:List Value} {l:List (List D)} {mine:Bool} (hT:T<1000000) (hf:σ.z6u key=true) (hb:z34 w' b T us) (x:Ext z14 w w') (hw:w.heap.size≤b) (hl:l.length=len) (hm:len≤maxLen) (hs:us.length=len*m) (hr:RDl w O m l us) :
  Rl z { σ with A:=(key,⟨mine,T,m,l⟩)::σ.A,L:=(d,.ref key)::σ.L } ((d,.slice (some ⟨b,0,none⟩) len len)::V) w' (Ins O b) φ (zk0 α key (.slice (some ⟨b,0,none⟩) len len)):=by
 have t:Tr O w (Ins O b) w':=Tr.z9x x (fun _ _ hh=>hh.elim) hw
 exact h.newA hf x t (fun y hy => .inr hy) (Bd.new h.bd x (T:=T) (us:=us) (.inl ⟨hT,hb⟩)) (fun y hy=>by
  rcases hy with rfl|hy
  ·exact .inr hw
  grind) (fun _ _ _ hh=>hh) (fun _ _ _ _ _ hh=>hh) (fun _ hh=>hh.elim) (.inl ⟨hT,Own.z9x hb hl hm hs (hr.tr t) (.inl rfl)⟩) (fun y hy=>by
  grind [Value.ownBlock]) (fun y hy=>by
  simp only [Value.ownBlock,Option.some.injEq] at hy
  subst hy
  exact .inr (yaj h.ext.size hw))
theorem Rel.zok (h:Rl z σ V w O φ α) {key b:Nat} {e:Bx} {us:List Value} {cs:List PV} (hk:lk σ.B key=some e) (hb:zkf w' (φ key) e.T us) (x:Ext (At (φ key)) w w') (hv:VRs w O φ α cs us) (_:b=b) :
  Rl z { σ with B:=zet key ⟨e.T,cs⟩ σ.B } V w' O φ α:=by
 have ho:=(h.box key e hk).1
 have t:Tr O w O w':=Tr.z5n x fun y _ hy=>by cases hy;exact ho
 have h1:=h.mono (Le.refl _) (fB':=del (lk σ.B) key) (fun t v hv=>(z4w hv).2) (Le.refl _)
 have h2:=h1.move x t (fun _ hy=>hy) (h.bd.ext x) (fun c e' hc hh=>by
  obtain ⟨n1,hc⟩:=z4w hc
  exact h.bb c key e' e hc hk n1 hh) (fun a e' ha y hy hh=>by
  cases hh
  exact h.ab a key e' e ha hk hy) (Ext.after h x fun y hy=>by cases hy;exact (h.bF key e hk).elim (fun q => .inl q.2) .inr) h.only
 have h3:=h2.addB (b:=key) (e:=⟨e.T,cs⟩) (us:=us) ho hb (VRs.tr t _ _ hv) (fun c e' hc n1 hh=>h.bb c key e' e (z4w hc).2 hk n1 hh) (fun a e' ha hh=>h.ab a key e' e ha hk hh) (h.bF key e hk)
 exact h3.mono (Le.refl _) Le.zet (Le.refl _)
theorem Rel.zz02m (h:Rl z σ V w O φ α) {a:Nat} {e:Arr} {l:List (List D)} (hk:lk σ.A a=some e) (ho:z95 w' O e.T e.n (α a) l) (x:Ext (fun y=>(α a).ownBlock=some y) w w') :
  Rl z { σ with A:=zet a { e with l:=l } σ.A } V w' O φ α:=by
 have t:Tr O w O w':=Tr.z5n x fun y _ hy=>h.arrO hk hy
 have h1:=h.mono (Le.refl _) (Le.refl _) (fA':=del (lk σ.A) a) (fun t v hv=>(z4w hv).2)
 have h2:=h1.move x t (fun _ hy=>hy) (h.bd.ext x) (fun c e' hc hh=>h.ab a c e e' hk hc hh) (fun c e' hc y hy hh=>by
  obtain ⟨n1,hc⟩:=z4w hc
  exact h.aa c a e' e hc hk n1 y hy hh) (Ext.after h x fun y hy=>(h.aF a e hk y hy).elim (fun q => .inl q.2) .inr) h.only
 have h3:=h2.addA (a:=a) (e:={ e with l:=l }) ho (fun c e' hc n1 y hy hh=>h.aa c a e' e (z4w hc).2 hk n1 y hy hh) (fun b e' hb hh=>h.ab a b e e' hk hb hh) (h.aF a e hk)
 exact h3.mono (Le.refl _) (Le.refl _) Le.zet
theorem RDs.len {w:World} {O:Nat→Prop}:∀ {l:List D} {us:List Value},RDs w O l us→us.length=l.length
 | [],us,h=>by cases h;rfl
 | d::l,us,h=>by
  obtain ⟨v,vs,rfl,_,h⟩:=h
  simp [RDs.len h]
theorem toD_ok {c:Option (Nat × Nat)} {v:PV} {d:D} {u:Value} (e:toD c v=some d) (h:VR w O φ α v u):RD w O d u:=by
 unfold toD at e
 split at e
 ·grind [VR,RD]
 ·grind [VR,RD]
 ·grind [VR,RD]
 ·cases e;exact h
 ·split at e
  ·cases e
   subst h
   exact .inl ⟨⟨_,rfl⟩,rfl⟩
  ·cases e
 ·cases e
  obtain ⟨us,vs,rfl,h1,h2⟩:=h
  obtain rfl:us=[]:=h1
  obtain rfl:vs=[]:=h2
  rfl
 ·cases e
theorem toDs_ok:∀ {cs:List PV} {ct:List (Option (Nat × Nat))} {ds:List D} {us:List Value},toDs ct cs=some ds→VRs w O φ α cs us→RDs w O ds us
 | [],ct,ds,us,e,h=>by
  cases e
  exact h
 | v::vs,ct,ds,us,e,h=>by
  obtain ⟨u,us',rfl,h2,h3⟩:=h
  cases ct with
  | nil =>
   simp only [toDs] at e
   split at e
   ·rename_i d ds' h4 h5
    cases e
    exact ⟨u,us',rfl,toD_ok h4 h2,toDs_ok h5 h3⟩
   ·cases e
  | cons c ct =>
   simp only [toDs] at e
   split at e
   ·rename_i d ds' h4 h5
    cases e
    exact ⟨u,us',rfl,toD_ok h4 h2,toDs_ok h5 h3⟩
   ·cases e
theorem zi4 {ct:List (Option (Nat × Nat))} {m:Nat}:∀ {us:List PV} {is:List Nat} {xs:List Value} {ds:List (List D)} {i:Nat},zbr i is=true→is.length=us.length→VRs w O φ α us xs→us.all (fun x => !(z5c x))=true→elsD ct us=some ds→ds.all (fun x=>yab x.length m)=true →
  ∃ cs,flat m i (is.zip xs)=some cs∧RDl w O m ds cs∧cs.length=us.length*m∧ds.length=us.length
 | [],is,xs,ds,i,_,hl,h,_,e,_=>by
  cases h
  cases e
  simp only [List.zip_nil_right,flat]
  exact ⟨[],rfl,trivial,by simp,rfl⟩
 | u::us,is,xs,ds,i,hr,hl,h,hu,e,hm=>by
  obtain ⟨x,xs',rfl,h2,h3⟩:=h
  cases is with
  | nil=>simp at hl
  | cons j is =>
   simp only [zbr,yc] at hr
   simp only [yg,yc] at hu
   unfold elsD at e
   split at e
   ·rename_i d ds' h4 h5
    cases e
    simp only [yg,yc] at hm
    obtain ⟨cs,k1,k2,k3,k4⟩:=zi4 hr.2 (by grind) h3 hu.2 h5 hm.2
    have h6:=toDs_ok h4 (h2.cells (by grind))
    have h7:=RDs.len h6
    have h8:=yag hm.1
    refine ⟨x.cells.toList++cs,?_,?_,?_,by simp [k4]⟩
    ·grind [List.zip_cons_cons,flat]
    ·refine ⟨?_,?_⟩
     ·grind
     grind
    grind
   ·cases e
theorem zuj:∀ {l:List (List D)} {s:List UInt8},dby l=some s→∃ xs:List Int,l=xs.map (eI .u8)∧s=byt xs
 | [],s,e=>by cases e;exact ⟨[],rfl,rfl⟩
 | x::r,s,e=>by
  unfold dby at e
  split at e
  ·grind
  ·rename_i n r' hx
   split at e
   ·rename_i s' h1
    cases e
    obtain ⟨rfl,rfl⟩:=hx
    obtain ⟨xs,rfl,rfl⟩:=zuj h1
    exact ⟨n::xs,rfl,rfl⟩
   ·cases e
  ·cases e
end
def RS (z:W0) (σ:St) (V:Env) (w:World):Prop := ∃ O φ α,Rl z σ V w O φ α∧∀ x,z.O x→O x
def zar (z:W0) (C:Cx) (n:Nat) (ds:List Deferred) (v:PV) (s:St):Prop := ∀ V w O φ α u φ' α',Rl z s V w O φ α→(∀ x,z.O x→O x)→VR w O φ' α' v u→∀ a,Has n V a→a.defers=ds→PN C a [{ v:=u,recovered:=false }] w
def NX (z:W0) (C:Cx) (n:Nat) (ds:List Deferred) (ops:Array Oper) (rest:List Oper) (K:Act→World→Prop) (s:St):Prop := ∀ V w,RS z s V w→OW C n ds ops rest K V w
theorem Rel.tr0 {z:W0} {fL:FL} {fB:FB} {fA:FA} {V:Env} {w:World} {O:Nat→Prop} {φ:Nat→Nat} {α:Nat→Value} (h:Rel z fL fB fA V w O φ α):Tr z.O z.w O w :=
 ⟨h.ext.size,fun b hb ho=>h.ext.block b hb fun hf=>ho (z.hF b hf),fun b hb ho ho'=>by
  rcases h.only b ho' with h1|h1
  ·exact ho h1
  ·omega⟩
theorem zrb {kb ka:Nat→Prop} (v:Value):z56 kb ka (ztq v):=by
 unfold ztq
 split<;>trivial
theorem zm8 {kb ka:Nat→Prop}:∀ (l:List Value),z56.go kb ka (l.map ztq)
 | []=>trivial
 | v::l=>⟨zrb v,zm8 l⟩
theorem zwk {kb ka:Nat→Prop} (v:Value):z56 kb ka (ofV v):=by
 unfold ofV
 split
 ·exact zm8 _
 ·exact zrb v
theorem zkv {kb ka:Nat→Prop} {v:PV} (h:z56 kb ka v):z56.go kb ka (cellsOf v):=by
 cases v with
 | agg cs=>exact h
 | _=>exact ⟨h,trivial⟩
theorem zz07b {kb ka:Nat→Prop} {σ:St} (hL:∀ t v,lk σ.L t=some v→z56 kb ka v) {x:Operand} {v:PV} (e:σ.ev x=some v):z56 kb ka v:=by
 cases x with
 | tmp t=>exact hL t v e
 | const c=>cases e;exact zwk c
 | global g=>cases e
 | func f =>
  simp only [St.ev] at e
  split at e
  ·cases e
  ·cases e;exact ⟨trivial,trivial⟩
theorem zcp {td:TypeDesc} {ky:Option IntKind} (h:kyOf td=some ky):td=kdT ky:=by
 unfold kyOf at h
 split at h<;>first|(cases h;rfl)|cases h
theorem toKey_ok {w:World} {O:Nat→Prop} {φ:Nat→Nat} {α:Nat→Value} {ky:Option IntKind} {v:PV} {kd:D} {u:Value} (e:toKey ky v=some kd) (h:VR w O φ α v u):ztp ky kd∧RD w O kd u:=by
 unfold toKey at e
 split at e
 ·split at e
  ·rename_i hb
   cases e
   exact ⟨(z8t hb).symm,by grind [VR,RD]⟩
  ·cases e
 ·cases e
  exact ⟨trivial,by grind [VR,RD]⟩
 ·cases e
theorem zz046 {a b:Option IntKind} (h:kyEq a b=true):a=b:=by
 unfold kyEq at h
 grind [z8t]
theorem bq_eq {a b:Bool} (h:bq a b=true):a=b:=by
 cases a<;>cases b<;>first|rfl|cases h
theorem z86 {σ:St} {ky:Option IntKind} {g:Bool} {u:PV} {m:Nat × List (List D)} (h:zcs σ ky g u=some m):u = .mp m.1∧∃ e,lk σ.B m.1=some e∧e.cs=[.md (.cont ky g m.2)]∧e.T=1000000:=by
 unfold zcs at h
 split at h
 ·split at h
  ·split at h
   ·split at h
    ·rename_i hb
     simp only [yc] at hb
     cases h
     rw [zz046 hb.1.2,bq_eq hb.2]
     simp_all
    ·cases h
   ·cases h
  ·cases h
 ·cases h
theorem zhr {w:World} {O:Nat→Prop} {φ:Nat→Nat} {α:Nat→Value} {g:Bool} {n:Nat} {ds:List D} {r:PV} {v:Value} (e:z73 g n (ofDs ds)=some r) (h:zts w O g ds v):VR w O φ α r v:=by
 cases g with
 | true =>
  obtain ⟨us,rfl,h2⟩:=h
  unfold z73 at e
  simp only at e
  split at e
  ·cases e
   exact ⟨us,rfl,zbp h2⟩
  ·cases e
 | false =>
  obtain ⟨d,rfl,h2⟩:=h
  grind [ofDs,z73,zwj]
theorem zpn {w:World} {O:Nat→Prop} {φ:Nat→Nat} {α:Nat→Value} {g:Bool} {ct:List (Option (Nat × Nat))} {ds:List D} {v:PV} {u:Value} (hq:aggQ g v=true) (e:toDs ct (cellsOf v)=some ds) (h:VR w O φ α v u):zts w O g ds u:=by
 cases g with
 | true =>
  cases v<;>simp only [aggQ,yd] at hq
  obtain ⟨us,rfl,h2⟩:=h
  exact ⟨us,rfl,toDs_ok e h2⟩
 | false =>
  have h1:ztr v=true:=by simpa [aggQ] using hq
  have h2:cellsOf v=[v]:=by cases v<;>first|rfl|simp [ztr] at h1
  rw [h2] at e
  have h3:=toDs_ok e (us:=[u]) (w:=w) (O:=O) (φ:=φ) (α:=α) ⟨u,[],rfl,h,rfl⟩
  cases ds with
  | nil=>cases h3
  | cons d ds =>
   obtain ⟨v',vs,h4,h5,h6⟩:=h3
   cases h4
   cases ds with
   | nil=>exact ⟨d,rfl,h5⟩
   | cons d2 ds =>
    obtain ⟨_,_,h7,_⟩:=h6
    cases h7
theorem OW.valN {C:Cx} {n:Nat} {ds:List Deferred} {k:Act→World→Prop} {L:Env} {w:World} {ops:Array Oper} {o:Oper} {rest:List Oper} {v:Value} {w':World} (hg:o.guard=none) (hd:o.dst=none)
  (hr:∀ a,Has n L a→(execOp a.eval o).run C.P w = .ok (.value v) w') (h:OW C n ds ops rest k L w'):OW C n ds ops (o::rest) k L w:=fun a ha hds =>
 wpList_plain hg fun K hK=>by
  unfold Oper.wp
  rw [hr a ha,Oper.upon_value,hd]
  exact hK _ _ (h _ ha.same (by grind [Act.put]))
theorem zdu:∀ (L:List MapEntry) (i:Nat) (e:MapEntry),(L.map (·.born)).Nodup→L[i]? = some e→(L.filter fun x => !(x.born==e.born))=L.eraseIdx i
 | x::L,0,e,hn,h=>by
  simp_all
 | x::L,i+1,e,hn,h=>by
  simp only [List.map_cons,List.nodup_cons] at hn
  rw [List.filter_cons_of_pos (by
   grind),List.eraseIdx_cons_succ,zdu L i e hn.2 h]
 | [],i,e,_,h=>by simp at h
theorem zso {es:List MapEntry} {seen:Array Nat} {i:Nat} {e:MapEntry} (hn:(es.map (·.born)).Nodup) (h:(zeh es seen.toList)[i]? = some e):zeh es (seen.push e.born).toList=(zeh es seen.toList).eraseIdx i:=by
 rw [←zdu (zeh es seen.toList) i e (List.Nodup.sublist (List.Sublist.map _ List.filter_sublist) hn) h]
 grind [zeh,List.filter_filter]
theorem Rel.dropB {z:W0} {V:Env} {w:World} {O:Nat→Prop} {φ:Nat→Nat} {α:Nat→Value} {σ:St} (h:Rl z σ V w O φ α) {b:Nat} {e:Bx} (hb:lk σ.B b=some e):Rl z { σ with B:=z9d b σ.B } V w (fun x=>O x∧x≠φ b) φ α:=by
 have td:Tr O w (fun x=>O x∧x≠φ b) w:=Tr.drop w fun x hx=>hx.1
 refine ⟨fun t v hv => ?_,fun c e' hc => ?_,fun a e' ha => ?_,fun c d e1 e2 h1 h2 hn=>h.bb c d e1 e2 (z4d h1).2 (z4d h2).2 hn,h.aa,fun a c e1 e2 h1 h2=>h.ab a c e1 e2 h1 (z4d h2).2,fun c e' hc=>h.bF c e' (z4d hc).2,h.aF,fun x hx=>h.bd x hx.1,h.ext,fun x hx=>h.only x hx.1,z.hG td h.gl,h.keep⟩
 ·obtain ⟨u,h2,h3⟩:=h.env t v hv
  exact ⟨u,h2,h3.tr td⟩
 ·obtain ⟨n1,hc⟩:=z4d hc
  obtain ⟨h2,us,h3,h4⟩:=h.box c e' hc
  exact ⟨⟨h2,h.bb c b e' e hc hb n1⟩,us,h3,VRs.tr td _ _ h4⟩
 ·exact (h.arr a e' ha).down (fun x hx=>hx.1) fun x hx=>⟨h.arrO ha hx,fun q=>h.ab a b e' e ha hb (q▸hx)⟩
section
variable {z:W0} {V:Env} {w:World} {O:Nat→Prop} {φ:Nat→Nat} {α:Nat→Value} {σ:St} {C:Cx} {n:Nat} {ops:Array Oper} {o:Oper} {rest:List Oper} {K:Act→World→Prop}
theorem zxa {ann:Ann} {x:Operand} {d:Nat} (h:roSt ann x=some d):x = .tmp d:=by
 unfold roSt at h
 grind
theorem zid {β:Type} {a:Nat} {x v:β}:∀ {l:List (Nat × β)},lk l a=some v→lk (zet a x l) a=some x
 | [],h=>by cases h
 | (s,y)::r,h=>by
  unfold zet
  split
  ·grind [lk]
  ·rename_i e
   unfold lk at h ⊢
   rw [e] at h ⊢
   exact zid h
theorem zie {β:Type} {a t:Nat} {x:β} (hn:t≠a):∀ {l:List (Nat × β)},lk (zet a x l) t=lk l t
 | []=>rfl
 | (s,y)::r=>by
  unfold zet
  split
  ·grind [yag,lk]
  ·unfold lk
   rw [zie hn]
theorem z9k {β:Type} {a t:Nat} {x v:β} {l:List (Nat × β)} (h:lk (z9d a l) t=some v):lk (z9d a (zet a x l)) t=some v:=by
 grind [z4d,zah,zie]
theorem zrx {key E:Nat} {k:St→Prop} (h:Rl z σ V w O φ α) (hw:σ.born key E k):∃ s α',Rl z s V w O φ α'∧k s:=by
 obtain ⟨s,e1,hw⟩:=zc hw
 obtain ⟨α',h2⟩:=z6o _ h e1
 split at hw
 ·rename_i e2
  exact ⟨_,α',za5 h2 e2 fun u hu=>by grind [VR],hw⟩
 grind
theorem OW.panD {ds:List Deferred} {x:Operand} {T:TypeId} {u:Value} (hg:o.guard=none) (ho:o.op = .panic x) (hx:Lk.ev V x=some (.iface T u)) (h:∀ a,Has n V a→a.defers=ds→PN C a [{ v:=.iface T u,recovered:=false }] w):OW C n ds ops (o::rest) K V w:=fun a ha hds =>
 wpList_plain hg fun K hK=>by
  have hr:(execOp a.eval o).run C.P w = .halt (.panic (.iface T u)) w:=by simp [execOp,ho,ha.ev hx,Instr.panic]
  unfold Oper.wp
  rw [hr,Oper.upon_panic]
  exact h a ha hds
set_option maxRecDepth 100000 in
theorem zhq {ds:List Deferred} {tb:Tb} {cty:List (Nat × List (Option (Nat × Nat)))} {k:St→Prop} (ht:TbOk C.P tb) (hg:o.guard=none) (hn:dOk n o.dst=true) (h:Rl z σ V w O φ α) (hs:∀ x,z.O x→O x)
  (hk:∀ s,k s→NX z C n ds ops rest K s) (hw:actM tb cty σ o k):OW C n ds ops (o::rest) K V w:=by
 unfold actM at hw
 split at hw
 case h_1 =>
  rename_i t ho
  replace hw:=zc hw
  obtain ⟨d,hd,hw⟩:=hw
  rw [hd] at hn
  split at hw
  ·replace hw:=zc hw
   obtain ⟨ky,h1,hw⟩:=hw
   replace hw:=zc hw
   obtain ⟨s,h2,hw⟩:=hw
   split at hw
   ·rename_i hf
    refine OW.val (v:=.map (some w.heap.size)) (w':=w.alloc (.map #[] 0)) hg hd hn (fun a ha=>by simp [execOp,ho,Instr.makeMap]) ?_
    have hx:Ext z14 w (w.alloc (.map #[] 0)):=Ext.alloc _ _ _
    refine hk _ hw _ _ ⟨_,_,_,h.newBG (T:=1000000) (us:=[zyv []]) hf (.inr (.inl ⟨by omega,by omega,#[],0,heap_alloc_new w _,Stamped.nil,rfl⟩)) hx (yai _) ⟨_,[],rfl,⟨[],rfl,trivial⟩,rfl⟩ ⟨trivial,trivial⟩ (by simp [VR,ren]),fun y hy => .inr (hs y hy)⟩
   grind
  grind
 case h_2 =>
  rename_i t x y v ho
  split at hw
  ·rename_i hd
   split at hw
   ·rename_i kt et hu
    replace hw:=zc hw
    obtain ⟨ky,h1,hw⟩:=hw
    replace hw:=zc hw
    obtain ⟨s,h2,hw⟩:=hw
    replace hw:=zc hw
    obtain ⟨v0,h3,hw⟩:=hw
    replace hw:=zc hw
    obtain ⟨σ',h4,hw⟩:=hw
    replace hw:=zc hw
    obtain ⟨u,h5,hw⟩:=hw
    replace hw:=zc hw
    obtain ⟨kv,h6,hw⟩:=hw
    replace hw:=zc hw
    obtain ⟨v',h7,hw⟩:=hw
    replace hw:=zc hw
    obtain ⟨kd,h8,hw⟩:=hw
    replace hw:=zc hw
    obtain ⟨vd,h9,hw⟩:=hw
    replace hw:=zc hw
    obtain ⟨m,h10,hw⟩:=hw
    split at hw
    ·rename_i hq
     obtain ⟨l,h11,hw⟩:=hw
     cases h11
     obtain ⟨k1,k2,_,_⟩:=z1u _ h hs h4
     obtain ⟨rfl,e,e1,e2,e3⟩:=z86 h10
     obtain ⟨td,h12,h13⟩:=ya.1 h1
     obtain ⟨xu,hx1,hx2⟩:=k1.ev h5
     obtain ⟨yu,hy1,hy2⟩:=k1.ev h6
     obtain ⟨vu,hv1,hv2⟩:=k1.ev h7
     subst hx2
     obtain ⟨es,clock,m1,m2,m3⟩:=k1.zcs e1 e2 e3
     obtain ⟨q1,q2⟩:=toKey_ok h8 hy2
     have hkt:C.P.underlying kt=some (kdT ky):=by rw [ht.und _ _ h12,zcp h13]
     obtain ⟨es',clock',w',r1,r2,r3,r4,r5⟩:=zcy (ht.und _ _ hu) hkt m1 m2 m3 q1 q2 (zpn hq h9 hv2)
     refine OW.unit (w':=w') hg hd (fun a ha => ?_) ?_
     ·simp only [execOp,ho,ha.ev hx1,ha.ev hy1,ha.ev hv1,Sem.run_bind,r1,Result.andThen_ok]
      rfl
     ·have hT:=k1.zok (e:=e) (us:=[zyv es'.toList]) (cs:=[.md (.cont ky s.1 (z9w m.2 kd vd))]) e1 (by exact .inr (.inl ⟨by omega,by omega,es',clock',r2,r3,rfl⟩)) r5 ⟨_,[],rfl,⟨_,rfl,r4⟩,rfl⟩ (rfl:m.1=m.1)
      rw [e3] at hT
      exact hk _ hw _ _ ⟨_,_,_,hT,k2⟩
    grind
   grind
  grind
 case h_3 =>
  rename_i t x y v ho
  split at hw
  ·rename_i hd
   split at hw
   ·rename_i kt et hu
    replace hw:=zc hw
    obtain ⟨ky,h1,hw⟩:=hw
    replace hw:=zc hw
    obtain ⟨s,h2,hw⟩:=hw
    replace hw:=zc hw
    obtain ⟨v0,h3,hw⟩:=hw
    replace hw:=zc hw
    obtain ⟨σ',h4,hw⟩:=hw
    replace hw:=zc hw
    obtain ⟨u,h5,hw⟩:=hw
    replace hw:=zc hw
    obtain ⟨kv,h6,hw⟩:=hw
    replace hw:=zc hw
    obtain ⟨v',h7,hw⟩:=hw
    replace hw:=zc hw
    obtain ⟨kd,h8,hw⟩:=hw
    replace hw:=zc hw
    obtain ⟨vd,h9,hw⟩:=hw
    replace hw:=zc hw
    obtain ⟨m,h10,hw⟩:=hw
    split at hw
    ·rename_i hq
     obtain ⟨l,h11,hw⟩:=hw
     cases h11
     obtain ⟨k1,k2,_,_⟩:=z1u _ h hs h4
     obtain ⟨rfl,e,e1,e2,e3⟩:=z86 h10
     obtain ⟨td,h12,h13⟩:=ya.1 h1
     obtain ⟨xu,hx1,hx2⟩:=k1.ev h5
     obtain ⟨yu,hy1,hy2⟩:=k1.ev h6
     obtain ⟨vu,hv1,hv2⟩:=k1.ev h7
     subst hx2
     obtain ⟨es,clock,m1,m2,m3⟩:=k1.zcs e1 e2 e3
     obtain ⟨q1,q2⟩:=toKey_ok h8 hy2
     have hkt:C.P.underlying kt=some (kdT ky):=by rw [ht.und _ _ h12,zcp h13]
     obtain ⟨es',clock',w',r1,r2,r3,r4,r5⟩:=zcy (ht.und _ _ hu) hkt m1 m2 m3 q1 q2 (zpn hq h9 hv2)
     refine OW.unit (w':=w') hg hd (fun a ha => ?_) ?_
     ·simp only [execOp,ho,ha.ev hx1,ha.ev hy1,ha.ev hv1,Sem.run_bind,r1,Result.andThen_ok]
      rfl
     ·have hT:=k1.zok (e:=e) (us:=[zyv es'.toList]) (cs:=[.md (.cont ky s.1 (z9w m.2 kd vd))]) e1 (by exact .inr (.inl ⟨by omega,by omega,es',clock',r2,r3,rfl⟩)) r5 ⟨_,[],rfl,⟨_,rfl,r4⟩,rfl⟩ (rfl:m.1=m.1)
      rw [e3] at hT
      exact hk _ hw _ _ ⟨_,_,_,hT,k2⟩
    grind
   grind
  grind
 case h_4 =>
  rename_i t x y c ho
  replace hw:=zc hw
  obtain ⟨d,hd,hw⟩:=hw
  rw [hd] at hn
  split at hw
  ·rename_i kt et hu
   replace hw:=zc hw
   obtain ⟨ky,h1,hw⟩:=hw
   replace hw:=zc hw
   obtain ⟨⟨g,nn⟩,h2,hw⟩:=hw
   replace hw:=zc hw
   obtain ⟨zz,h3,hw⟩:=hw
   replace hw:=zc hw
   obtain ⟨u,h5,hw⟩:=hw
   replace hw:=zc hw
   obtain ⟨kv,h6,hw⟩:=hw
   replace hw:=zc hw
   obtain ⟨kd,h8,hw⟩:=hw
   replace hw:=zc hw
   obtain ⟨zd,h9,hw⟩:=hw
   replace hw:=zc hw
   obtain ⟨m,h10,hw⟩:=hw
   split at hw
   ·rename_i hq
    obtain ⟨dd,h11,hw⟩:=hw
    cases h11
    replace hw:=zc hw
    obtain ⟨r,h12,hw⟩:=hw
    obtain ⟨rfl,e,e1,e2,e3⟩:=z86 h10
    obtain ⟨td,h14,h13⟩:=ya.1 h1
    obtain ⟨xu,hx1,hx2⟩:=h.ev h5
    obtain ⟨yu,hy1,hy2⟩:=h.ev h6
    subst hx2
    obtain ⟨es,clock,m1,m2,m3⟩:=h.zcs e1 e2 e3
    obtain ⟨q1,q2⟩:=toKey_ok h8 hy2
    have hkt:C.P.underlying kt=some (kdT ky):=by rw [ht.und _ _ h14,zcp h13]
    obtain ⟨v,ok,r1,r2⟩:=zt9 (ht.und _ _ hu) hkt (ht.zer _ _ h3) m1 m3 q1 q2 c
    have hv:zts w O g (zju m.2 kd zd) v∧ok=zm2 m.2 kd:=by
     rcases r2 with ⟨r3,rfl,rfl⟩|⟨ds',r3,r4,rfl⟩
     ·simp only [zju,zm2,r3,and_true]
      exact zpn hq h9 (zii (φ:=φ) (α:=α) _)
     ·simp_all [zju,zm2]
    have hr:=zhr (φ:=φ) (α:=α) h12 hv.1
    refine OW.val (w':=w) hg hd hn (fun a ha=>by
     simp only [execOp,ho,ha.ev hx1,ha.ev hy1,Sem.run_bind,r1,Result.andThen_ok]
     rfl) ?_
    split at hw
    ·exact hk _ hw _ _ ⟨_,_,_,h.zne hr,hs⟩
    ·obtain ⟨b,h15,hw⟩:=hw
     cases h15
     exact hk _ hw _ _ ⟨_,_,_,h.zne (v:=.tup [r,.bool _]) ⟨[v,.bool ok],rfl,v,_,rfl,hr,_,[],rfl,by rw [hv.2];rfl,rfl⟩,hs⟩
   grind
  grind
 case h_5 =>
  rename_i t x ho
  replace hw:=zc hw
  obtain ⟨d,hd,hw⟩:=hw
  rw [hd] at hn
  split at hw
  ·rename_i kt et hu
   replace hw:=zc hw
   obtain ⟨ky,h1,hw⟩:=hw
   replace hw:=zc hw
   obtain ⟨⟨g,nn⟩,h2,hw⟩:=hw
   replace hw:=zc hw
   obtain ⟨u,h5,hw⟩:=hw
   replace hw:=zc hw
   obtain ⟨m,h10,hw⟩:=hw
   split at hw
   ·rename_i hf
    rw [yc] at hf
    have hf1:=yah hf.1
    obtain ⟨rfl,e,e1,e2,e3⟩:=z86 h10
    obtain ⟨xu,hx1,hx2⟩:=h.ev h5
    subst hx2
    obtain ⟨es,clock,m1,m2,m3⟩:=h.zcs e1 e2 e3
    have hd2:=h.dropB e1
    have td:Tr O w (fun x=>O x∧x≠φ m.1) w:=Tr.drop w fun x hx=>hx.1
    refine OW.val (w':=w.alloc (.mapIter (some (φ m.1)) clock #[] clock)) hg hd hn (fun a ha=>by
     simp only [execOp,ho,ha.ev hx1,Sem.run_bind,zxg (ht.und _ _ hu) m1,Result.andThen_ok]
     rfl) ?_
    have hx:Ext z14 w (w.alloc (.mapIter (some (φ m.1)) clock #[] clock)):=Ext.alloc _ _ _
    have hl:zeh es.toList (#[]:Array Nat).toList=es.toList:=by simp [zeh]
    refine hk _ hw _ _ ⟨_,_,_,hd2.newB (T:=2000000) (us:=[encI (φ m.1) clock (#[]:Array Nat).toList clock]) hf.2 (.inr (.inr ⟨by omega,φ m.1,clock,#[],clock,heap_alloc_new w _,rfl⟩)) hx (yai _)
     ⟨_,[],rfl,⟨φ m.1,#[],clock,es,rfl,⟨m1,m2,fun q=>q.2 rfl⟩,by rw [hl];exact m3.tr td,trivial⟩,rfl⟩ ⟨trivial,trivial⟩,fun y hy => .inr ⟨hs y hy,fun q => ?_⟩⟩
    have h3:=z.hB y hy
    rcases h.bF _ e e1 with h4|h4
    ·omega
    ·omega
   grind
  grind
 case h_6 =>
  rename_i x ho
  replace hw:=zc hw
  obtain ⟨d,hd,hw⟩:=hw
  rw [hd] at hn
  replace hw:=zc hw
  obtain ⟨u,h5,hw⟩:=hw
  split at hw
  ·rename_i b off
   replace hw:=zc hw
   obtain ⟨e,e1,hw⟩:=hw
   split at hw
   ·rename_i ky g cur rem hc
    split at hw
    ·rename_i hT
     rw [yc] at hT
     have hoff:=yag hT.1
     subst hoff
     have hT:=yag hT.2
     obtain ⟨xu,hx1,hx2⟩:=h.ev h5
     subst hx2
     obtain ⟨_,us,i1,i2⟩:=h.box b e e1
     obtain ⟨mm,since,seen,last,i3,rfl⟩:=i1.iter (by omega)
     rw [hc] at i2
     obtain ⟨uu,us',j1,j2,j3⟩:=i2
     cases j1
     obtain ⟨m',seen',clock',es,j4,⟨j5,j6,j7⟩,j8,j9⟩:=j2
     obtain ⟨p1,p2,j10,p4⟩:=zqd j4
     subst p1 p2 p4
     have j10:seen=seen':=yao.1 j10
     subst j10
     rcases zz00s (P:=C.P) (ty:=o.type) j5 i3 j6.1 with ⟨r1,r2⟩|⟨i,en,r1,w',r2,r3,r4⟩
     ·rw [r1] at j8
      have hrem:rem=[]:=by
       cases rem with
       | nil=>rfl
       | cons _ _=>exact j8.elim
      refine OW.val (v:=.tuple #[.bool false]) (w':=w) hg hd hn (fun a ha=>by
       simp only [execOp,ho,ha.ev hx1,yaa,Sem.run_bind,r2,Result.andThen_ok]
       rfl) (hk _ (hw.1 hrem) _ _ ⟨_,_,_,h.zne (v:=.tup [.bool false]) ⟨[.bool false],rfl,_,[],rfl,rfl,rfl⟩,hs⟩)
     ·obtain ⟨xx,r5,r6⟩:=j8.get r1
      have hT2:=h.zok (e:=e) (us:=[encI mm last (seen.push en.born).toList last]) (cs:=[.md (.it ky g (some xx) (rem.eraseIdx i))]) e1 (by exact .inr (.inr ⟨by omega,mm,last,_,last,r3,rfl⟩)) r2
       ⟨_,[],rfl,⟨mm,seen.push en.born,last,es,rfl,⟨j5,j6,j7⟩,by rw [zso j6.2.1 r1];exact j8.erase i,en.born,en,by simp,find_born en _ j6.2.1 ?_,r6⟩,rfl⟩ (rfl:b=b)
      ·rw [hT] at hT2
       exact OW.val (v:=.tuple #[.bool true,en.key,en.val]) (w':=w') hg hd hn (fun a ha=>by
        simp only [execOp,ho,ha.ev hx1,yaa,Sem.run_bind,r4,Result.andThen_ok]
        rfl) (hk _ (hw.2 i xx r5) _ _ ⟨_,_,_,hT2.zne (v:=.tup [.bool true,.undef,.undef]) ⟨[.bool true,en.key,en.val],rfl,_,_,rfl,rfl,_,_,rfl,trivial,_,[],rfl,trivial,rfl⟩,hs⟩)
      ·have:=yw r1
       exact (yt.1 this).1
    grind
   grind
  grind
 case h_7 =>
  rename_i x ho
  replace hw:=zc hw
  obtain ⟨d,hd,hw⟩:=hw
  rw [hd] at hn
  replace hw:=zc hw
  obtain ⟨u,h5,hw⟩:=hw
  split at hw
  ·rename_i b off
   replace hw:=zc hw
   obtain ⟨e,e1,hw⟩:=hw
   split at hw
   ·rename_i ky g kd dd rem hc
    split at hw
    ·rename_i hT
     rw [yc] at hT
     have hoff:=yag hT.1
     subst hoff
     have hT:=yag hT.2
     replace hw:=zc hw
     obtain ⟨r,h12,hw⟩:=hw
     obtain ⟨xu,hx1,hx2⟩:=h.ev h5
     subst hx2
     obtain ⟨_,us,i1,i2⟩:=h.box b e e1
     obtain ⟨mm,since,seen,last,i3,rfl⟩:=i1.iter (by omega)
     rw [hc] at i2
     obtain ⟨uu,us',j1,j2,j3⟩:=i2
     cases j1
     obtain ⟨m',seen',clock',es,j4,⟨j5,j6,j7⟩,j8,bb,en,j9,j11,kk,dd',j12,j13,j14,j15⟩:=j2
     obtain ⟨p1,p2,j10,p4⟩:=zqd j4
     subst p1 p2 p4
     have j10:seen=seen':=yao.1 j10
     subst j10
     cases j12
     refine OW.val (v:=.tuple #[en.key,en.val]) (w':=w) hg hd hn (fun a ha=>by
      simp only [execOp,ho,ha.ev hx1,yaa,Sem.run_bind,zxd j5 i3 j9 j11,Result.andThen_ok]
      rfl) (hk _ hw _ _ ⟨_,_,_,h.zne (v:=.tup [ofD kd,r]) ⟨[en.key,en.val],rfl,_,_,rfl,zwj j14,_,[],rfl,zhr h12 j15,rfl⟩,hs⟩)
    grind
   grind
  grind
 case h_8 =>
  rename_i c ho
  obtain ⟨cal,cargs,cty'⟩:=c
  simp only at hw
  split at hw
  ·rename_i x y t tr ea et
   split at hw
   ·rename_i hd
    split at hw
    ·rename_i kt et' hu
     replace hw:=zc hw
     obtain ⟨ky,h1,hw⟩:=hw
     replace hw:=zc hw
     obtain ⟨s,h2,hw⟩:=hw
     replace hw:=zc hw
     obtain ⟨u,h5,hw⟩:=hw
     replace hw:=zc hw
     obtain ⟨kv,h6,hw⟩:=hw
     replace hw:=zc hw
     obtain ⟨kd,h8,hw⟩:=hw
     replace hw:=zc hw
     obtain ⟨m,h10,hw⟩:=hw
     obtain ⟨l,h11,hw⟩:=hw
     cases h11
     have ea:cargs = #[x,y]:=by apply yao.1;simpa using ea
     subst ea
     obtain ⟨rfl,e,e1,e2,e3⟩:=z86 h10
     obtain ⟨td,h12,h13⟩:=ya.1 h1
     obtain ⟨xu,hx1,hx2⟩:=h.ev h5
     obtain ⟨yu,hy1,hy2⟩:=h.ev h6
     subst hx2
     obtain ⟨es,clock,m1,m2,m3⟩:=h.zcs e1 e2 e3
     obtain ⟨q1,q2⟩:=toKey_ok h8 hy2
     have hkt:C.P.underlying kt=some (kdT ky):=by rw [ht.und _ _ h12,zcp h13]
     have h0:cty'[0]? = some t:=by rw [←Array.getElem?_toList,et];rfl
     obtain ⟨es',clock',w',r1,r2,r3,r4,r5⟩:=zt7 (ty:=o.type) (ht.und _ _ hu) hkt m1 m2 m3 q1 q2 h0
     have hT:=h.zok (e:=e) (us:=[zyv es'.toList]) (cs:=[.md (.cont ky s.1 (zhf m.2 kd))]) e1 (by exact .inr (.inl ⟨by omega,by omega,es',clock',r2,r3,rfl⟩)) r5 ⟨_,[],rfl,⟨_,rfl,r4⟩,rfl⟩ (rfl:m.1=m.1)
     rw [e3] at hT
     refine OW.valN (v:=.tuple #[]) (w':=w') hg hd (fun a ha => ?_) (hk _ hw _ _ ⟨_,_,_,hT,hs⟩)
     simp [execOp,ho,resolve,invoke,builtin,ha.ev hx1,ha.ev hy1,r1]
    grind
   grind
  grind
 grind
set_option maxRecDepth 100000 in
theorem ztw {ds:List Deferred} {tb:Tb} {cty:List (Nat × List (Option (Nat × Nat)))} {ann:Ann} {con:Nat→CIn→z3x→Prop} {k:St→Prop} {kp:PV→St→Prop} (ht:TbOk C.P tb) (hg:o.guard=none) (hn:dOk n o.dst=true) (h:Rl z σ V w O φ α) (hs:∀ x,z.O x→O x)
  (hk:∀ s,k s→NX z C n ds ops rest K s) (hp:∀ v s,kp v s→zar z C n ds v s)
  (hc:∀ c x vs f as_ cs,o.op = .call c→c.callee = .value x→σ.evs c.args.toList=some vs→σ.ev x=some (.fn f as_ cs)→ziv con σ f (as_++vs++cs) (fun v σ=>k (σ.put o.dst v)) kp→OW C n ds ops (o::rest) K V w)
  (hw:act tb cty ann con σ o k kp):OW C n ds ops (o::rest) K V w:=by
 unfold act at hw
 split at hw
 case h_1 =>
  rename_i T ho
  replace hw:=zc hw
  obtain ⟨d,hd,hw⟩:=hw
  replace hw:=zc hw
  obtain ⟨zz,h1,hw⟩:=hw
  split at hw
  ·rename_i hb
   rw [yc] at hb
   obtain ⟨hb,hT⟩:=hb
   have hT:T<1000000:=by simpa [yaf] using hT
   rw [hd] at hn
   have hz:=zm9 (w:=w) (O:=O) (φ:=φ) (α:=α) zz
   refine OW.alloc hg hd hn ho (ht.zer _ _ h1) (cs:=zz.cells.toList) (by simp) fun b w' hbx x hsz => ?_
   have hnew:=h.newB (d:=d) hb (.inl ⟨hT,hbx⟩) x hsz hz (zkv (zwk zz))
   split at hw
   ·exact hk _ hw _ _ ⟨_,_,_,hnew,fun y hy => .inr (hs y hy)⟩
   ·obtain ⟨s,α',k1,k2⟩:=zrx hnew hw
    exact hk _ k2 _ _ ⟨_,_,_,k1,fun y hy => .inr (hs y hy)⟩
  grind
 case h_2 =>
  rename_i T x ho
  replace hw:=zc hw
  obtain ⟨d,hd,hw⟩:=hw
  replace hw:=zc hw
  obtain ⟨v,h1,hw⟩:=hw
  split at hw
  ·replace hw:=zc hw
   obtain ⟨ds',hds,hw⟩:=hw
   split at hw
   ·rw [hd] at hn
    obtain ⟨u,h2,h3⟩:=h.ev h1
    have hz:=h3.cells (by grind)
    have hrd:=toDs_ok hds hz
    refine OW.box hg hd hn ho h2 (cs:=u.cells.toList) (by simp) fun b w' hbx x hsz => ?_
    have k4:=h.zm3 x
    have t:Tr O w O w':=Tr.z5n x fun _ _ hh=>hh.elim
    have hnb:¬O b:=fun hO=>by have:=h.bd b hO;omega
    refine hk _ hw _ _ ⟨_,_,_,k4.zne (v:=.zbc ds' 0) ⟨b,0,by simp,u.cells.toList,(RDs.len hrd),⟨hnb,_,_,_,hbx,fun j y hj=>by grind⟩,hrd.tr t⟩,hs⟩
   grind
  split at hw
  ·rename_i hb
   simp only [yc] at hb
   obtain ⟨hb,hT⟩:=hb
   have hT:T<1000000:=by simpa [yaf] using hT
   rw [hd] at hn
   obtain ⟨u,h2,h3⟩:=h.ev h1
   have hz:=h3.cells (by grind)
   refine OW.box hg hd hn ho h2 (cs:=u.cells.toList) (by simp) fun b w' hbx x hsz => ?_
   exact hk _ hw _ _ ⟨_,_,_,h.newB hb.1 (.inl ⟨hT,hbx⟩) x hsz hz (zkv (zz07b (zbg hb.1).2.1 h1)),fun y hy => .inr (hs y hy)⟩
  grind
 case h_3 =>
  rename_i T x y ho
  split at hw
  ·rename_i hd
   replace hw:=zc hw
   obtain ⟨⟨g,m⟩,h1,hw⟩:=hw
   split at hw
   ·rename_i d hro
    obtain rfl:_=Operand.tmp d:=zxa hro
    replace hw:=zc hw
    obtain ⟨v0,_,hw⟩:=hw
    replace hw:=zc hw
    obtain ⟨σ',h6,hw⟩:=hw
    obtain ⟨k1,k2,_,_⟩:=z1u _ h hs h6
    replace hw:=zc hw
    obtain ⟨u,h2,hw⟩:=hw
    replace hw:=zc hw
    obtain ⟨v,h3,hw⟩:=hw
    obtain ⟨a,h4,h5⟩:=k1.env d u h2
    split at hw
    ·rename_i b off
     replace hw:=zc hw
     obtain ⟨e,h7,hw⟩:=hw
     replace hw:=zc hw
     obtain ⟨ds,h8,hw⟩:=hw
     obtain ⟨h7,h7T⟩:=z8w h7
     split at hw
     ·rename_i hb
      simp only [yc] at hb
      obtain ⟨⟨⟨⟨⟨hb1,hb2⟩,hb3⟩,hb4⟩,hb5⟩,hb6⟩:=hb
      have hb1:=yag hb1
      have hb2:=yah hb2
      have hb3:=yag hb3
      have hb4:=yag hb4
      subst hb1
      obtain ⟨c,h9,h10⟩:=k1.ev h3
      have hu:z5c v=false:=by
       cases v<;>first|rfl|grind [cellsOf,ztr]
      have h11:=h10.cells hu
      have l11:=VRs.len h11
      have h12:=toDs_ok h8 h11
      have l12:=RDs.len h12
      obtain ⟨hOb,us,h13,h14⟩:=k1.box b e h7
      have h13:=h13.un h7T
      have l14:=VRs.len h14
      subst h5
      refine OW.store hg hd ho (ht.shp _ _ h1) h4 h9 (vs:=c.cells.toList) (by simp) (by omega) h13 (by simp_all) (VRs.zst h11 hb5) rfl fun w' hbx x => ?_
      have ecs:us.take 0++c.cells.toList++us.drop (0+m)=c.cells.toList:=by
       rw [List.drop_eq_nil_of_le (by omega)]
       simp
      rw [l11,hb4,ecs] at hbx
      have t:Tr _ w _ w':=Tr.z5n (O:=zbw O α (lk σ.A) (zcx v0)) x fun y _ hy=>by cases hy;exact hOb
      have T1:=k1.zok h7 (.inl ⟨h7T,hbx⟩) x h11 (rfl:b=b)
      have T2:=T1.dropB (b:=b) (e:=⟨e.T,cellsOf v⟩) (zid h7)
      have hz:∀ y,z.O y→y≠φ b:=fun y hy q=>by
       have h3:=z.hB y hy
       rcases k1.bF _ _ h7 with h4|h4
       ·omega
       ·omega
      refine hk _ hw _ _ ⟨_,φ,α,⟨fun tt vv hv => ?_,fun bb ee he=>T2.box bb ee (z9k he),T2.arr,fun p q e1 e2 h1 h2=>T2.bb p q e1 e2 (z9k h1) (z9k h2),T2.aa,fun a p e1 e2 h1 h2=>T2.ab a p e1 e2 h1 (z9k h2),fun p e1 h1=>T2.bF p e1 (z9k h1),T2.aF,T2.bd,T2.ext,T2.only,T2.gl,T2.keep⟩,fun y hy=>⟨k2 y hy,hz y hy⟩⟩
      rcases z4c hv with ⟨rfl,rfl⟩|⟨hne,hv⟩
      ·refine ⟨_,h4,φ b,0,rfl,c.cells.toList,by omega,⟨fun hh=>hh.2 rfl,_,_,_,hbx,fun j y hj=>by grind⟩,?_⟩
       exact (h12.tr t).tr (Tr.drop w' fun y hy=>hy.1)
      ·exact T2.env tt vv hv
     grind
    grind
   replace hw:=zc hw
   obtain ⟨u,h2,hw⟩:=hw
   replace hw:=zc hw
   obtain ⟨v,h3,hw⟩:=hw
   obtain ⟨a,h4,h5⟩:=h.ev h2
   split at hw
   ·rename_i b off
    replace hw:=zc hw
    obtain ⟨e,h6,hw⟩:=hw
    obtain ⟨h6,h6T⟩:=z8w h6
    replace hw:=zc hw
    obtain ⟨cs2,hcs,hw⟩:=hw
    unfold stC at hcs
    split at hcs
    ·rename_i hb
     cases hcs
     simp only [yc] at hb
     obtain ⟨⟨hb1,hb2⟩,hb3⟩:=hb
     have hb1:=yag hb1
     obtain ⟨c,h7,h8⟩:=h.ev h3
     have hu:z5c v=false:=by
      cases v<;>first|rfl|grind [cellsOf,ztr]
     have h9:=h8.cells hu
     have l9:=VRs.len h9
     obtain ⟨_,us,h10,h11⟩:=h.box b e h6
     have h10:=h10.un h6T
     have l11:=VRs.len h11
     subst h5
     refine OW.store hg hd ho (ht.shp _ _ h1) h4 h7 (vs:=c.cells.toList) (by simp) (by omega) h10 (by grind) (VRs.zst h9 hb3) rfl fun w' hbx x => ?_
     refine hk _ hw _ _ ⟨_,_,_,h.zok h6 (.inl ⟨h6T,hbx⟩) x ?_ (rfl:b=b),hs⟩
     rw [l9,hb1]
     exact ((VRs.take off h11).append h9).append (VRs.drop _ h11)
    ·cases hcs
   ·rename_i ak am ai
    replace hw:=zc hw
    obtain ⟨σ',h6,hw⟩:=hw
    replace hw:=zc hw
    obtain ⟨e,h7,hw⟩:=hw
    replace hw:=zc hw
    obtain ⟨v',h8,hw⟩:=hw
    replace hw:=zc hw
    obtain ⟨ds,h9,hw⟩:=hw
    split at hw
    ·rename_i hb
     simp only [yc] at hb
     obtain ⟨⟨⟨hb1,hb2⟩,hb3⟩,hb4⟩:=hb
     have hb1:=yag hb1
     have hb2:=yag hb2
     have hb3:=yag hb3
     obtain ⟨l,h10,hw⟩:=hw
     obtain ⟨k1,k2,k3,_⟩:=z1u _ h hs h6
     obtain ⟨c,h11,h12⟩:=k1.ev h8
     have hu:z5c v'=false:=by
      cases v'<;>first|rfl|grind [cellsOf,ztr]
     have h13:=h12.cells hu
     have h14:=toDs_ok h9 h13
     have l14:=RDs.len h14
     obtain ⟨b,len,cap,j,h15,h16,h17⟩:=h5
     have hjl:l=e.l.set j ds∧j<e.l.length:=by
      refine ⟨zxj h10 h16,?_⟩
      unfold Go.Lk.setx at h10
      split at h10
      ·omega
      ·cases h10
     obtain ⟨rfl,hj⟩:=hjl
     have h7U:=z7g h7
     have h7:=h7U.1
     rcases h7U.2 with h7T|h7T
     case inr =>
      have ho':=(k1.arr ak e h7).mk_ h7T
      exact OW.zz08y (m:=e.n) (b:=b) (j:=j) hg hd ho (by rw [←hb2];exact ht.shp _ _ h1) (by grind) h11 (vs:=c.cells.toList) (by simp) (by omega) h15 ho' hj (VRs.zst h13 hb4) h14 fun w' hown x =>
       hk _ hw _ _ ⟨_,_,_,k1.zz02m h7 (.inr (.inr ⟨h7T,hown⟩)) x,k2⟩
     have ho':=(k1.arr ak e h7).un h7T
     refine OW.zz08x (f:=id) (l:=e.l) (a:=ds) (m:=e.n) (b:=b) (q:=0) (j:=j) hg hd ho (by rw [←hb2];exact ht.shp _ _ h1) (by grind) h11 (vs:=c.cells.toList) (by simp) (by omega) h15 (by simpa using ho') hj (VRs.zst h13 hb4) h14 fun w' hown x => ?_
     exact hk _ hw _ _ ⟨_,_,_,k1.zz02m h7 (.inl ⟨h7T,by simp_all⟩) x,k2⟩
    grind
   grind
  grind
 case h_4 =>
  rename_i t len parts ho
  replace hw:=zc hw
  obtain ⟨d,hd,hw⟩:=hw
  rw [hd] at hn
  split at hw
  ·rename_i e he
   replace hw:=zc hw
   obtain ⟨us0,_,hw⟩:=hw
   replace hw:=zc hw
   obtain ⟨σ',h2,hw⟩:=hw
   replace hw:=zc hw
   obtain ⟨us,h3,hw⟩:=hw
   replace hw:=zc hw
   obtain ⟨⟨g,m⟩,h4,hw⟩:=hw
   replace hw:=zc hw
   obtain ⟨zz,h5,hw⟩:=hw
   replace hw:=zc hw
   obtain ⟨ds,h6,hw⟩:=hw
   split at hw
   ·rename_i hb
    simp only [yc] at hb
    obtain ⟨⟨⟨⟨⟨⟨b1,b2⟩,b3⟩,b4⟩,b5⟩,b6⟩,b7⟩:=hb
    have b2:=yag b2
    have b3:=yag b3
    have b5:=yah b5
    obtain ⟨k1,k2,k3,_⟩:=z1u _ h hs h2
    obtain ⟨xs,h7,h8⟩:=k1.evs h3
    have l8:=VRs.len h8
    have lp:parts.toList.length=us.length:=by
     have:∀ {l:List Operand} {r:List PV},σ'.evs l=some r→r.length=l.length:=by
      intro l
      induction l with
      | nil=>intro r hr;cases hr;rfl
      | cons q l ih =>
       grind [St.evs]
     simpa using (this h3).symm
    obtain ⟨cs,h9,h10,h11,h12⟩:=zi4 b1 (by grind) h8 b6 h6 b7
    have lz:((parts.toList.map (·.1)).zip xs).length=len:=by
     rw [List.length_zip,List.length_map,l8,lp]
     omega
    have hml:len≤maxLen:=by unfold maxLen;omega
    have hd12:ds.length=len:=by omega
    refine OW.buildSlice hg hd hn ho (ht.und _ _ he) (ht.shp _ _ h4) (ht.zer _ _ h5) b3 (zke h7) h9 lz b4 fun b w' hbx x hsz => ?_
    split at hw
    ·split at hw
     ·rename_i hf
      rw [yc] at hf
      exact hk _ hw _ _ ⟨_,_,_,k1.newAN (by simp_all) hf.1 hbx x hsz hd12 hml (by rw [h11,b2]) h10,fun y hy => .inr (k2 y hy)⟩
     grind
    ·have k4:=k1.zm3 x
     have t:Tr _ w _ w':=Tr.z5n (O:=zbw O α (lk σ.A) (zcx.go us0)) x fun _ _ hh=>hh.elim
     exact hk _ hw _ _ ⟨_,_,_,k4.zne (v:=.sl e m ds) (RD.z9x hbx k1.bd hsz hd12 hml (by rw [h11,b2]) (h10.tr t)),k2⟩
   grind
  grind
 case h_5 =>
  rename_i x ho
  replace hw:=zc hw
  obtain ⟨v,h1,hw⟩:=hw
  split at hw
  ·obtain ⟨u,h2,h3⟩:=h.ev h1
   have h4:=h3
   obtain ⟨y,rfl,_⟩:=h4
   exact OW.panD hg ho h2 fun a ha hda=>hp _ _ hw _ _ _ _ _ _ _ _ h hs h3 a ha hda
  grind
 case h_6 =>
  rename_i s t x ho
  replace hw:=zc hw
  obtain ⟨d,hd,hw⟩:=hw
  rw [hd] at hn
  replace hw:=zc hw
  obtain ⟨v,h1,hw⟩:=hw
  obtain ⟨u,h2,h3⟩:=h.ev h1
  split at hw
  ·rename_i e e1 e2
   split at hw
   ·rename_i e3
    obtain ⟨c1,c2⟩:=zf4 hw
    subst h3
    split at c2
    ·split at c2
     ·rename_i hf
      refine OW.toBytesM (O:=O) hg hd hn ho (ht.und _ _ e1) (ht.und _ _ e2) (ht.und _ _ e3) h2 c1 fun v' w' x hb hsz hr => ?_
      have t:Tr O w (Ins O w.heap.size) w':=Tr.z9x x (fun _ _ hh=>hh.elim) (yai _)
      refine hk _ c2 _ _ ⟨_,_,_,h.newA (e:=⟨true,e+2000000,1,ztj _⟩) hf x t (fun y hy => .inr hy) (fun y hy => ?_) (fun y hy => ?_) (fun _ _ _ hh=>hh) (fun _ _ _ _ _ hh=>hh) (fun _ hh=>hh.elim) (.inr (.inr ⟨Nat.le_add_left _ _,?_⟩)) (fun y hy => ?_) (fun y hy => ?_),fun y hy => .inr (hs y hy)⟩
      ·rcases hy with rfl|hy
       ·omega
       ·have:=h.bd y hy;omega
      ·rcases hy with rfl|hy
       ·omega
       grind
      ·rw [yz]
       exact hr _ (.inl rfl)
      ·grind
      ·rw [hb] at hy
       cases hy
       exact .inr h.ext.size
     grind
    ·refine OW.toBytes hg hd hn ho (ht.und _ _ e1) (ht.und _ _ e2) (ht.und _ _ e3) h2 h.bd c1 fun v' w' x hr => ?_
     exact hk _ c2 _ _ ⟨_,_,_,(h.zm3 x).zne (v:=.sl e 1 (ztj _)) hr,hs⟩
   grind
  ·rename_i T l e e1 e2
   split at hw
   ·rename_i e3
    obtain ⟨str,c1,c2⟩:=hw
    obtain ⟨xs,rfl,rfl⟩:=zuj c1
    exact OW.toStr hg hd hn ho (ht.und _ _ e1) (ht.und _ _ e3) (ht.und _ _ e2) h2 h3 (hk _ c2 _ _ ⟨_,_,_,h.zne (v:=.str _) rfl,hs⟩)
   grind
  ·rename_i a e e1 e2
   replace hw:=zc hw
   obtain ⟨ar,h4,hw⟩:=hw
   split at hw
   ·rename_i e3 e4
    obtain ⟨str,c1,c2⟩:=hw
    obtain ⟨xs,c3,rfl⟩:=zuj c1
    obtain ⟨_,h5⟩:=(h.arr a ar (z7g h4).1).data (z7g h4).2
    rw [c3] at h5
    have hn1:=yag e4
    rw [hn1] at h5
    rw [←h3.1] at h5
    exact OW.toStr hg hd hn ho (ht.und _ _ e1) (ht.und _ _ e3) (ht.und _ _ e2) h2 h5 (hk _ c2 _ _ ⟨_,_,_,h.zne (v:=.str _) rfl,hs⟩)
   grind
  grind
 case h_7 =>
  rename_i c ho
  obtain ⟨cal,cargs,cty'⟩:=c
  simp only at hw
  split at hw
  ·rename_i x y ea
   replace hw:=zc hw
   obtain ⟨d,hd,hw⟩:=hw
   rw [hd] at hn
   replace hw:=zc hw
   obtain ⟨u,h1,hw⟩:=hw
   replace hw:=zc hw
   obtain ⟨v0,_,hw⟩:=hw
   split at hw
   ·rename_i t t2 et
    have ea:cargs = #[x,y]:=by apply yao.1;simpa using ea
    have et:cty' = #[t,t2]:=by apply yao.1;simpa using et
    subst ea et
    split at hw
    ·rename_i e he
     replace hw:=zc hw
     obtain ⟨⟨iz,im,ib⟩,h2,hw⟩:=hw
     replace hw:=zc hw
     obtain ⟨σ',h3,hw⟩:=hw
     replace hw:=zc hw
     obtain ⟨v,h4,hw⟩:=hw
     replace hw:=zc hw
     obtain ⟨l2,h5,hw⟩:=hw
     split at hw
     ·rename_i hb
      simp only [yc] at hb
      obtain ⟨⟨b1,b2⟩,b3⟩:=hb
      have b1:=yag b1
      obtain ⟨k1,k2,k3,_⟩:=z1u _ h hs h3
      obtain ⟨uy,h6,h7⟩:=k1.ev h4
      obtain ⟨ux,h8,h9⟩:=h.ev h1
      -- the step itself
      have step:∀ l r,Own w (zbw O α (lk σ.A) (zcx v0)) e im ux l→Go.Lk.app ib l l2=some r →
        (∀ v' w' O',Grew w (zbw O α (lk σ.A) (zcx v0)) e im ux w' O' v' r→OW C n ds ops rest K ((d,v')::V) w')→OW C n ds ops (o::rest) K V w:=by
       intro l r hown happ hnext
       obtain ⟨hr,hbig⟩:=zpx happ
       subst hr
       unfold apL at h5
       split at h5
       ·split at h5
        ·rename_i hq
         cases h5
         simp only [yc] at hq
         have q1:=yag hq.1
         have q2:=yag hq.2
         subst q1 q2
         exact OW.zu2 hg hd hn ho (ht.und _ _ he) (ht.inf _ _ h2) b1 b2 b3 h8 h6 hown k1.bd h7 hbig hnext
        ·cases h5
       ·split at h5
        ·rename_i hq
         cases h5
         have q1:=yag hq
         subst q1
         subst h7
         exact OW.zu2 hg hd hn ho (ht.und _ _ he) (ht.inf _ _ h2) b1 b2 b3 h8 h6 hown k1.bd (.inl ⟨⟨_,rfl⟩,rfl⟩) hbig hnext
        ·cases h5
       ·split at h5
        ·rename_i e5 e6
         cases e6
         subst h7
         refine OW.zz02z hg hd hn ho (ht.und _ _ he) (ht.und _ _ e5) (ht.inf _ _ h2) h8 h6 hown k1.bd (by grind [ztj,unb]) fun v' w' O' hG=>hnext v' w' O' ?_
         have e7:∀ q:List UInt8,ztj q=q.map zas:=fun q=>by simp [ztj,unb,zas,eI]
         grind
        ·cases h5
       ·cases h5
      split at hw
      ·split at hw
       ·rename_i hf
        rw [yc] at hf
        have hfT:e<1000000:=by simpa [yaf] using hf.2
        have hf:=hf.1
        obtain ⟨r,c1,c2⟩:=hw
        subst h9
        refine step [] r (Own.nil _ _ _ _) c1 fun v' w' O' hG=>hk _ c2 _ _ ⟨_,_,_,k1.newA hf hG.ext hG.tr hG.more hG.bd hG.only (fun _ _ _ hh=>by simp [Value.ownBlock] at hh) (fun _ _ _ _ _ hh=>by simp [Value.ownBlock] at hh) (fun _ hh=>by simp [Value.ownBlock] at hh) (.inl ⟨hfT,hG.own⟩) hG.at_ (fun y hy => ?_),fun y hy=>hG.more y (k2 y hy)⟩
        rcases hG.at_ y hy with hh|hh
        ·simp [Value.ownBlock] at hh
        ·exact .inr (yaj h.ext.size hh)
       grind
      ·rename_i a
       split at hw
       ·rename_i ar h10M
        split at hw
        ·rename_i hf
         simp only [yc] at hf
         obtain ⟨⟨⟨f1,f2⟩,f3⟩,f4⟩:=hf
         have f2:=yag f2
         have f3:=yag f3
         obtain ⟨r,c1,c2⟩:=hw
         have h10:=(zqz h10M).1
         have h10T:=(zqz h10M).2
         have h11:=(k1.arr a ar h10).mk_ h10T
         have e9:=h9.1
         rw [f2,yz,f3,←e9] at h11
         obtain ⟨hr,hbig⟩:=zpx c1
         subst hr
         have k5:Rl z { σ' with A:=z9d a σ'.A } V w (zbw O α (lk σ.A) (zcx v0)) φ α:=k1.mono (Le.refl _) (Le.refl _) (fun t v hv=>(z4d hv).2)
         cases v<;>simp only [strP,yd] at f4
         rename_i s
         unfold apL at h5
         simp only at h5
         split at h5
         ·rename_i e5 e6
          cases h5
          cases e6
          subst h7
          refine OW.zz02y hg hd hn ho (ht.und _ _ he) (ht.und _ _ e5) (ht.inf _ _ h2) h8 h6 h11 k1.bd (by grind [ztj,unb]) fun v' w' O' hG=>hk _ c2 _ _ ⟨_,_,_,k5.newA (e:={ ar with l:=ar.l++ztj s }) f1 hG.ext hG.tr hG.more hG.bd hG.only (fun b e' hb hh => ?_) (fun c e' hc y hy hh => ?_) (fun y hy => ?_) (.inr (.inr ⟨h10T,?_⟩)) hG.at_ (fun y hy => ?_),fun y hy=>hG.more y (k2 y hy)⟩
          ·rw [e9] at hh
           exact k1.ab a b ar e' h10 hb hh
          ·rw [e9] at hh
           obtain ⟨n1,hc⟩:=z4d hc
           exact k1.aa c a e' ar hc h10 n1 y hy hh
          ·rw [e9] at hy
           exact (k1.aF a ar h10 y hy).elim (fun q => .inl q.2) .inr
          ·have e7:∀ q:List UInt8,ztj q=q.map zas:=fun q=>by simp [ztj,unb,zas,eI]
           rw [f2,yz,f3,e7]
           exact hG.own
          ·rcases hG.at_ y hy with hh|hh
           ·rw [e9] at hh
            exact k1.aF a ar h10 y hh
           ·exact .inr (yaj h.ext.size hh)
         ·cases h5
        grind
       replace hw:=zc hw
       obtain ⟨ar,h10,hw⟩:=hw
       split at hw
       ·rename_i hf
        simp only [yc] at hf
        obtain ⟨⟨f1,f2⟩,f3⟩:=hf
        have f2:=yag f2
        have f3:=yag f3
        obtain ⟨r,c1,c2⟩:=hw
        have h10U:=zr0 h10
        have h10:=h10U.1
        have h11:=(k1.arr a ar h10).un h10U.2
        have e9:=h9.1
        subst f2 f3
        rw [←e9] at h11
        have k5:Rl z { σ' with A:=z9d a σ'.A } V w (zbw O α (lk σ.A) (zcx v0)) φ α:=k1.mono (Le.refl _) (Le.refl _) (fun t v hv=>(z4d hv).2)
        refine step ar.l r h11 c1 fun v' w' O' hG=>hk _ c2 _ _ ⟨_,_,_,k5.newA (e:={ ar with l:=r }) f1 hG.ext hG.tr hG.more hG.bd hG.only (fun b e' hb hh => ?_) (fun c e' hc y hy hh => ?_) (fun y hy => ?_) (.inl ⟨h10U.2,hG.own⟩) hG.at_ (fun y hy => ?_),fun y hy=>hG.more y (k2 y hy)⟩
        ·rw [e9] at hh
         exact k1.ab a b ar e' h10 hb hh
        ·rw [e9] at hh
         obtain ⟨n1,hc⟩:=z4d hc
         exact k1.aa c a e' ar hc h10 n1 y hy hh
        ·rw [e9] at hy
         exact (k1.aF a ar h10 y hy).elim (fun q => .inl q.2) .inr
        ·rcases hG.at_ y hy with hh|hh
         ·rw [e9] at hh
          exact k1.aF a ar h10 y hh
         ·exact .inr (yaj h.ext.size hh)
       grind
      grind
     grind
    grind
   grind
  ·replace hw:=zc hw
   grind
  grind [zhq]
 grind [zhq]
end
end
section
structure GI where
 p:World→(Nat→Prop)→Prop
 tr:∀ {O w O' w'},Tr O w O' w'→p w O→p w' O'
structure TbG (P:Program) (tb:Tb) (G:GI):Prop extends TbOk P tb where
 gt:∀ w O,G.p w O→GtOk tb w O
structure Mm (w:World) (O:Nat→Prop) (φ:Nat→Nat) (α:Nat→Value) (B:List Bx) (A:List (Option (Nat × Nat × List (List D)))):Prop where
 box:∀ b e,B[b]? = some e→O (φ b)∧∃ us,zkf w (φ b) e.T us∧VRs w O φ α e.cs us
 arr:∀ a e,A[a]? = some (some e)→z95 w O e.1 e.2.1 (α a) e.2.2
 bb:∀ a b,a<B.length→b<B.length→a≠b→φ a≠φ b
 aa:∀ a b e e',A[a]? = some (some e)→A[b]? = some (some e')→a≠b→∀ x,(α a).ownBlock=some x→(α b).ownBlock≠some x
 ab:∀ a b e,A[a]? = some (some e)→b<B.length→(α a).ownBlock≠some (φ b)
def FI (i:CIn) (φ:Nat→Nat) (α:Nat→Value) (x:Nat):Prop:=(∃ b,b<i.B.length∧φ b=x)∨∃ a,a<i.A.length∧(α a).ownBlock=some x
def zy8:List Value→Value
 | [u]=>u
 | us => .tuple (yy us)
structure zhn (i:CIn) (w:World) (O:Nat→Prop) (φ:Nat→Nat) (α:Nat→Value) (vs:List PV) (B:List Bx) (A:List (Option (Nat × Nat × List (List D)))) (w':World) (us:List Value) (O':Nat→Prop) (φ':Nat→Nat) (α':Nat→Value):Prop where
 res:VRs w' O' φ' α' vs us
 mm:Mm w' O' φ' α' B A
 same:∀ b,b<i.B.length→φ' b=φ b
 long:i.B.length≤B.length
 bd:Bd O' w'
 tr:Tr O w O' w'
 more:∀ x,O x→O' x
 only:∀ x,O' x→O x∨w.heap.size≤x
 ext:Ext (FI i φ α) w w'
 newB:∀ b,b<B.length→i.B.length≤b→w.heap.size≤φ' b
 newA:∀ a e x,A[a]? = some (some e)→(α' a).ownBlock=some x→(∃ c,c<i.A.length∧(α c).ownBlock=some x)∨w.heap.size≤x
def zd0 (i:CIn) (w:World) (O:Nat→Prop) (φ:Nat→Nat) (α:Nat→Value) (o:z3x) (e:Ending) (w':World):Prop:=match o with
 | .ok vs B A=>∃ us O' φ' α',e = .returned (zy8 us)∧zhn i w O φ α vs B A w' us O' φ' α'
 | .okI vs B A=>∃ us O' φ' α',e = .returned (zy8 us)∧zhn i w O φ α vs B A w' us O' φ' α'∧∀ a,a<i.A.length→α' a=α a
 | .pan v=>∃ u O' φ' α',e = .panicked [{ v:=u,recovered:=false }]∧VR w' O' φ' α' v u∧Ext (FI i φ α) w w'∧Tr O w O' w'∧Bd O' w'∧∀ x,O' x→O x∨w.heap.size≤x
 | .zhg v B=>∃ u φv αv us O' φ' α',e = .panicked [{ v:=u,recovered:=false }]∧VR w' O' φv αv v u∧zhn i w O φ α [] B [] w' us O' φ' α'
structure Con (P:Program) (G:GI) (f:Nat) (i:CIn) (o:z3x):Prop where
 ent:∀ args w,(callFunc f args).run P w = .ok (.enter f args) w
 nn:yab f NF=false
 run:∀ w O φ α us,VRs w O φ α i.vs us→Mm w O φ α i.B (i.A.map some)→Bd O w→G.p w O→Calls P f us.toArray w (zd0 i w O φ α o)

def idx (x:Nat):List Nat→Option Nat
 | []=>none
 | y::r=>if y=x then some 0 else (idx x r).map (· + 1)
theorem zjj {x:Nat}:∀ {l:List Nat} {j:Nat},idx x l=some j→l[j]? = some x
 | y::r,j,h=>by
  unfold idx at h
  split at h
  ·grind
  ·obtain ⟨k,h1,rfl⟩:=yb.1 h
   simpa using zjj h1
theorem zqt {x:Nat}:∀ {l:List Nat},idx x l=none→x∉l
 | [],_=>by simp
 | y::r,h=>by
  unfold idx at h
  split at h
  ·cases h
  ·rename_i hy
   have:=zqt (Option.map_eq_none_iff.1 h)
   grind
theorem z6w:∀ {l:List Nat},z99 l=true→∀ (i j x:Nat),l[i]? = some x→l[j]? = some x→i=j
 | [],_,i,j,x,h,_=>by simp at h
 | y::r,hn,i,j,x,h1,h2=>by
  simp only [z99,yc,ye] at hn
  have hy:∀ k:Nat,r[k]? ≠ some y:=fun k hk=>by
   have:r.any (yab y)=true:=yi.2 ⟨y,yw hk,yac y⟩
   grind
  cases i with
  | zero =>
   grind
  | succ i =>
   cases j with
   | zero =>
    grind
   | succ j=>rw [z6w hn.2 i j x (by grind) (by grind)]
theorem zz07k {l:List Nat} (hn:z99 l=true) {j x:Nat} (h:l[j]? = some x):idx x l=some j:=by
 cases hi:idx x l with
 | none=>exact (zqt hi (yw h)).elim
 | some k=>rw [z6w hn k j x (zjj hi) h]
def ov {β:Type} (ks:List Nat) (f' f:Nat→β):Nat→β:=fun x=>match idx x ks with
 | some j=>f' j
 | none=>f x
theorem zsu {β:Type} {ks:List Nat} {f' f:Nat→β} (hn:z99 ks=true) {j x:Nat} (h:ks[j]? = some x):ov ks f' f x=f' j:=by
 unfold ov;rw [zz07k hn h]
theorem zwr {β:Type} {ks:List Nat} {f' f:Nat→β} {x:Nat} (h:x∉ks):ov ks f' f x=f x:=by
 unfold ov
 split
 ·rename_i j hj
  exact (h (yw (zjj hj))).elim
 ·rfl
section
variable {w w':World} {O O':Nat→Prop} {φ φ':Nat→Nat} {α α':Nat→Value} {bs as_:List Nat} {nb na:Nat}
theorem zpy {a b:Nat} (h:yae a b=true):a<b:=by simp_all
mutual
theorem zz02g (hb:∀ j x,j<nb→bs[j]? = some x→φ' j=φ x) (ha:∀ j x,j<na→as_[j]? = some x→α' j=α x) (lb:nb≤bs.length) (la:na≤as_.length):∀ (v:PV) (u:Value),inR nb na v=true→VR w O φ α (zb6 bs as_ v) u→VR w O φ' α' v u
 | .int k n,u,_,h=>h
 | .bool b,u,_,h=>h
 | .str s,u,_,h=>h
 | .sl T n l,u,_,h=>h
 | .nil,u,_,h=>h
 | .ze6,u,_,h=>h
 | .zei,u,_,h=>h
 | .undef,u,_,h=>trivial
 | .gone,u,_,h=>h
 | .err _,u,_,h=>h
 | .z1l b,u,k,h=>by
  have k:=zpy k
  grind [zb6,VR]
 | .mp b,u,k,h=>by
  have k:=zpy k
  grind [zb6,VR]
 | .md _,u,_,h=>h
 | .zbc cs off,u,_,h=>h
 | .zbx x m i off,u,k,h=>by cases k
 | .ref a,u,k,h=>by
  have k:=zpy k
  grind [zb6,VR]
 | .ptr b off,u,k,h=>by
  have k:=zpy k
  grind [zb6,VR]
 | .agg cs,u,k,h=>by
  obtain ⟨us,h1,h2⟩:=h
  exact ⟨us,h1,za1 hb ha lb la cs us k h2⟩
 | .tup cs,u,k,h=>by
  obtain ⟨us,h1,h2⟩:=h
  exact ⟨us,h1,za1 hb ha lb la cs us k h2⟩
 | .iface T v,u,k,h=>by
  obtain ⟨x,h1,h2⟩:=h
  exact ⟨x,h1,zz02g hb ha lb la v x k h2⟩
 | .fn f as_' cs,u,k,h=>by
  simp only [inR,yc] at k
  obtain ⟨us,vs,h1,h2,h3⟩:=h
  exact ⟨us,vs,h1,za1 hb ha lb la as_' us k.1 h2,za1 hb ha lb la cs vs k.2 h3⟩
theorem za1 (hb:∀ j x,j<nb→bs[j]? = some x→φ' j=φ x) (ha:∀ j x,j<na→as_[j]? = some x→α' j=α x) (lb:nb≤bs.length) (la:na≤as_.length):∀ (vs:List PV) (us:List Value),inR.go nb na vs=true→VRs w O φ α (zb6.go bs as_ vs) us→VRs w O φ' α' vs us
 | [],us,_,h=>h
 | v::vs,us,k,h=>by
  simp only [inR.go,yc] at k
  obtain ⟨u,us',h1,h2,h3⟩:=h
  exact ⟨u,us',h1,zz02g hb ha lb la v u k.1 h2,za1 hb ha lb la vs us' k.2 h3⟩
end
mutual
theorem zx4 (hb:∀ j x,bs[j]? = some x→φ' x=φ j) (ha:∀ j x,as_[j]? = some x→α' x=α j) (lb:nb≤bs.length) (la:na≤as_.length):∀ (v:PV) (u:Value),inR nb na v=true→VR w O φ α v u→VR w O φ' α' (zb6 bs as_ v) u
 | .int k n,u,_,h=>h
 | .bool b,u,_,h=>h
 | .str s,u,_,h=>h
 | .sl T n l,u,_,h=>h
 | .nil,u,_,h=>h
 | .ze6,u,_,h=>h
 | .zei,u,_,h=>h
 | .undef,u,_,h=>trivial
 | .gone,u,_,h=>h
 | .err _,u,_,h=>h
 | .z1l b,u,k,h=>by
  grind [zb6,VR]
 | .mp b,u,k,h=>by
  grind [zb6,VR]
 | .md _,u,_,h=>h
 | .zbc cs off,u,_,h=>h
 | .zbx x m i off,u,k,h=>by cases k
 | .ref a,u,k,h=>by
  grind [zb6,VR]
 | .ptr b off,u,k,h=>by
  grind [zb6,VR]
 | .agg cs,u,k,h=>by
  obtain ⟨us,h1,h2⟩:=h
  exact ⟨us,h1,zam hb ha lb la cs us k h2⟩
 | .tup cs,u,k,h=>by
  obtain ⟨us,h1,h2⟩:=h
  exact ⟨us,h1,zam hb ha lb la cs us k h2⟩
 | .iface T v,u,k,h=>by
  obtain ⟨x,h1,h2⟩:=h
  exact ⟨x,h1,zx4 hb ha lb la v x k h2⟩
 | .fn f as_' cs,u,k,h=>by
  simp only [inR,yc] at k
  obtain ⟨us,vs,h1,h2,h3⟩:=h
  exact ⟨us,vs,h1,zam hb ha lb la as_' us k.1 h2,zam hb ha lb la cs vs k.2 h3⟩
theorem zam (hb:∀ j x,bs[j]? = some x→φ' x=φ j) (ha:∀ j x,as_[j]? = some x→α' x=α j) (lb:nb≤bs.length) (la:na≤as_.length):∀ (vs:List PV) (us:List Value),inR.go nb na vs=true→VRs w O φ α vs us→VRs w O φ' α' (zb6.go bs as_ vs) us
 | [],us,_,h=>h
 | v::vs,us,k,h=>by
  simp only [inR.go,yc] at k
  obtain ⟨u,us',h1,h2,h3⟩:=h
  exact ⟨u,us',h1,zx4 hb ha lb la v u k.1 h2,zam hb ha lb la vs us' k.2 h3⟩
end
mutual
theorem z7r:∀ (v:PV) (u:Value),zbm v=false→VR w O φ α v u→VR w' O' φ α v u
 | .int k n,u,_,h=>h
 | .bool b,u,_,h=>h
 | .str s,u,_,h=>h
 | .sl T n l,u,k,h=>by cases k
 | .nil,u,_,h=>h
 | .ze6,u,_,h=>h
 | .zei,u,_,h=>h
 | .undef,u,_,h=>trivial
 | .gone,u,_,h=>h
 | .z1l _,u,_,h=>h
 | .err _,u,_,h=>h
 | .zbc cs off,u,k,h=>by cases k
 | .md _,u,k,h=>by cases k
 | .mp _,u,k,h=>h
 | .zbx x m i off,u,k,h=>h
 | .ref a,u,k,h=>h
 | .ptr b off,u,k,h=>h
 | .agg cs,u,k,h=>by
  obtain ⟨us,h1,h2⟩:=h
  exact ⟨us,h1,zai cs us k h2⟩
 | .tup cs,u,k,h=>by
  obtain ⟨us,h1,h2⟩:=h
  exact ⟨us,h1,zai cs us k h2⟩
 | .iface T v,u,k,h=>by
  obtain ⟨x,h1,h2⟩:=h
  exact ⟨x,h1,z7r v x k h2⟩
 | .fn f as_' cs,u,k,h=>by
  simp only [zbm,yf] at k
  obtain ⟨us,vs,h1,h2,h3⟩:=h
  exact ⟨us,vs,h1,zai as_' us k.1 h2,zai cs vs k.2 h3⟩
theorem zai:∀ (vs:List PV) (us:List Value),zbm.go vs=false→VRs w O φ α vs us→VRs w' O' φ α vs us
 | [],us,_,h=>h
 | v::vs,us,k,h=>by
  simp only [zbm.go,yf] at k
  obtain ⟨u,us',h1,h2,h3⟩:=h
  exact ⟨u,us',h1,z7r v u k.1 h2,zai vs us' k.2 h3⟩
end
end
section
variable {w:World} {φ:Nat→Nat} {α:Nat→Value} {σ:St} {O O2:Nat→Prop}
mutual
theorem zz081 (hO:∀ x,O2 x→O x) (hA:∀ a e,lk σ.A a=some e→z95 w O e.T e.n (α a) e.l) (wv:PV):∀ (v:PV) (u:Value),(∀ a∈z9e wv v,∀ e,lk σ.A a=some e→∀ x,O2 x→(α a).ownBlock≠some x)→VR w O φ α v u→VR w O2 φ α (nrm σ wv v) u
 | .ref a,u,hl,h=>by
  cases wv with
  | sl T n l =>
   show VR w O2 φ α (match lkU σ.A a with
    | some e => .sl e.T e.n e.l
    | none => .undef) u
   cases he:lkU σ.A a with
   | none=>trivial
   | some e =>
    obtain ⟨he,hU⟩:=zr0 he
    have h1:=((hA a e he).un hU).data
    rw [←h.1] at h1
    exact h1.tr (Tr.drop w fun x hx=>⟨hO x hx,by rw [h.1];grind [z9e]⟩)
  | _=>exact h
 | .nil,u,hl,h=>by
  cases wv with
  | sl T n l =>
   simp only [VR] at h
   subst h
   exact .inl ⟨⟨_,rfl⟩,rfl⟩
  | _=>exact h
 | .agg vs,u,hl,h=>by
  obtain ⟨us,h1,h2⟩:=h
  cases wv with
  | agg ws=>exact ⟨us,h1,zbo hO hA ws vs us hl h2⟩
  | _=>exact ⟨us,h1,VRs.tr (Tr.drop w hO) vs us h2⟩
 | .tup vs,u,hl,h=>by
  obtain ⟨us,h1,h2⟩:=h
  cases wv with
  | tup ws=>exact ⟨us,h1,zbo hO hA ws vs us hl h2⟩
  | _=>exact ⟨us,h1,VRs.tr (Tr.drop w hO) vs us h2⟩
 | .int k n,u,hl,h=>by cases wv<;>exact h
 | .bool b,u,hl,h=>by cases wv<;>exact h
 | .str s,u,hl,h=>by cases wv<;>exact h
 | .ze6,u,hl,h=>by
  cases wv with
  | err _=>exact .inl ⟨rfl,h⟩
  | _=>exact h
 | .zei,u,hl,h=>by cases wv<;>exact h
 | .undef,u,hl,h=>by cases wv<;>trivial
 | .gone,u,hl,h=>by cases wv<;>exact h
 | .z1l _,u,hl,h=>by cases wv<;>exact h
 | .err _,u,hl,h=>by cases wv<;>exact h
 | .ptr b off,u,hl,h=>by cases wv<;>exact h
 | .zbx x m i off,u,hl,h=>by cases wv<;>exact h
 | .sl T n l,u,hl,h=>by cases wv<;>exact VR.tr (Tr.drop w hO) (.sl T n l) u h
 | .mp b,u,hl,h=>by cases wv<;>exact h
 | .md c,u,hl,h=>by cases wv<;>exact VR.tr (Tr.drop w hO) (.md c) u h
 | .zbc cs off,u,hl,h=>by cases wv<;>exact VR.tr (Tr.drop w hO) (.zbc cs off) u h
 | .iface T v,u,hl,h=>by
  cases wv with
  | err _ =>
   obtain ⟨x,h1,_⟩:=h
   exact .inr ⟨rfl,T,x,h1⟩
  | _=>exact VR.tr (Tr.drop w hO) (.iface T v) u h
 | .fn f as_ cs,u,hl,h=>by cases wv<;>exact VR.tr (Tr.drop w hO) (.fn f as_ cs) u h
theorem zbo (hO:∀ x,O2 x→O x) (hA:∀ a e,lk σ.A a=some e→z95 w O e.T e.n (α a) e.l):∀ (ws vs:List PV) (us:List Value),(∀ a∈z9e.go ws vs,∀ e,lk σ.A a=some e→∀ x,O2 x→(α a).ownBlock≠some x)→VRs w O φ α vs us→VRs w O2 φ α (nrm.go σ ws vs) us
 | [],vs,us,hl,h=>by
  have:nrm.go σ [] vs=vs:=by cases vs<;>rfl
  rw [this]
  exact VRs.tr (Tr.drop w hO) vs us h
 | wv::ws,[],us,hl,h=>h
 | wv::ws,v::vs,us,hl,h=>by
  obtain ⟨u,us',h1,h2,h3⟩:=h
  simp only [z9e.go,yn] at hl
  exact ⟨u,us',h1,zz081 hO hA wv v u (fun a ha=>hl a (.inl ha)) h2,zbo hO hA ws vs us' (fun a ha=>hl a (.inr ha)) h3⟩
end
end
theorem zba {σ:St} {bs as_:List Nat}:∀ {ks:List Nat} {es:List Bx},z9f σ bs as_ ks es→∀ (j:Nat) (e:Bx),es[j]? = some e→∃ (b:Nat) (x:Bx),ks[j]? = some b∧lk σ.B b=some x∧x.T=e.T∧nrm.go { σ with A:=[] } e.cs x.cs=zb6.go bs as_ e.cs
 | _,[],_,j,e,h=>by simp at h
 | [],_::_,hb,_,_,_=>hb.elim
 | b::ks,e::es,hb,j,e',h=>by
  obtain ⟨h1,h2⟩:=hb
  cases j with
  | zero =>
   grind
  | succ j=>simpa using zba h2 j e' (by simpa using h)
theorem zhs {σ:St}:∀ {ks:List Nat} {es:List (Nat × Nat × List (List D))},zey σ ks es→∀ (j:Nat) (e:Nat × Nat × List (List D)),es[j]? = some e→∃ (a:Nat) (x:Arr),ks[j]? = some a∧lk σ.A a=some x∧x.T=e.1∧x.n=e.2.1∧x.l=e.2.2
 | _,[],_,j,e,h=>by simp at h
 | [],_::_,hb,_,_,_=>hb.elim
 | b::ks,e::es,hb,j,e',h=>by
  obtain ⟨h1,h2⟩:=hb
  cases j with
  | zero =>
   grind
  | succ j=>simpa using zhs h2 j e' (by simpa using h)
theorem zg7 {β:Type} {t:Nat} {v:β}:∀ {l l2:List (Nat × β)},lk (l++l2) t=some v→lk l t=some v∨lk l2 t=some v
 | [],l2,h => .inr h
 | (s,x)::r,l2,h=>by
  simp only [yj] at h
  rcases z4c h with ⟨rfl,rfl⟩|⟨h1,h2⟩
  ·simp [lk]
  ·rcases zg7 h2 with h3|h3
   ·grind [lk]
   grind
theorem zru {bs as_:List Nat} {x:Nat} {e:Bx}:∀ {ks:List Nat} {es:List Bx},lk (zipB bs as_ ks es) x=some e→∃ (j:Nat) (e0:Bx),ks[j]? = some x∧es[j]? = some e0∧e=⟨e0.T,zb6.go bs as_ e0.cs⟩
 | [],[],h=>by cases h
 | [],_::_,h=>by cases h
 | _::_,[],h=>by cases h
 | b::ks,e0::es,h=>by
  simp only [zipB] at h
  rcases z4c h with ⟨rfl,rfl⟩|⟨_,h⟩
  ·exact ⟨0,e0,rfl,rfl,rfl⟩
  ·obtain ⟨j,e1,h1,h2,h3⟩:=zru h
   exact ⟨j+1,e1,by grind,by grind,h3⟩
theorem zkd {m:Bool} {x:Nat} {e:Arr}:∀ {ks:List Nat} {es:List (Option (Nat × Nat × List (List D)))},lk (zipA m ks es) x=some e→∃ (j:Nat) (e0:Nat × Nat × List (List D)),ks[j]? = some x∧es[j]? = some (some e0)∧e=⟨m,e0.1,e0.2.1,e0.2.2⟩
 | [],[],h=>by cases h
 | [],_::_,h=>by cases h
 | _::_,[],h=>by cases h
 | b::ks,some e0::es,h=>by
  simp only [zipA] at h
  rcases z4c h with ⟨rfl,rfl⟩|⟨_,h⟩
  ·exact ⟨0,e0,rfl,rfl,rfl⟩
  ·obtain ⟨j,e1,h1,h2,h3⟩:=zkd h
   exact ⟨j+1,e1,by grind,by grind,h3⟩
 | b::ks,none::es,h=>by
  simp only [zipA] at h
  obtain ⟨j,e1,h1,h2,h3⟩:=zkd h
  exact ⟨j+1,e1,by grind,by grind,h3⟩
theorem zex {σ:St}:∀ {as_:List Nat},z8e σ as_=true→∀ a∈as_,∀ e,lk σ.A a=some e→e.mine=true
 | b::as_,h,a,ha,e,he=>by
  simp only [z8e,yc] at h
  rcases yp.1 ha with rfl|ha
  ·grind
  ·exact zex h.2 a ha e he
theorem zcf {b:Nat} {e:Bx}:∀ {ls:List Nat} {σ σ':St},σ.freeze ls=some σ'→lk σ'.B b=some e→∃ e0,lk σ.B b=some e0
 | [],σ,σ',h,k=>by cases h;grind
 | a::ls,σ,σ',h,k=>by
  unfold St.freeze at h
  split at h
  ·rename_i ar _
   split at h
   ·obtain ⟨e0,h1⟩:=zcf h k
    have h2:(lk σ.B b).map (fun x:Bx=>({ x with cs:=x.cs.map (zbz a ar) }:Bx))=some e0:=(zic (fun x:Bx=>({ x with cs:=x.cs.map (zbz a ar) }:Bx)) σ.B b).symm.trans h1
    grind [yb]
   ·cases h
  ·exact zcf h k
theorem zz020 {σ:St}:∀ {as_:List Nat},as_.all σ.z6u=true→(∀ t v,lk σ.L t=some v→z56 (fun _=>True) (fun x=>x∉as_) v)∧(∀ b e,lk σ.B b=some e→z56.go (fun _=>True) (fun x=>x∉as_) e.cs)∧∀ a∈as_,lk σ.A a=none
 | [],_=>⟨fun _ _ _=>z56.all (fun _=>trivial) (fun _=>by simp),fun _ _ _=>z56.alls (fun _=>trivial) (fun _=>by simp),fun _ h=>by simp at h⟩
 | a::as_,h=>by
  simp only [yg,yc] at h
  obtain ⟨h1,h2,h3⟩:=zbf h.1
  obtain ⟨h4,h5,h6⟩:=zz020 h.2
  refine ⟨fun t v hv=>(h2 t v hv).and (fun _ _ _=>trivial) (fun x k1 k2=>by simp [k1,k2]) (h4 t v hv),fun b e he=>z56.ands (fun _ _ _=>trivial) (fun x k1 k2=>by simp [k1,k2]) (h3 b e he) (h5 b e he),fun x hx => ?_⟩
  grind
theorem zz021 {σ:St}:∀ {bs:List Nat},bs.all σ.z97=true→(∀ t v,lk σ.L t=some v→z56 (fun x=>x∉bs) (fun _=>True) v)∧(∀ b e,lk σ.B b=some e→z56.go (fun x=>x∉bs) (fun _=>True) e.cs)∧∀ a∈bs,1000≤a∧lk σ.B a=none
 | [],_=>⟨fun _ _ _=>z56.all (fun _=>by simp) (fun _=>trivial),fun _ _ _=>z56.alls (fun _=>by simp) (fun _=>trivial),fun _ h=>by simp at h⟩
 | a::as_,h=>by
  simp only [yg,yc] at h
  obtain ⟨h1,h2,h3⟩:=zbg h.1
  obtain ⟨h4,h5,h6⟩:=zz021 h.2
  refine ⟨fun t v hv=>(h2 t v hv).and (fun x k1 k2=>by simp [k1,k2]) (fun _ _ _=>trivial) (h4 t v hv),fun b e he=>z56.ands (fun x k1 k2=>by simp [k1,k2]) (fun _ _ _=>trivial) (h3 b e he) (h5 b e he),fun x hx => ?_⟩
  grind
end
section
theorem zz05a {w:World} {O:Nat→Prop} {φ:Nat→Nat} {α:Nat→Value}:∀ {vs:List PV} {us:List Value},VRs w O φ α vs us→VR w O φ α (retV vs) (zy8 us)
 | [],us,h=>by cases h;exact ⟨[],rfl,rfl⟩
 | [v],us,h=>by
  obtain ⟨u,us',rfl,h2,h3⟩:=h
  cases h3
  exact h2
 | v::v'::vs,us,h=>by
  have h':=h
  obtain ⟨u,us',rfl,h2,u',us'',rfl,h3⟩:=h
  exact ⟨_,rfl,h'⟩
theorem zz03x {nb na:Nat} {B:List Bx} (h:B.all (fun e=>inR.go nb na e.cs)=true) {j:Nat} {e:Bx} (he:B[j]? = some e):inR.go nb na e.cs=true:=yh.1 h e (yw he)
section
variable {z:W0} {V:Env} {w w':World} {O O':Nat→Prop} {φ φ':Nat→Nat} {α α':Nat→Value} {σ s:St} {bs as_ as_':List Nat} {i:CIn} {vs:List PV} {B:List Bx} {A:List (Option (Nat × Nat × List (List D)))}
theorem zjr {Ob Oc:Nat→Prop} {us:List Value} (h:Rl z σ V w O φ α) (hb:Rl z s V w Ob φ α) (hbO:∀ x,Ob x→O x) (hc:∀ x,Oc x→Ob x)
  (sB:∀ b e,lk s.B b=some e→∃ e0,lk σ.B b=some e0) (sA:∀ a e,lk s.A a=some e→∃ e0,lk σ.A a=some e0)
  (nb:z99 bs=true) (na:z99 as_'=true) (lb:i.B.length≤bs.length) (la:i.A.length=as_.length) (pB:∀ j b,j<i.B.length→bs[j]? = some b→∃ e,lk σ.B b=some e) (pA:∀ j a,j<i.A.length→as_[j]? = some a→∃ e,lk σ.A a=some e)
  (lB:B.length=bs.length) (lA:A.length=as_'.length) (rv:inR.go B.length A.length vs=true) (rB:B.all (fun e=>inR.go B.length A.length e.cs)=true)
  (fA:as_'.all ({ s with B:=z5a bs s.B,A:=z5a as_ s.A }:St).z6u=true) (fB:(bs.drop i.B.length).all ({ s with B:=z5a bs s.B,A:=z5a as_ s.A }:St).z97=true)
  (hd:zhn i w Oc (fun j=>φ (bs.getD j 0)) (fun j=>α (as_.getD j 0)) vs B A w' us O' φ' α') (hl:(∀ x,Ob x→O' x)∨zcr vs B A=false) :
  ∃ O2 φ2 α2,Rl z (left (z8e σ as_) bs as_ as_' B A s) V w' O2 φ2 α2∧(∀ x,Ob x→O2 x)∧VR w' O2 φ2 α2 (retV (zb6.go bs as_' vs)) (zy8 us)∧α2=ov as_' α' α:=by
 have gb:∀ j b,bs[j]? = some b→bs.getD j 0=b:=fun j b e=>by grind
 have ga:∀ j b,as_[j]? = some b→as_.getD j 0=b:=fun j b e=>by grind
 have bsj:∀ j,j<i.B.length→∃ b,bs[j]? = some b:=fun j hj=>⟨bs[j]'(by omega),by simp⟩
 have asj:∀ j,j<i.A.length→∃ b,as_[j]? = some b:=fun j hj=>⟨as_[j]'(by omega),by simp⟩
 -- the blocks that the call may turn
 have fiB:∀ x,FI i (fun j=>φ (bs.getD j 0)) (fun j=>α (as_.getD j 0)) x→(∃ b e,b∈bs∧lk σ.B b=some e∧φ b=x)∨∃ a e,a∈as_∧lk σ.A a=some e∧(α a).ownBlock=some x:=fun x hx=>by
  rcases hx with ⟨j,hj,hx⟩|⟨j,hj,hx⟩
  ·grind
  grind
 have hH:∀ x,FI i (fun j=>φ (bs.getD j 0)) (fun j=>α (as_.getD j 0)) x→z.F x∨z.w.heap.size≤x:=fun x hx=>by
  rcases fiB x hx with ⟨b,e,_,h1,rfl⟩|⟨a,e,_,h1,h2⟩
  ·exact (h.bF b e h1).elim (fun q => .inl q.2) .inr
  ·exact (h.aF a e h1 x h2).elim (fun q => .inl q.2) .inr
 have tr2:Tr Ob w (fun x=>O' x∨Ob x) w':=⟨hd.tr.size,fun b hb' hn=>hd.tr.block b hb' fun hh=>hn (hc b hh),fun b hb' hn hh=>by
  rcases hh with hh|hh
  ·exact hd.tr.owned b hb' (fun h'=>hn (hc b h')) hh
  grind⟩
 have nB:∀ b e,lk (z5a bs s.B) b=some e→¬FI i (fun j=>φ (bs.getD j 0)) (fun j=>α (as_.getD j 0)) (φ b):=fun b e he hx=>by
  obtain ⟨n1,h1⟩:=z4x he
  obtain ⟨e0,h2⟩:=sB b e h1
  rcases fiB _ hx with ⟨b',e',m1,h3,h4⟩|⟨a,e',m1,h3,h4⟩
  ·exact h.bb b' b e' e0 h3 h2 (fun q=>n1 (q▸m1)) h4
  ·exact h.ab a b e' e0 h3 h2 h4
 have nA:∀ a e,lk (z5a as_ s.A) a=some e→∀ y,(α a).ownBlock=some y→¬FI i (fun j=>φ (bs.getD j 0)) (fun j=>α (as_.getD j 0)) y:=fun a e he y hy hx=>by
  obtain ⟨n1,h1⟩:=z4x he
  obtain ⟨e0,h2⟩:=sA a e h1
  rcases fiB _ hx with ⟨b',e',m1,h3,h4⟩|⟨a',e',m1,h3,h4⟩
  ·exact h.ab a b' e0 e' h2 h3 (by grind)
  ·exact h.aa a' a e' e0 h3 h2 (fun q=>n1 (q▸m1)) y h4 hy
 have b1:Rl z { s with B:=z5a bs s.B,A:=z5a as_ s.A } V w Ob φ α:=hb.mono (Le.refl _) (fun t v hv=>(z4x hv).2) (fun t v hv=>(z4x hv).2)
 have b2:Rl z { s with B:=z5a bs s.B,A:=z5a as_ s.A } V w' (fun x=>O' x∨Ob x) φ α:=b1.move hd.ext tr2 (fun y hy => .inr hy) (fun x hx=>by
   rcases hx with hx|hx
   ·exact hd.bd x hx
   ·exact yak (hb.bd x hx) hd.tr.size) nB nA (Ext.after h hd.ext hH) (fun x hx=>by
   rcases hx with hx|hx
   ·rcases hd.only x hx with h1|h1
    ·exact hb.only x (hc x h1)
    ·exact .inr (yaj h.ext.size h1)
   ·exact hb.only x hx)
 -- the names
 obtain ⟨kA1,kA2,kA3⟩:=zz020 fA
 obtain ⟨kB1,kB2,kB3⟩:=zz021 fB
 have eφ:∀ x,x∉bs.drop i.B.length→ov bs φ' φ x=φ x:=fun x hx=>by
  by_cases hm:x∈bs
  ·obtain ⟨j,hj⟩:=List.getElem?_of_mem hm
   have:j<i.B.length:=by
    rcases yal j i.B.length with h1|h1
    ·exact h1
    ·exact (hx (yw (i:=j - i.B.length) (by grind))).elim
   rw [zsu nb hj,hd.same j this,gb j x hj]
  ·exact zwr hm
 have eα:∀ x,x∉as_'→ov as_' α' α x=α x:=fun x hx=>zwr hx
 have b3:Rl z { s with B:=z5a bs s.B,A:=z5a as_ s.A } V w' (fun x=>O' x∨Ob x) (ov bs φ' φ) (ov as_' α' α):=b2.re (kb:=fun x=>x∉bs.drop i.B.length) (ka:=fun x=>x∉as_') (fun x hx hm=>by grind) eφ eα
  (fun t v hv=>(kB1 t v hv).and (fun _ k1 _=>k1) (fun _ _ k2=>k2) (kA1 t v hv)) (fun b e he=>⟨fun hm=>(z4x he).1 (List.mem_of_mem_drop hm),z56.ands (fun _ k1 _=>k1) (fun _ _ k2=>k2) (kB2 b e he) (kA2 b e he)⟩) (fun a e he hm=>by
   grind)
 -- what comes back
 have up:∀ v u,(zcr vs B A=false→zbm v=false)→VR w' O' φ' α' v u→VR w' (fun x=>O' x∨Ob x) φ' α' v u:=fun v u hv hr=>by
  rcases hl with hl|hl
  ·exact hr.tr (Tr.drop w' fun x hx=>hx.elim id (hl x))
  grind [z7r]
 have ups:∀ vs' us',(zcr vs B A=false→zbm.go vs'=false)→VRs w' O' φ' α' vs' us'→VRs w' (fun x=>O' x∨Ob x) φ' α' vs' us':=fun v u hv hr=>by
  rcases hl with hl|hl
  ·exact VRs.tr (Tr.drop w' fun x hx=>hx.elim id (hl x)) _ _ hr
  grind [zai]
 have lends_p:zcr vs B A=false→zbm.go vs=false∧(B.any fun e=>zbm.go e.cs)=false∧(A.any fun e=>e.isSome)=false:=fun hh=>by
  grind [zcr]
 have ro:∀ {cs:List PV} {us':List Value},inR.go B.length A.length cs=true→VRs w' (fun x=>O' x∨Ob x) φ' α' cs us'→VRs w' (fun x=>O' x∨Ob x) (ov bs φ' φ) (ov as_' α' α) (zb6.go bs as_' cs) us':=fun {cs us'} hi hr =>
  zam (fun j x e=>zsu nb e) (fun j x e=>zsu na e) (by omega) (by omega) cs us' hi hr
 have upA:∀ a e,A[a]? = some (some e)→z95 w' (fun x=>O' x∨Ob x) e.1 e.2.1 (α' a) e.2.2:=fun a e he=>by
  have h1:=hd.mm.arr a e he
  rcases hl with hl|hl
  ·exact h1.down (fun x hx=>hx.elim id (hl x)) fun x hx => .inl (h1.mem x hx)
  ·have:=(lends_p hl).2.2
   rw [List.any_eq_false] at this
   exact (this _ (yw he) rfl).elim
 have rest_old:∀ b e,lk (z5a bs s.B) b=some e→φ b<w.heap.size∧∃ e0,lk σ.B b=some e0∧b∉bs:=fun b e he=>⟨b1.boxLt he,by
  obtain ⟨n1,h1⟩:=z4x he
  grind⟩
 have rest_oldA:∀ a e,lk (z5a as_ s.A) a=some e→(∀ x,(α a).ownBlock=some x→x<w.heap.size)∧(∃ e0,lk σ.A a=some e0)∧a∉as_∧a∉as_':=fun a e he=>⟨fun x hx=>b1.arrLt he hx,sA a e (z4x he).2,(z4x he).1,fun hm=>by
  grind⟩
 have boxL:∀ b e,lk (zipB bs as_' bs B++z5a bs s.B) b=some e→(∃ j e0,bs[j]? = some b∧B[j]? = some e0∧e=⟨e0.T,zb6.go bs as_' e0.cs⟩∧ov bs φ' φ b=φ' j)∨(lk (z5a bs s.B) b=some e∧b∉bs∧ov bs φ' φ b=φ b):=fun b e he=>by
  rcases zg7 he with h1|h1
  ·grind [zru,zsu]
  grind
 have arrL:∀ a e,lk (zipA (z8e σ as_) as_' A++z5a as_ s.A) a=some e→(∃ j e0,as_'[j]? = some a∧A[j]? = some (some e0)∧e=⟨z8e σ as_,e0.1,e0.2.1,e0.2.2⟩∧ov as_' α' α a=α' j)∨(lk (z5a as_ s.A) a=some e∧ov as_' α' α a=α a):=fun a e he=>by
  rcases zg7 he with h1|h1
  ·grind [zkd,zsu]
  grind
 have newBlk:∀ j e0 x,A[j]? = some (some e0)→(α' j).ownBlock=some x→(∃ a e,a∈as_∧lk σ.A a=some e∧(α a).ownBlock=some x)∨w.heap.size≤x:=fun j e0 x he hx=>by
  rcases hd.newA j e0 x he hx with ⟨c,k1,k2⟩|k1
  ·grind
  omega
 have boxBlk:∀ j b,bs[j]? = some b→j<B.length→(∃ e,b∈bs∧lk σ.B b=some e∧φ' j=φ b)∨w.heap.size≤φ' j:=fun j b hj hlt=>by
  rcases yal j i.B.length with h1|h1
  ·obtain ⟨y,hy⟩:=pB j b h1 hj
   exact .inl ⟨y,yw hj,hy,by rw [hd.same j h1,gb j b hj]⟩
  ·exact .inr (hd.newB j hlt h1)
 have jlt:∀ {j:Nat} {e0:Bx},B[j]? = some e0→j<B.length:=fun {j e0} hj=>(ym.1 hj).1
 refine ⟨fun x=>O' x∨Ob x,ov bs φ' φ,ov as_' α' α,⟨b3.env,fun b e he => ?_,fun a e he => ?_,fun a b e e' ha hb' hn => ?_,fun a b e e' ha hb' hn x hx => ?_,fun a b e e' ha hb' => ?_,fun b e he => ?_,fun a e he x hx => ?_,b2.bd,b2.ext,b2.only,b2.gl,b3.keep⟩,fun x hx => .inr hx,?_⟩
 ·rcases boxL b e he with ⟨j,e0,k1,k2,rfl,k4⟩|⟨k1,_,_⟩
  ·obtain ⟨k5,us',k6,k7⟩:=hd.mm.box j e0 k2
   grind
  ·exact b3.box b e k1
 ·rcases arrL a e he with ⟨j,e0,k1,k2,rfl,k4⟩|⟨k1,_⟩
  ·grind
  ·exact b3.arr a e k1
 ·rcases boxL a e ha with ⟨j,e0,k1,k2,rfl,k4⟩|⟨k1,k5,k4⟩<;>rcases boxL b e' hb' with ⟨j',e0',k1',k2',rfl,k4'⟩|⟨k1',k5',k4'⟩
  ·rw [k4,k4']
   exact hd.mm.bb j j' (jlt k2) (jlt k2') fun q=>hn (by grind)
  ·rw [k4,k4']
   obtain ⟨q1,e1,q2,q3⟩:=rest_old b e' k1'
   rcases boxBlk j a k1 (jlt k2) with ⟨y,m1,m2,m3⟩|m1
   ·rw [m3];exact h.bb a b y e1 m2 q2 hn
   ·omega
  ·rw [k4,k4']
   obtain ⟨q1,e1,q2,q3⟩:=rest_old a e k1
   rcases boxBlk j' b k1' (jlt k2') with ⟨y,m1,m2,m3⟩|m1
   ·rw [m3];exact h.bb a b e1 y q2 m2 hn
   ·omega
  ·exact b3.bb a b e e' k1 k1' hn
 ·rcases arrL a e ha with ⟨j,e0,k1,k2,rfl,k4⟩|⟨k1,k4⟩<;>rcases arrL b e' hb' with ⟨j',e0',k1',k2',rfl,k4'⟩|⟨k1',k4'⟩
  ·rw [k4] at hx
   rw [k4']
   exact hd.mm.aa j j' e0 e0' k2 k2' (fun q=>hn (by grind)) x hx
  ·rw [k4] at hx
   rw [k4']
   intro hh
   obtain ⟨q1,⟨e1,q2⟩,q3,_⟩:=rest_oldA b e' k1'
   rcases newBlk j e0 x k2 hx with ⟨a',y,m1,m2,m3⟩|m1
   ·exact h.aa a' b y e1 m2 q2 (fun q=>q3 (q▸m1)) x m3 hh
   grind
  ·rw [k4] at hx
   rw [k4']
   intro hh
   obtain ⟨q1,⟨e1,q2⟩,q3,_⟩:=rest_oldA a e k1
   rcases newBlk j' e0' x k2' hh with ⟨a',y,m1,m2,m3⟩|m1
   ·exact h.aa a' a y e1 m2 q2 (fun q=>q3 (q▸m1)) x m3 hx
   grind
  ·exact b3.aa a b e e' k1 k1' hn x hx
 ·rcases arrL a e ha with ⟨j,e0,k1,k2,rfl,k4⟩|⟨k1,k4⟩<;>rcases boxL b e' hb' with ⟨j',e0',k1',k2',rfl,k4'⟩|⟨k1',k5',k4'⟩
  ·rw [k4,k4']
   exact hd.mm.ab j j' e0 k2 (jlt k2')
  ·rw [k4,k4']
   intro hh
   obtain ⟨q1,e1,q2,q3⟩:=rest_old b e' k1'
   rcases newBlk j e0 _ k2 hh with ⟨a',y,m1,m2,m3⟩|m1
   ·exact h.ab a' b y e1 m2 q2 m3
   ·omega
  ·rw [k4,k4']
   intro hh
   obtain ⟨q1,⟨e1,q2⟩,q3,_⟩:=rest_oldA a e k1
   rcases boxBlk j' b k1' (jlt k2') with ⟨y,m1,m2,m3⟩|m1
   ·rw [m3] at hh;exact h.ab a b e1 y q2 m2 hh
   grind
  ·exact b3.ab a b e e' k1 k1'
 ·rcases boxL b e he with ⟨j,e0,k1,k2,rfl,k4⟩|⟨k1,_,_⟩
  ·rw [k4]
   rcases boxBlk j b k1 (jlt k2) with ⟨y,m1,m2,m3⟩|m1
   ·rw [m3];exact h.bF b y m2
   ·exact .inr (yaj h.ext.size m1)
  ·exact b3.bF b e k1
 ·rcases arrL a e he with ⟨j,e0,k1,k2,rfl,k4⟩|⟨k1,k4⟩
  ·rw [k4] at hx
   rcases newBlk j e0 x k2 hx with ⟨a',y,m1,m2,m3⟩|m1
   ·rcases h.aF a' y m2 x m3 with ⟨m4,m5⟩|m4
    ·grind [zex]
    omega
   ·exact .inr (yaj h.ext.size m1)
  ·exact b3.aF a e k1 x hx
 ·exact ⟨zz05a (ro rv (ups _ _ (fun hh=>(lends_p hh).1) hd.res)),rfl⟩
theorem Rel.zeb:∀ (as_ as_':List Nat) {σ:St},Rl z σ V w O φ α→(∀ (j a a':Nat),as_[j]? = some a→as_'[j]? = some a'→α a=α a')→Rl z (σ.zeb as_ as_') V w O φ α
 | [],_,σ,h,_=>h
 | _::_,[],σ,h,_=>h
 | a::as_,a'::as_',σ,h,he=>by
  have hr:∀ (j b b':Nat),as_[j]? = some b→as_'[j]? = some b'→α b=α b':=fun j b b' h1 h2=>he (j+1) b b' (by grind) (by grind)
  have e0:α a=α a':=he 0 a a' rfl rfl
  unfold St.zeb Go.Pe.zeb
  split
  ·rename_i e hk
   have hget:∀ t x,lk ((a,e)::z9d a' σ.A) t=some x→(t=a∧x=e)∨(t≠a'∧t≠a∧lk σ.A t=some x):=fun t x ht=>by
    simp only [lk] at ht
    split at ht
    ·simp_all
    ·rename_i hb
     obtain ⟨k1,k2⟩:=z4d ht
     exact .inr ⟨k1,fun q=>(by simp_all),k2⟩
   have h2:Rl z { σ with A:=(a,e)::z9d a' σ.A } V w O φ α:=by
    refine ⟨h.env,h.box,fun t x ht => ?_,h.bb,fun t u x y ht hu hn v hv => ?_,fun t b x y ht hb => ?_,h.bF,fun t x ht => ?_,h.bd,h.ext,h.only,h.gl,h.keep⟩
    ·rcases hget t x ht with ⟨rfl,rfl⟩|⟨k1,k2,k3⟩
     ·rw [e0];exact h.arr _ _ hk
     ·exact h.arr _ _ k3
    ·rcases hget t x ht with ⟨rfl,rfl⟩|⟨k1,k2,k3⟩<;>rcases hget u y hu with ⟨rfl,rfl⟩|⟨l1,l2,l3⟩
     ·omega
     ·rw [e0] at hv
      exact h.aa _ _ _ _ hk l3 (fun q=>l1 q.symm) v hv
     ·rw [e0]
      exact h.aa _ _ _ _ k3 hk k1 v hv
     ·exact h.aa _ _ _ _ k3 l3 hn v hv
    ·rcases hget t x ht with ⟨rfl,rfl⟩|⟨k1,k2,k3⟩
     ·rw [e0];exact h.ab _ _ _ _ hk hb
     ·exact h.ab _ _ _ _ k3 hb
    ·rcases hget t x ht with ⟨rfl,rfl⟩|⟨k1,k2,k3⟩
     ·rw [e0];exact h.aF _ _ hk
     ·exact h.aF _ _ k3
   exact Rel.zeb as_ as_' h2 hr
  ·exact Rel.zeb as_ as_' h hr
end
section
variable {z:W0} {V:Env} {w:World} {O:Nat→Prop} {φ:Nat→Nat} {α:Nat→Value} {σ:St} {C:Cx} {n:Nat} {ops:Array Oper} {o:Oper} {rest:List Oper} {K:Act→World→Prop}
theorem zs0 {ds:List Deferred} {G:GI} {con:Nat→CIn→z3x→Prop} {k:St→Prop} {kp:PV→St→Prop} (hcon:∀ f i o,con f i o→Con C.P G f i o) (hz:∀ w O,z.G w O→G.p w O) (hg:o.guard=none) (hn:dOk n o.dst=true) (h:Rl z σ V w O φ α) (hs:∀ x,z.O x→O x)
  (hk:∀ s,k s→NX z C n ds ops rest K s) (hp:∀ v s,kp v s→zar z C n ds v s) {c:Call} {x:Operand} {vs:List PV} {f:Nat} {as0 cs0:List PV} (ho:o.op = .call c) (hcx:c.callee = .value x) (hvs:σ.evs c.args.toList=some vs) (hx:σ.ev x=some (.fn f as0 cs0))
  (hw:ziv con σ f (as0++vs++cs0) (fun v σ=>k (σ.put o.dst v)) kp):OW C n ds ops (o::rest) K V w:=by
 obtain ⟨bs,as_,as_',i,out,hco,h1,h2,h3,h4,h5⟩:=hw
 have hC:=hcon _ _ _ hco
 obtain ⟨cal,cargs,cty⟩:=c
 simp only at hcx hvs
 subst hcx
 obtain ⟨ux,e1,us0,uc0,hux,e2,e3⟩:=h.ev hx
 rw [znw hC.nn] at hux
 subst hux
 obtain ⟨ua,e4,e5⟩:=h.evs hvs
 have e6:VRs w O φ α (as0++vs++cs0) (us0++ua++uc0):=(VRs.append (VRs.append e2 e5) e3)
 simp only [zht,yc] at h4
 obtain ⟨⟨⟨⟨⟨⟨q1,q2⟩,q3⟩,q4⟩,q5⟩,q6⟩,q7⟩:=h4
 have q3:=yah q3
 have q4:=yag q4
 -- what is owned for the call
 have hOc:∀ y,zbw O α (lk σ.A) (z9e.go i.vs (as0++vs++cs0)) y→O y:=fun y hy=>hy.1
 have ls:∀ a∈z9e.go i.vs (as0++vs++cs0),(∃ e,lk σ.A a=some e)∧a∉as_:=fun a ha=>by
  have:=yh.1 q7 a ha
  simp only [yc,ye] at this
  refine ⟨Option.isSome_iff_exists.1 this.1,fun hm => ?_⟩
  have h':as_.any (yab a)=true:=yi.2 ⟨a,hm,yac a⟩
  grind
 have gb:∀ j b,bs[j]? = some b→bs.getD j 0=b:=fun j b e=>by grind
 have ga:∀ j b,as_[j]? = some b→as_.getD j 0=b:=fun j b e=>by grind
 have td:Tr O w (zbw O α (lk σ.A) (z9e.go i.vs (as0++vs++cs0))) w:=Tr.drop w hOc
 have hin:VRs w (zbw O α (lk σ.A) (z9e.go i.vs (as0++vs++cs0))) (fun j=>φ (bs.getD j 0)) (fun j=>α (as_.getD j 0)) i.vs (us0++ua++uc0):=by
  have:=zbo (σ:=σ) (O:=O) (φ:=φ) (α:=α) (O2:=zbw O α (lk σ.A) (z9e.go i.vs (as0++vs++cs0))) hOc h.arr i.vs _ _ (fun a ha _ _ y hy=>hy.2 a ha (by grind)) e6
  rw [h1] at this
  exact za1 (fun j y _ e=>by rw [gb j y e]) (fun j y _ e=>by rw [ga j y e]) q3 (by omega) _ _ q5 this
 have pB:∀ (j:Nat) (e:Bx),i.B[j]? = some e→∃ (b:Nat) (y:Bx),bs[j]? = some b∧lk σ.B b=some y∧y.T=e.T∧nrm.go { σ with A:=[] } e.cs y.cs=zb6.go bs as_ e.cs:=zba h2
 have pA:∀ (j:Nat) (e:Nat × Nat × List (List D)),i.A[j]? = some e→∃ (a:Nat) (y:Arr),as_[j]? = some a∧lk σ.A a=some y∧y.T=e.1∧y.n=e.2.1∧y.l=e.2.2:=zhs h3
 have geB:∀ j (hj:j<i.B.length),i.B[j]? = some i.B[j]:=fun j hj=>by simp
 have geA:∀ j (hj:j<i.A.length),i.A[j]? = some i.A[j]:=fun j hj=>by simp
 have ownIn:∀ a y,lk σ.A a=some y→a∈as_→∀ b,(α a).ownBlock=some b→zbw O α (lk σ.A) (z9e.go i.vs (as0++vs++cs0)) b:=fun a y hy hm b hb=>⟨h.arrO hy hb,fun a' ha' _ hh=>by
  obtain ⟨⟨e',he'⟩,hna⟩:=ls a' ha'
  exact h.aa a' a e' y he' hy (fun q=>hna (q▸hm)) b hh hb⟩
 have aget:∀ (j:Nat) (e:Nat × Nat × List (List D)),(i.A.map some)[j]? = some (some e)→i.A[j]? = some e:=fun j e he=>by
  grind
 have hmm:Mm w (zbw O α (lk σ.A) (z9e.go i.vs (as0++vs++cs0))) (fun j=>φ (bs.getD j 0)) (fun j=>α (as_.getD j 0)) i.B (i.A.map some):=by
  refine ⟨fun j e he => ?_,fun j e he => ?_,fun a b la lb hn => ?_,fun a b e e' ha hb hn y hy => ?_,fun a b e ha lb => ?_⟩
  ·obtain ⟨b,y,k1,k2,k3,k4⟩:=pB j e he
   obtain ⟨k5,us,k6,k7⟩:=h.box b y k2
   simp only [gb j b k1]
   refine ⟨⟨k5,fun a ha _=>h.ab a b _ y ((ls a ha).1.choose_spec) k2⟩,us,k3▸k6,?_⟩
   have h8:=zbo (σ:={ σ with A:=[] }) (O:=zbw O α (lk σ.A) (z9e.go i.vs (as0++vs++cs0))) (φ:=φ) (α:=α) (O2:=zbw O α (lk σ.A) (z9e.go i.vs (as0++vs++cs0))) (fun _ hx=>hx) (fun _ _ hx=>by cases hx) e.cs _ _ (fun _ _ _ hx=>by cases hx) (VRs.tr td _ _ k7)
   rw [k4] at h8
   exact za1 (fun j y _ e=>by rw [gb j y e]) (fun j y _ e=>by rw [ga j y e]) q3 (by omega) _ _ (zz03x q6 he) h8
  ·obtain ⟨a,y,k1,k2,k3,k4,k5⟩:=pA j e (aget j e he)
   simp only [ga j a k1]
   have:=(h.arr a y k2).down hOc (ownIn a y k2 (yw k1))
   grind
  ·obtain ⟨b1,y1,k1,k2,_⟩:=pB a _ (geB a la)
   obtain ⟨b2,y2,k3,k4,_⟩:=pB b _ (geB b lb)
   simp only [gb a b1 k1,gb b b2 k3]
   exact h.bb b1 b2 y1 y2 k2 k4 fun q=>hn (z6w q1 a b b1 k1 (q▸k3))
  ·obtain ⟨b1,y1,k1,k2,_⟩:=pA a e (aget a e ha)
   obtain ⟨b2,y2,k3,k4,_⟩:=pA b e' (aget b e' hb)
   simp only [ga a b1 k1] at hy
   simp only [ga b b2 k3]
   exact h.aa b1 b2 y1 y2 k2 k4 (fun q=>hn (z6w q2 a b b1 k1 (q▸k3))) y hy
  ·obtain ⟨b1,y1,k1,k2,_⟩:=pA a e (aget a e ha)
   obtain ⟨b2,y2,k3,k4,_⟩:=pB b _ (geB b lb)
   simp only [ga a b1 k1,gb b b2 k3]
   exact h.ab b1 b2 y1 y2 k2 k4
 have pB':∀ j b,j<i.B.length→bs[j]? = some b→∃ e,lk σ.B b=some e:=fun j b hj hb=>by
  grind
 have pA':∀ j a,j<i.A.length→as_[j]? = some a→∃ e,lk σ.A a=some e:=fun j b hj hb=>by
  grind
 refine OW.callM hg rfl hn ho e1 e4 hC.ent ((hC.run w _ _ _ _ hin hmm (fun y hy=>h.bd y hy.1) (hz _ _ (z.hG td h.gl))).mono fun e w' hdone => ?_)
 cases out with
 | ok rvs B A =>
  obtain ⟨us,O',φ',α',rfl,hd⟩:=hdone
  replace h5:=zc h5
  obtain ⟨s,hf,hok,hkk⟩:=h5
  simp only [zma,yc] at hok
  obtain ⟨⟨⟨⟨⟨⟨r1,r2⟩,r3⟩,r4⟩,r5⟩,r6⟩,r7⟩:=hok
  have r2:=yag r2
  have r3:=yag r3
  have key:∃ Ob,Rl z s V w Ob φ α∧(∀ y,Ob y→O y)∧(∀ y,zbw O α (lk σ.A) (z9e.go i.vs (as0++vs++cs0)) y→Ob y)∧(∀ y,z.O y→Ob y)∧(∀ b e,lk s.B b=some e→∃ e0,lk σ.B b=some e0)∧(∀ b e,lk s.A b=some e→∃ e0,lk σ.A b=some e0)∧((∀ x,Ob x→O' x)∨zcr rvs B A=false):=by
   cases hl:zcr rvs B A with
   | true =>
    rw [hl] at hf
    obtain ⟨k1,k2,k3,_⟩:=z1u _ h hs hf
    exact ⟨_,k1,fun y hy=>hy.1,fun y hy=>hy,k2,fun b e=>zcf hf,fun b e he=>⟨e,k3 b e he⟩,.inl fun x hx=>hd.more x hx⟩
   | false =>
    rw [hl] at hf
    cases hf
    grind
  obtain ⟨Ob,k1,k2,k3,k4,k5,k6,k7⟩:=key
  obtain ⟨O2,φ2,α2,m1,m2,m3,_⟩:=zjr h k1 k2 k3 k5 k6 q1 r1 q3 q4 pB' pA' r2 r3 r4 r5 r6 r7 hd k7
  have m4:=m1.putO o.dst m3
  have m5:=hk _ (by grind [St.zaf]) _ _ ⟨O2,φ2,α2,m4,fun y hy=>m2 y (k4 y hy)⟩
  unfold zyb
  grind [putE]
 | okI rvs B A =>
  obtain ⟨us,O',φ',α',rfl,hd,hin'⟩:=hdone
  replace h5:=zc h5
  obtain ⟨s,hf,hok,hkk⟩:=h5
  simp only [zma,yc] at hok
  obtain ⟨⟨⟨⟨⟨⟨⟨r1,r2⟩,r3⟩,r4⟩,r5⟩,r6⟩,r7⟩,r8⟩:=hok
  have r2:=yag r2
  have r3:=yag r3
  have key:∃ Ob,Rl z s V w Ob φ α∧(∀ y,Ob y→O y)∧(∀ y,zbw O α (lk σ.A) (z9e.go i.vs (as0++vs++cs0)) y→Ob y)∧(∀ y,z.O y→Ob y)∧(∀ b e,lk s.B b=some e→∃ e0,lk σ.B b=some e0)∧(∀ b e,lk s.A b=some e→∃ e0,lk σ.A b=some e0)∧((∀ x,Ob x→O' x)∨zcr rvs B A=false):=by
   cases hl:zcr rvs B A with
   | true =>
    rw [hl] at hf
    obtain ⟨k1,k2,k3,_⟩:=z1u _ h hs hf
    exact ⟨_,k1,fun y hy=>hy.1,fun y hy=>hy,k2,fun b e=>zcf hf,fun b e he=>⟨e,k3 b e he⟩,.inl fun x hx=>hd.more x hx⟩
   | false =>
    rw [hl] at hf
    cases hf
    grind
  obtain ⟨Ob,k1,k2,k3,k4,k5,k6,k7⟩:=key
  obtain ⟨O2,φ2,α2,m1,m2,m3,m0⟩:=zjr h k1 k2 k3 k5 k6 q1 r1 q3 q4 pB' pA' r2 r3 r4 r5 r6 r7 hd k7
  have m1:=Rel.zeb as_ as_' m1 fun j a a' ha ha'=>by
   have hlt:j<i.A.length:=by
    have:=(ym.1 ha).1
    omega
   have hna:a∉as_':=fun hm=>by
    have:=yh.1 r8 a (yw ha)
    grind [yac]
   rw [m0,zwr hna,zsu r1 ha',hin' j hlt]
   grind
  have m4:=m1.putO o.dst m3
  have m5:=hk _ (by grind [St.zaf]) _ _ ⟨O2,φ2,α2,m4,fun y hy=>m2 y (k4 y hy)⟩
  unfold zyb
  grind [putE]
 | pan v =>
  obtain ⟨u,O',φ',α',rfl,d1,d2,d3,d4,d5⟩:=hdone
  have fi:∀ y,FI i (fun j=>φ (bs.getD j 0)) (fun j=>α (as_.getD j 0)) y→z.F y∨z.w.heap.size≤y:=fun y hy=>by
   rcases hy with ⟨j,hj,rfl⟩|⟨j,hj,hy⟩
   ·obtain ⟨b,e,k1,k2,_⟩:=pB j _ (geB j hj)
    simp only [gb j b k1]
    exact (h.bF b e k2).elim (fun q => .inl q.2) .inr
   ·obtain ⟨b,e,k1,k2,_⟩:=pA j _ (geA j hj)
    simp only [ga j b k1] at hy
    exact (h.aF b e k2 y hy).elim (fun q => .inl q.2) .inr
  obtain ⟨hsl,hkp⟩:=h5
  have h6:Rl z (σ.lost bs (as_++z9e.go i.vs (as0++vs++cs0))) V w O φ α:=h.mono (Le.refl _) (fun t v hv=>(z4x hv).2) (fun t v hv=>(z4x hv).2)
  have fiB:∀ x,FI i (fun j=>φ (bs.getD j 0)) (fun j=>α (as_.getD j 0)) x→(∃ b e,b∈bs∧lk σ.B b=some e∧φ b=x)∨∃ a e,a∈as_∧lk σ.A a=some e∧(α a).ownBlock=some x:=fun x hx=>by
   rcases hx with ⟨j,hj,hx⟩|⟨j,hj,hx⟩
   ·grind
   grind
  have h7:=h6.move d2 (O':=fun x=>O' x∨O x) ⟨d3.size,fun b hb' hn=>d3.block b hb' fun hh=>hn hh.1,fun b hb' hn hh=>by
    grind⟩ (fun y hy => .inr hy) (fun x hx=>by
    rcases hx with hx|hx
    ·exact d4 x hx
    ·exact yak (h.bd x hx) d3.size) (fun b e he hx=>by
    obtain ⟨n1,k1⟩:=z4x he
    rcases fiB _ hx with ⟨b',e',m1,m2,m3⟩|⟨a,e',m1,m2,m3⟩
    ·exact h.bb b' b e' e m2 k1 (fun q=>n1 (q▸m1)) m3
    ·exact h.ab a b e' e m2 k1 m3) (fun a e he y hy hx=>by
    obtain ⟨n1,k1⟩:=z4x he
    rcases fiB _ hx with ⟨b',e',m1,m2,m3⟩|⟨a',e',m1,m2,m3⟩
    ·exact h.ab a b' e e' k1 m2 (by grind)
    ·exact h.aa a' a e' e m2 k1 (fun q=>n1 (yo _ (q▸m1))) y m3 hy) (Ext.after h d2 fi) (fun x hx=>by
    rcases hx with hx|hx
    ·rcases d5 x hx with h1|h1
     ·exact h.only x h1.1
     ·exact .inr (yaj h.ext.size h1)
    ·exact h.only x hx)
  exact fun a ha hda=>hp v _ hkp V w' _ φ α u φ' α' h7 (fun x hx => .inr (hs x hx)) (z7r v u hsl d1) a ha hda
 | zhg v B =>
  obtain ⟨u,φv,αv,us,O',φ',α',rfl,hv,hd⟩:=hdone
  replace h5:=zc h5
  obtain ⟨s,hf,hok,hkk⟩:=h5
  simp only [zma,yc,ye] at hok
  obtain ⟨⟨⟨⟨⟨⟨⟨r1,r2⟩,r3⟩,r4⟩,r5⟩,r6⟩,r7⟩,r8⟩:=hok
  have r2:=yag r2
  have r3:=yag r3
  have key:∃ Ob,Rl z s V w Ob φ α∧(∀ y,Ob y→O y)∧(∀ y,zbw O α (lk σ.A) (z9e.go i.vs (as0++vs++cs0)) y→Ob y)∧(∀ y,z.O y→Ob y)∧(∀ b e,lk s.B b=some e→∃ e0,lk σ.B b=some e0)∧(∀ b e,lk s.A b=some e→∃ e0,lk σ.A b=some e0)∧((∀ x,Ob x→O' x)∨zcr [] B []=false):=by
   cases hl:zcr [] B [] with
   | true =>
    rw [hl] at hf
    obtain ⟨k1,k2,k3,_⟩:=z1u _ h hs hf
    exact ⟨_,k1,fun y hy=>hy.1,fun y hy=>hy,k2,fun b e=>zcf hf,fun b e he=>⟨e,k3 b e he⟩,.inl fun x hx=>hd.more x hx⟩
   | false =>
    rw [hl] at hf
    cases hf
    grind
  obtain ⟨Ob,k1,k2,k3,k4,k5,k6,k7⟩:=key
  obtain ⟨O2,φ2,α2,m1,m2,m3,_⟩:=zjr h k1 k2 k3 k5 k6 q1 r1 q3 q4 pB' pA' r2 r3 r4 r5 r6 r7 hd k7
  exact fun a ha hda=>hp v _ (St.z5u.mp hkk) V w' O2 φ2 α2 u φv αv m1 (fun y hy=>m2 y (k4 y hy)) (z7r v u r8 hv) a ha hda
end
end
section
section
variable {z:W0} {V:Env} {w:World} {O:Nat→Prop} {φ:Nat→Nat} {α:Nat→Value} {σ:St} {C:Cx} {n:Nat} {ops:Array Oper} {o:Oper} {rest:List Oper} {K:Act→World→Prop} {G:GI} {con:Nat→CIn→z3x→Prop} {tb:Tb} {cty:List (Nat × List (Option (Nat × Nat)))} {ann:Ann} {ds:List Deferred}
theorem OW.valO {v:Value} {w':World} (hg:o.guard=none) (hn:dOk n o.dst=true)
  (hr:∀ a,Has n V a→(execOp a.eval o).run C.P w = .ok (.value v) w') (h:OW C n ds ops rest K (putE o.dst v V) w'):OW C n ds ops (o::rest) K V w:=fun a ha hds =>
 wpList_plain hg fun K hK=>by
  unfold Oper.wp
  rw [hr a ha,Oper.upon_value]
  revert h hn
  cases o.dst with
  | none=>exact fun _ h=>hK _ _ (h _ ha.same (by grind [Act.put]))
  | some d=>exact fun hn h=>hK _ _ (h _ (ha.put (by grind [dOk,yaf])) (by grind [Act.put]))
theorem OW.notO {j s:Nat} {b:Bool} {x:Value} (hg:o.guard=some (j,b)) (hj:(ops[j]?).bind (·.dst)=some s) (hs:Env.get V s=some x) (hx:(x = .bool (!b))∨x=Go.undef)
  (hn:dOk n o.dst=true) (h:OW C n ds ops rest K (putE o.dst Go.undef V) w):OW C n ds ops (o::rest) K V w:=fun a ha hds =>
 wpList_step fun K hK=>by
  have hw:Region.wanted o (yielded ops a.tmps)=false:=by
   rcases hx with rfl|rfl<;>cases b<;>simp [Region.wanted,hg,yielded,hj,ha.get s _ hs,Go.undef]
  rw [if_neg (by simp [hw])]
  revert h hn
  cases o.dst with
  | none=>exact fun _ h=>hK _ _ (h _ ha.same (by grind [Act.put]))
  | some d=>exact fun hn h=>hK _ _ (h _ (ha.put (by grind [dOk,yaf])) (by grind [Act.put]))
theorem zmo {k:St→Prop} {kp:PV→St→Prop} (ht:TbG C.P tb G) (hcon:∀ f i o,con f i o→Con C.P G f i o) (hz:∀ w O,z.G w O→G.p w O) (hg:o.guard=none) (hn:dOk n o.dst=true) (h:Rl z σ V w O φ α) (hs:∀ x,z.O x→O x)
  (hk:∀ s,k s→NX z C n ds ops rest K s) (hp:∀ v s,kp v s→zar z C n ds v s) (hw:run tb cty ann con σ o k kp):OW C n ds ops (o::rest) K V w:=by
 unfold run at hw
 simp only [St.go_eq,St.zz01s] at hw
 split at hw
 ·obtain ⟨v,u,h1,h2,h3,_⟩:=z9z (n:=n) ht.toTbOk (fun w O h=>ht.gt w O (hz w O h)) h hw
  exact OW.valO hg hn h3 (hk _ h1 _ _ ⟨_,_,_,h.putO o.dst h2,hs⟩)
 ·exact ztw ht.toTbOk hg hn h hs hk hp (fun c x vs f as_ cs ho hcx hvs hx hcw=>zs0 hcon hz hg hn h hs hk hp ho hcx hvs hx hcw) hw
theorem zca {k:St→Prop} {kp:PV→St→Prop} (ht:TbG C.P tb G) (hcon:∀ f i o,con f i o→Con C.P G f i o) (hz:∀ w O,z.G w O→G.p w O) (hn:dOk n o.dst=true) (h:Rl z σ V w O φ α) (hs:∀ x,z.O x→O x)
  (hk:∀ s,k s→NX z C n ds ops rest K s) (hp:∀ v s,kp v s→zar z C n ds v s) (hw:exo tb cty ann con ops σ o k kp):OW C n ds ops (o::rest) K V w:=by
 unfold exo at hw
 simp only [St.go_eq,z9y] at hw
 split at hw
 ·grind [zmo]
 ·rename_i j b hg
  split at hw
  ·exact hw.elim
  ·rename_i s hj
   have hB:∀ b',Env.get V s=some (.bool b')→Rl z (σ.zmu s b') V w O φ α:=fun b' e=>⟨fun t v hv=>by
     rcases z4c hv with ⟨rfl,rfl⟩|⟨_,h2⟩
     ·exact ⟨_,e,rfl⟩
     ·exact h.env t v h2,h.box,h.arr,h.bb,h.aa,h.ab,h.bF,h.aF,h.bd,h.ext,h.only,h.gl,h.keep⟩
   have yes:run tb cty ann con (σ.zmu s b) o k kp→Env.get V s=some (.bool b)→OW C n ds ops (o::rest) K V w:=fun hw hu =>
    OW.yes hg hj hu (zmo (o:={ o with guard:=none }) ht hcon hz rfl hn (hB _ hu) hs hk hp hw)
   have no:k ((σ.zmu s (!b)).put o.dst .gone)→Env.get V s=some (.bool (!b))→OW C n ds ops (o::rest) K V w:=fun hw hu =>
    OW.notO hg hj hu (.inl rfl) hn (hk _ hw _ _ ⟨_,_,_,(hB _ hu).putO o.dst (v:=.gone) rfl,hs⟩)
   have gone:k (σ.put o.dst .gone)→∀ u,Env.get V s=some u→u=Go.undef→OW C n ds ops (o::rest) K V w:=fun hw u hu e =>
    OW.notO hg hj hu (.inr e) hn (hk _ hw _ _ ⟨_,_,_,h.putO o.dst (v:=.gone) rfl,hs⟩)
   split at hw
   ·rename_i c hc
    obtain ⟨u,h1,h2⟩:=h.env s _ hc
    simp only [VR] at h2
    grind
   ·rename_i hc
    obtain ⟨u,h1,h2⟩:=h.env s _ hc
    exact gone hw u h1 h2
   grind
theorem z6t {k:St→Prop} {kp:PV→St→Prop} (ht:TbG C.P tb G) (hcon:∀ f i o,con f i o→Con C.P G f i o) (hz:∀ w O,z.G w O→G.p w O) (hk:∀ s,k s→NX z C n ds ops rest K s) (hp:∀ v s,kp v s→zar z C n ds v s) :
  ∀ (os:List Oper) (σ:St),os.all (fun o=>dOk n o.dst)=true→zfg tb cty ann con ops kp k os σ→NX z C n ds ops (os++rest) K σ
 | [],σ,_,hw=>hk σ hw
 | o::os,σ,hn,hw=>fun V w ⟨O,φ,α,h,hs⟩=>by
  simp only [yg,yc] at hn
  exact zca ht hcon hz hn.1 h hs (fun s hks=>z6t ht hcon hz hk hp os s hn.2 hks) hp hw
theorem RS.cut {s:St} {c:Cut} (h:RS z σ V w) (e:σ.cut c=some s):RS z s V w:=by
 obtain ⟨O,φ,α,h,hs⟩:=h
 obtain ⟨O',α',h',hs'⟩:=zf7 h hs e
 exact ⟨O',φ,α',h',hs'⟩
theorem zpv {β:Type} {p:β→Bool} {l:List β} (h:l.all p=true) (m:Nat):(l.take m).all p=true∧(l.drop m).all p=true:=by
 grind
theorem zdt {k:St→Prop} {kp:PV→St→Prop} (ht:TbG C.P tb G) (hcon:∀ f i o,con f i o→Con C.P G f i o) (hz:∀ w O,z.G w O→G.p w O) (hk:∀ s,k s→NX z C n ds ops [] K s) (hp:∀ v s,kp v s→zar z C n ds v s) :
  ∀ (l:List (Nat × Nat × Cut)) (os:List Oper) (σ:St),os.all (fun o=>dOk n o.dst)=true→zlc tb cty ann con ops kp k l os σ→NX z C n ds ops os K σ
 | [],os,σ,hn,hw=>by
  have:=z6t (rest:=[]) ht hcon hz hk hp os σ hn hw
  grind
 | (n0,m,c)::r,os,σ,hn,hw=>by
  have hn0:=zpv hn n0
  have:=z6t (rest:=os.drop n0) ht hcon hz (fun σ1 ⟨J,h1,h2⟩=>by
   have hn2:=zpv hn0.2 m
   have:=z6t (rest:=(os.drop n0).drop m) (k:=fun s=>s.zat c J) ht hcon hz (fun s hs=>by
    obtain ⟨s',e,hj⟩:=z81 hs
    exact fun V w hr=>zdt ht hcon hz hk hp r _ s' hn2.2 (St.z5u.mp (h2 s' hj)) V w (hr.cut e)) hp ((os.drop n0).take m) σ1 hn2.1 h1
   rwa [yx] at this) hp (os.take n0) σ hn0.1 hw
  simp_all

end
end
section
def Vr (ops:Array Oper) (o:Oper) (V:Env):Env:=(o.looksAt ops).filterMap fun t=>(Env.get V t).map fun v=>(t,v)
theorem zz06r {ops:Array Oper} {o:Oper} {V:Env} {t:Nat} {v:Value} (h:Env.get (Vr ops o V) t=some v):t∈o.looksAt ops∧Env.get V t=some v:=by
 unfold Vr at h
 revert h
 induction o.looksAt ops with
 | nil=>intro h;cases h
 | cons s l ih =>
  cases hs:Env.get V s with
  | none =>
   grind
  | some x =>
   grind [Env.get,yag]
theorem Vr_of {ops:Array Oper} {o:Oper} {V:Env} {t:Nat} {v:Value} (ht:t∈o.looksAt ops) (h:Env.get V t=some v):Env.get (Vr ops o V) t=some v:=by
 unfold Vr
 revert ht
 induction o.looksAt ops with
 | nil=>simp
 | cons s l ih =>
  intro ht
  simp only [yk]
  by_cases e:s=t
  ·simp_all [Env.get]
  ·have ht2:t∈l:=by
    rcases yp.1 ht with rfl|ht
    ·grind
    ·exact ht
   cases hs:Env.get V s with
   | none=>exact ih ht2
   | some x =>
    grind [Env.get,yag]
theorem zco {β:Type} {t:Nat} {v:β}:∀ {ks:List Nat} {l:List (Nat × β)},lk (z9s ks l) t=some v→t∈ks
 | [],l,h=>by cases h
 | x::r,l,h=>by
  unfold z9s at h
  split at h
  ·rcases z4c h with ⟨rfl,rfl⟩|⟨_,h2⟩
   ·simp
   ·exact yq _ (zco h2)
  ·exact yq _ (zco h)
section
variable {z:W0} {V V':Env} {w w':World} {O O':Nat→Prop} {φ:Nat→Nat} {α:Nat→Value} {σ σ1:St} {C:Cx} {n:Nat} {ops:Array Oper} {o:Oper} {K:Act→World→Prop} {G:GI} {con:Nat→CIn→z3x→Prop} {tb:Tb} {cty:List (Nat × List (Option (Nat × Nat)))} {ann:Ann} {ds:List Deferred}
theorem zuq {σ σ':St}:∀ {xs:List Operand},(∀ x∈xs,σ'.ev x=σ.ev x)→σ'.evs xs=σ.evs xs
 | [],_=>rfl
 | x::xs,h=>by simp only [St.evs,h x yr,zuq fun y hy=>h y (yq _ hy)]
theorem zro {σ':St} {op:Op} {k:PV→Prop} (hev:∀ x∈op.operands,σ'.ev x=σ.ev x) (hB:σ'.B=σ.B) (hA:σ'.A=σ.A) (h:qop tb σ op k):qop tb σ' op k:=by
 have hl:∀ td u (kk:Int→Prop),zy7 td σ u kk→zy7 td σ' u kk:=fun td u kk=>by
  simp_all [zy7,lenM]
 have hload:∀ g m u,zm1 σ g m u k→zm1 σ' g m u k:=fun g m u=>by
  simp_all [zm1,loadP]
 revert h
 unfold qop
 split
 case h_1=>grind [Op.operands]
 case h_2=>grind [Op.operands]
 case h_3=>grind [Op.operands]
 case h_4=>simp_all [Op.operands]
 case h_5=>grind [Op.operands]
 case h_6=>grind [Op.operands]
 case h_7=>grind [Op.operands]
 case h_8=>grind [zuq,Op.operands]
 case h_9=>grind [Op.operands]
 case h_10=>grind [Op.operands]
 case h_11=>grind [Op.operands]
 case h_12=>grind [Op.operands]
 case h_13=>grind [Op.operands,ze]
 case h_14=>grind [Op.operands]
 case h_15 =>
  rename_i x y
  rw [hev y (by simp [Op.operands]),hA]
  grind [Op.operands]
 case h_16 =>
  rename_i t x lo hi
  have hlo:∀ y,lo=some y→σ'.ev y=σ.ev y:=fun y hy=>hev y (by grind [Op.operands])
  have hhi:∀ y,hi=some y→σ'.ev y=σ.ev y:=fun y hy=>hev y (by grind [Op.operands])
  rw [hev x (by simp [Op.operands])]
  refine ze fun _=>ze fun _ => ?_
  have e1:∀ kk:Int→Prop,loW σ lo kk→loW σ' lo kk:=fun kk=>by
   unfold loW
   grind
  have e2:∀ td u (kk:Int→Prop),hiW td σ u hi kk→hiW td σ' u hi kk:=fun td u kk=>by
   unfold hiW
   grind
  grind [zr1]
 case h_17 =>
  rename_i c
  split
  ·rename_i x t e1 e2 e3
   rw [hev x (by
    have e4:c.args = #[x]:=by apply yao.1;simpa using e2
    simp [Op.operands,Call.operands,e4])]
   grind [ze]
  ·rename_i x y e1 e2
   have e4:c.args = #[x,y]:=by apply yao.1;simpa using e2
   grind [Op.operands,Call.operands]
  ·rename_i x y e1 e2
   have e4:c.args = #[x,y]:=by apply yao.1;simpa using e2
   grind [Op.operands,Call.operands]
  ·exact id
 case h_18=>grind [Op.operands]
 case h_19=>grind [zuq,Op.operands]
 case h_20=>grind [Op.operands]
 simp
theorem zjv {x:Operand} (hx:x∈o.op.operands):(σ.only ops o).ev x=σ.ev x:=by
 cases x with
 | tmp t =>
  have ht:t∈o.looksAt ops:=by
   unfold Oper.looksAt
   exact yo _ (List.mem_filterMap.2 ⟨.tmp t,by grind,rfl⟩)
  show lk (z9s (o.looksAt ops) σ.L) t=lk σ.L t
  revert ht
  induction o.looksAt ops with
  | nil=>simp
  | cons s l ih =>
   intro ht
   unfold z9s
   by_cases e:s=t
   ·subst e
    cases hs:lk σ.L s with
    | none =>
     by_cases hl:s∈l
     ·grind
     ·cases hq:lk (z9s l σ.L) s with
      | none=>rfl
      | some y=>grind [zco]
    | some v=>simp [lk]
   ·grind [lk,yag]
 | const v=>rfl
 | global g=>rfl
 | func f=>rfl
theorem zz00a:stb (σ.only ops o) o.op=stb σ o.op:=by
 unfold stb
 split
 ·grind [zjv,Op.operands]
 ·rename_i c ho
  split
  ·rename_i x hx
   have:x∈c.args:=by rw [←Array.mem_toList_iff,hx];simp
   grind [zjv,Op.operands,Call.operands]
  ·rfl
 ·rfl
theorem Rel.lim (h:Rl z σ V w O φ α) (o:Oper):Rl z (σ.only ops o) (Vr ops o V) w O φ α :=
 ⟨fun t v hv=>by
  obtain ⟨u,h1,h2⟩:=h.env t v (z8x hv)
  exact ⟨u,Vr_of (zco hv) h1,h2⟩,h.box,h.arr,h.bb,h.aa,h.ab,h.bF,h.aF,h.bd,h.ext,h.only,h.gl,h.keep⟩
theorem Rel.zmu (h:Rl z σ V w O φ α) {s:Nat} {b:Bool} (e:Env.get V s=some (.bool b)):Rl z (σ.zmu s b) V w O φ α:=⟨fun t v hv=>by
  rcases z4c hv with ⟨rfl,rfl⟩|⟨_,h2⟩
  ·exact ⟨_,e,rfl⟩
  ·exact h.env t v h2,h.box,h.arr,h.bb,h.aa,h.ab,h.bF,h.aF,h.bd,h.ext,h.only,h.gl,h.keep⟩
def KQ (C:Cx) (n:Nat) (ops:Array Oper) (V:Env) (w:World) (O:Nat→Prop) (p:Nat × Bool):Prop :=
 ∃ (o:Oper) (d:Nat) (u:Value),ops[p.1]? = some o∧o.dst=some d∧Env.get V d=some u∧d∉o.looksAt ops ∧
  ((u=Go.undef∧∃ j b s x,o.guard=some (j,b)∧(ops[j]?).bind (·.dst)=some s∧Env.get V s=some x∧(x = .bool (!b)∨x=Go.undef)) ∨
   ((o.guard=none∨∃ j b s,o.guard=some (j,b)∧(ops[j]?).bind (·.dst)=some s∧Env.get V s=some (.bool b))∧(p.2=true→∀ w' O',Tr O w O' w'→EX C n (Vr ops o V) w' o u)))
def KN (C:Cx) (n:Nat) (ops:Array Oper) (V:Env) (w:World) (q:Nat):Prop :=
 ∃ (o:Oper) (d:Nat) (u:Value),ops[q]? = some o∧o.dst=some d∧Env.get V d=some u ∧
  ((u=Go.undef∧∃ j b s x,o.guard=some (j,b)∧(ops[j]?).bind (·.dst)=some s∧Env.get V s=some x∧(x = .bool (!b)∨x=Go.undef)) ∨
   ((o.guard=none∨∃ j b s,o.guard=some (j,b)∧(ops[j]?).bind (·.dst)=some s∧Env.get V s=some (.bool b))∧EX C n (Vr ops o V) w o u))
theorem z6v {j s:Nat} {b:Bool} (hg:o.guard=some (j,b)) (hj:(ops[j]?).bind (·.dst)=some s):s∈o.looksAt ops:=by
 grind [Oper.looksAt]
theorem Vr_eq (h:∀ t∈o.looksAt ops,Env.get V' t=Env.get V t):Vr ops o V'=Vr ops o V:=by
 unfold Vr
 revert h
 induction o.looksAt ops with
 | nil=>intro _;rfl
 | cons s l ih =>
  grind
theorem KQ.move {p:Nat × Bool} (h:KQ C n ops V w O p) (t:Tr O w O' w') (he:∀ o,ops[p.1]? = some o→∀ d,o.dst=some d→Env.get V' d=Env.get V d∧∀ t∈o.looksAt ops,Env.get V' t=Env.get V t):KQ C n ops V' w' O' p:=by
 obtain ⟨o,d,u,h1,h2,h3,h4,h5⟩:=h
 obtain ⟨e1,e2⟩:=he o h1 d h2
 refine ⟨o,d,u,h1,h2,by grind,h4,?_⟩
 rcases h5 with ⟨k1,j,b,s,x,k3,k4,k5,k6⟩|⟨k1,k2⟩
 ·grind [z6v]
 ·refine .inr ⟨?_,fun hp w2 O2 t2=>by rw [Vr_eq e2];exact k2 hp w2 O2 (t.trans t2)⟩
  grind [z6v]
theorem KN.move {q:Nat} (h:KN C n ops V w q) (he:∀ o,ops[q]? = some o→∀ d,o.dst=some d→Env.get V' d=Env.get V d∧∀ t∈o.looksAt ops,Env.get V' t=Env.get V t):KN C n ops V' w q:=by
 obtain ⟨o,d,u,h1,h2,h3,h5⟩:=h
 obtain ⟨e1,e2⟩:=he o h1 d h2
 refine ⟨o,d,u,h1,h2,by grind,?_⟩
 grind [z6v,Vr_eq]
theorem z6m {d:Nat}:∀ {dn:List Nat},z9j ops d dn=true→∀ p∈dn,∀ o,ops[p]? = some o→∀ e,o.dst=some e→e≠d∧d∉o.looksAt ops
 | q::r,h,p,hp,o,ho,e,he=>by
  simp only [z9j,yc] at h
  rcases yp.1 hp with rfl|hp
  ·have h1:=h.1
   rw [ho] at h1
   simp only [he,yc,ye] at h1
   refine ⟨yam h1.1,fun hm => ?_⟩
   have:(o.looksAt ops).any (yab d)=true:=yi.2 ⟨d,hm,yac d⟩
   grind
  ·exact z6m h.2 p hp o ho e he
theorem z5w {d t:Nat} {u:Value} (h:t≠d):Env.get ((d,u)::V) t=Env.get V t:=by
 grind [Env.get,yag]
theorem zz010 {op:Op} (h:synQ op=true):stb σ op=true:=by
 cases op<;>first|rfl|cases h
theorem zlb {dn:List (Nat × Bool)} {ix:List Nat} {q:Nat} {k:St→List (Nat × Bool)→Prop} (ht:TbOk C.P tb) (hgt:∀ w O,z.G w O→GtOk tb w O) (h:Rl z σ V w O φ α) (hn:∀ o,ops[q]? = some o→dOk n o.dst=true) (hcq:znm ops [q] ix=true) (hw:exq tb ops σ dn q k) :
  ∃ d u b σ1 o,ops[q]? = some o∧o.dst=some d∧yae d n=true∧z9j ops d ix=true∧k σ1 ((q,b)::dn)∧Rl z σ1 ((d,u)::V) w O φ α∧KQ C n ops ((d,u)::V) w O (q,b)∧KN C n ops ((d,u)::V) w q∧(synQ o.op=true→b=true):=by
 unfold exq at hw
 simp only [St.go_eq,z9y] at hw
 split at hw
 ·exact hw.elim
 ·rename_i o ho
  have hn:=hn o ho
  split at hw
  ·rename_i d hd hq
   ·have hcl:=hcq
    simp only [znm,ho,hd,yc,ye,and_true] at hcl
    have hdl:d∉o.looksAt ops:=fun hm=>by
     have:(o.looksAt ops).any (yab d)=true:=yi.2 ⟨d,hm,yac d⟩
     grind
    rw [hd] at hn
    have gd:∀ u:Value,Env.get ((d,u)::V) d=some u:=fun u=>by simp [Env.get]
    have ev:∀ u:Value,Vr ops o ((d,u)::V)=Vr ops o V:=fun u=>Vr_eq fun t ht'=>z5w fun e=>hdl (e▸ht')
    -- wanted
    have yes:∀ (σ':St),Rl z σ' V w O φ α→(o.guard=none∨∃ j b s,o.guard=some (j,b)∧(ops[j]?).bind (·.dst)=some s∧Env.get V s=some (.bool b))→(qop tb σ' o.op fun v=>k (σ'.put (some d) v) ((q,stb σ' o.op)::dn)) →
      ∃ d u b σ1 o,ops[q]? = some o∧o.dst=some d∧yae d n=true∧z9j ops d ix=true∧k σ1 ((q,b)::dn)∧Rl z σ1 ((d,u)::V) w O φ α∧KQ C n ops ((d,u)::V) w O (q,b)∧KN C n ops ((d,u)::V) w q∧(synQ o.op=true→b=true):=fun σ' h' hg hw'=>by
     obtain ⟨v,u,k1,k2,k3,k4⟩:=z9z (n:=n) ht hgt (h'.lim (ops:=ops) o) (zro (fun x hx=>zjv hx) rfl rfl hw')
     rw [zz00a] at k4
     have hg':o.guard=none∨∃ j b s,o.guard=some (j,b)∧(ops[j]?).bind (·.dst)=some s∧Env.get ((d,u)::V) s=some (.bool b):=by
      rcases hg with hg|⟨j,b,s,g1,g2,g3⟩
      ·exact .inl hg
      ·grind [z5w,z6v]
     exact ⟨d,u,_,_,o,ho,hd,hn,hcl.1,k1,h'.zne k2,⟨o,d,u,ho,hd,gd u,hdl,.inr ⟨hg',fun hs w2 O2 t2=>by grind⟩⟩,⟨o,d,u,ho,hd,gd u,.inr ⟨hg',by grind⟩⟩,zz010⟩
    have no:∀ (σ':St) (j s:Nat) (b:Bool) (x:Value),Rl z σ' V w O φ α→o.guard=some (j,b)→(ops[j]?).bind (·.dst)=some s→Env.get V s=some x→(x = .bool (!b)∨x=Go.undef)→k (σ'.put (some d) .gone) ((q,true)::dn) →
      ∃ d u b σ1 o,ops[q]? = some o∧o.dst=some d∧yae d n=true∧z9j ops d ix=true∧k σ1 ((q,b)::dn)∧Rl z σ1 ((d,u)::V) w O φ α∧KQ C n ops ((d,u)::V) w O (q,b)∧KN C n ops ((d,u)::V) w q∧(synQ o.op=true→b=true):=fun σ' j s b x h' g1 g2 g3 g4 hk=>by
     have g5:Env.get ((d,Go.undef)::V) s=some x:=by rw [z5w (t:=s) (d:=d) fun e=>hdl (by grind [z6v])];exact g3
     exact ⟨d,Go.undef,true,_,o,ho,hd,hn,hcl.1,hk,h'.zne (v:=.gone) rfl,⟨o,d,_,ho,hd,gd _,hdl,.inl ⟨rfl,j,b,s,x,g1,g2,g5,g4⟩⟩,⟨o,d,_,ho,hd,gd _,.inl ⟨rfl,j,b,s,x,g1,g2,g5,g4⟩⟩,fun _=>rfl⟩
    split at hw
    ·grind
    ·rename_i j b hg
     split at hw
     ·exact hw.elim
     ·rename_i s hj
      split at hw
      ·rename_i c hc
       obtain ⟨x,h1,h2⟩:=h.env s _ hc
       subst h2
       split at hw
       ·rcases zno hw with ⟨rfl,hw⟩|⟨rfl,hw⟩
        ·exact yes _ (h.zmu h1) (.inr ⟨j,_,s,hg,hj,h1⟩) hw
        ·exact no _ j s _ _ (h.zmu h1) hg hj h1 (.inl rfl) hw
       ·rcases zno hw with ⟨rfl,hw⟩|⟨rfl,hw⟩
        ·exact no _ j s _ _ (h.zmu h1) hg hj h1 (.inl rfl) hw
        ·exact yes _ (h.zmu h1) (.inr ⟨j,_,s,hg,hj,h1⟩) hw
      ·rename_i hc
       obtain ⟨x,h1,h2⟩:=h.env s _ hc
       exact no σ j s b x h hg hj h1 (.inr h2) hw
      grind
  grind
theorem zi2 {k:St→List (Nat × Bool)→Prop} (ht:TbOk C.P tb) (hgt:∀ w O,z.G w O→GtOk tb w O) (hn:∀ (q:Nat) (o:Oper),ops[q]? = some o→dOk n o.dst=true):∀ (qs:List Nat) {σ:St} {V:Env} {dn:List (Nat × Bool)},Rl z σ V w O φ α→znm ops qs (dn.map (·.1))=true→zqi tb ops qs σ dn k→(∀ p∈dn,KQ C n ops V w O p) →
  ∃ (qv:Env) (σ1:St) (dn1:List (Nat × Bool)),qvOk ops n qs qv=true∧k σ1 dn1∧Rl z σ1 (qv++V) w O φ α∧(∀ p∈dn1,KQ C n ops (qv++V) w O p)∧(∀ q∈qs,KN C n ops (qv++V) w q)∧(∀ p∈dn,p∈dn1)∧(∀ q∈qs,∃ b,(q,b)∈dn1)∧dn1.map (·.1)=qs.reverse++dn.map (·.1) ∧
   (∀ p∈dn,∀ o,ops[p.1]? = some o→∀ d,o.dst=some d→Env.get (qv++V) d=Env.get V d∧∀ t∈o.looksAt ops,Env.get (qv++V) t=Env.get V t)
 | [],σ,V,dn,h,_,hw,hd=>⟨[],σ,dn,rfl,hw,h,hd,by simp,fun _ h=>h,by simp,by simp,fun _ _ _ _ _ _=>⟨rfl,fun _ _=>rfl⟩⟩
 | q::r,σ,V,dn,h,hc,hw,hd=>by
  have hc1:znm ops [q] (dn.map (·.1))=true:=by
   simp only [znm,yc] at hc ⊢
   exact ⟨hc.1,trivial⟩
  have hc2:znm ops r (q::dn.map (·.1))=true:=by
   simp only [znm,yc] at hc
   exact hc.2
  obtain ⟨d,u,b,σ2,o,ho,hod,hdn,hcl,hk,h2,hq,hqn,_⟩:=zlb ht hgt h (hn q) hc1 hw
  have keep:∀ p∈dn,∀ o,ops[p.1]? = some o→∀ e,o.dst=some e→Env.get ((d,u)::V) e=Env.get V e∧∀ t∈o.looksAt ops,Env.get ((d,u)::V) t=Env.get V t:=fun p hp o' ho' e he=>by
   obtain ⟨n1,n2⟩:=z6m hcl p.1 (yv.2 ⟨p,hp,rfl⟩) o' ho' e he
   grind [z5w]
  obtain ⟨qv,σ1,dn1,k1,k2,k3,k4,k5,k6,k7,k9,k8⟩:=zi2 ht hgt hn r h2 (by grind) hk (fun p hp=>by
   rcases yp.1 hp with rfl|hp
   ·exact hq
   ·exact (hd p hp).move (Tr.refl _ _) (keep p hp))
  have ee:qv++(d,u)::V=(qv++[(d,u)])++V:=by simp
  rw [ee] at k3 k4 k5 k8
  refine ⟨qv++[(d,u)],σ1,dn1,?_,k2,k3,k4,fun q' hq' => ?_,fun p hp=>k6 p (yq _ hp),fun p hp => ?_,by rw [k9];simp,fun p hp o' ho' e he => ?_⟩
  ·unfold qvOk at k1 ⊢
   rw [List.all_append,yc]
   refine ⟨yh.2 fun p hp => ?_,?_⟩
   ·have:=yh.1 k1 p hp
    grind
   ·grind [z8n]
  ·rcases yp.1 hq' with rfl|hq'
   ·exact hqn.move fun o' ho' e he=>k8 (q',b) yr o' ho' e he
   grind
  ·grind
  grind
mutual
theorem zul:∀ (v:PV) (u u':Value),detP v=true→VR w O φ α v u→VR w O φ α v u'→u=u'
 | .int _ _,u,u',_,h,h'=>by grind [VR]
 | .bool _,u,u',_,h,h'=>by grind [VR]
 | .str _,u,u',_,h,h'=>by grind [VR]
 | .nil,u,u',_,h,h'=>by grind [VR]
 | .ref _,u,u',_,h,h'=>by grind [VR]
 | .ptr _ _,u,u',_,h,h'=>by grind [VR]
 | .ze6,u,u',_,h,h'=>by grind [VR]
 | .zei,u,u',_,h,h'=>by grind [VR]
 | .agg cs,u,u',hd,h,h'=>by
  obtain ⟨us,rfl,h⟩:=h
  obtain ⟨us',rfl,h'⟩:=h'
  rw [znq cs us us' hd h h']
 | .tup cs,u,u',hd,h,h'=>by
  obtain ⟨us,rfl,h⟩:=h
  obtain ⟨us',rfl,h'⟩:=h'
  rw [znq cs us us' hd h h']
 | .iface T v,u,u',hd,h,h'=>by
  obtain ⟨x,rfl,h⟩:=h
  obtain ⟨x',rfl,h'⟩:=h'
  rw [zul v x x' hd h h']
 | .sl _ _ _,_,_,hd,_,_=>by cases hd
 | .zbc _ _,_,_,hd,_,_=>by cases hd
 | .zbx _ _ _ _,_,_,hd,_,_=>by cases hd
 | .fn _ _ _,_,_,hd,_,_=>by cases hd
 | .undef,_,_,hd,_,_=>by cases hd
 | .gone,_,_,hd,_,_=>by cases hd
 | .z1l _,_,_,hd,_,_=>by cases hd
 | .err _,_,_,hd,_,_=>by cases hd
 | .mp _,_,_,hd,_,_=>by cases hd
 | .md _,_,_,hd,_,_=>by cases hd
theorem znq:∀ (vs:List PV) (us us':List Value),detP.go vs=true→VRs w O φ α vs us→VRs w O φ α vs us'→us=us'
 | [],us,us',_,h,h'=>by rw [show us=[] from h,show us'=[] from h']
 | v::vs,us,us',hd,h,h'=>by
  simp only [detP.go,yc] at hd
  obtain ⟨u,r,rfl,h1,h2⟩:=h
  obtain ⟨u',r',rfl,h1',h2'⟩:=h'
  rw [zul v u u' hd.1 h1 h1',znq vs r r' hd.2 h2 h2']
end
theorem zgo (ht:TbOk C.P tb) (hgt:∀ w O,z.G w O→GtOk tb w O) (h:Rl z σ V w O φ α):∀ {dn:List (Nat × Bool)},zcw tb ops σ dn→(∀ p∈dn,KQ C n ops V w O p)→∀ p∈dn,KN C n ops V w p.1
 | [],_,_,p,hp=>by cases hp
 | (q,st)::r,hw,hd,p,hp=>by
  have hr:zcw tb ops σ r:=by
   cases st with
   | true=>exact hw
   | false=>exact hw.2
  rcases yp.1 hp with rfl|hp
  ·obtain ⟨o,d,u,h1,h2,h3,h4,h5⟩:=hd _ yr
   refine ⟨o,d,u,h1,h2,h3,?_⟩
   rcases h5 with ⟨k1,k3⟩|⟨k1,k2⟩
   ·grind
   ·refine .inr ⟨k1,?_⟩
    cases st with
    | true=>exact k2 rfl w O (Tr.refl _ _)
    | false =>
     have hw:=hw.1
     simp only [h1,h2] at hw
     split at hw
     ·rename_i v hv
      obtain ⟨hdet,hw⟩:=hw
      obtain ⟨v',u',e1,e2,e3,_⟩:=z9z (n:=n) ht hgt (h.lim (ops:=ops) o) (zro (fun x hx=>zjv hx) rfl rfl hw)
      obtain ⟨u2,e4,e5⟩:=h.env d _ hv
      grind [zul]
     grind
  ·exact zgo ht hgt h hr (fun p hp=>hd p (yq _ hp)) p hp
theorem KN.stab {q:Nat} {b:Act} (h:KN C n ops V w q) (hb:Has n V b):z6q C.P ops b w q:=by
 obtain ⟨o,d,u,h1,h2,h3,h4⟩:=h
 intro o' ho' d' hd'
 rw [h1] at ho'
 cases ho'
 rw [h2] at hd'
 cases hd'
 have hu:=hb.get d u h3
 rcases h4 with ⟨rfl,j,bb,s,x,g1,g2,g3,g4⟩|⟨g,hx⟩
 ·have hw:Region.wanted o (yielded ops b.tmps)=false:=by
   rcases g4 with rfl|rfl<;>cases bb<;>simp [Region.wanted,g1,yielded,g2,hb.get s _ g3,Go.undef]
  grind
 ·have hw:Region.wanted o (yielded ops b.tmps)=true:=by
   rcases g with g|⟨j,bb,s,g1,g2,g3⟩
   ·simp [Region.wanted,g]
   ·simp [Region.wanted,g1,yielded,g2,hb.get s _ g3]
  exact ⟨fun _=>⟨u,hu,hx b ⟨hb.size,fun t v e=>hb.get t v (zz06r e).2⟩⟩,fun hh=>(by grind)⟩
theorem zkc {b:Act} (h:wpList C.P ops (QT C ds fun a' w'=>(∀ t,o.dst≠some t→a'.tmps[t]? = b.tmps[t]?)→K a' w') [o] b w):wpList C.P ops (QT C ds K) [o] b w:=by
 have put:∀ dd v t,o.dst≠some t→(({ b with defers:=dd }:Act).put o.dst v).tmps[t]? = b.tmps[t]?:=fun dd v t hne=>by
  unfold Act.put
  grind
 unfold wpList at h ⊢
 split at h
 ·rename_i hw
  rw [if_pos hw]
  rcases h with h|h
  ·left
   refine zdn (o:=o) (a:=b) (b:=b) (fun dd v w hh => ?_) (fun _ _ hh=>hh) zhp _ h
   exact ⟨hh.1,hh.2 (put _ v)⟩
  grind [zhp]
 ·rename_i hw
  rw [if_neg hw]
  exact ⟨h.1,h.2 (put b.defers _)⟩
def z5s (a:Act):Env:=(List.range a.tmps.size).filterMap fun t=>(a.tmps[t]?).map fun v=>(t,v)
theorem zc7 {a:Act} {t:Nat} {v:Value}:Env.get (z5s a) t=some v↔a.tmps[t]? = some v:=by
 have key:∀ l:List Nat,(Env.get (l.filterMap fun t=>(a.tmps[t]?).map fun v=>(t,v)) t=some v↔t∈l∧a.tmps[t]? = some v):=by
  intro l
  induction l with
  | nil=>simp [Env.get]
  | cons s l ih =>
   simp only [yk]
   cases hs:a.tmps[s]? with
   | none =>
    grind
   | some x =>
    simp only [Option.map_some]
    by_cases e:s=t
    ·simp_all [Env.get]
    ·rw [z5w (Ne.symm e),ih]
     grind
 grind [z5s]
theorem z6i {a:Act} (h:a.tmps.size=n):Has n (z5s a) a:=⟨h,fun _ _ e=>zc7.1 e⟩
theorem Rel.z5s {a:Act} (h:Rl z σ V w O φ α) (ha:Has n V a):Rl z σ (Pe.z5s a) w O φ α:=⟨fun t v hv=>by
  obtain ⟨u,h1,h2⟩:=h.env t v hv
  exact ⟨u,zc7.2 (ha.get t u h1),h2⟩,h.box,h.arr,h.bb,h.aa,h.ab,h.bF,h.aF,h.bd,h.ext,h.only,h.gl,h.keep⟩
def W0.mark (z:W0) (w:World) (O:Nat→Prop):W0:={ z with G:=fun w' O'=>z.G w' O'∧Tr O w O' w',hG:=fun t h=>⟨z.hG t h.1,h.2.trans t⟩ }
theorem Rel.mark (h:Rl z σ V w O φ α):Rl (z.mark w O) σ V w O φ α:=⟨h.env,h.box,h.arr,h.bb,h.aa,h.ab,h.bF,h.aF,h.bd,h.ext,h.only,⟨h.gl,Tr.refl _ _⟩,h.keep⟩
theorem Rel.ze9 {w0:World} {O0:Nat→Prop} (h:Rl (z.mark w0 O0) σ V w O φ α):Rl z σ V w O φ α∧Tr O0 w0 O w:=⟨⟨h.env,h.box,h.arr,h.bb,h.aa,h.ab,h.bF,h.aF,h.bd,h.ext,h.only,h.gl.1,h.keep⟩,h.gl.2⟩
theorem zjp {kp:List Nat} {dn:List (Nat × Bool)} {p:Nat × Bool} (h:p∈z3z kp dn):p∈dn∧p.1∈kp:=by
 grind [z3z,yag]
theorem zeg (a:Act) (t:Nat):Env.get (Pe.z5s a) t=a.tmps[t]?:=by
 cases hx:a.tmps[t]? with
 | some x=>exact zc7.2 hx
 | none =>
  cases hy:Env.get (Pe.z5s a) t with
  | none=>rfl
  | some y=>grind [zc7]
theorem fullV {a b:Act} {qv:Env} (hb:Has n (qv++Pe.z5s a) b) (hz:a.tmps.size=n) (t:Nat):Env.get (qv++Pe.z5s a) t=b.tmps[t]?:=by
 cases hg:Env.get (qv++Pe.z5s a) t with
 | some x=>exact (hb.get t x hg).symm
 | none =>
  have:∀ {l l2:Env},Env.get (l++l2) t=none→Env.get l2 t=none:=by
   intro l l2
   induction l with
   | nil=>exact id
   | cons p l ih =>
    grind [Env.get]
  have h2:a.tmps[t]? = none:=by
   cases hx:a.tmps[t]? with
   | none=>rfl
   | some x=>grind [zc7]
  have h3:=hb.size
  grind
theorem z8s {k:St→List (Nat × Bool)→Prop} (ht:TbOk C.P tb) (hgt:∀ w O,z.G w O→GtOk tb w O) (hn:∀ (q:Nat) (o:Oper),ops[q]? = some o→dOk n o.dst=true) (qs done:List Nat) {dn:List (Nat × Bool)} (a:Act) (hsz:a.tmps.size=n) (hda:a.defers=ds) (h:Rl z σ (Pe.z5s a) w O φ α)
  (hd:∀ p∈dn,KQ C n ops (Pe.z5s a) w O p) (hdone:∀ q∈done,∃ b,(q,b)∈dn) (hc:znm ops qs (dn.map (·.1))=true) (hw:zqi tb ops qs σ dn fun σ1 dn1=>zcw tb ops σ1 dn∧k σ1 dn1) :
  ∃ (b:Act) (σ1:St) (dn1:List (Nat × Bool)),Off ops qs a b∧b.tmps.size=n∧b.defers=ds∧Rl z σ1 (Pe.z5s b) w O φ α∧(∀ p∈dn1,KQ C n ops (Pe.z5s b) w O p)∧(∀ q∈done++qs,z6q C.P ops b w q)∧(∀ q∈done++qs,∃ st,(q,st)∈dn1)∧dn1.map (·.1)=qs.reverse++dn.map (·.1)∧k σ1 dn1:=by
 obtain ⟨qv,σ1,dn1,e1,⟨e2,e3⟩,e4,e5,e6,e7,e8,e10,_⟩:=zi2 ht hgt hn qs h hc hw hd
 obtain ⟨b,hb,hoff⟩:=(z6i hsz).off e1
 have fb:=fullV hb hsz
 refine ⟨b,σ1,dn1,hoff,hb.size,by rw [←hoff.defers];exact hda,e4.z5s hb,fun p hp=>(e5 p hp).move (Tr.refl _ _) fun o _ d _=>⟨(zeg b d).trans (fb d).symm,fun t _=>(zeg b t).trans (fb t).symm⟩,fun q hq => ?_,fun q hq => ?_,e10,e3⟩
 ·rcases yn.1 hq with hq|hq
  ·obtain ⟨st,hst⟩:=hdone q hq
   exact (zgo ht hgt e4 e2 (fun p hp=>e5 p (e7 p hp)) (q,st) hst).stab hb
  ·exact (e6 q hq).stab hb
 grind
theorem zz08m {cs:List (Nat × Cut)} {e:Nat} {k:St→Prop} {w':World} {V':Env} (h:rst cs e σ k) (hr:RS z σ V' w'):∃ s,RS z s V' w'∧k s:=by
 unfold rst at h
 split at h
 ·obtain ⟨J,h1,h2⟩:=h
  obtain ⟨s,e1,hj⟩:=zc h1
  exact ⟨s,hr.cut e1,St.z5u.mp (h2 s (St.z5u.mp hj))⟩
 grind
theorem zpw {cs:List (Nat × Cut)} {anc:Anc} {k:St→Prop} {kp:PV→St→Prop} {e:Nat} {o:Oper} {kpl qs2:List Nat} {g:Gt} {rem wai done:List Nat} {dn:List (Nat × Bool)} (ht:TbG C.P tb G) (hcon:∀ f i o,con f i o→Con C.P G f i o) (hz:∀ w O,z.G w O→G.p w O) (hn:∀ (q:Nat) (o:Oper),ops[q]? = some o→dOk n o.dst=true) (hp:∀ v s,kp v s→zar z C n ds v s)
  (_hk:∀ s,k s→∀ V w,RS z s V w→∀ a,Has n V a→a.defers=ds→K a w) (ho:ops[e]? = some o) (hnode:z6e anc rem wai done e kpl qs2=true) (hal:z2j anc (z0o rem [e]) (z0o wai qs2) (kpl++qs2) g=true)
  (hc2:(match (some o:Option Oper) with
   | some o=>match o.dst with
    | some d=>z9j ops d (z9t kpl (dn.map (·.1)))
    | none=>true
   | none=>true)=true) (hcq:znm ops qs2 (z9t kpl (dn.map (·.1)))=true) (hca:zyr ops g (qs2.reverse++z9t kpl (dn.map (·.1)))=true)
  (ih:∀ (dn:List (Nat × Bool)) (rem wai done:List Nat) (σ:St) (w:World) (O:Nat→Prop) (φ:Nat→Nat) (α:Nat→Value) (b:Act),b.tmps.size=n→b.defers=ds→Rl z σ (Pe.z5s b) w O φ α→(∀ x,z.O x→O x)→(∀ p∈dn,KQ C n ops (Pe.z5s b) w O p) →
   (∀ q∈done,z6q C.P ops b w q)→(∀ q∈done,∃ st,(q,st)∈dn)→z2j anc rem wai done g=true→zyr ops g (dn.map (·.1))=true→zc9 tb cty ann con ops cs kp k g dn σ→DRa C ds ops K done g b w)
  (b:Act) (hsz:b.tmps.size=n) (hda:b.defers=ds) (h:Rl z σ (Pe.z5s b) w O φ α) (hs:∀ x,z.O x→O x) (hd:∀ p∈dn,KQ C n ops (Pe.z5s b) w O p) (hdone:∀ q∈done,∃ st,(q,st)∈dn)
  (hw:exo tb cty ann con ops σ o (fun σ2=>rst cs e σ2 fun σ2=>zqi tb ops qs2 σ2 (z3z kpl dn) fun σ3 dn3=>zcw tb ops σ3 (z3z kpl dn)∧zc9 tb cty ann con ops cs kp k g dn3 σ3) kp) :
  wpList C.P ops (QT C ds (fun a' w'=>∃ b',Off ops qs2 a' b'∧DRa C ds ops K (kpl++qs2) g b' w')) [o] b w:=by
 have ekept:(z3z kpl dn).map (·.1)=z9t kpl (dn.map (·.1)):=by
  unfold z3z z9t
  rw [yl]
  rfl
 have hb:Has n (Pe.z5s b) b:=z6i hsz
 refine zkc (zca (z:=z.mark w O) (rest:=[]) (K:=fun a' w'=>(∀ t,o.dst≠some t→a'.tmps[t]? = b.tmps[t]?)→∃ b',Off ops qs2 a' b'∧DRa C ds ops K (kpl++qs2) g b' w') ht hcon (fun w O h=>hz w O h.1) (hn e o ho) h.mark hs (fun σ2 hσ2 V2 w2 hr => ?_) (fun v s hv V w O φ α u φ' α' r s2 hr a ha hda=>hp v s hv V w O φ α u φ' α' r.ze9.1 s2 hr a ha hda) hw b hb hda)
 obtain ⟨σ2',hr,hσ2⟩:=zz08m hσ2 hr
 obtain ⟨O2,φ2,α2,r,s2⟩:=hr
 obtain ⟨r',t⟩:=r.ze9
 refine OW.fin fun a' ha' hda' hag => ?_
 simp only [z6e,yc] at hnode
 have hmv:∀ p∈z3z kpl dn,KQ C n ops (Pe.z5s a') w2 O2 p:=fun p hp=>by
  obtain ⟨hp1,hp2⟩:=zjp hp
  refine (hd p hp1).move t fun o' ho' d hd' => ?_
  have hne:∀ x,o.dst=some x→d≠x∧x∉o'.looksAt ops:=fun x hx=>by
   simp only [hx] at hc2
   exact z6m hc2 p.1 (by grind) o' ho' d hd'
  refine ⟨?_,fun t ht' => ?_⟩
  ·rw [zeg,zeg]
   grind
  grind [zeg]
 have hkd:∀ q∈kpl,∃ st,(q,st)∈z3z kpl dn:=fun q hq=>by
  have hc:=yh.1 hnode.1.2 q hq
  have hm:q∈done:=by simpa using hc
  obtain ⟨st,hst⟩:=hdone q hm
  exact ⟨st,yt.2 ⟨hst,yi.2 ⟨q,hq,yac q⟩⟩⟩
 obtain ⟨b',σ3,dn3,e1,e2,e3,e4,e5,e6,e7,e8,e9⟩:=z8s (k:=fun σ3 dn3=>zc9 tb cty ann con ops cs kp k g dn3 σ3) ht.toTbOk (fun w O h=>ht.gt w O (hz w O h)) hn qs2 kpl a' ha'.size hda' (r'.z5s ha') hmv hkd (by grind) hσ2
 exact ⟨b',e1,ih dn3 _ _ _ σ3 w2 O2 φ2 α2 b' e2 e3 e4 s2 e5 e6 e7 hal (by grind) e9⟩
theorem z8o {cs:List (Nat × Cut)} {anc:Anc} {k:St→Prop} {kp:PV→St→Prop} (ht:TbG C.P tb G) (hcon:∀ f i o,con f i o→Con C.P G f i o) (hz:∀ w O,z.G w O→G.p w O) (hn:∀ (q:Nat) (o:Oper),ops[q]? = some o→dOk n o.dst=true) (hp:∀ v s,kp v s→zar z C n ds v s)
  (hk:∀ s,k s→∀ V w,RS z s V w→∀ a,Has n V a→a.defers=ds→K a w) :
  ∀ (g:Gt) (dn:List (Nat × Bool)) (rem wai done:List Nat) {σ:St} {w:World} {O:Nat→Prop} {φ:Nat→Nat} {α:Nat→Value} (b:Act),b.tmps.size=n→b.defers=ds→Rl z σ (Pe.z5s b) w O φ α→(∀ x,z.O x→O x)→(∀ p∈dn,KQ C n ops (Pe.z5s b) w O p) →
   (∀ q∈done,z6q C.P ops b w q)→(∀ q∈done,∃ st,(q,st)∈dn)→z2j anc rem wai done g=true→zyr ops g (dn.map (·.1))=true→zc9 tb cty ann con ops cs kp k g dn σ→DRa C ds ops K done g b w
 | .fin,dn,rem,wai,done,σ,w,O,φ,α,b,hsz,hda,h,hs,_,hst,_,_,_,hw=>⟨hst,hk σ hw _ _ ⟨_,_,_,h,hs⟩ b (z6i hsz) hda⟩
 | .one e kpl qs2 g,dn,rem,wai,done,σ,w,O,φ,α,b,hsz,hda,h,hs,hd,hst,hdone,hal,hcl,hw=>by
  simp only [z2j,yc] at hal
  simp only [zyr,clrN,yc] at hcl
  refine ⟨hst,fun o ho => ?_⟩
  unfold zc9 at hw
  rw [z9y,ho] at hw
  rw [ho] at hcl
  exact zpw ht hcon hz hn hp hk ho hal.1.1 hal.2 hcl.1.1 hcl.1.2 hcl.2 (fun dn rem wai done σ w O φ α b=>z8o ht hcon hz hn hp hk g dn rem wai done b) b hsz hda h hs hd hdone hw
 | .alt e kpl qs2 g r,dn,rem,wai,done,σ,w,O,φ,α,b,hsz,hda,h,hs,hd,hst,hdone,hal,hcl,hw=>by
  simp only [z2j,yc] at hal
  simp only [zyr,clrN,yc] at hcl
  refine ⟨fun o ho => ?_,z8o ht hcon hz hn hp hk r dn rem wai done b hsz hda h hs hd hst hdone hal.2 hcl.2 hw.2⟩
  have hw:=hw.1
  rw [z9y,ho] at hw
  rw [ho] at hcl
  exact zpw ht hcon hz hn hp hk ho hal.1.1.1 hal.1.2 hcl.1.1.1 hcl.1.1.2 hcl.1.2 (fun dn rem wai done σ w O φ α b=>z8o ht hcon hz hn hp hk g dn rem wai done b) b hsz hda h hs hd hdone hw
theorem zz01d {K':Act→World→Prop} {b:Act} (hK:∀ a w,K a w→K' a w) (h:wpList C.P ops (QT C ds K) [o] b w):wpList C.P ops (QT C ds K') [o] b w:=by
 unfold wpList at h ⊢
 split at h
 ·rename_i hw
  rw [if_pos hw]
  rcases h with h|h
  ·left
   refine zdn (o:=o) (a:=b) (b:=b) (fun dd v w hh => ?_) (fun _ _ hh=>hh) zhp _ h
   exact ⟨hh.1,hK _ _ hh.2⟩
  grind [zhp]
 ·rename_i hw
  rw [if_neg hw]
  exact ⟨h.1,hK _ _ h.2⟩
def SI (C:Cx) (ds:List Deferred) (ops:Array Oper) (K:List Nat→Act→World→Prop):List It→List Nat→Act→World→Prop
 | [],done,b,w=>K done b w
 | .q q::r,done,b,w=>∃ b',Off ops [q] b b'∧SI C ds ops K r (done++[q]) b' w
 | .a e kpl::r,done,b,w=>(∀ q∈done,z6q C.P ops b w q)∧∀ o,ops[e]? = some o→wpList C.P ops (QT C ds (fun a' w'=>SI C ds ops K r kpl a' w')) [o] b w
theorem SI.app {K:List Nat→Act→World→Prop}:∀ (l r:List It),SI C ds ops K (l++r)=SI C ds ops (SI C ds ops K r) l
 | [],r=>by simp only [List.nil_append,SI]
 | .q q::l,r=>by simp only [yj,SI,SI.app l r]
 | .a e kpl::l,r=>by simp only [yj,SI,SI.app l r]
theorem offTr {q:Nat} {qs:List Nat} {a b c:Act} (h1:Off ops [q] a b) (h2:Off ops qs b c):Off ops (q::qs) a c :=
 ⟨h1.size.trans h2.size,h1.defers.trans h2.defers,fun t ht=>(h1.get t fun x hx=>ht x (by grind)).trans (h2.get t fun x hx=>ht x (yq _ hx))⟩
theorem SI.qs {K:List Nat→Act→World→Prop} {K2:List Nat→Act→World→Prop} {r:List It} (h:∀ done b w,SI C ds ops K r done b w→K2 done b w):∀ (qs done:List Nat) (b:Act) (w:World),SI C ds ops K (qsIt qs r) done b w→∃ b',Off ops qs b b'∧K2 (done++qs) b' w
 | [],done,b,w,hs=>⟨b,⟨rfl,rfl,fun _ _=>rfl⟩,by rw [List.append_nil];exact h _ _ _ hs⟩
 | q::qs,done,b,w,⟨b1,h1,h2⟩=>by
  obtain ⟨b',h3,h4⟩:=SI.qs h qs _ _ _ h2
  grind [offTr]
theorem SI.g:∀ (g:Gt),zkw g=true→∀ done b w,SI C ds ops (fun done b w=>(∀ q∈done,z6q C.P ops b w q)∧K b w) (zsl g) done b w→DRa C ds ops K done g b w
 | .fin,_,done,b,w,h=>h
 | .one e kpl qs sub,hg,done,b,w,⟨h1,h2⟩=>⟨h1,fun o ho=>zz01d (fun a' w' hs=>SI.qs (SI.g sub hg) qs kpl a' w' hs) (h2 o ho)⟩
 | .alt _ _ _ _ _,hg,_,_,_,_=>by simp [zkw] at hg
def Inv (z:W0) (C:Cx) (n:Nat) (ds:List Deferred) (ops:Array Oper) (σ:St) (dn:List (Nat × Bool)) (b:Act) (w:World):Prop := ∃ O φ α,b.tmps.size=n∧b.defers=ds∧Rl z σ (Pe.z5s b) w O φ α∧(∀ x,z.O x→O x)∧∀ p∈dn,KQ C n ops (Pe.z5s b) w O p∧KN C n ops (Pe.z5s b) w p.1∧∀ o,ops[p.1]? = some o→synQ o.op=true→p.2=true
theorem zpu:∀ {dn:List (Nat × Bool)},allT dn=true→∀ p∈dn,p.2=true
 | (_,b)::r,h,p,hp=>by
  simp only [allT,yc] at h
  rcases yp.1 hp with rfl|hp
  ·exact h.1
  ·exact zpu h.2 p hp
theorem Inv.stab {dn:List (Nat × Bool)} {done:List Nat} {b:Act} (h:Inv z C n ds ops σ dn b w) (hdone:∀ q∈done,∃ st,(q,st)∈dn):∀ q∈done,z6q C.P ops b w q:=by
 obtain ⟨O,φ,α,h1,h2,h3,h4,h5⟩:=h
 intro q hq
 obtain ⟨st,hst⟩:=hdone q hq
 exact (h5 (q,st) hst).2.1.stab (z6i h1)
theorem KQ.now {q:Nat} (h:KQ C n ops V w O (q,true)):KN C n ops V w q:=by
 obtain ⟨o,d,u,h1,h2,h3,h4,h5⟩:=h
 refine ⟨o,d,u,h1,h2,h3,?_⟩
 rcases h5 with ⟨k1,k3⟩|⟨k1,k2⟩
 ·grind
 ·exact .inr ⟨k1,k2 rfl w O (Tr.refl _ _)⟩
theorem zi9 {kpl:List Nat} {dn:List (Nat × Bool)}:(z3z kpl dn).map (·.1)=z9t kpl (dn.map (·.1)):=by
 unfold z3z z9t
 rw [yl]
 rfl
theorem zus {K:List Nat→Act→World→Prop} {k:St→List (Nat × Bool)→Prop} {kp:PV→St→Prop} (ht:TbG C.P tb G) (hcon:∀ f i o,con f i o→Con C.P G f i o) (hz:∀ w O,z.G w O→G.p w O) (hn:∀ (q:Nat) (o:Oper),ops[q]? = some o→dOk n o.dst=true) (hp:∀ v s,kp v s→zar z C n ds v s)
  (i:It) (dn:List (Nat × Bool)) (done:List Nat) (b:Act) (w:World) (hc:ziy ops [i] (dn.map (·.1))=true) (hk:∀ σ' dn' done' b' w',k σ' dn'→Inv z C n ds ops σ' dn' b' w'→dn'.map (·.1)=dnI i (dn.map (·.1))→(∀ q∈done',∃ st,(q,st)∈dn')→K done' b' w')
  (hw:ex1 tb cty ann con ops kp i σ dn k) (hi:Inv z C n ds ops σ dn b w) (hdone:∀ q∈done,∃ st,(q,st)∈dn):SI C ds ops K [i] done b w:=by
 cases i with
 | q q =>
  obtain ⟨O,φ,α,h1,h2,h3,h4,h5⟩:=hi
  simp only [ziy,yc,and_true] at hc
  obtain ⟨d,u,b1,σ1,o,ho,hod,hdn,hcl,hk1,hr1,hq1,hn1,hs1⟩:=zlb (k:=k) ht.toTbOk (fun w O h=>ht.gt w O (hz w O h)) h3 (hn q) hc hw
  have hqv:qvOk ops n [q] [(d,u)]=true:=by
   simp only [qvOk,yg,List.all_nil,List.any_cons,List.any_nil,hdn,z8n,ho,hod,Option.bind_some,Bool.and_true,Bool.or_false,Bool.true_and,beq_self_eq_true]
  have e4:Rl z σ1 ([(d,u)]++Pe.z5s b) w O φ α:=hr1
  obtain ⟨b',hb,hoff⟩:=(z6i h1).off hqv
  have fb:=fullV hb h1
  have same:∀ t,Env.get (Pe.z5s b') t=Env.get ((d,u)::Pe.z5s b) t:=fun t=>(zeg b' t).trans (fb t).symm
  have keep:∀ p∈dn,∀ o,ops[p.1]? = some o→∀ e,o.dst=some e→Env.get (Pe.z5s b') e=Env.get (Pe.z5s b) e∧∀ t∈o.looksAt ops,Env.get (Pe.z5s b') t=Env.get (Pe.z5s b) t:=fun p hp o' ho' e he=>by
   obtain ⟨n1,n2⟩:=z6m hcl p.1 (yv.2 ⟨p,hp,rfl⟩) o' ho' e he
   grind [z5w]
  refine ⟨b',hoff,hk σ1 _ _ b' w hk1 ⟨O,φ,α,hb.size,by rw [←hoff.defers];exact h2,e4.z5s hb,h4,fun p hp => ?_⟩ rfl fun x hx => ?_⟩
  ·rcases yp.1 hp with rfl|hp
   ·exact ⟨hq1.move (Tr.refl _ _) fun _ _ d _=>⟨same d,fun t _=>same t⟩,hn1.move fun _ _ d _=>⟨same d,fun t _=>same t⟩,fun o' ho'=>by grind⟩
   ·obtain ⟨g1,g2,g3⟩:=h5 p hp
    exact ⟨g1.move (Tr.refl _ _) (keep p hp),g2.move (keep p hp),g3⟩
  grind
 | a e kpl =>
  simp only [ex1,zjb] at hw
  split at hw
  ·rename_i hT
   split at hw
   ·rename_i o ho
    rw [z9y] at ho
    refine ⟨hi.stab hdone,fun o' ho' => ?_⟩
    rw [ho] at ho'
    cases ho'
    simp only [ziy,ho,yc,and_true] at hc
    obtain ⟨O,φ,α,h1,h2,h3,h4,h5⟩:=hi
    have hb:Has n (Pe.z5s b) b:=z6i h1
    refine zkc (zca (z:=z.mark w O) (rest:=[]) (K:=fun a' w'=>(∀ t,o.dst≠some t→a'.tmps[t]? = b.tmps[t]?)→SI C ds ops K [] kpl a' w') ht hcon (fun w O h=>hz w O h.1) (hn e o ho) h3.mark h4 (fun σ2 hσ2 V2 w2 hr => ?_) (fun v s hv V w O φ α u φ' α' r s2 hr a ha hda=>hp v s hv V w O φ α u φ' α' r.ze9.1 s2 hr a ha hda) hw b hb h2)
    obtain ⟨O2,φ2,α2,r,s2⟩:=hr
    obtain ⟨r',t⟩:=r.ze9
    refine OW.fin fun a' ha' hda' hag => ?_
    have hmv:∀ p∈z3z kpl dn,KQ C n ops (Pe.z5s a') w2 O2 p∧KN C n ops (Pe.z5s a') w2 p.1∧∀ o,ops[p.1]? = some o→synQ o.op=true→p.2=true:=fun p hp=>by
     obtain ⟨hp1,hp2⟩:=zjp hp
     have hq:=(h5 p hp1).1.move (V':=Pe.z5s a') t fun o' ho' d hd'=>by
      have hne:∀ x,o.dst=some x→d≠x∧x∉o'.looksAt ops:=fun x hx=>by
       have hc1:=hc.1
       simp only [hx] at hc1
       exact z6m hc1 p.1 (by rw [←zi9];grind) o' ho' d hd'
      refine ⟨?_,fun t ht' => ?_⟩
      ·rw [zeg,zeg]
       grind
      grind [zeg]
     have h2:=zpu hT p hp
     obtain ⟨q,st⟩:=p
     subst h2
     exact ⟨hq,hq.now,fun _ _ _=>rfl⟩
    refine hk σ2 _ kpl a' w2 hσ2 ⟨O2,φ2,α2,ha'.size,hda',r'.z5s ha',s2,hmv⟩ zi9 fun q hq => ?_
    have hm:=yh.1 hc.2 q hq
    obtain ⟨x,hx,e⟩:=yi.1 hm
    obtain ⟨p,hp1,hp2⟩:=yv.1 hx
    have e:=yag e
    exact ⟨p.2,yt.2 ⟨by grind,yi.2 ⟨q,hq,by simp⟩⟩⟩
   grind
  grind
theorem zkx {i:It} {r:List It} {dn:List Nat} (h:ziy ops (i::r) dn=true):ziy ops [i] dn=true∧ziy ops r (dnI i dn)=true:=by
 cases i with
 | q q =>
  simp_all [ziy]
 | a e kpl =>
  simp_all [ziy]
theorem ziz:∀ {l r:List It} {dn:List Nat},ziy ops (l++r) dn=true→ziy ops l dn=true∧ziy ops r (dnIs l dn)=true
 | [],_,_,h=>⟨rfl,h⟩
 | i::l,r,dn,h=>by
  obtain ⟨h1,h2⟩:=zkx h
  obtain ⟨h3,h4⟩:=ziz h2
  refine ⟨?_,h4⟩
  cases i with
  | q q =>
   simp_all [ziy]
  | a e kpl =>
   simp_all [ziy]
theorem z8p {K:List Nat→Act→World→Prop} {k:St→List (Nat × Bool)→Prop} {kp:PV→St→Prop} (ht:TbG C.P tb G) (hcon:∀ f i o,con f i o→Con C.P G f i o) (hz:∀ w O,z.G w O→G.p w O) (hn:∀ (q:Nat) (o:Oper),ops[q]? = some o→dOk n o.dst=true) (hp:∀ v s,kp v s→zar z C n ds v s) :
  ∀ (l:List It) (σ:St) (dn:List (Nat × Bool)) (done:List Nat) (b:Act) (w:World),ziy ops l (dn.map (·.1))=true→(∀ σ' dn' done' b' w',k σ' dn'→Inv z C n ds ops σ' dn' b' w'→dn'.map (·.1)=dnIs l (dn.map (·.1))→(∀ q∈done',∃ st,(q,st)∈dn')→K done' b' w') →
   zh8 tb cty ann con ops kp k l σ dn→Inv z C n ds ops σ dn b w→(∀ q∈done,∃ st,(q,st)∈dn)→SI C ds ops K l done b w
 | [],σ,dn,done,b,w,_,hk,hw,hi,hd=>hk σ dn done b w hw hi rfl hd
 | i::r,σ,dn,done,b,w,hc,hk,hw,hi,hd=>by
  obtain ⟨hc1,hc2⟩:=zkx hc
  have:=zus (K:=SI C ds ops K r) ht hcon hz hn hp i dn done b w hc1 (fun σ' dn' done' b' w' hk' hi' e hd' =>
   z8p ht hcon hz hn hp r σ' dn' done' b' w' (by grind) (fun σ2 dn2 done2 b2 w2 k2 i2 e2 d2=>hk σ2 dn2 done2 b2 w2 k2 i2 (by rw [e2,e];rfl) d2) hk' hi' hd') hw hi hd
  rw [←SI.app] at this
  exact this
theorem Inv.cut {s:St} {c:Cut} {dn:List (Nat × Bool)} {l:List Nat} {b:Act} (h:Inv z C n ds ops σ dn b w) (e:σ.cut c=some s) (hm:l=dn.map (·.1)):Inv z C n ds ops s (l.map fun q=>(q,synO ops q)) b w:=by
 obtain ⟨O,φ,α,h1,h2,h3,h4,h5⟩:=h
 obtain ⟨O',α',h',hs'⟩:=zf7 h3.mark h4 e
 obtain ⟨h'',t⟩:=h'.ze9
 refine ⟨O',φ,α',h1,h2,h'',hs',fun p hp => ?_⟩
 obtain ⟨q,hq,rfl⟩:=yv.1 hp
 rw [hm] at hq
 obtain ⟨p,hp2,rfl⟩:=yv.1 hq
 obtain ⟨g1,g2,g3⟩:=h5 p hp2
 have g4:synO ops p.1=true→p.2=true:=fun hs=>by
  obtain ⟨o,d,u,k1,_⟩:=g1
  grind [synO,z9y]
 refine ⟨?_,g2,fun o ho hs=>by grind [synO,z9y]⟩
 have hmv:=g1.move (V':=Pe.z5s b) t fun _ _ _ _=>⟨rfl,fun _ _=>rfl⟩
 obtain ⟨o,d,u,k1,k2,k3,k4,k5⟩:=hmv
 refine ⟨o,d,u,k1,k2,k3,k4,?_⟩
 grind
theorem zz006 {done l:List Nat} {dn:List (Nat × Bool)} (h:∀ q∈done,∃ st,(q,st)∈dn) (hm:l=dn.map (·.1)):∀ q∈done,∃ st,(q,st)∈l.map fun q=>(q,synO ops q):=fun q hq=>by
 obtain ⟨st,hst⟩:=h q hq
 grind
theorem zff {K:List Nat→Act→World→Prop} {k:St→Prop} {kp:PV→St→Prop} (ht:TbG C.P tb G) (hcon:∀ f i o,con f i o→Con C.P G f i o) (hz:∀ w O,z.G w O→G.p w O) (hn:∀ (q:Nat) (o:Oper),ops[q]? = some o→dOk n o.dst=true) (hp:∀ v s,kp v s→zar z C n ds v s)
  (hk:∀ σ' dn' done' b' w',k σ'→Inv z C n ds ops σ' dn' b' w'→(∀ q∈done',∃ st,(q,st)∈dn')→K done' b' w') :
  ∀ (l:List (Nat × Nat × Cut)) (its:List It) (σ:St) (dn:List (Nat × Bool)) (done:List Nat) (b:Act) (w:World),ziy ops its (dn.map (·.1))=true→zuu tb cty ann con ops kp k l its σ dn→Inv z C n ds ops σ dn b w→(∀ q∈done,∃ st,(q,st)∈dn)→SI C ds ops K its done b w
 | [],its,σ,dn,done,b,w,hc,hw,hi,hd=>z8p ht hcon hz hn hp its σ dn done b w hc (fun σ' dn' done' b' w' hk' hi' _ hd'=>hk σ' dn' done' b' w' hk' hi' hd') hw hi hd
 | (n0,m,c)::r,its,σ,dn,done,b,w,hc,hw,hi,hd=>by
  rw [←yx n0 its] at hc ⊢
  obtain ⟨hc1,hc2⟩:=ziz hc
  rw [SI.app]
  refine z8p ht hcon hz hn hp (its.take n0) σ dn done b w hc1 (fun σ1 dn1 done1 b1 w1 hk1 hi1 e1 hd1 => ?_) hw hi hd
  obtain ⟨J,h1,h2⟩:=hk1
  rw [←e1] at hc2
  rw [←yx m (its.drop n0)] at hc2 ⊢
  obtain ⟨hc3,hc4⟩:=ziz hc2
  rw [SI.app]
  refine z8p ht hcon hz hn hp ((its.drop n0).take m) σ1 dn1 done1 b1 w1 hc3 (fun σ2 dn2 done2 b2 w2 hk2 hi2 e2 hd2 => ?_) h1 hi1 hd1
  obtain ⟨s',e,hj⟩:=zc hk2
  exact zff ht hcon hz hn hp hk r _ s' _ done2 b2 w2 (by grind [dnA,Function.comp_def]) (St.z5u.mp (h2 s' (St.z5u.mp hj))) (hi2.cut e e2.symm) (zz006 hd2 e2.symm)
theorem zns {k:St→Prop} {kp:PV→St→Prop} {d:Drw} {id:Nat} {todo:List Item} (ht:TbG C.P tb G) (hcon:∀ f i o,con f i o→Con C.P G f i o) (hz:∀ w O,z.G w O→G.p w O) (hdo:DrOk C ops) (hok:z96 ops d.anc n d.E d.qs d.g=true) (hcg:clrG ops d.g d.qs=true) (hli:(match d.lin with|some _=>zkw d.g&&ziy ops (qsIt d.qs (zsl d.g)) []|none=>true)=true) (hn:ops.toList.all (fun o=>dOk n o.dst)=true)
  (hw:znu tb cty ann con ops kp k d σ) (hk:∀ s,k s→∀ V w,RS z s V w→TW C n ds todo V w) (hp:∀ v s,kp v s→zar z C n ds v s) (V:Env) (w:World) (hr:RS z σ V w):TW C n ds (.code (.region id ops true)::todo) V w:=by
 have hn':∀ (q:Nat) (o:Oper),ops[q]? = some o→dOk n o.dst=true:=fun q o ho=>yh.1 hn o (by
  grind)
 cases hl:d.lin with
 | some l =>
  rw [hl] at hli
  simp only [yc] at hli
  unfold znu at hw
  rw [hl] at hw
  obtain ⟨O,φ,α,h,hs⟩:=hr
  have:=TW.drawP (C:=C) (n:=n) (ds:=ds) (k:=todo) (L:=V) (w:=w) (id:=id) (l:=ops.toList) d.anc d.E d.qs d.g ht.mix (by omega) (by omega) fun w' x a ha hda=>by
   have h2:=h.zm3 x
   have:=zff (C:=C) (ds:=ds) (G:=G) (z:=z) (K:=fun done b w=>(∀ q∈done,z6q C.P ops b w q)∧TWa C todo b w) ht hcon hz hn' hp (fun σ' dn' done' b' w' hks hi hd=>by
    refine ⟨hi.stab hd,?_⟩
    obtain ⟨O,φ,α,h1,h2,h3,h4,h5⟩:=hi
    exact hk σ' hks _ _ ⟨_,_,_,h3,h4⟩ b' (z6i h1) h2) l (qsIt d.qs (zsl d.g)) σ [] [] a w' hli.2 hw ⟨O,φ,α,ha.size,hda,h2.z5s ha,hs,by simp⟩ (by simp)
   obtain ⟨b,e1,e2⟩:=SI.qs (SI.g (C:=C) d.g hli.1) d.qs [] a w' this
   exact ⟨b,by omega,by omega⟩
  omega
 | none =>
 obtain ⟨k0,hw,hk⟩:∃ k0:St→Prop,zds tb cty ann con ops d.cs kp k0 d.g d.qs σ∧∀ s,k0 s→∀ V w,RS z s V w→TW C n ds todo V w:=by
  revert hw
  unfold znu
  rw [hl]
  simp only
  split
  ·grind
  ·rintro ⟨J,h1,h2⟩
   refine ⟨_,h1,fun s hs V w hr => ?_⟩
   obtain ⟨s',e,hj⟩:=z81 hs
   exact hk s' (St.z5u.mp (h2 s' hj)) V w (hr.cut e)
 obtain ⟨O,φ,α,h,hs⟩:=hr
 have hal:z2j d.anc d.E (z0o (z4o ops d.E) d.qs) d.qs d.g=true:=by
  simp only [z96,yc] at hok
  exact hok.2
 simp only [clrG,yc] at hcg
 have:=TW.drawP (C:=C) (n:=n) (ds:=ds) (k:=todo) (L:=V) (w:=w) (id:=id) (l:=ops.toList) d.anc d.E d.qs d.g ht.mix (by omega) (by omega) fun w' x a ha hda=>by
  have h2:=h.zm3 x
  obtain ⟨b,σ1,dn1,e1,e2,e3,e4,e5,e6,e7,e8,e9⟩:=z8s (C:=C) (ds:=ds) (done:=[]) (k:=fun σ1 dn1=>zc9 tb cty ann con ops d.cs kp k0 d.g dn1 σ1) ht.toTbOk (fun w O h=>ht.gt w O (hz w O h)) hn' d.qs a ha.size hda (h2.z5s ha) (by simp) (by simp) (by grind) hw
  refine ⟨b,by omega,?_⟩
  have:=z8o (C:=C) (K:=TWa C todo) (G:=G) (z:=z) (anc:=d.anc) ht hcon hz hn' hp (fun s hks V w hr a ha hda=>hk s hks V w hr a ha hda) d.g dn1 _ _ d.qs b e2 e3 e4 hs e5 (by grind) (by grind) hal (by grind) e9
  simp_all
 omega
end
end
section
section
variable {z:W0} {V:Env} {w:World} {O:Nat→Prop} {φ:Nat→Nat} {α:Nat→Value} {σ:St} {C:Cx} {n:Nat} {ops:Array Oper} {o:Oper} {rest:List Oper} {K:Act→World→Prop} {G:GI} {con:Nat→CIn→z3x→Prop} {tb:Tb} {cty:List (Nat × List (Option (Nat × Nat)))} {ann:Ann} {ds:List Deferred}
def KS (z:W0) (C:Cx) (n:Nat) (ds:List Deferred) (todo:List Item) (s:St):Prop := ∀ V w,RS z s V w→TW C n ds todo V w
def FS (z:W0) (C:Cx) (n:Nat) (ds:List Deferred) (todo:List Item):z8d→St→Prop
 | .normal,s=>KS z C n ds todo s
 | .exit i,s=>∃ k',exitTo i todo=some k'∧KS z C n ds k' s
 | .ret,s=>∀ k',KS z C n ds (.code .ret::k') s
 | .pan v,s=>zar z C n ds v s
theorem KS.cut {todo:List Item} {s:St} {c:Cut} (e:σ.cut c=some s) (h:KS z C n ds todo s):KS z C n ds todo σ:=fun V w hr=>h V w (hr.cut e)
theorem FS.code {c:Code} {todo:List Item} {fl:z8d} {s:St} (h:FS z C n ds todo fl s) (hn:fl ≠ .normal):FS z C n ds (.code c::todo) fl s:=by
 cases fl with
 | normal=>grind
 | exit i=>exact h
 | ret=>exact h
 | pan v=>exact h
theorem FS.loop {c:Code} {todo:List Item} {fl:z8d} {s:St} (h:FS z C n ds todo fl s) (hn:fl ≠ .normal):FS z C n ds (.inLoop c::todo) fl s:=by
 cases fl with
 | normal=>grind
 | exit i=>exact h
 | ret=>exact h
 | pan v=>exact h
def okC (ann:Ann) (n:Nat):Code→Bool
 | .region id ops dr=>(ops.toList.all fun o=>dOk n o.dst)&&(match dr with
  | true=>match lk ann.drw id with
   | some d=>z96 ops d.anc n d.E d.qs d.g&&clrG ops d.g d.qs&&(match d.lin with|some _=>zkw d.g&&ziy ops (qsIt d.qs (zsl d.g)) []|none=>true)
   | none=>false
  | false=>true)
 | .seq a b=>okC ann n a&&okC ann n b
 | .cond _ a b=>okC ann n a&&okC ann n b
 | .block _ a=>okC ann n a
 | .loop a=>okC ann n a
 | _=>true
def z3w (fn:Func):Code→Bool
 | .region _ ops dr => !dr||ops.toList.all fun o=>match o.dst with
  | some d=>fn.results.toList.all fun r => !yab (zp9 r) d
  | none=>true
 | .seq a b=>z3w fn a&&z3w fn b
 | .cond _ a b=>z3w fn a&&z3w fn b
 | .block _ a=>z3w fn a
 | .loop a=>z3w fn a
 | _=>true
theorem zwi {C:Cx} {id:Nat} {ops:Array Oper} (h:C.lv=false∨z3w C.fn (.region id ops true)=true):DrOk C ops:=by
 rcases h with h|h
 ·exact .inl h
 ·refine .inr fun q t hq r hr e => ?_
  simp only [z3w,Bool.not_true,Bool.false_or,yh] at h
  unfold z8n at hq
  obtain ⟨o,ho,hd⟩:=ya.1 hq
  have h1:=h o (by grind)
  rw [hd] at h1
  have h2:=yh.1 h1 r hr
  simp_all
theorem z3f (ht:TbG C.P tb G) (hcon:∀ f i o,con f i o→Con C.P G f i o) (hz:∀ w O,z.G w O→G.p w O):∀ (c:Code) (σ:St) (k:z8d→St→Prop) (todo:List Item),okC ann n c=true→(C.lv=false∨z3w C.fn c=true)→ex tb cty ann con c σ k→(∀ fl s,k fl s→FS z C n ds todo fl s)→KS z C n ds (.code c::todo) σ
 | .skip,σ,k,todo,_,_,hw,hk=>fun V w hr=>TW.skip (hk _ _ hw V w hr)
 | .label _,σ,k,todo,_,_,hw,hk=>fun V w hr=>TW.label (hk _ _ hw V w hr)
 | .ret,σ,k,todo,_,_,hw,hk=>fun V w hr=>hk _ _ hw todo V w hr
 | .exit i,σ,k,todo,_,_,hw,hk=>fun V w hr=>by
  obtain ⟨k',h1,h2⟩:=hk _ _ hw
  exact TW.exit h1 (h2 V w hr)
 | .region id ops dr,σ,k,todo,hn,hdr,hw,hk=>by
  simp only [okC,yc] at hn
  cases dr with
  | true =>
   obtain ⟨d,hd,hw⟩:=zc hw
   have hok:=hn.2
   simp only [hd,yc] at hok
   intro V w hr
   exact zns ht hcon hz (zwi hdr) hok.1.1 hok.1.2 hok.2 hn.1 hw (fun s hs V w hr=>hk _ _ hs V w hr) (fun v s hs=>hk _ _ hs) V w hr
  | false =>
   have hn:=hn.1
   intro V w hr
   have:=zdt (K:=TWa C todo) (ops:=ops) (G:=G) ht hcon hz (k:=fun s=>k .normal s) (kp:=fun v s=>k (.pan v) s) (fun s hs V w hr=>OW.done (hk _ _ hs V w hr)) (fun v s hs=>hk _ _ hs) _ ops.toList σ hn hw V w hr
   have h2:=TW.region (id:=id) (l:=ops.toList) (k:=todo) (by omega)
   omega
 | .seq a b,σ,k,todo,hn,hdr,hw,hk=>by
  simp only [okC,yc] at hn
  have hda:C.lv=false∨z3w C.fn a=true:=hdr.imp id fun hh=>by simp_all [z3w]
  have hdb:C.lv=false∨z3w C.fn b=true:=hdr.imp id fun hh=>by simp_all [z3w]
  intro V w hr
  refine TW.seq ?_
  unfold ex at hw
  split at hw
  ·rename_i c _
   obtain ⟨J,h1,h2⟩:=hw
   refine z3f ht hcon hz a σ _ (.code b::todo) hn.1 hda h1 (fun fl s hs => ?_) V w hr
   cases fl with
   | normal =>
    obtain ⟨s',e,hj⟩:=z81 hs
    exact (z3f ht hcon hz b s' k todo hn.2 hdb (St.z5u.mp (h2 s' hj)) hk).cut e
   | exit i=>exact (hk _ _ hs).code (by simp)
   | ret=>exact (hk _ _ hs).code (by simp)
   | pan v=>exact (hk _ _ hs).code (by simp)
  ·refine z3f ht hcon hz a σ _ (.code b::todo) hn.1 hda hw (fun fl s hs => ?_) V w hr
   cases fl with
   | normal=>exact z3f ht hcon hz b s k todo hn.2 hdb hs hk
   | exit i=>exact (hk _ _ hs).code (by simp)
   | ret=>exact (hk _ _ hs).code (by simp)
   | pan v=>exact (hk _ _ hs).code (by simp)
 | .cond c a b,σ,k,todo,hn,hdr,hw,hk=>by
  simp only [okC,yc] at hn
  have hda:C.lv=false∨z3w C.fn a=true:=hdr.imp id fun hh=>by simp_all [z3w]
  have hdb:C.lv=false∨z3w C.fn b=true:=hdr.imp id fun hh=>by simp_all [z3w]
  intro V w hr
  unfold ex at hw
  split at hw
  ·rename_i x hx
   obtain ⟨O,φ,α,h,hs⟩:=hr
   obtain ⟨u,h1,h2⟩:=h.ev hx
   simp only [VR] at h2
   subst h2
   refine TW.cond h1 (fun e => ?_) (fun e => ?_)
   ·subst e
    exact z3f ht hcon hz a σ k todo hn.1 hda hw hk V w ⟨O,φ,α,h,hs⟩
   ·subst e
    exact z3f ht hcon hz b σ k todo hn.2 hdb hw hk V w ⟨O,φ,α,h,hs⟩
  grind
 | .block i a,σ,k,todo,hn,hdr,hw,hk=>by
  intro V w hr
  refine TW.block ?_
  unfold ex at hw
  refine z3f ht hcon hz a σ _ (.inBlock i::todo) hn hdr hw (fun fl s hs => ?_) V w hr
  cases fl with
  | normal=>exact fun V w hr=>TW.inBlock (hk _ _ hs V w hr)
  | exit j =>
   simp only [kBlk] at hs
   cases e:yab i j with
   | true =>
    rw [e] at hs
    have e:=yag e
    subst e
    exact ⟨todo,by simp [exitTo],hk _ _ hs⟩
   | false =>
    rw [e] at hs
    have e:=yam e
    obtain ⟨k',h1,h2⟩:=hk _ _ hs
    exact ⟨k',by grind [exitTo],h2⟩
  | ret=>exact hk _ _ hs
  | pan v=>exact hk _ _ hs
 | .loop a,σ,k,todo,hn,hdr,hw,hk=>by
  unfold ex at hw
  obtain ⟨c,hc,hw⟩:=zc hw
  obtain ⟨s0,e0,hw⟩:=zc hw
  rw [St.z5u] at hw
  have key:KS z C n ds (.code a :: .inLoop a::todo) s0:=hw (KS z C n ds (.code a :: .inLoop a::todo)) fun s hs=>by
   refine z3f ht hcon hz a s _ (.inLoop a::todo) hn hdr (St.z5u.mp hs) (fun fl s' hs' => ?_)
   cases fl with
   | normal =>
    obtain ⟨s2,e2,hj⟩:=z81 hs'
    exact fun V w hr=>TW.inLoop (hj V w (hr.cut e2))
   | exit i=>exact (hk _ _ hs').loop (by simp)
   | ret=>exact (hk _ _ hs').loop (by simp)
   | pan v=>exact (hk _ _ hs').loop (by simp)
  exact fun V w hr=>TW.loop (key V w (hr.cut e0))
 | .rangeFunc ..,σ,k,todo,hn,_,hw,hk=>hw.elim
 | .scope _,σ,k,todo,hn,_,hw,hk=>hw.elim
 | .goto _,σ,k,todo,hn,_,hw,hk=>hw.elim
 | .refuse _,σ,k,todo,hn,_,hw,hk=>hw.elim

theorem zyh {m:Nat} {cs:List PV} {v:PV} (h:z73 true m cs=some v):v = .agg cs:=by
 grind [z73]
theorem ztx {m:Nat} {cs:List PV} {v:PV} (h:z73 false m cs=some v):cs=[v]:=by
 cases cs with
 | nil=>simp [z73] at h
 | cons c cs =>
  cases cs with
  | nil=>grind [z73]
  | cons d cs=>simp [z73] at h
theorem zp7 (ht:TbG C.P tb G) (h:Rl z σ V w O φ α):∀ {res:List ResultVar} {rs:List PV},resV tb σ res=some rs→∃ us,RVs C V w res us∧VRs w O φ α rs us
 | [],rs,e=>by cases e;exact ⟨[],rfl,rfl⟩
 | .tmp t::r,rs,e=>by
  unfold resV at e
  split at e
  ·rename_i v vs h1 h2
   cases e
   obtain ⟨u,h3,h4⟩:=h.env t v h1
   obtain ⟨us,h5,h6⟩:=zp7 ht h h2
   exact ⟨u::us,⟨u,us,rfl,h3,h5⟩,u,us,rfl,h4,h6⟩
  ·cases e
 | .cell t T::r,rs,e=>by
  unfold resV at e
  split at e
  ·rename_i b hb
   split at e
   ·rename_i ex s h1 h2
    split at e
    ·rename_i v vs h0 h3 h4
     cases e
     obtain ⟨u,h5,h6⟩:=h.env t _ hb
     simp only [VR] at h6
     subst h6
     obtain ⟨_,xs,h7,h8⟩:=h.box b ex (z8w h1).1
     have h7:=h7.un (z8w h1).2
     obtain ⟨us,h9,h10⟩:=zp7 ht h h4
     have hl:=VRs.len h8
     have h0:=yag h0
     obtain ⟨g,m⟩:=s
     cases g with
     | true =>
      obtain rfl:=zyh h3
      exact ⟨_::us,⟨_,us,rfl,⟨_,_,xs,true,m,h5,ht.shp _ _ h2,h7,by omega,rfl⟩,h9⟩,_,us,rfl,⟨xs,rfl,h8⟩,h10⟩
     | false =>
      rw [ztx h3] at h8 h0
      obtain ⟨x,xs',rfl,k1,k2⟩:=h8
      cases k2
      exact ⟨x::us,⟨x,us,rfl,⟨_,_,[x],false,m,h5,ht.shp _ _ h2,h7,h0,rfl⟩,h9⟩,x,us,rfl,k1,h10⟩
    ·cases e
   ·cases e
  ·cases e
theorem zk2:∀ {n i j x:Nat},(rng n i)[j]? = some x↔j<n∧x=i+j
 | 0,i,j,x=>by simp [rng]
 | n+1,i,0,x=>by grind [rng]
 | n+1,i,j+1,x=>by
  simp only [rng,List.getElem?_cons_succ]
  rw [zk2]
  omega
theorem zk3:∀ {n i:Nat},(rng n i).length=n
 | 0,i=>rfl
 | n+1,i=>by simp [rng,zk3]
theorem zb9 {σ:St}:∀ {A:List (Option (Nat × Nat × List (List D)))} {i:Nat},zir σ i A→∀ (j:Nat) (e:Nat × Nat × List (List D)),A[j]? = some (some e)→∃ x,lk σ.A (i+j)=some x∧x.T=e.1∧x.n=e.2.1∧x.l=e.2.2
 | [],i,_,j,e,h=>by simp at h
 | none::r,i,hb,j,e,h=>by
  cases j with
  | zero=>simp at h
  | succ j =>
   obtain ⟨x,k1,k2⟩:=zb9 (i:=i+1) hb j e (by simpa using h)
   grind
 | some e0::r,i,hb,j,e,h=>by
  obtain ⟨h1,h2⟩:=hb
  cases j with
  | zero =>
   grind
  | succ j =>
   obtain ⟨x,k1,k2⟩:=zb9 h2 j e (by simpa using h)
   grind
theorem zqa {β:Type}:∀ {l:List β} {i t:Nat} {v:β},lk (en i l) t=some v→i≤t∧l[t - i]? = some v
 | [],_,_,_,h=>by cases h
 | x::l,i,t,v,h=>by
  unfold en at h
  rcases z4c h with ⟨rfl,rfl⟩|⟨h1,h2⟩
  ·simp
  ·obtain ⟨h3,h4⟩:=zqa h2
   grind
end
def zy2 (G:GI) (i:CIn) (w:World) (O:Nat→Prop) (φ:Nat→Nat) (α:Nat→Value) (hF:∀ x,FI i φ α x→O x) (hB:Bd O w):W0:=⟨w,O,FI i φ α,G.p,hF,hB,G.tr,φ⟩
theorem Out.of {C:Cx} {n:Nat} {V:Env} {w:World} {res:List ResultVar} {us:List Value} (h:C.fn.results=res.toArray) (hr:RVs C V w res us):Out C n V w (zy8 us):=by
 have hl:us.length=res.length:=by
  clear h
  induction res generalizing us with
  | nil=>cases hr;rfl
  | cons r res ih =>
   obtain ⟨v,vs,rfl,_,h2⟩:=hr
   simp [ih h2]
 match res,us,hr,hl,h with
 | [r],[u],hr,_,h =>
  obtain ⟨v,vs,e,h1,h2⟩:=hr
  cases e
  exact Out.single h h1
 | [],[],hr,_,h=>exact Out.many h hr rfl
 | r::r2::rs,u::u2::us,hr,_,h=>exact Out.many h hr rfl
theorem zae {C:Cx} {n:Nat} {tb:Tb} {ann:Ann} {G:GI} {i:CIn} {w w':World} {O O':Nat→Prop} {φ φ':Nat→Nat} {α α':Nat→Value} {hF:∀ x,FI i φ α x→O x} {hB:Bd O w} {σ:St} {V:Env} {vs:List PV} {B:List Bx} {A:List (Option (Nat × Nat × List (List D)))} {res:List ResultVar}
  (ht:TbG C.P tb G) {g:Nat→Nat} (hkp:∀ b,b<i.B.length→φ' b=φ b) (h:Rl { zy2 G i w O φ α hF hB with φ0:=g } σ V w' O' φ' α') (hs:∀ x,O x→O' x) (hnb:ann.nb=i.B.length) (h1000:i.B.length≤1000) (hw:zz3 tb ann res σ vs B A) :
  ∃ us,(C.fn.results=res.toArray→Out C n V w' (zy8 us))∧∃ O' φ' α',zhn i w O φ α vs B A w' us O' φ' α':=by
 obtain ⟨σ1,e1,hw⟩:=zc hw
 obtain ⟨rs,e2,hw⟩:=zc hw
 obtain ⟨σ2,e3,hw⟩:=zc hw
 obtain ⟨nk,e4,e5,e6,e7,e8⟩:=zc hw
 obtain ⟨α2,h1⟩:=z6o _ (σ:={ σ with L:=z9s (zrp res) σ.L }) (h.mono (fun _ _=>z8x) (Le.refl _) (Le.refl _)) e1
 obtain ⟨us,h2,h3⟩:=zp7 (C:=C) ht h1 e2
 obtain ⟨h4,h5,h6,h7⟩:=z1u _ h1 hs e3
 simp only [yc] at e8
 obtain ⟨⟨⟨⟨r1,r2⟩,r3⟩,r4⟩,r5⟩:=e8
 have r5:=yag r5
 have r4:∀ x∈nk,1000≤x:=fun x hx=>yah (yh.1 r4 x hx)
 rw [hnb] at e5 e6 r5
 have lk':(rng i.B.length 0++nk).length=B.length:=by rw [List.length_append,zk3,r5]
 have kget:∀ j x,(rng i.B.length 0++nk)[j]? = some x→(j<i.B.length∧x=j)∨(i.B.length≤j∧nk[j - i.B.length]? = some x∧1000≤x):=fun j x hx=>by
  rcases yal j i.B.length with hj|hj
  ·grind [zk2]
  ·rw [List.getElem?_append_right (by grind),zk3] at hx
   exact .inr ⟨hj,hx,r4 x (yw hx)⟩
 have kinj:∀ j j' x,(rng i.B.length 0++nk)[j]? = some x→(rng i.B.length 0++nk)[j']? = some x→j=j':=fun j j' x hx hx'=>by
  rcases kget j x hx with ⟨k1,k2⟩|⟨k1,k2,k3⟩<;>rcases kget j' x hx' with ⟨m1,m2⟩|⟨m1,m2,m3⟩
  ·omega
  ·omega
  ·omega
  grind [z6w]
 have kd:∀ j x,(rng i.B.length 0++nk)[j]? = some x→(rng i.B.length 0++nk).getD j 0=x:=fun j x e=>by grind
 have kex:∀ j,j<B.length→∃ x,(rng i.B.length 0++nk)[j]? = some x:=fun j hj=>⟨(rng i.B.length 0++nk)[j]'(by omega),by simp⟩
 have hb:∀ j x,j<B.length→(rng i.B.length 0++nk)[j]? = some x→(fun j=>φ' ((rng i.B.length 0++nk).getD j 0)) j=φ' x:=fun j x _ e=>by grind
 have ha:∀ j x,j<A.length→(rng A.length 0)[j]? = some x→α2 j=α2 x:=fun j x _ e=>by
  have:=(zk2.1 e).2
  grind
 have toCall:∀ {Q:Nat→Prop} {vs:List PV} {us:List Value},inR.go B.length A.length vs=true→VRs w' Q φ' α2 (zb6.go (rng i.B.length 0++nk) (rng A.length 0) vs) us→VRs w' Q (fun j=>φ' ((rng i.B.length 0++nk).getD j 0)) α2 vs us :=
  fun {Q vs us} hi hr=>za1 hb ha (by omega) (by simp [zk3]) vs us hi hr
 have hres2:=zbo (σ:=σ1) (O:=O') (φ:=φ') (α:=α2) (O2:=zbw O' α2 (lk σ1.A) (z9e.go vs rs)) (fun x hx=>hx.1) h1.arr vs rs us (fun a ha e he x hx=>hx.2 a ha (by rw [he];rfl)) h3
 rw [e5] at hres2
 have boxK:∀ (j:Nat) (e:Bx),B[j]? = some e→∃ (b:Nat) (x:Bx),(rng i.B.length 0++nk)[j]? = some b∧lk σ2.B b=some x∧x.T=e.T∧nrm.go { σ2 with A:=[] } e.cs x.cs=zb6.go (rng i.B.length 0++nk) (rng A.length 0) e.cs:=zba e6
 have boxE:∀ j,j<B.length→∃ (b:Nat) (x:Bx),(rng i.B.length 0++nk)[j]? = some b∧lk σ2.B b=some x:=fun j hj=>by
  obtain ⟨b,x,k1,k2,_⟩:=boxK j B[j] (by simp)
  grind
 have arrK:=zb9 e7
 refine ⟨us,fun hres=>Out.of hres h2,_,_,_,⟨toCall r1 hres2,⟨fun j e he => ?_,fun j e he => ?_,fun a b la lb hn => ?_,fun a b e e' h8 h9 hn x hx => ?_,fun a b e h8 lb => ?_⟩,fun b hb' => ?_,by omega,h4.bd,h4.tr0,h5,h4.only,h4.ext,fun b lb hb' => ?_,fun a e x h8 hx => ?_⟩⟩
 ·obtain ⟨b,x,k1,k2,k3,k4⟩:=boxK j e he
  obtain ⟨k5,xs,k6,k7⟩:=h4.box b x k2
  simp only [kd j b k1]
  refine ⟨k5,xs,k3▸k6,?_⟩
  have h8:=zbo (σ:={ σ2 with A:=[] }) (O:=zbw O' α2 (lk σ1.A) (z9e.go vs rs)) (φ:=φ') (α:=α2) (O2:=zbw O' α2 (lk σ1.A) (z9e.go vs rs)) (fun _ hx=>hx) (fun _ _ hx=>by cases hx) e.cs _ _ (fun _ _ _ hx=>by cases hx) k7
  grind
 ·obtain ⟨x,k1,k2,k3,k4⟩:=arrK j e he
  rw [yan] at k1
  have:=h4.arr j x k1
  grind
 ·obtain ⟨b1,y1,k1,k2⟩:=boxE a la
  obtain ⟨b2,y2,k3,k4⟩:=boxE b lb
  simp only [kd a b1 k1,kd b b2 k3]
  exact h4.bb b1 b2 y1 y2 k2 k4 fun q=>hn (kinj a b b1 k1 (q▸k3))
 ·obtain ⟨x1,k1,_⟩:=arrK a e h8
  obtain ⟨x2,k2,_⟩:=arrK b e' h9
  rw [yan] at k1 k2
  exact h4.aa a b x1 x2 k1 k2 hn x hx
 ·obtain ⟨x1,k1,_⟩:=arrK a e h8
  obtain ⟨b2,y2,k3,k4⟩:=boxE b lb
  rw [yan] at k1
  simp only [kd b b2 k3]
  exact h4.ab a b2 x1 y2 k1 k4
 ·grind
 ·obtain ⟨b2,y2,k3,k4⟩:=boxE b lb
  simp only [kd b b2 k3]
  rcases kget b b2 k3 with ⟨k1,_⟩|⟨_,_,k1⟩
  ·omega
  ·rcases h4.bF b2 y2 k4 with ⟨k2,_⟩|k2
   ·omega
   ·exact k2
 ·obtain ⟨x1,k1,_⟩:=arrK a e h8
  rw [yan] at k1
  rcases h4.aF a x1 k1 x hx with ⟨_,k2⟩|k2
  ·rcases k2 with ⟨b,lb,k2⟩|k2
   ·obtain ⟨b2,y2,k3,k4⟩:=boxE b (by omega)
    rcases kget b b2 k3 with ⟨_,rfl⟩|⟨k5,_⟩
    ·have:=h4.ab a b2 x1 y2 k1 k4
     grind
    ·omega
   grind
  ·exact .inr k2
theorem z6b {C:Cx} {n:Nat} {tb:Tb} {ann:Ann} {G:GI} {i:CIn} {w w':World} {O O':Nat→Prop} {φ φ':Nat→Nat} {α α':Nat→Value} {hF:∀ x,FI i φ α x→O x} {hB:Bd O w} {σ:St} {V:Env} {vs:List PV} {B:List Bx} {A:List (Option (Nat × Nat × List (List D)))} {res:List ResultVar}
  (ht:TbG C.P tb G) (hres:C.fn.results=res.toArray) {g:Nat→Nat} (hkp:∀ b,b<i.B.length→φ' b=φ b) (h:Rl { zy2 G i w O φ α hF hB with φ0:=g } σ V w' O' φ' α') (hs:∀ x,O x→O' x) (hnb:ann.nb=i.B.length) (h1000:i.B.length≤1000) (hw:zz3 tb ann res σ vs B A) :
  ∃ us,Out C n V w' (zy8 us)∧zd0 i w O φ α (.ok vs B A) (.returned (zy8 us)) w':=by
 obtain ⟨us,h1,O',φ',α',h2⟩:=zae (C:=C) (n:=n) (hF:=hF) (hB:=hB) ht hkp h hs hnb h1000 hw
 exact ⟨us,h1 hres,us,O',φ',α',rfl,h2⟩
theorem zc6 {G:GI} {i:CIn} {w:World} {O:Nat→Prop} {φ:Nat→Nat} {α:Nat→Value} {us:List Value} (hv:VRs w O φ α i.vs us) (hm:Mm w O φ α i.B (i.A.map some)) (hB:Bd O w) (hG:G.p w O) (h1000:i.B.length≤1000) :
  ∃ hF:∀ x,FI i φ α x→O x,Rl (zy2 G i w O φ α hF hB) (entry i) (zh7 0 us) w O φ α:=by
 have hF:∀ x,FI i φ α x→O x:=fun x hx=>by
  rcases hx with ⟨b,hb,rfl⟩|⟨a,ha,hx⟩
  ·exact (hm.box b i.B[b] (by simp)).1
  ·exact (hm.arr a i.A[a] (by simp)).mem x hx
 refine ⟨hF,?_⟩
 have getA:∀ {a:Nat} {e:Arr},lk (entry i).A a=some e→i.A[a]? = some (e.T,e.n,e.l)∧e.mine=false:=fun {a e} he=>by
  obtain ⟨_,h1⟩:=zqa he
  grind
 have getA':∀ {a:Nat} {e:Arr},lk (entry i).A a=some e→(i.A.map some)[a]? = some (some (e.T,e.n,e.l)):=fun {a e} he=>by
  grind
 have getB:∀ {b:Nat} {e:Bx},lk (entry i).B b=some e→i.B[b]? = some e:=fun {b e} he=>by simpa using (zqa he).2
 have ltB:∀ {b:Nat} {e:Bx},lk (entry i).B b=some e→b<i.B.length:=fun {b e} he=>(ym.1 (getB he)).1
 have h0:Rl (zy2 G i w O φ α hF hB) (entry i) (zh7 0 us) w O φ α:=by
  refine ⟨fun t v e => ?_,fun b e he=>hm.box b e (getB he),fun a e he=>hm.arr a _ (getA' he),fun a b e e' h1 h2 hn=>hm.bb a b (ltB h1) (ltB h2) hn,fun a b e e' h1 h2 hn x hx=>hm.aa a b _ _ (getA' h1) (getA' h2) hn x hx,fun a b e e' h1 h2=>hm.ab a b _ (getA' h1) (ltB h2),
   fun b e he => .inl ⟨yak (ltB he) h1000,.inl ⟨b,ltB he,rfl⟩⟩,fun a e he x hx => .inl ⟨(getA he).2,.inr ⟨a,(ym.1 (getA he).1).1,hx⟩⟩,hB,Ext.refl _ _,fun x hx => .inl hx,hG,fun _ _=>rfl⟩
  obtain ⟨_,h1⟩:=zqa e
  obtain ⟨u,h2,h3⟩:=hv.get (i:=t) (by omega)
  refine ⟨u,?_,h3⟩
  have:∀ (us:List Value) (i t:Nat),us[t]? = some u→Env.get (zh7 i us) (i+t)=some u:=by
   intro us
   induction us with
   | nil=>simp
   | cons x us ih =>
    intro i t h
    unfold zh7 Env.get
    cases t with
    | zero=>simp_all
    | succ t =>
     grind [yag]
  simpa using this us 0 t h2
 exact h0
theorem Con.of {P:Program} {G:GI} {tb:Tb} {cty:List (Nat × List (Option (Nat × Nat)))} {ann:Ann} {f:Nat} {fn:Func} {c:Code} {i:CIn} {o:z3x} {n:Nat} {res:List ResultVar} (ht:TbG P tb G) (ent:∀ args w,(callFunc f args).run P w = .ok (.enter f args) w) (hnn:yab f NF=false) (hf:P.funcs[f]? = some fn) (hb:fn.body=some c) (hn:fn.ntmps=n)
  (hres:fn.results=res.toArray) (hok:okC ann n c=true) (hl:yad i.vs.length n=true) (hnb:ann.nb=i.B.length) (h1000:yad i.B.length 1000=true) (hw:ex tb cty ann (Con P G) c (entry i) (fin tb ann res o)):Con P G f i o:=by
 refine ⟨ent,hnn,fun w O φ α us hv hm hB hG => ?_⟩
 have h1000:=yah h1000
 obtain ⟨hF,h0⟩:=zc6 (G:=G) hv hm hB hG h1000
 have hlu:us.length=i.vs.length:=hv.len
 refine ziw hf hb n hn (by grind) ?_
 refine z3f (z:=zy2 G i w O φ α hF hB) (C:={ P:=P,f:=f,fn:=fn,R:=zd0 i w O φ α o,hf:=hf }) (n:=n) (ds:=[]) (G:=G) ht (fun _ _ _ h=>h) (fun _ _ h=>h) c (entry i) _ [] hok (.inl rfl) hw (fun fl s hs => ?_) _ _ ⟨O,φ,α,h0,fun _ hx=>hx⟩
 cases fl with
 | normal =>
  intro V w' hr
  obtain ⟨O',φ',α',h1,h2⟩:=hr
  cases o with
  | pan v=>exact hs.elim
  | zhg _ _=>exact hs.elim
  | okI _ _ _=>exact hs.elim
  | ok vs B A =>
   obtain ⟨us',h3,h4⟩:=z6b (C:={ P:=P,f:=f,fn:=fn,R:=zd0 i w O φ α (.ok vs B A),hf:=hf }) (n:=n) (hF:=hF) (hB:=hB) (g:=φ) ht hres (fun b hb=>h1.keep b (by omega)) h1 h2 hnb h1000 hs
   exact TW.fin h3 h4
 | ret =>
  intro k' V w' hr
  obtain ⟨O',φ',α',h1,h2⟩:=hr
  cases o with
  | pan v=>exact hs.elim
  | zhg _ _=>exact hs.elim
  | okI _ _ _=>exact hs.elim
  | ok vs B A =>
   obtain ⟨us',h3,h4⟩:=z6b (C:={ P:=P,f:=f,fn:=fn,R:=zd0 i w O φ α (.ok vs B A),hf:=hf }) (n:=n) (hF:=hF) (hB:=hB) (g:=φ) ht hres (fun b hb=>h1.keep b (by omega)) h1 h2 hnb h1000 hs
   exact TW.ret h3 h4
 | exit _=>exact hs.elim
 | pan v =>
  intro V w' O' φ' α' u φ2 α2 h1 h2 h3 a ha hda
  cases o with
  | ok _ _ _=>cases hs
  | okI _ _ _=>cases hs
  | pan v =>
   cases hs
   exact PN.nil hda ⟨u,O',φ2,α2,rfl,h3,h1.ext,h1.tr0,h1.bd,h1.only⟩
  | zhg v' B =>
   obtain ⟨rfl,hsl,hw⟩:=hs
   obtain ⟨us',_,O3,φ3,α3,h4⟩:=zae (ann:={ nb:=ann.nb }) (res:=[]) (C:={ P:=P,f:=f,fn:=fn,R:=zd0 i w O φ α (.zhg v' B),hf:=hf }) (n:=n) (hF:=hF) (hB:=hB) (g:=φ) ht (fun b hb=>h1.keep b (by omega)) h1 h2 hnb h1000 hw
   exact PN.nil hda ⟨u,φ2,α2,us',O3,φ3,α3,rfl,z7r _ _ hsl h3,h4⟩
end
section
def znf (t b:Nat):PV→PV
 | .ptr x off=>match yab x b with
  | true => .ptr t off
  | false => .ptr x off
 | .z1l x=>match yab x b with
  | true => .z1l t
  | false => .z1l x
 | .mp x=>match yab x b with
  | true => .mp t
  | false => .mp x
 | .agg cs => .agg (go cs)
 | .tup cs => .tup (go cs)
 | .iface T v => .iface T (znf t b v)
 | .fn f a c => .fn f (go a) (go c)
 | v=>v
where
 go:List PV→List PV
  | []=>[]
  | v::vs=>znf t b v::go vs
def St.freeT (σ:St) (t:Nat):Bool:=(lk σ.B t).isNone&&σ.L.all (fun p=>noK (some t) none p.2)&&σ.B.all (fun p=>zd1 (some t) none p.2.cs)&&yae t 1000
def St.zx3 (σ:St) (t b:Nat):Option St:=match lk σ.B b,σ.freeT t with
 | some e,true=>some { σ with L:=σ.L.map fun p=>(p.1,znf t b p.2),B:=(t,⟨e.T,znf.go t b e.cs⟩)::(z9d b σ.B).map fun p=>(p.1,⟨p.2.T,znf.go t b p.2.cs⟩) }
 | _,_=>none
def St.renB (σ:St) (f b:Nat):Option St:=match yab f NF with
 | true=>none
 | false=>σ.zx3 999 b
theorem zgp {σ s:St} {f b:Nat} (h:σ.renB f b=some s):yab f NF=false∧σ.zx3 999 b=some s:=by
 grind [St.renB]
def dfr1:Code→Option (Operand × Option Operand)
 | .region _ ops false=>match ops.toList with
  | [o]=>match o.op,o.guard,o.dst with
   | .defer c,none,none=>match c.callee,c.args.toList with
    | .value x,[y]=>some (x,some y)
    | .value x,[]=>some (x,none)
    | _,_=>none
   | _,_,_=>none
  | _=>none
 | _=>none
def dfr2:Code→Option (Oper × Nat × Operand)
 | .region _ ops false=>match ops.toList with
  | [m,o]=>match m.op,m.guard,m.dst,o.op,o.guard,o.dst with
   | .makeFunc _ _ _,none,some d,.defer c,none,none=>match c.callee,c.args.toList with
    | .value x,[]=>some (m,d,x)
    | _,_=>none
   | _,_,_,_,_,_=>none
  | _=>none
 | _=>none
def exD (tb:Tb) (cty:List (Nat × List (Option (Nat × Nat)))) (ann:Ann) (con:Nat→CIn→z3x→Prop) (k:z8d→St→Prop) (kD:Nat→z8d→St→Prop):Code→St→Prop
 | .seq a b,σ=>match dfr1 a with
  | some (x,some y)=>match σ.ev x,σ.ev y with
   | some (.fn f [] []),some (.ptr bx 0)=>wt (σ.renB f bx) fun s=>ex tb cty ann con b s (kD f)
   | _,_=>False
  | some (x,none)=>match σ.ev x with
   | some (.fn f [] [.ptr bx 0])=>wt (σ.renB f bx) fun s=>ex tb cty ann con b s (kD f)
   | _=>False
  | none=>match dfr2 a with
   | some (m,d,x)=>qop tb σ m.op fun v=>(σ.put (some d) v).go fun σ=>match σ.ev x with
    | some (.fn f [] [.ptr bx 0])=>wt (σ.renB f bx) fun s=>ex tb cty ann con b s (kD f)
    | _=>False
   | none=>ex tb cty ann con a σ (zkh (fun s=>exD tb cty ann con k kD b s) k)
 | _,_=>False
section
variable {z:W0} {V:Env} {w:World} {O:Nat→Prop} {φ:Nat→Nat} {α:Nat→Value} {σ:St} {C:Cx} {n:Nat} {G:GI} {con:Nat→CIn→z3x→Prop} {tb:Tb} {cty:List (Nat × List (Option (Nat × Nat)))} {ann:Ann}
mutual
theorem zp5 {t9 b:Nat}:∀ (v:PV) (u:Value),z56 (fun x=>x≠t9) (fun _=>True) v→VR w O φ α v u→VR w O (ren φ t9 (φ b)) α (znf t9 b v) u
 | .int k n,u,_,h=>h
 | .bool b,u,_,h=>h
 | .str s,u,_,h=>h
 | .sl T n l,u,_,h=>h
 | .nil,u,_,h=>h
 | .ze6,u,_,h=>h
 | .zei,u,_,h=>h
 | .undef,u,_,h=>trivial
 | .gone,u,_,h=>h
 | .err _,u,_,h=>h
 | .zbc cs off,u,_,h=>h
 | .zbx x m i off,u,k,h=>h
 | .ref a,u,k,h=>h
 | .ptr x off,u,k,h=>by
  have k:x≠t9:=k
  grind [znf,yag,VR,ren]
 | .z1l x,u,k,h=>by
  have k:x≠t9:=k
  grind [znf,yag,VR,ren]
 | .mp x,u,k,h=>by
  have k:x≠t9:=k
  grind [znf,yag,VR,ren]
 | .md _,u,_,h=>h
 | .agg cs,u,k,h=>by
  obtain ⟨us,h1,h2⟩:=h
  exact ⟨us,h1,z8z cs us k h2⟩
 | .tup cs,u,k,h=>by
  obtain ⟨us,h1,h2⟩:=h
  exact ⟨us,h1,z8z cs us k h2⟩
 | .iface T v,u,k,h=>by
  obtain ⟨x,h1,h2⟩:=h
  exact ⟨x,h1,zp5 v x k h2⟩
 | .fn f as_' cs,u,k,h=>by
  obtain ⟨us,vs,h1,h2,h3⟩:=h
  exact ⟨us,vs,h1,z8z as_' us k.1 h2,z8z cs vs k.2 h3⟩
theorem z8z {t9 b:Nat}:∀ (vs:List PV) (us:List Value),z56.go (fun x=>x≠t9) (fun _=>True) vs→VRs w O φ α vs us→VRs w O (ren φ t9 (φ b)) α (znf.go t9 b vs) us
 | [],us,_,h=>h
 | v::vs,us,k,h=>by
  obtain ⟨u,us',h1,h2,h3⟩:=h
  exact ⟨u,us',h1,zp5 v u k.1 h2,z8z vs us' k.2 h3⟩
end
theorem Rel.zx3 {σ':St} {t9 b:Nat} (h:Rl z σ V w O φ α) (e:σ.zx3 t9 b=some σ'):Rl { z with φ0:=ren z.φ0 t9 (φ b) } σ' V w O (ren φ t9 (φ b)) α:=by
 unfold St.zx3 at e
 split at e
 ·rename_i eb hb hf
  cases e
  simp only [St.freeT,yc,yh] at hf
  obtain ⟨⟨⟨f1,f2⟩,f3⟩,f4⟩:=hf
  have f4:t9<1000:=by simpa [yaf] using f4
  have kL:∀ t v,lk σ.L t=some v→z56 (fun x=>x≠t9) (fun _=>True) v:=fun t v hv=>noK.b (x:=0) (f2 _ (zg8 hv))
  have kB:∀ b e,lk σ.B b=some e→z56.go (fun x=>x≠t9) (fun _=>True) e.cs:=fun b e he=>zd1.b (f3 _ (zg8 he))
  have n9:∀ x e,lk σ.B x=some e→x≠t9:=fun x e he hx=>by
   grind
  have e9:ren φ t9 (φ b) t9=φ b:=by simp [ren]
  have eo:∀ x,x≠t9→ren φ t9 (φ b) x=φ x:=fun x hx=>by simp [ren,hx]
  have get:∀ x e,lk ((t9,(⟨eb.T,znf.go t9 b eb.cs⟩:Bx))::(z9d b σ.B).map fun p=>(p.1,(⟨p.2.T,znf.go t9 b p.2.cs⟩:Bx))) x=some e →
    (x=t9∧e=⟨eb.T,znf.go t9 b eb.cs⟩)∨(x≠t9∧x≠b∧∃ e0,lk σ.B x=some e0∧e=⟨e0.T,znf.go t9 b e0.cs⟩):=fun x e he=>by
   rcases z4c he with h1|⟨h1,h2⟩
   ·exact .inl h1
   ·have h3:(lk (z9d b σ.B) x).map (fun y:Bx=>(⟨y.T,znf.go t9 b y.cs⟩:Bx))=some e:=(zic (fun y:Bx=>(⟨y.T,znf.go t9 b y.cs⟩:Bx)) (z9d b σ.B) x).symm.trans h2
    grind [yb,z4d]
  refine ⟨fun t v hv => ?_,fun x e he => ?_,h.arr,fun x y e e' he he' hn => ?_,h.aa,fun a x e e' ha he => ?_,fun x e he => ?_,h.aF,h.bd,h.ext,h.only,h.gl,fun x hx => ?_⟩
  ·simp only at hv
   rw [zic] at hv
   obtain ⟨v0,h1,rfl⟩:=yb.1 hv
   obtain ⟨u,h2,h3⟩:=h.env t v0 h1
   grind [zp5]
  ·rcases get x e he with ⟨rfl,rfl⟩|⟨h1,h2,e0,h3,rfl⟩
   ·rw [e9]
    obtain ⟨k1,us,k2,k3⟩:=h.box b eb hb
    grind [z8z]
   ·rw [eo x h1]
    obtain ⟨k1,us,k2,k3⟩:=h.box x e0 h3
    grind [z8z]
  ·rcases get x e he with ⟨rfl,rfl⟩|⟨h1,h2,e0,h3,rfl⟩<;>rcases get y e' he' with ⟨rfl,rfl⟩|⟨h1',h2',e0',h3',rfl⟩
   ·omega
   ·rw [e9,eo y h1'];exact h.bb b y eb e0' hb h3' (Ne.symm h2')
   ·rw [e9,eo x h1];exact h.bb x b e0 eb h3 hb h2
   ·rw [eo x h1,eo y h1'];exact h.bb x y e0 e0' h3 h3' hn
  ·rcases get x e' he with ⟨rfl,rfl⟩|⟨h1,h2,e0,h3,rfl⟩
   ·rw [e9];exact h.ab a b e eb ha hb
   ·rw [eo x h1];exact h.ab a x e e0 ha h3
  ·rcases get x e he with ⟨rfl,rfl⟩|⟨h1,h2,e0,h3,rfl⟩
   ·rw [e9]
    rcases h.bF b eb hb with ⟨_,k⟩|k
    ·grind
    grind
   ·rw [eo x h1];exact h.bF x e0 h3
  ·show ren φ t9 (φ b) x=ren z.φ0 t9 (φ b) x
   by_cases hx9:x=t9
   ·grind [ren]
   ·simp only [ren,hx9,if_false];exact h.keep x hx
 ·cases e
def dCaps (cl:Bool) (g:Nat):List Value:=match cl with
 | true=>[Value.pointer (some ⟨g,0,none⟩)]
 | false=>[]
def dArgs (cl:Bool) (g:Nat):List Value:=match cl with
 | true=>[]
 | false=>[Value.pointer (some ⟨g,0,none⟩)]
def dOfF (cl:Bool) (f g:Nat):Deferred:={ target:=.fn (.func f) (dCaps cl g).toArray,args:=(dArgs cl g).toArray }
theorem TW.zz01l {C:Cx} {n:Nat} {ds:List Deferred} {k:List Item} {L:Env} {w:World} {id:Nat} {m o:Oper} {dm:Nat} {v:Value} {x:Operand} {xs:Array Operand} {ts:Array TypeId} {g:FuncId} {vs z8j:List Value} (hmg:m.guard=none) (hmd:m.dst=some dm) (hmn:yae dm n=true) (hmr:EX C n L w m v)
  (hg:o.guard=none) (hd:o.dst=none) (ho:o.op = .defer { callee:=.value x,args:=xs,argTypes:=ts })
  (hx:Lk.ev ((dm,v)::L) x=some (.func (.func g) #[] z8j.toArray)) (hxs:Lk.evs ((dm,v)::L) xs.toList=some vs) (h:TW C n ({ target:=.fn (.func g) z8j.toArray,args:=vs.toArray }::ds) k ((dm,v)::L) w):TW C n ds (.code (.region id [m,o].toArray false)::k) L w:=fun a0 ha0 hds0 cs=>by
 have h':wpList C.P [m,o].toArray (QT C ({ target:=.fn (.func g) z8j.toArray,args:=vs.toArray }::ds) (TWa C k)) [m,o] a0 w :=
  wpList_plain hmg fun K hK=>by
   unfold Oper.wp
   rw [hmr a0 ha0,Oper.upon_value,hmd]
   refine hK _ _ ?_
   have ha:=ha0.put (d:=dm) (v:=v) (by simp_all)
   have hds:(a0.put (some dm) v).defers=ds:=by simpa [Act.put] using hds0
   have e1:xs.map (a0.put (some dm) v).eval=vs.toArray:=by apply yao.1;simpa using ha.evs hxs
   have hrun:(execOp (a0.put (some dm) v).eval o).run C.P w = .ok (.defer { target:=.fn (.func g) z8j.toArray,args:=vs.toArray }) w:=by
    simp [execOp,ho,resolve,ha.ev hx,e1,Deferred.ofValue]
   exact wpList_plain hg fun K hK=>by
    unfold Oper.wp
    rw [hrun]
    simp only [Oper.upon,hd,Act.put]
    refine hK _ _ ⟨?_,h _ ⟨ha.size,ha.get⟩ ?_⟩<;>simp [hds0]
 have h2:wpOps C.P [m,o].toArray (QT C ({ target:=.fn (.func g) z8j.toArray,args:=vs.toArray }::ds) (TWa C k)) (List.range [m,o].toArray.size) a0 w:=by
  rw [List.range_eq_range',←Array.length_toList,wpOps_eq_wpList [m,o].toArray.toList 0 (by simp)];exact h'
 exact (z8b h2 cs).of_steps (.one step_region)
theorem zl8 (ht:TbG C.P tb G) (hcon:∀ f i o,con f i o→Con C.P G f i o) (hz:∀ w O,z.G w O→G.p w O) {k:z8d→St→Prop} {kD:Nat→z8d→St→Prop}:∀ (c:Code) (σ:St) (todo:List Item),okC ann n c=true→z3w C.fn c=true→exD tb cty ann con k kD c σ→(∀ fl s,k fl s→fl ≠ .normal→FS z C n [] todo fl s) →
  (∀ cl f g fl s,kD f fl s→FS { z with φ0:=ren z.φ0 999 g } C n [dOfF cl f g] todo fl s)→KS z C n [] (.code c::todo) σ
 | .seq a b,σ,todo,hn,hd,hw,hk,hkD=>by
  simp only [okC,yc] at hn
  simp only [z3w,yc] at hd
  intro V w hr
  refine TW.seq ?_
  unfold exD at hw
  split at hw
  ·rename_i x y hx
   unfold dfr1 at hx
   split at hx
   ·rename_i id ops
    split at hx
    ·rename_i o ho
     split at hx
     ·rename_i c hop hg hdst
      obtain ⟨cal,cargs,cty'⟩:=c
      split at hx
      ·rename_i x' y' hcx hcy
       cases hx
       simp only at hcx hcy
       subst hcx
       have e1:ops=[o].toArray:=by apply yao.1;simpa using ho
       subst e1
       obtain ⟨O,φ,α,h,hs⟩:=hr
       split at hw
       ·rename_i f bx hf hb
        obtain ⟨s,hs1,hw⟩:=zc hw
        obtain ⟨hnf,hs1⟩:=zgp hs1
        obtain ⟨uf,h1,us,vs,rfl,h2,h3⟩:=h.ev hf
        obtain ⟨ub,h4,h5⟩:=h.ev hb
        simp only [VR] at h5
        subst h5
        have h2:us=[]:=h2
        have h3:vs=[]:=h3
        subst h2 h3
        rw [znw hnf] at h1
        refine TW.zz01m (z8j:=[]) (vs:=[Value.pointer (some ⟨φ bx,0,none⟩)]) hg hdst hop h1 (by grind [Lk.evs]) ?_
        have:=z3f (z:={ z with φ0:=ren z.φ0 999 (φ bx) }) (ds:=[dOfF false f (φ bx)]) (G:=G) ht hcon hz b s (kD f) todo hn.2 (.inr hd.2) hw (fun fl s hk=>hkD false f (φ bx) fl s hk)
        exact this V w ⟨O,_,α,h.zx3 hs1,hs⟩
       grind
      ·cases hx
      ·cases hx
     ·cases hx
    ·cases hx
   ·cases hx
  ·rename_i x hx
   unfold dfr1 at hx
   split at hx
   ·rename_i id ops
    split at hx
    ·rename_i o ho
     split at hx
     ·rename_i c hop hg hdst
      obtain ⟨cal,cargs,cty'⟩:=c
      split at hx
      ·cases hx
      ·rename_i x' hcx hcy
       cases hx
       simp only at hcx hcy
       subst hcx
       have e1:ops=[o].toArray:=by apply yao.1;simpa using ho
       subst e1
       obtain ⟨O,φ,α,h,hs⟩:=hr
       split at hw
       ·rename_i f bx hf
        obtain ⟨s,hs1,hw⟩:=zc hw
        obtain ⟨hnf,hs1⟩:=zgp hs1
        obtain ⟨uf,h1,us,vs,rfl,h2,h3⟩:=h.ev hf
        have h2:us=[]:=h2
        obtain ⟨u,vs',rfl,h5,h6⟩:=h3
        have h6:vs'=[]:=h6
        simp only [VR] at h5
        subst h2 h5 h6
        rw [znw hnf] at h1
        refine TW.zz01m (z8j:=[Value.pointer (some ⟨φ bx,0,none⟩)]) (vs:=[]) hg hdst hop h1 (by grind [Lk.evs]) ?_
        have:=z3f (z:={ z with φ0:=ren z.φ0 999 (φ bx) }) (ds:=[dOfF true f (φ bx)]) (G:=G) ht hcon hz b s (kD f) todo hn.2 (.inr hd.2) hw (fun fl s hk=>hkD true f (φ bx) fl s hk)
        exact this V w ⟨O,_,α,h.zx3 hs1,hs⟩
       grind
      ·cases hx
     ·cases hx
    ·cases hx
   ·cases hx
  ·split at hw
   ·rename_i m d x hx
    unfold dfr2 at hx
    split at hx
    ·rename_i id ops _
     split at hx
     ·rename_i m' o ho
      split at hx
      ·rename_i fn0 fs0 cs0 dm c hmop hmg hmd hop hg hdst
       obtain ⟨cal,cargs,cty'⟩:=c
       split at hx
       ·rename_i x' hcx hcy
        cases hx
        simp only at hcx hcy
        subst hcx
        have e1:ops=[m,o].toArray:=by apply yao.1;simpa using ho
        subst e1
        obtain ⟨O,φ,α,h,hs⟩:=hr
        have hnm:dOk n m.dst=true:=by
         have h7:=hn.1
         simp only [okC,yg,yc] at h7
         first|exact h7.1|exact h7.1.1|exact h7.2.1
        rw [hmd] at hnm
        obtain ⟨v,u,hw,hv,hex,_⟩:=z9z (C:=C) (n:=n) (V:=V) ht.toTbOk (fun w O hg=>ht.gt w O (hz w O hg)) h hw
        rw [St.go_eq] at hw
        have h0:=h.zne (d:=d) hv
        split at hw
        ·rename_i f bx hf
         obtain ⟨s,hs1,hw⟩:=zc hw
         obtain ⟨hnf,hs1⟩:=zgp hs1
         obtain ⟨uf,h1,us,vs,rfl,h2,h3⟩:=h0.ev hf
         have h2:us=[]:=h2
         obtain ⟨u',vs',rfl,h5,h6⟩:=h3
         have h6:vs'=[]:=h6
         simp only [VR] at h5
         subst h2 h5 h6
         rw [znw hnf] at h1
         refine TW.zz01l (z8j:=[Value.pointer (some ⟨φ bx,0,none⟩)]) (vs:=[]) hmg hmd hnm hex hg hdst hop h1 (by grind [Lk.evs]) ?_
         have:=z3f (z:={ z with φ0:=ren z.φ0 999 (φ bx) }) (ds:=[dOfF true f (φ bx)]) (G:=G) ht hcon hz b s (kD f) todo hn.2 (.inr hd.2) hw (fun fl s hk=>hkD true f (φ bx) fl s hk)
         exact this _ w ⟨O,_,α,h0.zx3 hs1,hs⟩
        grind
       ·cases hx
      ·cases hx
     ·cases hx
    ·cases hx
   refine z3f (ds:=[]) (G:=G) ht hcon hz a σ _ (.code b::todo) hn.1 (.inr hd.1) hw (fun fl s hs => ?_) V w hr
   cases fl with
   | normal=>exact zl8 ht hcon hz b s todo hn.2 hd.2 hs hk hkD
   | exit i=>exact (hk _ _ hs (by simp)).code (by simp)
   | ret=>exact (hk _ _ hs (by simp)).code (by simp)
   | pan v=>exact (hk _ _ hs (by simp)).code (by simp)
 | .skip,σ,todo,_,_,hw,_,_=>hw.elim
 | .label _,σ,todo,_,_,hw,_,_=>hw.elim
 | .ret,σ,todo,_,_,hw,_,_=>hw.elim
 | .exit _,σ,todo,_,_,hw,_,_=>hw.elim
 | .region _ _ _,σ,todo,_,_,hw,_,_=>hw.elim
 | .cond _ _ _,σ,todo,_,_,hw,_,_=>hw.elim
 | .block _ _,σ,todo,_,_,hw,_,_=>hw.elim
 | .loop _,σ,todo,_,_,hw,_,_=>hw.elim
 | .rangeFunc ..,σ,todo,_,_,hw,_,_=>hw.elim
 | .scope _,σ,todo,_,_,hw,_,_=>hw.elim
 | .goto _,σ,todo,_,_,hw,_,_=>hw.elim
 | .refuse _,σ,todo,_,_,hw,_,_=>hw.elim
end
structure zki (P:Program) (f T:Nat) (ik:IntKind) (Te:Nat):Prop where
 ent:∀ args w,(callFunc f args).run P w = .ok (.enter f args) w
 ret:∀ w b,CallsD P f (yy [Value.pointer (some ⟨b,0,none⟩)]) .returning w (fun e u w'=>e = .returned (.tuple #[])∧u = .returning∧Ext z14 w w')
 pan:∀ w b c e,z34 w b Te [c]→CallsD P f (yy [Value.pointer (some ⟨b,0,none⟩)]) (.panicking [{ v:=Value.iface T (Value.agg (yy [Value.int ik e])),recovered:=false }]) w
  (fun e' u w'=>e' = .returned (.tuple #[])∧u = .panicking [{ v:=Value.iface T (Value.agg (yy [Value.int ik e])),recovered:=true }]∧z34 w' b Te [Value.int ik e]∧Ext (At b) w w')
def finD (tb:Tb) (ann:Ann) (res:List ResultVar) (out:z3x) (fc T:Nat) (ik:IntKind) (Te:Nat) (f:Nat) (fl:z8d) (s:St):Prop :=
 match yab f fc,fl,out with
 | true,.ret,.ok vs B A=>zz3 tb ann res s vs B A
 | true,.pan v,.ok vs B A=>match v,lkB s.B 999 with
  | .iface T' (.agg [.int ik' e]),some ⟨Te',[_]⟩=>match yab T' T&&zzm ik' ik&&yab Te' Te with
   | true=>zz3 tb ann res { s with B:=zet 999 ⟨Te',[.int ik' e]⟩ s.B } vs B A
   | false=>False
  | _,_=>False
 | _,_,_=>False
theorem Con.ofD {P:Program} {G:GI} {tb:Tb} {cty:List (Nat × List (Option (Nat × Nat)))} {ann:Ann} {f:Nat} {fn:Func} {c:Code} {i:CIn} {o:z3x} {n:Nat} {res:List ResultVar} {fc T:Nat} {ik:IntKind} {Te:Nat} (hct:zki P fc T ik Te) (ht:TbG P tb G) (ent:∀ args w,(callFunc f args).run P w = .ok (.enter f args) w) (hnn:yab f NF=false) (hf:P.funcs[f]? = some fn) (hb:fn.body=some c) (hn:fn.ntmps=n)
  (hres:fn.results=res.toArray) (hok:okC ann n c=true) (hnd:z3w fn c=true) (hl:yad i.vs.length n=true) (hnb:ann.nb=i.B.length) (h1000:yad i.B.length 900=true) (hw:exD tb cty ann (Con P G) (fin tb ann res o) (finD tb ann res o fc T ik Te) c (entry i)):Con P G f i o:=by
 refine ⟨ent,hnn,fun w O φ α us hv hm hB hG => ?_⟩
 have h1000:=yah h1000
 obtain ⟨hF,h0⟩:=zc6 (G:=G) hv hm hB hG (by omega)
 have hlu:us.length=i.vs.length:=hv.len
 refine zkt hf hb n hn (by grind) ?_
 have hN:∀ b,b<i.B.length→b≠999:=fun b hb=>by omega
 refine zl8 (z:=zy2 G i w O φ α hF hB) (C:={ P:=P,f:=f,fn:=fn,R:=zd0 i w O φ α o,hf:=hf,lv:=true }) (n:=n) (G:=G) ht (fun _ _ _ h=>h) (fun _ _ h=>h) c (entry i) [] hok hnd hw (fun fl s hs hne => ?_) (fun cl f' g fl s hs => ?_) _ _ ⟨O,φ,α,h0,fun _ hx=>hx⟩
 ·cases fl with
  | normal=>grind
  | ret =>
   intro k' V w' hr
   obtain ⟨O',φ',α',h1,h2⟩:=hr
   cases o with
   | pan v=>exact hs.elim
   | zhg _ _=>exact hs.elim
   | okI _ _ _=>exact hs.elim
   | ok vs B A =>
    obtain ⟨us',h3,h4⟩:=z6b (C:={ P:=P,f:=f,fn:=fn,R:=zd0 i w O φ α (.ok vs B A),hf:=hf,lv:=true }) (n:=n) (hF:=hF) (hB:=hB) (g:=φ) ht hres (fun b hb=>h1.keep b (by omega)) h1 h2 hnb (by omega) hs
    exact TW.ret h3 h4
  | exit _=>exact hs.elim
  | pan v =>
   intro V w' O' φ' α' u φ2 α2 h1 h2 h3 a ha hda
   cases o with
   | ok _ _ _=>cases hs
   | okI _ _ _=>cases hs
   | zhg v' B =>
    obtain ⟨rfl,hsl,hw⟩:=hs
    obtain ⟨us',_,O3,φ3,α3,h4⟩:=zae (ann:={ nb:=ann.nb }) (res:=[]) (C:={ P:=P,f:=f,fn:=fn,R:=zd0 i w O φ α (.zhg v' B),hf:=hf,lv:=true }) (n:=n) (hF:=hF) (hB:=hB) (g:=φ) ht (fun b hb=>h1.keep b (by omega)) h1 h2 hnb (by omega) hw
    exact PN.nil hda ⟨u,φ2,α2,us',O3,φ3,α3,rfl,z7r _ _ hsl h3,h4⟩
   | pan v =>
    cases hs
    exact PN.nil hda ⟨u,O',φ2,α2,rfl,h3,h1.ext,h1.tr0,h1.bd,h1.only⟩
 ·unfold finD at hs
  split at hs
  ·rename_i vs B A hff
   have hff:=yag hff
   subst hff
   intro k' V w' hr
   obtain ⟨O',φ',α',h1,h2⟩:=hr
   refine TW.retD rfl (LV.ret2 (z8j:=dCaps cl g) (vs:=dArgs cl g) hct.ent (by cases cl<;>exact hct.ret w' g) fun w2 x => ?_)
   have h3:=h1.zm3 x
   obtain ⟨us',h4,h5⟩:=z6b (C:={ P:=P,f:=f,fn:=fn,R:=zd0 i w O φ α (.ok vs B A),hf:=hf,lv:=true }) (n:=n) (hF:=hF) (hB:=hB) (g:=ren φ 999 g) ht hres (fun b hb=>(h3.keep b (by omega)).trans (by grind [ren,zy2])) h3 h2 hnb (by omega) hs
   grind
  ·rename_i v vs B A hff
   have hff:=yag hff
   subst hff
   split at hs
   ·rename_i T' ik' e Te' c0 hbx
    split at hs
    ·rename_i hb3
     simp only [yc] at hb3
     have e1:=yag hb3.1.1
     have e2:=z8t hb3.1.2
     have e3:=yag hb3.2
     subst e1 e2 e3
     intro V w' O' φ' α' u φ2 α2 h1 h2 h3 a ha hda
     obtain ⟨x,rfl,us',rfl,y,r,rfl,hy,hr⟩:=h3
     simp only [VR] at hy
     subst hy
     have hr:r=[]:=hr
     subst hr
     obtain ⟨hbx,hbT⟩:=z8w hbx
     obtain ⟨k1,us2,k2,k3⟩:=h1.box 999 _ hbx
     have k2:=k2.un hbT
     obtain ⟨c1,r1,rfl,_,hr1⟩:=k3
     have hr1:r1=[]:=hr1
     subst hr1
     have e9:φ' 999=g:=(h1.keep 999 (by decide)).trans (by simp [ren])
     rw [e9] at k2
     have key:=LV.pan2 (C:={ P:=P,f:=f,fn:=fn,R:=zd0 i w O φ α (.ok vs B A),hf:=hf,lv:=true }) (n:=n) (L:=V) (z8j:=dCaps cl g) (vs:=dArgs cl g) (fun w2=>z34 w2 g Te' [Value.int ik' e]∧Ext (At g) w' w2) hct.ent (by cases cl<;>exact hct.pan w' g c1 e k2) fun w2 ⟨q1,q2⟩=>by
      have h4:=h1.zok (b:=0) (cs:=[.int ik' e]) hbx (by rw [e9];exact .inl ⟨hbT,q1⟩) (by grind) ⟨_,[],rfl,rfl,rfl⟩ rfl
      obtain ⟨us',h5,h6⟩:=z6b (C:={ P:=P,f:=f,fn:=fn,R:=zd0 i w O φ α (.ok vs B A),hf:=hf,lv:=true }) (n:=n) (hF:=hF) (hB:=hB) (g:=ren φ 999 g) ht hres (fun b hb=>(h4.keep b (by omega)).trans (by grind [ren,zy2])) h4 h2 hnb (by omega) hs
      grind
     have:=key a ha hda
     unfold PN
     rw [hda]
     exact this
    grind
   grind
  grind
end
section
inductive Rs (α:Type) where
 | ok (a:α)
 | pan (e:Int)
inductive Rb (α β:Type) where
 | ok (a:α)
 | pan (e:Int) (p:β)
theorem zkn {a e v:Bool} (h:a=true) (p:v=e):v=(a&&e):=by grind
theorem zkm {a e:Bool} (h:a=false):false=(a&&e):=by rw [h];rfl
section
variable {R A:Type} {W:R→Prop} {y:Option R}
theorem S.an {p:Prop} (hp:p) (h:S y W):S y (fun r=>p∧W r):=fun r hm=>⟨hp,h r hm⟩
theorem S.b {z:Option A} {g:A→Option R} (h:∀ a,z=some a→S (g a) W):S (z >>= g) W:=by
 intro r hm
 obtain ⟨a,h1,h2⟩:=bnd hm
 exact h a h1 r h2
theorem S.two {V:R→Prop} (h:S y V) (h2:S y W):S y (fun r=>V r∧W r):=fun r hm=>⟨h r hm,h2 r hm⟩
theorem S.jb {X:Type} {B:R→St→Prop} {A':R→(St→Prop)→Prop} {v:X} (sh:X→St) (hA:∀ r,A' r fun s=>∃ b,s=sh b∧b=v) (hB:S y (fun r=>B r (sh v))):S y (fun r=>∃ J:St→Prop,A' r J∧∀ s,J s→B r s) :=
 fun r hm=>⟨_,hA r,fun s ⟨b,h1,h2⟩=>by subst h1 h2;exact hB r hm⟩
end
section
variable {tb:Tb} {cty:List (Nat × List (Option (Nat × Nat)))} {ann:Ann} {con:Nat→CIn→z3x→Prop}
theorem S.lw3 {X0 X1 X2 R:Type} {a:Code} {c:Cut} {k:R→z8d→St→Prop} {σ:St} {L:X0→X1→X2→Option R} {Bd:(X0→X1→X2→Option R)→X0→X1→X2→Option R} {x0:X0} {x1:X1} {x2:X2} (sh:X0→X1→X2→Ov)
  (pc:∀ motive:X0→X1→X2→R→Prop,(∀ f:X0→X1→X2→Option R,(∀ x0 x1 x2 r,f x0 x1 x2=some r→motive x0 x1 x2 r)→∀ x0 x1 x2 r,Bd f x0 x1 x2=some r→motive x0 x1 x2 r)→∀ x0 x1 x2 r,L x0 x1 x2=some r→motive x0 x1 x2 r)
  (h0:σ=ovS σ c (sh x0 x1 x2)) (h:∀ (f:X0→X1→X2→Option R) (I:R→St→Prop),(∀ x0 x1 x2,S (f x0 x1 x2) (fun r=>I r (ovS σ c (sh x0 x1 x2))))→∀ x0 x1 x2,S (Bd f x0 x1 x2) (fun r=>Stp tb cty ann con a c (k r) (I r) (ovS σ c (sh x0 x1 x2)))) :
  S (L x0 x1 x2) (fun r=>LW (Stp tb cty ann con a c (k r)) σ):=by
 intro r hm
 rw [h0]
 exact pc (fun x0 x1 x2 r=>LW (Stp tb cty ann con a c (k r)) (ovS σ c (sh x0 x1 x2))) (fun f ih x0 x1 x2 r hm=>LW.fold (za6 a c (k r)) (h f (fun r=>LW (Stp tb cty ann con a c (k r))) ih x0 x1 x2 r hm)) x0 x1 x2 r hm
theorem S.lw4 {X0 X1 X2 X3 R:Type} {a:Code} {c:Cut} {k:R→z8d→St→Prop} {σ:St} {L:X0→X1→X2→X3→Option R} {Bd:(X0→X1→X2→X3→Option R)→X0→X1→X2→X3→Option R} {x0:X0} {x1:X1} {x2:X2} {x3:X3} (sh:X0→X1→X2→X3→Ov)
  (pc:∀ motive:X0→X1→X2→X3→R→Prop,(∀ f:X0→X1→X2→X3→Option R,(∀ x0 x1 x2 x3 r,f x0 x1 x2 x3=some r→motive x0 x1 x2 x3 r)→∀ x0 x1 x2 x3 r,Bd f x0 x1 x2 x3=some r→motive x0 x1 x2 x3 r)→∀ x0 x1 x2 x3 r,L x0 x1 x2 x3=some r→motive x0 x1 x2 x3 r)
  (h0:σ=ovS σ c (sh x0 x1 x2 x3)) (h:∀ (f:X0→X1→X2→X3→Option R) (I:R→St→Prop),(∀ x0 x1 x2 x3,S (f x0 x1 x2 x3) (fun r=>I r (ovS σ c (sh x0 x1 x2 x3))))→∀ x0 x1 x2 x3,S (Bd f x0 x1 x2 x3) (fun r=>Stp tb cty ann con a c (k r) (I r) (ovS σ c (sh x0 x1 x2 x3)))) :
  S (L x0 x1 x2 x3) (fun r=>LW (Stp tb cty ann con a c (k r)) σ):=by
 intro r hm
 rw [h0]
 exact pc (fun x0 x1 x2 x3 r=>LW (Stp tb cty ann con a c (k r)) (ovS σ c (sh x0 x1 x2 x3))) (fun f ih x0 x1 x2 x3 r hm=>LW.fold (za6 a c (k r)) (h f (fun r=>LW (Stp tb cty ann con a c (k r))) ih x0 x1 x2 x3 r hm)) x0 x1 x2 x3 r hm
theorem S.lw5 {X0 X1 X2 X3 X4 R:Type} {a:Code} {c:Cut} {k:R→z8d→St→Prop} {σ:St} {L:X0→X1→X2→X3→X4→Option R} {Bd:(X0→X1→X2→X3→X4→Option R)→X0→X1→X2→X3→X4→Option R} {x0:X0} {x1:X1} {x2:X2} {x3:X3} {x4:X4} (sh:X0→X1→X2→X3→X4→Ov)
  (pc:∀ motive:X0→X1→X2→X3→X4→R→Prop,(∀ f:X0→X1→X2→X3→X4→Option R,(∀ x0 x1 x2 x3 x4 r,f x0 x1 x2 x3 x4=some r→motive x0 x1 x2 x3 x4 r)→∀ x0 x1 x2 x3 x4 r,Bd f x0 x1 x2 x3 x4=some r→motive x0 x1 x2 x3 x4 r)→∀ x0 x1 x2 x3 x4 r,L x0 x1 x2 x3 x4=some r→motive x0 x1 x2 x3 x4 r)
  (h0:σ=ovS σ c (sh x0 x1 x2 x3 x4)) (h:∀ (f:X0→X1→X2→X3→X4→Option R) (I:R→St→Prop),(∀ x0 x1 x2 x3 x4,S (f x0 x1 x2 x3 x4) (fun r=>I r (ovS σ c (sh x0 x1 x2 x3 x4))))→∀ x0 x1 x2 x3 x4,S (Bd f x0 x1 x2 x3 x4) (fun r=>Stp tb cty ann con a c (k r) (I r) (ovS σ c (sh x0 x1 x2 x3 x4)))) :
  S (L x0 x1 x2 x3 x4) (fun r=>LW (Stp tb cty ann con a c (k r)) σ):=by
 intro r hm
 rw [h0]
 exact pc (fun x0 x1 x2 x3 x4 r=>LW (Stp tb cty ann con a c (k r)) (ovS σ c (sh x0 x1 x2 x3 x4))) (fun f ih x0 x1 x2 x3 x4 r hm=>LW.fold (za6 a c (k r)) (h f (fun r=>LW (Stp tb cty ann con a c (k r))) ih x0 x1 x2 x3 x4 r hm)) x0 x1 x2 x3 x4 r hm
end
section
variable {R A X:Type} {f c:X→List D} {E:List X→List (List D)} {l l2:List (List D)} {xs ys:List X}
theorem S.ixE (hE:∀ l,E l=l.map f) {i:Int} {F:R→List D→Prop} {g:X→Option R} (hl:l=E xs) (hc:∀ x,f x=c x) (h:∀ x,S (g x) (fun r=>F r (c x))):S (Go.Lk.ix xs i >>= g) (fun r=>Ex (Go.Lk.ix l i) (F r)):=S.ix (hl.trans (hE xs)) hc h
theorem S.appE (hE:∀ l,E l=l.map f) {n:Nat} {F:R→List (List D)→Prop} {g:List X→Option R} (hl:l=E xs) (hl2:l2=E ys) (h:∀ x,S (g x) (fun r=>F r (E x))):S (Go.Lk.app n xs ys >>= g) (fun r=>Ex (Go.Lk.app n l l2) (F r)):=S.app (f:=f) (hl.trans (hE xs)) (hl2.trans (hE ys)) fun x=>by grind
end
section
variable {tb:Tb} {cty:List (Nat × List (Option (Nat × Nat)))} {ann:Ann} {con:Nat→CIn→z3x→Prop} {R X:Type}
def kD {Y:Type} (k:R→Y) (no:Y):Jn R X→Y
 | .done r=>k r
 | .go _=>no
def jG (sh:X→St) (j:Jn R X):St→Prop:=fun s=>match j with
 | .go x=>s=sh x
 | .done _=>False
theorem S.jn {a:Code} {σ:St} {c:Cut} {k:R→z8d→St→Prop} {B:R→St→Prop} {z:Option (Jn R X)} {m:Jn R X→Option R} (sh:X→St)
  (hA:S z fun j=>ex tb cty ann con a σ (zkh (fun s=>s.zat c (jG sh j)) (kD k (fun _ _=>False) j))) (hd:∀ r,m (.done r)=some r) (hB:∀ x,S (m (.go x)) fun r=>B r (sh x)) :
  S (z >>= m) (fun r=>∃ J:St→Prop,ex tb cty ann con a σ (zkh (fun s=>s.zat c J) (k r))∧∀ s,J s→B r s):=by
 intro r hm
 obtain ⟨j,h1,h2⟩:=bnd hm
 refine ⟨jG sh j,z7j a _ _ _ (z9r (fun _=>id) ?_) (hA j h1),?_⟩
 ·cases j with
  | done r0=>rw [hd] at h2;cases h2;exact fun _ _=>id
  | go x=>exact fun _ _ h=>h.elim
 ·cases j with
  | done r0=>exact fun _ h=>h.elim
  | go x=>intro s h;cases h;exact hB x r h2
theorem S.dn {Y1 Y2:Type} {k:R→Y1→Y2→Prop} {p:Y1} {q:Y2} {y:Option R} (h:S y fun r=>k r p q):S (y >>= fun r=>some (Jn.done r:Jn R X)) (fun j=>kD k (fun _ _=>False) j p q):=by
 intro j hm
 obtain ⟨r,h1,h2⟩:=bnd hm
 cases h2
 exact h r h1
theorem z4b {Y:Type} {f:Y→List D} {xs:List Y}:zzy (xs.map f)=some (xs.length:Int):=by simp [zzy]
theorem z7f {Y:Type} {f:Y→List D} {E:List Y→List (List D)} (hE:∀ l,E l=l.map f) {xs:List Y}:zzy (E xs)=some (xs.length:Int):=by grind [z4b]
theorem Ex.i {Y:Type} {z:Option Y} {k:Y→Prop} {a:Y} (hz:z=some a) (h:k a):Ex z k:=⟨a,hz,h⟩
theorem jbI {Y:Type} {sh:Y→St} {v b:Y} {s:St} (h:s=sh b) (p:b=v):∃ b,s=sh b∧b=v:=⟨b,h,p⟩
theorem it_t {Y:Type} {a:Bool} {v e1 e2:Y} (h:a=true) (p:v=e1):v=(if a=true then e1 else e2):=by grind
theorem it_f {Y:Type} {a:Bool} {v e1 e2:Y} (h:a=false) (p:v=e2):v=(if a=true then e1 else e2):=by grind
end
end
section
section
variable {K V:Type} [DecidableEq K]
def z7q:List (K × V)→K→V→V
 | [],_,z=>z
 | (a,v)::r,k,z=>if k=a then v else z7q r k z
def mhasT:List (K × V)→K→Bool
 | [],_=>false
 | (a,_)::r,k=>if k=a then true else mhasT r k
def z3u:List (K × V)→K→V→List (K × V)
 | [],k,v=>[(k,v)]
 | (a,b)::r,k,v=>if k=a then (k,v)::r else (a,b)::z3u r k v
variable {R:Type} {y:Option R} {f:K × V→List D} {kf:K→D} {vf:V→List D} (hf:∀ x,f x=kf x.1::vf x.2) (hk:∀ a b,kEq (kf a) (kf b)=decide (a=b))
include hf hk
theorem zwd (k:K) (z:V):∀ l:List (K × V),zju (l.map f) (kf k) (vf z)=vf (z7q l k z)∧zm2 (l.map f) (kf k)=mhasT l k
 | []=>⟨rfl,rfl⟩
 | (a,v)::r=>by
  obtain ⟨h1,h2⟩:=zwd k z r
  by_cases e:k=a
  ·subst e
   simp [zju,zm2,mgD,hf,hk,z7q,mhasT]
  ·simp only [zju,zm2] at h1 h2
   simp [zju,zm2,mgD,hf,hk,z7q,mhasT,e,h1,h2]
theorem zm4 (k:K) (v:V):∀ l:List (K × V),z9w (l.map f) (kf k) (vf v)=(z3u l k v).map f
 | []=>by simp [z9w,z3u,hf]
 | (a,b)::r=>by
  have h1:=zm4 k v r
  by_cases e:k=a
  ·subst e
   simp [z9w,hf,hk,z3u]
  ·simp only [List.map_cons,hf,z9w,hk,e,decide_false,yd,if_false,z3u,h1]
theorem S.mget {l:List (K × V)} {k:K} {z:V} {c:V→List D} {kd:D} {zd:List D} {F:R→List D→Prop} (hkd:kd=kf k) (hz:zd=vf z) (hc:∀ x,vf x=c x) (h:S y (fun r=>F r (c (z7q l k z)))):S y (fun r=>Ex (some (zju (l.map f) kd zd)) (F r)):=by
 subst hkd hz
 rw [(zwd hf hk k z l).1,hc]
 exact fun r hm=>⟨_,rfl,h r hm⟩
theorem S.z89 {l:List (K × V)} {k:K} {v:V} {kd:D} {vd:List D} {F:R→List (List D)→Prop} {g:List (K × V)→Option R} (hkd:kd=kf k) (hv:vd=vf v) (h:∀ m,S (g m) (fun r=>F r (m.map f))):S (some (z3u l k v) >>= g) (fun r=>Ex (some (z9w (l.map f) kd vd)) (F r)):=by
 subst hkd hv
 rw [zm4 hf hk k v l]
 exact fun r hm=>⟨_,rfl,h _ r hm⟩
end
theorem z8v (a b:List UInt8):kEq (.str a) (.str b)=decide (a=b):=rfl
theorem z55 (k:IntKind) (a b:Int):kEq (.int k a) (.int k b)=decide (a=b):=rfl
theorem S.wv {R A X:Type} {z:Option X} {g:X→Option R} {k:R→A→Prop} (w:Option A) (vf:X→A) (hz:∀ x,z=some x→w=some (vf x)) (h:∀ x,S (g x) (fun r=>k r (vf x))):S (z >>= g) (fun r=>wt w (k r)):=fun r hm=>by
 obtain ⟨x,h1,h2⟩:=ya.1 hm
 rw [hz x h1]
 exact h x r h2
theorem S.di {R:Type} {p:Prop} [Decidable p] {y1 y2:Option R} {W:R→Prop} (h1:p→S y1 W) (h2:S y2 W):S (if p then y1 else y2) W:=fun r hm=>by
 by_cases h:p
 ·rw [if_pos h] at hm;exact h1 h r hm
 ·rw [if_neg h] at hm;exact h2 r hm
section
variable {tb:Tb} {cty:List (Nat × List (Option (Nat × Nat)))} {ann:Ann} {con:Nat→CIn→z3x→Prop} {R X:Type} {a:Code} {c:Cut} {k:R→z8d→St→Prop} {σ:St}
end
end
end Go.Pe
