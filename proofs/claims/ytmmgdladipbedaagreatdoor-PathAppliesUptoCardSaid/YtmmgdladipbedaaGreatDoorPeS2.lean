import Derived.Test.YtmmgdladipbedaaGreatDoorPeS1
set_option linter.all false
namespace Go.Pe
open _root_.Option renaming bind_eq_some_iff → ya
open _root_.Bool renaming and_eq_true → yb
open _root_.List renaming filter_cons_of_pos → yc, map_cons → yd, mem_map_of_mem → ye, mem_of_getElem? → yf, nodup_cons → yg
open _root_.Nat renaming add_zero → yh, blt_eq → yi, eq_of_beq_eq_true → yj, le_of_ble_eq_true → yk, le_trans → yl
open _root_.Array renaming length_toList → ym, toList_inj → yn
open Go.RowKit Go.Lk
variable [Lb]

section
variable {z:W0} {fL fL':FL} {fB fB':FB} {fA fA':FA} {V:Env} {w w':World} {O O':Nat→Prop} {φ φ':Nat→Nat} {α α':Nat→Value} {σ σ':St}
theorem Ext.after (h:Rel z fL fB fA V w O φ α) {H:Nat→Prop} (x:Ext H w w') (hH:∀ y,H y→z.F y∨z.w.heap.size≤y):Ext z.F z.w w':=h.ext.step x fun y hy hh=>by
 rcases hH y hh with h1|h1
 ·exact h1
 ·omega
theorem Bd.new {b:Nat} {T:TypeId} {us:List Value} {H:Nat→Prop} (hB:Bd O w) (x:Ext H w w') (hb:zf8 w' b T us):Bd (Ins O b) w':=fun y hy=>by
 rcases hy with rfl|hy
 ·exact hb.lt
 ·exact Nat.lt_of_lt_of_le (hB y hy) x.size
theorem Rel.zwn (h:Rl z σ V w O φ α) {d key b:Nat} {T:TypeId} {us:List Value} {cs:List PV} {pv:PV} {pu:Value} (hf:σ.z5j key=true) (hb:zf8 w' b T us) (x:Ext z0h w w') (hw:w.heap.size≤b) (hv:VRs w O φ α cs us) (kc:z2r.go (fun y=>y≠key) (fun _=>True) cs)
  (hp:VR w' (Ins O b) (ren φ key b) α pv pu):Rl z { σ with B:=(key,⟨T,cs⟩)::σ.B,L:=(d,pv)::σ.L } ((d,pu)::V) w' (Ins O b) (ren φ key b) α:=by
 have t:Tr O w (Ins O b) w':=Tr.z7b x (fun _ _ hh=>hh.elim) hw
 have h1:=h.reB hf b
 have h2:=h1.move x t (fun y hy => .inr hy) (Bd.new h.bd x hb) (fun _ _ _ hh=>hh) (fun _ _ _ _ _ hh=>hh) (Ext.after h x fun _ hh=>hh.elim) fun y hy=>by
  rcases hy with rfl|hy
  ·exact .inr (yl h.ext.size hw)
  ·exact h.only y hy
 have er:ren φ key b key=b:=by simp [ren]
 have hv2:VRs w' (Ins O b) (ren φ key b) α cs us:=VRs.re (kb:=fun y=>y≠key) (ka:=fun _=>True) (fun y hy=>by simp [ren,hy]) (fun _ _=>rfl) _ _ kc (VRs.tr t _ _ hv)
 have h3:=h2.zzn (b:=key) (e:=⟨T,cs⟩) (us:=us) (.inl er) (by rw [er];exact hb) hv2 (fun c e' hc _=>by
  rw [er]
  have:=h1.zpx hc
  omega) (fun a e' ha hh=>by
  rw [er] at hh
  have:=h1.zt7 ha hh
  omega) (by rw [er];exact .inr (yl h.ext.size hw))
 have h4:=h3.put (d:=d) (v:=pv) (u:=pu) hp
 exact h4.mono Le.cons Le.cons (Le.refl _)
theorem Rel.zwm (h:Rl z σ V w O φ α) {d key b:Nat} {T:TypeId} {us:List Value} {cs:List PV} (hf:σ.z5j key=true) (hb:zf8 w' b T us) (x:Ext z0h w w') (hw:w.heap.size≤b) (hv:VRs w O φ α cs us) (kc:z2r.go (fun y=>y≠key) (fun _=>True) cs) :
  Rl z { σ with B:=(key,⟨T,cs⟩)::σ.B,L:=(d,.ptr key 0)::σ.L } ((d,.pointer (some ⟨b,0,none⟩))::V) w' (Ins O b) (ren φ key b) α :=
 h.zwn hf hb x hw hv kc (by simp only [VR];rw [show ren φ key b key=b from by simp [ren]])
theorem Rel.zwl (h:Rl z σ V w O φ α) {d key:Nat} {v:Value} {e:Arr} {H:Nat→Prop} (hf:σ.z4q key=true) (x:Ext H w w') (t:Tr O w O' w') (more:∀ y,O y→O' y) (bd':Bd O' w') (only':∀ y,O' y→O y∨w.heap.size≤y)
  (hB:∀ b e,lk σ.B b=some e→¬H (φ b)) (hA:∀ a e,lk σ.A a=some e→∀ y,(α a).ownBlock=some y→¬H y) (hH:∀ y,H y→z.F y∨z.w.heap.size≤y) (hT:e.T<1000000) (ho:Own w' O' e.T e.n v e.l)
  (h1:∀ y,v.ownBlock=some y→H y∨w.heap.size≤y) (h3:∀ y,v.ownBlock=some y→(e.zqv=false∧z.F y)∨z.w.heap.size≤y) :
  Rl z { σ with A:=(key,e)::σ.A,L:=(d,.ref key)::σ.L } ((d,v)::V) w' O' φ (zex α key v):=by
 have k1:=h.reA hf v
 have er:zex α key v key=v:=by simp [zex]
 obtain ⟨f1,f2,f3⟩:=z7n hf
 have hA':∀ a e,lk σ.A a=some e→zex α key v a=α a:=fun a e ha=>by
  have:a≠key:=fun hh=>by subst hh;rw [f1] at ha;cases ha
  simp [zex,this]
 have k2:=k1.move x t more bd' hB (fun a e ha y hy=>by rw [hA' a e ha] at hy;exact hA a e ha y hy) (Ext.after h x hH) fun y hy=>by
  rcases only' y hy with hy|hy
  ·exact h.only y hy
  ·exact .inr (yl h.ext.size hy)
 have k3:=k2.zxj (a:=key) (e:=e) (by rw [er];exact .inl ⟨hT,ho⟩) (fun c e' hc _ y hy=>by
  rw [er]
  intro hh
  rw [hA' c e' hc] at hy
  rcases h1 y hh with h2|h2
  ·exact hA c e' hc y hy h2
  ·have:=h.zt7 hc hy;omega) (fun b e' hb=>by
  rw [er]
  intro hh
  rcases h1 _ hh with h2|h2
  ·exact hB b e' hb h2
  ·have:=h.zpx hb;omega) (fun y hy=>by rw [er] at hy;exact h3 y hy)
 have k4:=k3.put (d:=d) (v:=.ref key) (u:=v) ⟨er.symm,z7f.zzy (.inl ⟨hT,ho⟩)⟩
 exact k4.mono Le.cons (Le.refl _) Le.cons
theorem Rel.za6 (h:Rl z σ V w O φ α) {d:Nat} {v:PV} {u:Value} (hv:VR w O φ α v u):Rl z { σ with L:=(d,v)::σ.L } ((d,u)::V) w O φ α:=(h.put hv).mono Le.cons (Le.refl _) (Le.refl _)
def zwv (d:Option Nat) (u:Value) (V:Env):Env:=match d with
 | some d=>(d,u)::V
 | none=>V
theorem Rel.zww (h:Rl z σ V w O φ α) (d:Option Nat) {v:PV} {u:Value} (hv:VR w O φ α v u):Rl z (σ.put d v) (zwv d u V) w O φ α:=by
 cases d with
 | none=>exact h
 | some d=>exact h.za6 hv
theorem Rel.zlk (h:Rl z σ V w O φ α) (x:Ext z0h w w'):Rl z σ V w' O φ α :=
 h.move x (Tr.z2p x fun _ _ hh=>hh.elim) (fun _ hy=>hy) (h.bd.ext x) (fun _ _ _ hh=>hh) (fun _ _ _ _ _ hh=>hh) (Ext.after h x fun _ hh=>hh.elim) h.only
theorem Rel.zz3 (h:Rl z σ V w O φ α) {d key b T m len:Nat} {us:List Value} {l:List (List D)} {zqv:Bool} (hT:T<1000000) (hf:σ.z4q key=true) (hb:z0r w' b T us) (x:Ext z0h w w') (hw:w.heap.size≤b) (hl:l.length=len) (hm:len≤maxLen) (hs:us.length=len*m) (hr:RDl w O m l us) :
  Rl z { σ with A:=(key,⟨zqv,T,m,l⟩)::σ.A,L:=(d,.ref key)::σ.L } ((d,.slice (some ⟨b,0,none⟩) len len)::V) w' (Ins O b) φ (zex α key (.slice (some ⟨b,0,none⟩) len len)):=by
 have t:Tr O w (Ins O b) w':=Tr.z7b x (fun _ _ hh=>hh.elim) hw
 exact h.zwl hf x t (fun y hy => .inr hy) (Bd.new h.bd x (T:=T) (us:=us) (.inl ⟨hT,hb⟩)) (fun y hy=>by
  rcases hy with rfl|hy
  ·exact .inr hw
  ·exact .inl hy) (fun _ _ _ hh=>hh) (fun _ _ _ _ _ hh=>hh) (fun _ hh=>hh.elim) hT (Own.z7b hb hl hm hs (hr.tr t) (.inl rfl)) (fun y hy=>by
  simp only [Value.ownBlock,Option.some.injEq] at hy
  subst hy
  exact .inr hw) (fun y hy=>by
  simp only [Value.ownBlock,Option.some.injEq] at hy
  subst hy
  exact .inr (yl h.ext.size hw))
theorem Rel.zo6 (h:Rl z σ V w O φ α) {key b:Nat} {e:Bx} {us:List Value} {cs:List PV} (hk:lk σ.B key=some e) (hb:zf8 w' (φ key) e.T us) (x:Ext (At (φ key)) w w') (hv:VRs w O φ α cs us) (_:b=b) :
  Rl z { σ with B:=zh2 key ⟨e.T,cs⟩ σ.B } V w' O φ α:=by
 have ho:=(h.box key e hk).1
 have t:Tr O w O w':=Tr.z2p x fun y _ hy=>by cases hy;exact ho
 have h1:=h.mono (Le.refl _) (fB':=del (lk σ.B) key) (fun t v hv=>(z2d hv).2) (Le.refl _)
 have h2:=h1.move x t (fun _ hy=>hy) (h.bd.ext x) (fun c e' hc hh=>by
  obtain ⟨n1,hc⟩:=z2d hc
  exact h.bb c key e' e hc hk n1 hh) (fun a e' ha y hy hh=>by
  cases hh
  exact h.ab a key e' e ha hk hy) (Ext.after h x fun y hy=>by cases hy;exact (h.bF key e hk).elim (fun q => .inl q.2) .inr) h.only
 have h3:=h2.zzn (b:=key) (e:=⟨e.T,cs⟩) (us:=us) ho hb (VRs.tr t _ _ hv) (fun c e' hc n1 hh=>h.bb c key e' e (z2d hc).2 hk n1 hh) (fun a e' ha hh=>h.ab a key e' e ha hk hh) (h.bF key e hk)
 exact h3.mono (Le.refl _) Le.zh2 (Le.refl _)
theorem Rel.zx6 (h:Rl z σ V w O φ α) {a:Nat} {e:Arr} {l:List (List D)} (hk:lk σ.A a=some e) (hT:e.T<1000000) (ho:Own w' O e.T e.n (α a) l) (x:Ext (fun y=>(α a).ownBlock=some y) w w') :
  Rl z { σ with A:=zh2 a { e with l:=l } σ.A } V w' O φ α:=by
 have t:Tr O w O w':=Tr.z2p x fun y _ hy=>h.zxl hk hy
 have h1:=h.mono (Le.refl _) (Le.refl _) (fA':=del (lk σ.A) a) (fun t v hv=>(z2d hv).2)
 have h2:=h1.move x t (fun _ hy=>hy) (h.bd.ext x) (fun c e' hc hh=>h.ab a c e e' hk hc hh) (fun c e' hc y hy hh=>by
  obtain ⟨n1,hc⟩:=z2d hc
  exact h.aa c a e' e hc hk n1 y hy hh) (Ext.after h x fun y hy=>(h.aF a e hk y hy).elim (fun q => .inl q.2) .inr) h.only
 have h3:=h2.zxj (a:=a) (e:={ e with l:=l }) (.inl ⟨hT,ho⟩) (fun c e' hc n1 y hy hh=>h.aa c a e' e (z2d hc).2 hk n1 y hy hh) (fun b e' hb hh=>h.ab a b e e' hk hb hh) (h.aF a e hk)
 exact h3.mono (Le.refl _) (Le.refl _) Le.zh2
theorem RDs.len {w:World} {O:Nat→Prop}:∀ {l:List D} {us:List Value},RDs w O l us→us.length=l.length
 | [],us,h=>by cases h;rfl
 | d::l,us,h=>by
  obtain ⟨v,vs,rfl,_,h⟩:=h
  simp [RDs.len h]
theorem toD_ok {c:Option (Nat × Nat)} {v:PV} {d:D} {u:Value} (e:toD c v=some d) (h:VR w O φ α v u):RD w O d u:=by
 unfold toD at e
 split at e
 ·cases e;simpa [VR,RD] using h
 ·cases e;simpa [VR,RD] using h
 ·cases e;simpa [VR,RD] using h
 ·cases e;exact h
 ·split at e
  ·cases e
   simp only [VR] at h
   subst h
   exact .inl ⟨⟨_,rfl⟩,rfl⟩
  ·cases e
 ·cases e
  obtain ⟨us,vs,rfl,h1,h2⟩:=h
  obtain rfl:us=[]:=h1
  obtain rfl:vs=[]:=h2
  exact ⟨rfl,rfl⟩
 ·cases e;exact h
 ·cases e
theorem toDs_ok:∀ {cs:List PV} {ct:List (Option (Nat × Nat))} {ds:List D} {us:List Value},toDs ct cs=some ds→VRs w O φ α cs us→RDs w O ds us
 | [],ct,ds,us,e,h=>by
  unfold toDs at e
  cases e
  exact h
 | v::vs,ct,ds,us,e,h=>by
  obtain ⟨u,us',rfl,h2,h3⟩:=h
  cases ct with
  | nil =>
   simp only [toDs] at e
   split at e
   ·rename_i d ds' h4 h5
    cases e
    exact ⟨u,us',rfl,toD_ok h4 h2,toDs_ok h5 h3⟩
   ·cases e
  | cons c ct =>
   simp only [toDs] at e
   split at e
   ·rename_i d ds' h4 h5
    cases e
    exact ⟨u,us',rfl,toD_ok h4 h2,toDs_ok h5 h3⟩
   ·cases e
theorem zd0 {ct:List (Option (Nat × Nat))} {m:Nat}:∀ {us:List PV} {is:List Nat} {xs:List Value} {ds:List (List D)} {i:Nat},zev i is=true→is.length=us.length→VRs w O φ α us xs→us.all (fun x => !(z3a x))=true→zw0 ct us=some ds→ds.all (fun x=>Nat.beq x.length m)=true →
  ∃ cs,flat m i (is.zip xs)=some cs∧RDl w O m ds cs∧cs.length=us.length*m∧ds.length=us.length
 | [],is,xs,ds,i,_,hl,h,_,e,_=>by
  cases h
  unfold zw0 at e
  cases e
  simp only [List.zip_nil_right,flat]
  exact ⟨[],rfl,trivial,by simp,rfl⟩
 | u::us,is,xs,ds,i,hr,hl,h,hu,e,hm=>by
  obtain ⟨x,xs',rfl,h2,h3⟩:=h
  cases is with
  | nil=>simp at hl
  | cons j is =>
   simp only [zev,yb] at hr
   simp only [List.all_cons,yb] at hu
   unfold zw0 at e
   split at e
   ·rename_i d ds' h4 h5
    cases e
    simp only [List.all_cons,yb] at hm
    obtain ⟨cs,k1,k2,k3,k4⟩:=zd0 hr.2 (by simpa using hl) h3 hu.2 h5 hm.2
    have h6:=toDs_ok h4 (h2.cells (by simpa using hu.1))
    have h7:=RDs.len h6
    have h8:=yj hm.1
    have h9:x.cells.size=m:=by rw [←h8,←h7,ym]
    refine ⟨x.cells.toList++cs,?_,?_,?_,by simp [k4]⟩
    ·simp only [List.zip_cons_cons]
     unfold flat
     rw [hr.1,k1,h9,Nat.beq_refl]
    ·refine ⟨?_,?_⟩
     ·have:(x.cells.toList++cs).take m=x.cells.toList:=by rw [←h9,←ym];exact List.take_left
      rw [this];exact h6
     ·have:(x.cells.toList++cs).drop m=cs:=by rw [←h9,←ym];exact List.drop_left
      rw [this];exact k2
    ·rw [List.length_append,k3,ym,h9,List.length_cons,Nat.succ_mul];omega
   ·cases e
theorem zmz:∀ {l:List (List D)} {s:List UInt8},dby l=some s→∃ xs:List Int,l=xs.map (eI .u8)∧s=byt xs
 | [],s,e=>by cases e;exact ⟨[],rfl,rfl⟩
 | x::r,s,e=>by
  unfold dby at e
  split at e
  ·cases e;exact ⟨[],by assumption,rfl⟩
  ·rename_i n r' hx
   split at e
   ·rename_i s' h1
    cases e
    simp only [List.cons.injEq] at hx
    obtain ⟨rfl,rfl⟩:=hx
    obtain ⟨xs,rfl,rfl⟩:=zmz h1
    exact ⟨n::xs,rfl,rfl⟩
   ·cases e
  ·cases e
end
def RS (z:W0) (σ:St) (V:Env) (w:World):Prop := ∃ O φ α,Rl z σ V w O φ α∧∀ x,z.O x→O x
def z8w (z:W0) (C:Cx) (n:Nat) (ds:List Deferred) (v:PV) (s:St):Prop := ∀ V w O φ α u φ' α',Rl z s V w O φ α→(∀ x,z.O x→O x)→VR w O φ' α' v u→∀ a,Has n V a→a.defers=ds→PN C a [{ v:=u,recovered:=false }] w
def NX (z:W0) (C:Cx) (n:Nat) (ds:List Deferred) (ops:Array Oper) (rest:List Oper) (K:Act→World→Prop) (s:St):Prop := ∀ V w,RS z s V w→OW C n ds ops rest K V w
theorem Rel.tr0 {z:W0} {fL:FL} {fB:FB} {fA:FA} {V:Env} {w:World} {O:Nat→Prop} {φ:Nat→Nat} {α:Nat→Value} (h:Rel z fL fB fA V w O φ α):Tr z.O z.w O w :=
 ⟨h.ext.size,fun b hb ho=>h.ext.block b hb fun hf=>ho (z.hF b hf),fun b hb ho ho'=>by
  rcases h.only b ho' with h1|h1
  ·exact ho h1
  ·omega⟩
theorem zk4 {kb ka:Nat→Prop} (v:Value):z2r kb ka (zlm v):=by
 unfold zlm
 split<;>trivial
theorem zgo {kb ka:Nat→Prop}:∀ (l:List Value),z2r.go kb ka (l.map zlm)
 | []=>trivial
 | v::l=>⟨zk4 v,zgo l⟩
theorem zoa {kb ka:Nat→Prop} (v:Value):z2r kb ka (ofV v):=by
 unfold ofV
 split
 ·exact zgo _
 ·exact zk4 v
theorem zfo {kb ka:Nat→Prop} {v:PV} (h:z2r kb ka v):z2r.go kb ka (cellsOf v):=by
 cases v with
 | agg cs=>exact h
 | _=>exact ⟨h,trivial⟩
theorem zw1 {kb ka:Nat→Prop} {σ:St} (hL:∀ t v,lk σ.L t=some v→z2r kb ka v) {x:Operand} {v:PV} (e:σ.ev x=some v):z2r kb ka v:=by
 cases x with
 | tmp t=>exact hL t v e
 | const c=>cases e;exact zoa c
 | global g=>cases e
 | func f=>cases e;exact ⟨trivial,trivial⟩
theorem zba {td:TypeDesc} {ky:Option IntKind} (h:ztv td=some ky):td=kdT ky:=by
 unfold ztv at h
 split at h<;>first|(cases h;rfl)|cases h
theorem toKey_ok {w:World} {O:Nat→Prop} {φ:Nat→Nat} {α:Nat→Value} {ky:Option IntKind} {v:PV} {kd:D} {u:Value} (e:toKey ky v=some kd) (h:VR w O φ α v u):zm7 ky kd∧RD w O kd u:=by
 unfold toKey at e
 split at e
 ·split at e
  ·rename_i hb
   cases e
   exact ⟨(z5r hb).symm,by simpa [VR,RD] using h⟩
  ·cases e
 ·cases e
  exact ⟨trivial,by simpa [VR,RD] using h⟩
 ·cases e
theorem ztu {a b:Option IntKind} (h:zyu a b=true):a=b:=by
 unfold zyu at h
 split at h
 ·rw [z5r h]
 ·rfl
 ·cases h
theorem zyb {a b:Bool} (h:bq a b=true):a=b:=by
 cases a<;>cases b<;>first|rfl|cases h
theorem z6l {σ:St} {ky:Option IntKind} {g:Bool} {u:PV} {m:Nat × List (List D)} (h:za5 σ ky g u=some m):u = .mp m.1∧∃ e,lk σ.B m.1=some e∧e.cs=[.md (.cont ky g m.2)]∧e.T=1000000:=by
 unfold za5 at h
 split at h
 ·split at h
  ·rename_i e he
   split at h
   ·rename_i ky' g' l hc
    split at h
    ·rename_i hb
     simp only [yb] at hb
     cases h
     rw [ztu hb.1.2,zyb hb.2]
     exact ⟨rfl,e,he,hc,yj hb.1.1⟩
    ·cases h
   ·cases h
  ·cases h
 ·cases h
theorem zcq {w:World} {O:Nat→Prop} {φ:Nat→Nat} {α:Nat→Value} {g:Bool} {n:Nat} {ds:List D} {r:PV} {v:Value} (e:z3z g n (zpi ds)=some r) (h:zfd w O g ds v):VR w O φ α r v:=by
 cases g with
 | true =>
  obtain ⟨us,rfl,h2⟩:=h
  unfold z3z at e
  simp only at e
  split at e
  ·cases e
   exact ⟨us,rfl,z7v h2⟩
  ·cases e
 | false =>
  obtain ⟨d,rfl,h2⟩:=h
  simp only [zpi,yd,List.map_nil,z3z,Option.some.injEq] at e
  subst e
  exact zk3 h2
theorem zo9 {w:World} {O:Nat→Prop} {φ:Nat→Nat} {α:Nat→Value} {d:D} {u:Value} (h:RD w O d u):VR w O φ α (zy2 d) u:=by
 cases d with
 | fsl T n l=>exact h
 | _=>exact zk3 h
theorem zk2 {w:World} {O:Nat→Prop} {φ:Nat→Nat} {α:Nat→Value}:∀ {ds:List D} {us:List Value},RDs w O ds us→VRs w O φ α (ds.map zy2) us
 | [],us,h=>h
 | d::ds,us,h=>by
  obtain ⟨u,us',h1,h2,h3⟩:=h
  exact ⟨u,us',h1,zo9 h2,zk2 h3⟩
theorem zkn {w:World} {O:Nat→Prop} {φ:Nat→Nat} {α:Nat→Value} {g:Bool} {n:Nat} {ds:List D} {r:PV} {v:Value} (e:z3z g n (ds.map zy2)=some r) (h:zfd w O g ds v):VR w O φ α r v:=by
 cases g with
 | true =>
  obtain ⟨us,rfl,h2⟩:=h
  unfold z3z at e
  simp only at e
  split at e
  ·cases e
   exact ⟨us,rfl,zk2 h2⟩
  ·cases e
 | false =>
  obtain ⟨d,rfl,h2⟩:=h
  simp only [yd,List.map_nil,z3z,Option.some.injEq] at e
  subst e
  exact zo9 h2
theorem zha {w:World} {O:Nat→Prop} {ds:List D} {v:Value} (h:zfd w O false ds v) (hb:∀ b,v.ownBlock=some b→Lb.n≤b∧∃ cs U,w.heap[b]? = some (.cells cs U (0,0))):zfd w O false (ds.map mkD) v:=by
 obtain ⟨d,rfl,h2⟩:=h
 refine ⟨mkD d,rfl,?_⟩
 cases d with
 | sl T n l=>exact h2.zx8 hb
 | _=>exact h2
theorem zr6 {v:Value} (h:zm8 (ofV v)=true):∀ b,v.ownBlock≠some b:=by
 intro b
 cases v<;>simp [Value.ownBlock]
 rename_i p l c
 cases p with
 | none=>simp
 | some p=>simp [ofV,zlm,zm8] at h
theorem zpb {w:World} {O:Nat→Prop} {fr g:Bool} {ds:List D} {v:Value} (h:zfd w O g ds v) (hz:zt3 g (ofV v)=true):zfd w O g (mkZ fr g ds) v:=by
 unfold mkZ
 split
 ·exact zha h fun b hb=>(zr6 (by simpa [zt3] using hz) b hb).elim
 ·exact h
theorem zl6 {ls:List Nat} {σ σ':St} {V:Env} {w:World} {O:Nat→Prop} {φ:Nat→Nat} {α:Nat→Value} {z:W0} {a:Nat} {u:Value} (h:Rl z σ V w O φ α) (e:σ.freeze (a::ls)=some σ') (hu:VR w O φ α (.ref a) u) (hk:lk σ.A a≠none):∀ b,u.ownBlock=some b→Lb.n≤b∧∃ cs U,w.heap[b]? = some (.cells cs U (0,0)):=by
 intro b hb
 simp only [VR] at hu
 unfold St.freeze at e
 split at e
 ·rename_i ar ha
  split at e
  ·rename_i hm
   rw [yb] at hm
   rw [hu.1] at hb
   rcases h.aF a ar ha b hb with h1|h1
   ·rw [hm.1] at h1;cases h1.1
   ·refine ⟨yl z.hl h1,?_⟩
    obtain ⟨xs,ho,_⟩:=(h.arr a ar ha).un (by simpa [yi] using hm.2)
    rcases ho.2 with ⟨h2,_⟩|⟨g,cap,cur,h2,_,h3,_⟩
    ·rw [h2] at hb;simp [Value.ownBlock] at hb
    ·rw [h2] at hb
     simp only [Value.ownBlock,Option.some.injEq] at hb
     subst hb
     exact ⟨_,_,h3⟩
  ·cases e
 ·rename_i hn;exact (hk hn).elim
theorem zpa {w:World} {O:Nat→Prop} {φ:Nat→Nat} {α:Nat→Value} {g:Bool} {ct:List (Option (Nat × Nat))} {ds:List D} {v:PV} {u:Value} (hq:zt3 g v=true) (e:toDs ct (cellsOf v)=some ds) (h:VR w O φ α v u):zfd w O g ds u:=by
 cases g with
 | true =>
  cases v<;>simp only [zt3,Bool.false_eq_true] at hq
  obtain ⟨us,rfl,h2⟩:=h
  exact ⟨us,rfl,toDs_ok e h2⟩
 | false =>
  have h1:zm8 v=true:=by simpa [zt3] using hq
  have h2:cellsOf v=[v]:=by cases v<;>first|rfl|simp [zm8] at h1
  rw [h2] at e
  have h3:=toDs_ok e (us:=[u]) (w:=w) (O:=O) (φ:=φ) (α:=α) ⟨u,[],rfl,h,rfl⟩
  cases ds with
  | nil=>cases h3
  | cons d ds =>
   obtain ⟨v',vs,h4,h5,h6⟩:=h3
   cases h4
   cases ds with
   | nil=>exact ⟨d,rfl,h5⟩
   | cons d2 ds =>
    obtain ⟨_,_,h7,_⟩:=h6
    cases h7
theorem OW.valN {C:Cx} {n:Nat} {ds:List Deferred} {k:Act→World→Prop} {L:Env} {w:World} {ops:Array Oper} {o:Oper} {rest:List Oper} {v:Value} {w':World} (hg:o.guard=none) (hd:o.dst=none)
  (hr:∀ a,Has n L a→(execOp a.eval o).run C.P w = .ok (.value v) w') (h:OW C n ds ops rest k L w'):OW C n ds ops (o::rest) k L w:=fun a ha hds =>
 wpList_plain hg fun K hK=>by
  unfold Oper.wp
  rw [hr a ha,Oper.upon_value,hd]
  exact hK _ _ (h _ ha.same (by simpa [Act.put] using hds))
theorem zay {b:Nat}:∀ (L:List MapEntry),(∀ x∈L,x.born≠b)→(L.filter fun x => !(x.born==b))=L
 | [],_=>rfl
 | x::L,h=>by
  rw [yc (by simpa using h x (by simp)),zay L fun y hy=>h y (by simp [hy])]
theorem z9m:∀ (L:List MapEntry) (i:Nat) (e:MapEntry),(L.map (·.born)).Nodup→L[i]? = some e→(L.filter fun x => !(x.born==e.born))=L.eraseIdx i
 | x::L,0,e,hn,h=>by
  simp only [List.getElem?_cons_zero,Option.some.injEq] at h
  subst h
  simp only [yd,yg] at hn
  rw [List.filter_cons_of_neg (by simp),List.eraseIdx_cons_zero,zay]
  intro y hy e
  exact hn.1 (e▸ye hy)
 | x::L,i+1,e,hn,h=>by
  simp only [List.getElem?_cons_succ] at h
  simp only [yd,yg] at hn
  have hm:e.born∈L.map (·.born):=ye (yf h)
  rw [yc (by
   simp only [Bool.not_eq_true',beq_eq_false_iff_ne,ne_eq]
   intro q
   exact hn.1 (q▸hm)),List.eraseIdx_cons_succ,z9m L i e hn.2 h]
 | [],i,e,_,h=>by simp at h
theorem zlh {es:List MapEntry} {seen:Array Nat} {i:Nat} {e:MapEntry} (hn:(es.map (·.born)).Nodup) (h:(za4 es seen.toList)[i]? = some e):za4 es (seen.push e.born).toList=(za4 es seen.toList).eraseIdx i:=by
 rw [←z9m (za4 es seen.toList) i e (List.Nodup.sublist (List.Sublist.map _ List.filter_sublist) hn) h]
 unfold za4
 rw [List.filter_filter]
 congr 1
 funext x
 simp only [Array.toList_push,List.contains_eq_mem,List.mem_append,List.mem_singleton]
 by_cases h1:x.born=e.born<;>by_cases h2:x.born∈seen.toList<;>simp [h1,h2]
theorem Rel.zyo {z:W0} {V:Env} {w:World} {O:Nat→Prop} {φ:Nat→Nat} {α:Nat→Value} {σ:St} (h:Rl z σ V w O φ α) {b:Nat} {e:Bx} (hb:lk σ.B b=some e):Rl z { σ with B:=z88 b σ.B } V w (fun x=>O x∧x≠φ b) φ α:=by
 have td:Tr O w (fun x=>O x∧x≠φ b) w:=Tr.drop w fun x hx=>hx.1
 refine ⟨fun t v hv => ?_,fun c e' hc => ?_,fun a e' ha => ?_,fun c d e1 e2 h1 h2 hn=>h.bb c d e1 e2 (z2m h1).2 (z2m h2).2 hn,h.aa,fun a c e1 e2 h1 h2=>h.ab a c e1 e2 h1 (z2m h2).2,fun c e' hc=>h.bF c e' (z2m hc).2,h.aF,fun x hx=>h.bd x hx.1,h.ext,fun x hx=>h.only x hx.1,z.hG td h.gl,h.keep⟩
 ·obtain ⟨u,h2,h3⟩:=h.env t v hv
  exact ⟨u,h2,h3.tr td⟩
 ·obtain ⟨n1,hc⟩:=z2m hc
  obtain ⟨h2,us,h3,h4⟩:=h.box c e' hc
  exact ⟨⟨h2,h.bb c b e' e hc hb n1⟩,us,h3,VRs.tr td _ _ h4⟩
 ·exact (h.arr a e' ha).down (fun x hx=>hx.1) fun x hx=>⟨h.zxl ha hx,fun q=>h.ab a b e' e ha hb (q▸hx)⟩
section
variable {z:W0} {V:Env} {w:World} {O:Nat→Prop} {φ:Nat→Nat} {α:Nat→Value} {σ:St} {C:Cx} {n:Nat} {ops:Array Oper} {o:Oper} {rest:List Oper} {K:Act→World→Prop}
theorem zkp {key E:Nat} {k:St→Prop} (h:Rl z σ V w O φ α) (hw:σ.born key E k):∃ s α',Rl z s V w O φ α'∧k s:=by
 unfold St.born at hw
 obtain ⟨s,e1,hw⟩:=zi hw
 obtain ⟨α',h2⟩:=z3x _ h e1
 split at hw
 ·rename_i e2
  exact ⟨_,α',z6a h2 e2 fun u hu=>by simp only [VR] at hu ⊢;exact .inl hu,hw⟩
 ·exact hw.elim
theorem OW.panD {ds:List Deferred} {x:Operand} {T:TypeId} {u:Value} (hg:o.guard=none) (ho:o.op = .panic x) (hx:Lk.ev V x=some (.iface T u)) (h:∀ a,Has n V a→a.defers=ds→PN C a [{ v:=.iface T u,recovered:=false }] w):OW C n ds ops (o::rest) K V w:=fun a ha hds =>
 wpList_plain hg fun K hK=>by
  have hr:(execOp a.eval o).run C.P w = .halt (.panic (.iface T u)) w:=by simp [execOp,ho,ha.ev hx,Instr.panic]
  unfold Oper.wp
  rw [hr,Oper.upon_panic]
  exact h a ha hds
set_option maxRecDepth 100000 in
theorem zcp {ds:List Deferred} {tb:Tb} {cty:List (Nat × List (Option (Nat × Nat)))} {k:St→Prop} (ht:TbOk C.P tb) (hg:o.guard=none) (hn:dOk n o.dst=true) (h:Rl z σ V w O φ α) (hs:∀ x,z.O x→O x)
  (hk:∀ s,k s→NX z C n ds ops rest K s) (hw:zt2 tb cty σ o k):OW C n ds ops (o::rest) K V w:=by
 unfold zt2 at hw
 split at hw
 case h_1 =>
  rename_i t ho
  replace hw:=zi hw
  obtain ⟨d,hd,hw⟩:=hw
  rw [hd] at hn
  split at hw
  ·rename_i kt et hu
   replace hw:=zi hw
   obtain ⟨ky,h1,hw⟩:=hw
   replace hw:=zi hw
   obtain ⟨s,h2,hw⟩:=hw
   split at hw
   ·rename_i hf
    refine OW.val (v:=.map (some w.heap.size)) (w':=w.alloc (.map #[] 0)) hg hd hn (fun a ha=>by simp [execOp,ho,Instr.makeMap]) ?_
    have hx:Ext z0h w (w.alloc (.map #[] 0)):=Ext.alloc _ _ _
    refine hk _ hw _ _ ⟨_,_,_,h.zwn (T:=1000000) (us:=[zs8 []]) hf (.inr (.inl ⟨by omega,by omega,#[],0,heap_alloc_new w _,Stamped.nil,rfl⟩)) hx (Nat.le_refl _) ⟨_,[],rfl,⟨[],rfl,trivial⟩,rfl⟩ ⟨trivial,trivial⟩ (by simp [VR,ren]),fun y hy => .inr (hs y hy)⟩
   ·exact hw.elim
  ·exact hw.elim
 case h_2 =>
  rename_i t x y v ho
  split at hw
  ·rename_i hd
   split at hw
   ·rename_i kt et hu
    replace hw:=zi hw
    obtain ⟨ky,h1,hw⟩:=hw
    replace hw:=zi hw
    obtain ⟨s,h2,hw⟩:=hw
    replace hw:=zi hw
    obtain ⟨v0,h3,hw⟩:=hw
    replace hw:=zi hw
    obtain ⟨σ',h4,hw⟩:=hw
    replace hw:=zi hw
    obtain ⟨u,h5,hw⟩:=hw
    replace hw:=zi hw
    obtain ⟨kv,h6,hw⟩:=hw
    replace hw:=zi hw
    obtain ⟨v',h7,hw⟩:=hw
    replace hw:=zi hw
    obtain ⟨kd,h8,hw⟩:=hw
    replace hw:=zi hw
    obtain ⟨vd,h9,hw⟩:=hw
    replace hw:=zi hw
    obtain ⟨m,h10,hw⟩:=hw
    split at hw
    ·rename_i hq
     obtain ⟨l,h11,hw⟩:=hw
     cases h11
     obtain ⟨k1,k2,kn3,kn4⟩:=z19 _ h hs h4
     obtain ⟨rfl,e,e1,e2,e3⟩:=z6l h10
     obtain ⟨td,h12,h13⟩:=ya.1 h1
     obtain ⟨xu,hx1,hx2⟩:=k1.ev h5
     obtain ⟨yu,hy1,hy2⟩:=k1.ev h6
     obtain ⟨vu,hv1,hv2⟩:=k1.ev h7
     simp only [VR] at hx2
     subst hx2
     obtain ⟨es,clock,m1,m2,m3⟩:=k1.za5 e1 e2 e3
     obtain ⟨q1,q2⟩:=toKey_ok h8 hy2
     have hkt:C.P.underlying kt=some (kdT ky):=by rw [ht.und _ _ h12,zba h13]
     have hval:=zpa hq h9 hv2
     obtain ⟨vd',evd⟩:∃ vd',vd'=zz2 (zw7 cty) v0 s.1 vd:=⟨_,rfl⟩
     rw [←evd] at hw
     replace hval:zfd w (z8u O α (lk σ.A) (za7 v0)) s.1 vd' vu:=by
      rw [evd]
      unfold zz2
      split
      ·rename_i a hfr hg0
       rw [hg0] at hval ⊢
       obtain ⟨u0,hu0,hu1⟩:=h.ev h3
       obtain rfl:u0=vu:=by rw [hv1] at hu0;cases hu0;rfl
       by_cases hka:lk σ.A a=none
       ·have e4:σ'=σ:=by
         simp only [za7,St.freeze,hka,Option.some.injEq] at h4
         exact h4.symm
        rw [e4,h3] at h7
        cases h7
        have hno:∀ ct:List (Option (Nat × Nat)),toDs ct [PV.ref a]=none:=fun ct=>by cases ct<;>simp [toDs,toD]
        have h9':toDs _ [PV.ref a]=some vd:=h9
        rw [hno] at h9'
        cases h9'
       ·exact zha hval (zl6 h h4 hu1 hka)
      ·exact hval
     obtain ⟨es',clock',w',r1,r2,r3,r4,r5⟩:=zey (ht.und _ _ hu) hkt m1 m2 m3 q1 q2 hval
     refine OW.unit (w':=w') hg hd (fun a ha => ?_) ?_
     ·simp only [execOp,ho,ha.ev hx1,ha.ev hy1,ha.ev hv1,Sem.run_bind,r1,Result.andThen_ok]
      rfl
     ·have hT:=k1.zo6 (e:=e) (us:=[zs8 es'.toList]) (cs:=[.md (.cont ky s.1 (z7t m.2 kd vd'))]) e1 (by rw [e3];exact .inr (.inl ⟨by omega,by omega,es',clock',r2,r3,rfl⟩)) r5 ⟨_,[],rfl,⟨_,rfl,r4⟩,rfl⟩ (rfl:m.1=m.1)
      rw [e3] at hT
      exact hk _ hw _ _ ⟨_,_,_,hT,k2⟩
    ·exact hw.elim
   ·exact hw.elim
  ·exact hw.elim
 case h_3 =>
  rename_i t x y c ho
  replace hw:=zi hw
  obtain ⟨d,hd,hw⟩:=hw
  rw [hd] at hn
  split at hw
  ·rename_i kt et hu
   replace hw:=zi hw
   obtain ⟨ky,h1,hw⟩:=hw
   replace hw:=zi hw
   obtain ⟨⟨g,nn⟩,h2,hw⟩:=hw
   replace hw:=zi hw
   obtain ⟨zz,h3,hw⟩:=hw
   replace hw:=zi hw
   obtain ⟨u,h5,hw⟩:=hw
   replace hw:=zi hw
   obtain ⟨kv,h6,hw⟩:=hw
   replace hw:=zi hw
   obtain ⟨kd,h8,hw⟩:=hw
   replace hw:=zi hw
   obtain ⟨zd,h9,hw⟩:=hw
   replace hw:=zi hw
   obtain ⟨m,h10,hw⟩:=hw
   split at hw
   ·rename_i hq
    obtain ⟨dd,h11,hw⟩:=hw
    cases h11
    replace hw:=zi hw
    obtain ⟨r,h12,hw⟩:=hw
    obtain ⟨rfl,e,e1,e2,e3⟩:=z6l h10
    obtain ⟨td,h14,h13⟩:=ya.1 h1
    obtain ⟨xu,hx1,hx2⟩:=h.ev h5
    obtain ⟨yu,hy1,hy2⟩:=h.ev h6
    simp only [VR] at hx2
    subst hx2
    obtain ⟨es,clock,m1,m2,m3⟩:=h.za5 e1 e2 e3
    obtain ⟨q1,q2⟩:=toKey_ok h8 hy2
    have hkt:C.P.underlying kt=some (kdT ky):=by rw [ht.und _ _ h14,zba h13]
    obtain ⟨v,ok,r1,r2⟩:=zlz (ht.und _ _ hu) hkt (ht.zer _ _ h3) m1 m3 q1 q2 c
    have hv:zfd w O g (zei m.2 kd (mkZ (zw7 cty) g zd)) v∧ok=zgl m.2 kd:=by
     rcases r2 with ⟨r3,rfl,rfl⟩|⟨ds',r3,r4,rfl⟩
     ·simp only [zei,zgl,r3,and_true]
      exact zpb (zpa hq h9 (zda (φ:=φ) (α:=α) _)) hq
     ·simp only [zei,zgl,r3,and_true]
      exact r4
    have hr:=zcq (φ:=φ) (α:=α) h12 hv.1
    refine OW.val (w':=w) hg hd hn (fun a ha=>by
     simp only [execOp,ho,ha.ev hx1,ha.ev hy1,Sem.run_bind,r1,Result.andThen_ok]
     rfl) ?_
    split at hw
    ·exact hk _ hw _ _ ⟨_,_,_,h.za6 hr,hs⟩
    ·obtain ⟨b,h15,hw⟩:=hw
     cases h15
     exact hk _ hw _ _ ⟨_,_,_,h.za6 (v:=.tup [r,.bool _]) ⟨[v,.bool ok],rfl,v,_,rfl,hr,_,[],rfl,by rw [hv.2];rfl,rfl⟩,hs⟩
   ·exact hw.elim
  ·exact hw.elim
 case h_4 =>
  rename_i t x ho
  replace hw:=zi hw
  obtain ⟨d,hd,hw⟩:=hw
  rw [hd] at hn
  split at hw
  ·rename_i kt et hu
   replace hw:=zi hw
   obtain ⟨ky,h1,hw⟩:=hw
   replace hw:=zi hw
   obtain ⟨⟨g,nn⟩,h2,hw⟩:=hw
   replace hw:=zi hw
   obtain ⟨u,h5,hw⟩:=hw
   replace hw:=zi hw
   obtain ⟨m,h10,hw⟩:=hw
   split at hw
   ·rename_i hf
    rw [yb] at hf
    have hf1:=yk hf.1
    obtain ⟨rfl,e,e1,e2,e3⟩:=z6l h10
    obtain ⟨xu,hx1,hx2⟩:=h.ev h5
    simp only [VR] at hx2
    subst hx2
    obtain ⟨es,clock,m1,m2,m3⟩:=h.za5 e1 e2 e3
    have hlt:φ m.1<w.heap.size:=h.zpx e1
    have hd2:=h.zyo e1
    have td:Tr O w (fun x=>O x∧x≠φ m.1) w:=Tr.drop w fun x hx=>hx.1
    refine OW.val (w':=w.alloc (.mapIter (some (φ m.1)) clock #[] clock)) hg hd hn (fun a ha=>by
     simp only [execOp,ho,ha.ev hx1,Sem.run_bind,zos (ht.und _ _ hu) m1,Result.andThen_ok]
     rfl) ?_
    have hx:Ext z0h w (w.alloc (.mapIter (some (φ m.1)) clock #[] clock)):=Ext.alloc _ _ _
    have hl:za4 es.toList (#[]:Array Nat).toList=es.toList:=by simp [za4]
    refine hk _ hw _ _ ⟨_,_,_,hd2.zwm (T:=2000000) (us:=[encI (φ m.1) clock (#[]:Array Nat).toList clock]) hf.2 (.inr (.inr ⟨by omega,φ m.1,clock,#[],clock,heap_alloc_new w _,rfl⟩)) hx (Nat.le_refl _)
     ⟨_,[],rfl,⟨φ m.1,#[],clock,es,rfl,⟨m1,m2,fun q=>q.2 rfl⟩,by rw [hl];exact m3.tr td,trivial⟩,rfl⟩ ⟨trivial,trivial⟩,fun y hy => .inr ⟨hs y hy,fun q => ?_⟩⟩
    have h3:=z.hB y hy
    rcases h.bF _ e e1 with h4|h4
    ·omega
    ·omega
   ·exact hw.elim
  ·exact hw.elim
 case h_5 =>
  rename_i x ho
  replace hw:=zi hw
  obtain ⟨d,hd,hw⟩:=hw
  rw [hd] at hn
  replace hw:=zi hw
  obtain ⟨u,h5,hw⟩:=hw
  split at hw
  ·rename_i b off
   replace hw:=zi hw
   obtain ⟨e,e1,hw⟩:=hw
   split at hw
   ·rename_i ky g cur rem hc
    split at hw
    ·rename_i hT
     rw [yb] at hT
     have hoff:=yj hT.1
     subst hoff
     have hT:=yj hT.2
     obtain ⟨xu,hx1,hx2⟩:=h.ev h5
     simp only [VR] at hx2
     subst hx2
     obtain ⟨_,us,i1,i2⟩:=h.box b e e1
     obtain ⟨mm,since,seen,last,i3,rfl⟩:=i1.iter (by omega)
     rw [hc] at i2
     obtain ⟨uu,us',j1,j2,j3⟩:=i2
     cases j3
     cases j1
     obtain ⟨m',seen',clock',es,j4,⟨j5,j6,j7⟩,j8,j9⟩:=j2
     obtain ⟨p1,p2,j10,p4⟩:=zjd j4
     subst p1 p2 p4
     have j10:seen=seen':=yn.1 j10
     subst j10
     rcases zrc (P:=C.P) (ty:=o.type) j5 i3 j6.1 with ⟨r1,r2⟩|⟨i,en,r1,w',r2,r3,r4⟩
     ·rw [r1] at j8
      have hrem:rem=[]:=by
       cases rem with
       | nil=>rfl
       | cons _ _=>exact j8.elim
      refine OW.val (v:=.tuple #[.bool false]) (w':=w) hg hd hn (fun a ha=>by
       simp only [execOp,ho,ha.ev hx1,yh,Sem.run_bind,r2,Result.andThen_ok]
       rfl) (hk _ (hw.1 hrem) _ _ ⟨_,_,_,h.za6 (v:=.tup [.bool false]) ⟨[.bool false],rfl,_,[],rfl,rfl,rfl⟩,hs⟩)
     ·obtain ⟨xx,r5,r6⟩:=j8.get r1
      have hT2:=h.zo6 (e:=e) (us:=[encI mm last (seen.push en.born).toList last]) (cs:=[.md (.it ky g (some xx) (rem.eraseIdx i))]) e1 (by rw [hT];exact .inr (.inr ⟨by omega,mm,last,_,last,r3,rfl⟩)) r2
       ⟨_,[],rfl,⟨mm,seen.push en.born,last,es,rfl,⟨j5,j6,j7⟩,by rw [zlh j6.2.1 r1];exact j8.erase i,en.born,en,by simp,find_born en _ j6.2.1 ?_,r6⟩,rfl⟩ (rfl:b=b)
      ·rw [hT] at hT2
       exact OW.val (v:=.tuple #[.bool true,en.key,en.val]) (w':=w') hg hd hn (fun a ha=>by
        simp only [execOp,ho,ha.ev hx1,yh,Sem.run_bind,r4,Result.andThen_ok]
        rfl) (hk _ (hw.2 i xx r5) _ _ ⟨_,_,_,hT2.za6 (v:=.tup [.bool true,.undef,.undef]) ⟨[.bool true,en.key,en.val],rfl,_,_,rfl,rfl,_,_,rfl,trivial,_,[],rfl,trivial,rfl⟩,hs⟩)
      ·have:=yf r1
       exact (List.mem_filter.1 this).1
    ·exact hw.elim
   ·exact hw.elim
  ·exact hw.elim
 case h_6 =>
  rename_i x ho
  replace hw:=zi hw
  obtain ⟨d,hd,hw⟩:=hw
  rw [hd] at hn
  replace hw:=zi hw
  obtain ⟨u,h5,hw⟩:=hw
  split at hw
  ·rename_i b off
   replace hw:=zi hw
   obtain ⟨e,e1,hw⟩:=hw
   split at hw
   ·rename_i ky g kd dd rem hc
    split at hw
    ·rename_i hT
     rw [yb] at hT
     have hoff:=yj hT.1
     subst hoff
     have hT:=yj hT.2
     replace hw:=zi hw
     obtain ⟨r,h12,hw⟩:=hw
     obtain ⟨xu,hx1,hx2⟩:=h.ev h5
     simp only [VR] at hx2
     subst hx2
     obtain ⟨_,us,i1,i2⟩:=h.box b e e1
     obtain ⟨mm,since,seen,last,i3,rfl⟩:=i1.iter (by omega)
     rw [hc] at i2
     obtain ⟨uu,us',j1,j2,j3⟩:=i2
     cases j3
     cases j1
     obtain ⟨m',seen',clock',es,j4,⟨j5,j6,j7⟩,j8,bb,en,j9,j11,kk,dd',j12,j13,j14,j15⟩:=j2
     obtain ⟨p1,p2,j10,p4⟩:=zjd j4
     subst p1 p2 p4
     have j10:seen=seen':=yn.1 j10
     subst j10
     cases j12
     refine OW.val (v:=.tuple #[en.key,en.val]) (w':=w) hg hd hn (fun a ha=>by
      simp only [execOp,ho,ha.ev hx1,yh,Sem.run_bind,zop j5 i3 j9 j11,Result.andThen_ok]
      rfl) (hk _ hw _ _ ⟨_,_,_,h.za6 (v:=.tup [ofD kd,r]) ⟨[en.key,en.val],rfl,_,_,rfl,zk3 j14,_,[],rfl,(by
      revert h12
      split
      ·exact fun h12=>zkn h12 j15
      ·exact fun h12=>zcq h12 j15),rfl⟩,hs⟩)
    ·exact hw.elim
   ·exact hw.elim
  ·exact hw.elim
 case h_7 =>
  rename_i c ho
  obtain ⟨cal,cargs,cty'⟩:=c
  simp only at hw
  split at hw
  ·rename_i x y t tr ea et
   split at hw
   ·rename_i hd
    split at hw
    ·rename_i kt et' hu
     replace hw:=zi hw
     obtain ⟨ky,h1,hw⟩:=hw
     replace hw:=zi hw
     obtain ⟨s,h2,hw⟩:=hw
     replace hw:=zi hw
     obtain ⟨u,h5,hw⟩:=hw
     replace hw:=zi hw
     obtain ⟨kv,h6,hw⟩:=hw
     replace hw:=zi hw
     obtain ⟨kd,h8,hw⟩:=hw
     replace hw:=zi hw
     obtain ⟨m,h10,hw⟩:=hw
     obtain ⟨l,h11,hw⟩:=hw
     cases h11
     have ea:cargs = #[x,y]:=by apply yn.1;simpa using ea
     subst ea
     obtain ⟨rfl,e,e1,e2,e3⟩:=z6l h10
     obtain ⟨td,h12,h13⟩:=ya.1 h1
     obtain ⟨xu,hx1,hx2⟩:=h.ev h5
     obtain ⟨yu,hy1,hy2⟩:=h.ev h6
     simp only [VR] at hx2
     subst hx2
     obtain ⟨es,clock,m1,m2,m3⟩:=h.za5 e1 e2 e3
     obtain ⟨q1,q2⟩:=toKey_ok h8 hy2
     have hkt:C.P.underlying kt=some (kdT ky):=by rw [ht.und _ _ h12,zba h13]
     have h0:cty'[0]? = some t:=by rw [←Array.getElem?_toList,et];rfl
     obtain ⟨es',clock',w',r1,r2,r3,r4,r5⟩:=zlx (ty:=o.type) (ht.und _ _ hu) hkt m1 m2 m3 q1 q2 h0
     have hT:=h.zo6 (e:=e) (us:=[zs8 es'.toList]) (cs:=[.md (.cont ky s.1 (z8h m.2 kd))]) e1 (by rw [e3];exact .inr (.inl ⟨by omega,by omega,es',clock',r2,r3,rfl⟩)) r5 ⟨_,[],rfl,⟨_,rfl,r4⟩,rfl⟩ (rfl:m.1=m.1)
     rw [e3] at hT
     refine OW.valN (v:=.tuple #[]) (w':=w') hg hd (fun a ha => ?_) (hk _ hw _ _ ⟨_,_,_,hT,hs⟩)
     simp [execOp,ho,resolve,invoke,builtin,ha.ev hx1,ha.ev hy1,r1]
    ·exact hw.elim
   ·exact hw.elim
  ·exact hw.elim
 case h_8=>exact hw.elim
set_option maxRecDepth 100000 in
theorem zmg {ds:List Deferred} {tb:Tb} {cty:List (Nat × List (Option (Nat × Nat)))} {ann:Ann} {con:Nat→CIn→z3s→Prop} {k:St→Prop} {kp:PV→St→Prop} (ht:TbOk C.P tb) (hg:o.guard=none) (hn:dOk n o.dst=true) (h:Rl z σ V w O φ α) (hs:∀ x,z.O x→O x)
  (hk:∀ s,k s→NX z C n ds ops rest K s) (hp:∀ v s,kp v s→z8w z C n ds v s)
  (hc:∀ c x vs f as cs,o.op = .call c→c.callee = .value x→σ.evs c.args.toList=some vs→σ.ev x=some (.fn f as cs)→zfk con σ f (as++vs++cs) (fun v σ=>k (σ.put o.dst v)) kp→OW C n ds ops (o::rest) K V w)
  (hw:act tb cty ann con σ o k kp):OW C n ds ops (o::rest) K V w:=by
 unfold act at hw
 split at hw
 case h_1 =>
  rename_i T ho
  replace hw:=zi hw
  obtain ⟨d,hd,hw⟩:=hw
  replace hw:=zi hw
  obtain ⟨zz,h1,hw⟩:=hw
  split at hw
  ·rename_i hb
   rw [yb] at hb
   obtain ⟨hb,hT⟩:=hb
   have hT:T<1000000:=by simpa [yi] using hT
   rw [hd] at hn
   have hz:=zgp (w:=w) (O:=O) (φ:=φ) (α:=α) zz
   refine OW.alloc hg hd hn ho (ht.zer _ _ h1) (cs:=zz.cells.toList) (by simp) fun b w' hbx x hsz => ?_
   have hnew:=h.zwm (d:=d) hb (.inl ⟨hT,hbx⟩) x hsz hz (zfo (zoa zz))
   split at hw
   ·exact hk _ hw _ _ ⟨_,_,_,hnew,fun y hy => .inr (hs y hy)⟩
   ·obtain ⟨s,α',k1,k2⟩:=zkp hnew hw
    exact hk _ k2 _ _ ⟨_,_,_,k1,fun y hy => .inr (hs y hy)⟩
  ·exact hw.elim
 case h_2 =>
  rename_i T x ho
  replace hw:=zi hw
  obtain ⟨d,hd,hw⟩:=hw
  replace hw:=zi hw
  obtain ⟨v,h1,hw⟩:=hw
  split at hw
  ·replace hw:=zi hw
   obtain ⟨ds',hds,hw⟩:=hw
   split at hw
   ·rename_i hb
    rw [hd] at hn
    obtain ⟨u,h2,h3⟩:=h.ev h1
    have hz:=h3.cells (by simpa using hb)
    have hrd:=toDs_ok hds hz
    refine OW.box hg hd hn ho h2 (cs:=u.cells.toList) (by simp) fun b w' hbx x hsz => ?_
    have k4:=h.zlk x
    have t:Tr O w O w':=Tr.z2p x fun _ _ hh=>hh.elim
    have hnb:¬O b:=fun hO=>by have:=h.bd b hO;omega
    refine hk _ hw _ _ ⟨_,_,_,k4.za6 (v:=.z09 ds' 0) ⟨b,0,by simp,u.cells.toList,(RDs.len hrd),⟨hnb,_,_,_,hbx,fun j y hj=>by simpa using hj⟩,hrd.tr t⟩,hs⟩
   ·exact hw.elim
  split at hw
  ·rename_i hb
   simp only [yb] at hb
   obtain ⟨hb,hT⟩:=hb
   have hT:T<1000000:=by simpa [yi] using hT
   rw [hd] at hn
   obtain ⟨u,h2,h3⟩:=h.ev h1
   have hz:=h3.cells (by simpa using hb.2)
   refine OW.box hg hd hn ho h2 (cs:=u.cells.toList) (by simp) fun b w' hbx x hsz => ?_
   exact hk _ hw _ _ ⟨_,_,_,h.zwm hb.1 (.inl ⟨hT,hbx⟩) x hsz hz (zfo (zw1 (z7o hb.1).2.1 h1)),fun y hy => .inr (hs y hy)⟩
  ·exact hw.elim
 case h_3 =>
  rename_i T x y ho
  split at hw
  ·rename_i hd
   replace hw:=zi hw
   obtain ⟨⟨g,m⟩,h1,hw⟩:=hw
   replace hw:=zi hw
   obtain ⟨u,h2,hw⟩:=hw
   replace hw:=zi hw
   obtain ⟨v,h3,hw⟩:=hw
   obtain ⟨a,h4,h5⟩:=h.ev h2
   split at hw
   ·rename_i b off
    replace hw:=zi hw
    obtain ⟨e,h6,hw⟩:=hw
    obtain ⟨h6,h6T⟩:=z6j h6
    split at hw
    ·rename_i hb
     simp only [yb] at hb
     obtain ⟨⟨hb1,hb2⟩,hb3⟩:=hb
     have hb1:=yj hb1
     have hb2:=yk hb2
     obtain ⟨c,h7,h8⟩:=h.ev h3
     have hu:z3a v=false:=by
      cases v<;>first|rfl|(simp [cellsOf,zm8] at hb3)
     have h9:=h8.cells hu
     have l9:=VRs.len h9
     obtain ⟨_,us,h10,h11⟩:=h.box b e h6
     have h10:=h10.un h6T
     have l11:=VRs.len h11
     simp only [VR] at h5
     subst h5
     refine OW.store hg hd ho (ht.shp _ _ h1) h4 h7 (vs:=c.cells.toList) (by simp) (by omega) h10 (by rw [Nat.ble_eq];omega) (VRs.zpj h9 hb3) rfl fun w' hbx x => ?_
     refine hk _ hw _ _ ⟨_,_,_,h.zo6 h6 (.inl ⟨h6T,hbx⟩) x ?_ (rfl:b=b),hs⟩
     rw [l9,hb1]
     exact ((VRs.take off h11).append h9).append (VRs.drop _ h11)
    ·exact hw.elim
   ·rename_i ak am ai
    replace hw:=zi hw
    obtain ⟨σ',h6,hw⟩:=hw
    replace hw:=zi hw
    obtain ⟨e,h7,hw⟩:=hw
    replace hw:=zi hw
    obtain ⟨v',h8,hw⟩:=hw
    replace hw:=zi hw
    obtain ⟨ds,h9,hw⟩:=hw
    split at hw
    ·rename_i hb
     simp only [yb] at hb
     obtain ⟨⟨⟨hb1,hb2⟩,hb3⟩,hb4⟩:=hb
     have hb1:=yj hb1
     have hb2:=yj hb2
     have hb3:=yj hb3
     obtain ⟨l,h10,hw⟩:=hw
     obtain ⟨k1,k2,k3,_⟩:=z19 _ h hs h6
     obtain ⟨c,h11,h12⟩:=k1.ev h8
     have hu:z3a v'=false:=by
      cases v'<;>first|rfl|(simp [cellsOf,zm8] at hb4)
     have h13:=h12.cells hu
     have h14:=toDs_ok h9 h13
     have l14:=RDs.len h14
     obtain ⟨b,len,cap,j,h15,h16,h17⟩:=h5
     have hjl:l=e.l.set j ds∧j<e.l.length:=by
      refine ⟨zou h10 h16,?_⟩
      unfold Go.Lk.zy6 at h10
      split at h10
      ·omega
      ·cases h10
     obtain ⟨rfl,hj⟩:=hjl
     have h7U:=z3k h7
     have h7:=h7U.1
     have ho':=(k1.arr ak e h7).un h7U.2
     subst hb3
     refine OW.zx7 (f:=id) (l:=e.l) (a:=ds) (m:=e.n) (b:=b) (q:=0) (j:=j) hg hd ho (by rw [←hb2];exact ht.shp _ _ h1) (by rw [h4,h17];simp) h11 (vs:=c.cells.toList) (by simp) (by omega) h15 (by simpa using ho') hj (VRs.zpj h13 hb4) h14 fun w' hown x => ?_
     exact hk _ hw _ _ ⟨_,_,_,k1.zx6 h7 h7U.2 (by simpa using hown) x,k2⟩
    ·exact hw.elim
   ·exact hw.elim
  ·exact hw.elim
 case h_4 =>
  rename_i t len parts ho
  replace hw:=zi hw
  obtain ⟨d,hd,hw⟩:=hw
  rw [hd] at hn
  split at hw
  ·rename_i e he
   replace hw:=zi hw
   obtain ⟨us0,_,hw⟩:=hw
   replace hw:=zi hw
   obtain ⟨σ',h2,hw⟩:=hw
   replace hw:=zi hw
   obtain ⟨us,h3,hw⟩:=hw
   replace hw:=zi hw
   obtain ⟨⟨g,m⟩,h4,hw⟩:=hw
   replace hw:=zi hw
   obtain ⟨zz,h5,hw⟩:=hw
   replace hw:=zi hw
   obtain ⟨ds,h6,hw⟩:=hw
   split at hw
   ·rename_i hb
    simp only [yb] at hb
    obtain ⟨⟨⟨⟨⟨⟨b1,b2⟩,b3⟩,b4⟩,b5⟩,b6⟩,b7⟩:=hb
    have b2:=yj b2
    have b3:=yj b3
    have b5:=yk b5
    obtain ⟨k1,k2,k3,_⟩:=z19 _ h hs h2
    obtain ⟨xs,h7,h8⟩:=k1.evs h3
    have l8:=VRs.len h8
    have lp:parts.toList.length=us.length:=by
     have:∀ {l:List Operand} {r:List PV},σ'.evs l=some r→r.length=l.length:=by
      intro l
      induction l with
      | nil=>intro r hr;cases hr;rfl
      | cons q l ih =>
       intro r hr
       unfold St.evs at hr
       split at hr
       ·rename_i hq2
        cases hr
        simp [ih hq2]
       ·cases hr
     simpa using (this h3).symm
    obtain ⟨cs,h9,h10,h11,h12⟩:=zd0 b1 (by simpa using lp) h8 b6 h6 b7
    have lz:((parts.toList.map (·.1)).zip xs).length=len:=by
     rw [List.length_zip,List.length_map,l8,lp]
     omega
    have hml:len≤maxLen:=by unfold maxLen;omega
    have hd12:ds.length=len:=by omega
    refine OW.buildSlice hg hd hn ho (ht.und _ _ he) (ht.shp _ _ h4) (ht.zer _ _ h5) b3 (ziz h7) h9 lz b4 fun b w' hbx x hsz => ?_
    split at hw
    ·split at hw
     ·rename_i hf
      rw [yb] at hf
      exact hk _ hw _ _ ⟨_,_,_,k1.zz3 (by simpa [yi] using hf.2) hf.1 hbx x hsz hd12 hml (by rw [h11,b2]) h10,fun y hy => .inr (k2 y hy)⟩
     ·exact hw.elim
    ·have k4:=k1.zlk x
     have t:Tr _ w _ w':=Tr.z2p (O:=z8u O α (lk σ.A) (za7.go us0)) x fun _ _ hh=>hh.elim
     exact hk _ hw _ _ ⟨_,_,_,k4.za6 (v:=.sl e m ds) (RD.z7b hbx k1.bd hsz hd12 hml (by rw [h11,b2]) (h10.tr t)),k2⟩
   ·exact hw.elim
  ·exact hw.elim
 case h_5 =>
  rename_i x ho
  replace hw:=zi hw
  obtain ⟨v,h1,hw⟩:=hw
  split at hw
  ·obtain ⟨u,h2,h3⟩:=h.ev h1
   have h4:=h3
   obtain ⟨y,rfl,_⟩:=h4
   exact OW.panD hg ho h2 fun a ha hda=>hp _ _ hw _ _ _ _ _ _ _ _ h hs h3 a ha hda
  ·exact hw.elim
 case h_6 =>
  rename_i s t x ho
  replace hw:=zi hw
  obtain ⟨d,hd,hw⟩:=hw
  rw [hd] at hn
  replace hw:=zi hw
  obtain ⟨v,h1,hw⟩:=hw
  obtain ⟨u,h2,h3⟩:=h.ev h1
  split at hw
  ·rename_i e e1 e2
   split at hw
   ·rename_i e3
    obtain ⟨c1,c2⟩:=zan hw
    simp only [VR] at h3
    subst h3
    refine OW.toBytes hg hd hn ho (ht.und _ _ e1) (ht.und _ _ e2) (ht.und _ _ e3) h2 h.bd c1 fun v' w' x hr => ?_
    exact hk _ c2 _ _ ⟨_,_,_,(h.zlk x).za6 (v:=.sl e 1 (zvd _)) hr,hs⟩
   ·exact hw.elim
  ·rename_i T l e e1 e2
   split at hw
   ·rename_i e3
    obtain ⟨str,c1,c2⟩:=hw
    obtain ⟨xs,rfl,rfl⟩:=zmz c1
    exact OW.toStr hg hd hn ho (ht.und _ _ e1) (ht.und _ _ e3) (ht.und _ _ e2) h2 h3 (hk _ c2 _ _ ⟨_,_,_,h.za6 (v:=.str _) rfl,hs⟩)
   ·exact hw.elim
  ·rename_i a e e1 e2
   replace hw:=zi hw
   obtain ⟨ar,h4,hw⟩:=hw
   split at hw
   ·rename_i e3 e4
    obtain ⟨str,c1,c2⟩:=hw
    obtain ⟨xs,c3,rfl⟩:=zmz c1
    have h5:=((h.arr a ar (z3k h4).1).un (z3k h4).2).data
    rw [c3] at h5
    have hn1:=yj e4
    rw [hn1] at h5
    rw [←h3.1] at h5
    exact OW.toStr hg hd hn ho (ht.und _ _ e1) (ht.und _ _ e3) (ht.und _ _ e2) h2 h5 (hk _ c2 _ _ ⟨_,_,_,h.za6 (v:=.str _) rfl,hs⟩)
   ·exact hw.elim
  ·exact hw.elim
 case h_7 =>
  rename_i c ho
  obtain ⟨cal,cargs,cty'⟩:=c
  simp only at hw
  split at hw
  ·rename_i x y ea
   replace hw:=zi hw
   obtain ⟨d,hd,hw⟩:=hw
   rw [hd] at hn
   replace hw:=zi hw
   obtain ⟨u,h1,hw⟩:=hw
   replace hw:=zi hw
   obtain ⟨v0,_,hw⟩:=hw
   split at hw
   ·rename_i t t2 et
    have ea:cargs = #[x,y]:=by apply yn.1;simpa using ea
    have et:cty' = #[t,t2]:=by apply yn.1;simpa using et
    subst ea et
    split at hw
    ·rename_i e he
     replace hw:=zi hw
     obtain ⟨⟨iz,im,ib⟩,h2,hw⟩:=hw
     replace hw:=zi hw
     obtain ⟨σ',h3,hw⟩:=hw
     replace hw:=zi hw
     obtain ⟨v,h4,hw⟩:=hw
     replace hw:=zi hw
     obtain ⟨l2,h5,hw⟩:=hw
     split at hw
     ·rename_i hb
      simp only [yb] at hb
      obtain ⟨⟨b1,b2⟩,b3⟩:=hb
      have b1:=yj b1
      obtain ⟨k1,k2,k3,_⟩:=z19 _ h hs h3
      obtain ⟨uy,h6,h7⟩:=k1.ev h4
      obtain ⟨ux,h8,h9⟩:=h.ev h1
      -- the step itself
      have step:∀ l r,Own w (z8u O α (lk σ.A) (za7 v0)) e im ux l→Go.Lk.app ib l l2=some r →
        (∀ v' w' O',zt0 w (z8u O α (lk σ.A) (za7 v0)) e im ux w' O' v' r→OW C n ds ops rest K ((d,v')::V) w')→OW C n ds ops (o::rest) K V w:=by
       intro l r hown happ hnext
       obtain ⟨hr,hbig⟩:=zpt happ
       subst hr
       unfold apL at h5
       split at h5
       ·split at h5
        ·rename_i hq
         cases h5
         simp only [yb] at hq
         have q1:=yj hq.1
         have q2:=yj hq.2
         subst q1 q2
         exact OW.zml hg hd hn ho (ht.und _ _ he) (ht.inf _ _ h2) b1 b2 b3 h8 h6 hown k1.bd h7 hbig hnext
        ·cases h5
       ·split at h5
        ·rename_i hq
         cases h5
         have q1:=yj hq
         subst q1
         simp only [VR] at h7
         subst h7
         exact OW.zml hg hd hn ho (ht.und _ _ he) (ht.inf _ _ h2) b1 b2 b3 h8 h6 hown k1.bd (.inl ⟨⟨_,rfl⟩,rfl⟩) hbig hnext
        ·cases h5
       ·split at h5
        ·rename_i e5 e6
         cases h5
         cases e6
         simp only [VR] at h7
         subst h7
         refine OW.zt6 hg hd hn ho (ht.und _ _ he) (ht.und _ _ e5) (ht.inf _ _ h2) h8 h6 hown k1.bd (by simpa [zvd,unb] using hbig) fun v' w' O' hG=>hnext v' w' O' ?_
         have e7:∀ q:List UInt8,zvd q=q.map zdq:=fun q=>by simp [zvd,unb,zdq,eI]
         rw [e7]
         exact hG
        ·cases h5
       ·cases h5
      split at hw
      ·split at hw
       ·rename_i hf
        rw [yb] at hf
        have hfT:e<1000000:=by simpa [yi] using hf.2
        have hf:=hf.1
        obtain ⟨r,c1,c2⟩:=hw
        simp only [VR] at h9
        subst h9
        refine step [] r (Own.nil _ _ _ _) c1 fun v' w' O' hG=>hk _ c2 _ _ ⟨_,_,_,k1.zwl hf hG.ext hG.tr hG.more hG.bd hG.only (fun _ _ _ hh=>by simp [Value.ownBlock] at hh) (fun _ _ _ _ _ hh=>by simp [Value.ownBlock] at hh) (fun _ hh=>by simp [Value.ownBlock] at hh) hfT hG.own hG.at_ (fun y hy => ?_),fun y hy=>hG.more y (k2 y hy)⟩
        rcases hG.at_ y hy with hh|hh
        ·simp [Value.ownBlock] at hh
        ·exact .inr (yl h.ext.size hh)
       ·exact hw.elim
      ·rename_i a
       replace hw:=zi hw
       obtain ⟨ar,h10,hw⟩:=hw
       split at hw
       ·rename_i hf
        simp only [yb] at hf
        obtain ⟨⟨f1,f2⟩,f3⟩:=hf
        have f2:=yj f2
        have f3:=yj f3
        obtain ⟨r,c1,c2⟩:=hw
        have h10U:=z3k h10
        have h10:=h10U.1
        have h11:=(k1.arr a ar h10).un h10U.2
        have e9:=h9.1
        subst f2 f3
        rw [←e9] at h11
        have k5:Rl z { σ' with A:=z88 a σ'.A } V w (z8u O α (lk σ.A) (za7 v0)) φ α:=k1.mono (Le.refl _) (Le.refl _) (fun t v hv=>(z2m hv).2)
        refine step ar.l r h11 c1 fun v' w' O' hG=>hk _ c2 _ _ ⟨_,_,_,k5.zwl (e:={ ar with l:=r }) f1 hG.ext hG.tr hG.more hG.bd hG.only (fun b e' hb hh => ?_) (fun c e' hc y hy hh => ?_) (fun y hy => ?_) h10U.2 hG.own hG.at_ (fun y hy => ?_),fun y hy=>hG.more y (k2 y hy)⟩
        ·rw [e9] at hh
         exact k1.ab a b ar e' h10 hb hh
        ·rw [e9] at hh
         obtain ⟨n1,hc⟩:=z2m hc
         exact k1.aa c a e' ar hc h10 n1 y hy hh
        ·rw [e9] at hy
         exact (k1.aF a ar h10 y hy).elim (fun q => .inl q.2) .inr
        ·rcases hG.at_ y hy with hh|hh
         ·rw [e9] at hh
          exact k1.aF a ar h10 y hh
         ·exact .inr (yl h.ext.size hh)
       ·exact hw.elim
      ·exact hw.elim
     ·exact hw.elim
    ·exact hw.elim
   ·exact hw.elim
  ·rename_i x
   replace hw:=zi hw
   obtain ⟨vs,h1,hw⟩:=hw
   split at hw
   ·rename_i f as cs hx
    exact hc _ _ _ _ _ _ ho rfl h1 hx hw
   ·exact hw.elim
  ·exact zcp ht hg hn h hs hk hw
 case h_8=>exact zcp ht hg hn h hs hk hw
end
end Go.Pe
