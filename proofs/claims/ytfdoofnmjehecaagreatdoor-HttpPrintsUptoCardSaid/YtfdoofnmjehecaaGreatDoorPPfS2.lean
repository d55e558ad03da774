import Derived.Test.YtfdoofnmjehecaaGreatDoorPPfS1
set_option linter.all false
namespace Go.Pe
open _root_.Option renaming bind_eq_some_iff → ya
open _root_.Bool renaming and_eq_true → yb, false_eq_true → yc
open _root_.List renaming filter_cons_of_pos → yd, map_cons → ye, mem_map_of_mem → yf, mem_of_getElem? → yg, nodup_cons → yh
open _root_.Nat renaming add_sub_cancel → yi, add_zero → yj, blt_eq → yk, eq_of_beq_eq_true → yl, le_of_ble_eq_true → ym, le_refl → yn, le_trans → yo
open _root_.Array renaming length_toList → yp, toList_inj → yq
open Go.RowKit Go.Lk

section
variable {z:W0} {fL fL':FL} {fB fB':FB} {fA fA':FA} {V:Env} {w w':World} {O O':Nat→Prop} {φ φ':Nat→Nat} {α α':Nat→Value} {σ σ':St}
theorem Ext.after (h:Rel z fL fB fA V w O φ α) {H:Nat→Prop} (x:Ext H w w') (hH:∀ y,H y→z.F y∨z.w.heap.size≤y):Ext z.F z.w w':=h.ext.step x fun y hy hh=>by
 rcases hH y hh with h1|h1
 ·exact h1
 ·omega
theorem Bd.new {b:Nat} {T:TypeId} {us:List Value} {H:Nat→Prop} (hB:Bd O w) (x:Ext H w w') (hb:zdn w' b T us):Bd (Ins O b) w':=fun y hy=>by
 rcases hy with rfl|hy
 ·exact hb.lt
 ·exact Nat.lt_of_lt_of_le (hB y hy) x.size
theorem Rel.zsm (h:Rl z σ V w O φ α) {d key b:Nat} {T:TypeId} {us:List Value} {cs:List PV} {pv:PV} {pu:Value} (hf:σ.z5x key=true) (hb:zdn w' b T us) (x:Ext z18 w w') (hw:w.heap.size≤b) (hv:VRs w O φ α cs us) (kc:z3h.go (fun y=>y≠key) (fun _=>True) cs)
  (hp:VR w' (Ins O b) (ren φ key b) α pv pu):Rl z { σ with B:=(key,⟨T,cs⟩)::σ.B,L:=(d,pv)::σ.L } ((d,pu)::V) w' (Ins O b) (ren φ key b) α:=by
 have t:Tr O w (Ins O b) w':=Tr.z6m x (fun _ _ hh=>hh.elim) hw
 have h1:=h.reB hf b
 have h2:=h1.move x t (fun y hy => .inr hy) (Bd.new h.bd x hb) (fun _ _ _ hh=>hh) (fun _ _ _ _ _ hh=>hh) (Ext.after h x fun _ hh=>hh.elim) fun y hy=>by
  rcases hy with rfl|hy
  ·exact .inr (yo h.ext.size hw)
  ·exact h.only y hy
 have er:ren φ key b key=b:=by simp [ren]
 have hv2:VRs w' (Ins O b) (ren φ key b) α cs us:=VRs.re (kb:=fun y=>y≠key) (ka:=fun _=>True) (fun y hy=>by simp [ren,hy]) (fun _ _=>rfl) _ _ kc (VRs.tr t _ _ hv)
 have h3:=h2.zuz (b:=key) (e:=⟨T,cs⟩) (us:=us) (.inl er) (by rw [er];exact hb) hv2 (fun c e' hc _=>by
  rw [er]
  have:=h1.zm3 hc
  omega) (fun a e' ha hh=>by
  rw [er] at hh
  have:=h1.zp2 ha hh
  omega) (by rw [er];exact .inr (yo h.ext.size hw))
 have h4:=h3.put (d:=d) (v:=pv) (u:=pu) hp
 exact h4.mono Le.cons Le.cons (Le.refl _)
theorem Rel.zsl (h:Rl z σ V w O φ α) {d key b:Nat} {T:TypeId} {us:List Value} {cs:List PV} (hf:σ.z5x key=true) (hb:zdn w' b T us) (x:Ext z18 w w') (hw:w.heap.size≤b) (hv:VRs w O φ α cs us) (kc:z3h.go (fun y=>y≠key) (fun _=>True) cs) :
  Rl z { σ with B:=(key,⟨T,cs⟩)::σ.B,L:=(d,.ptr key 0)::σ.L } ((d,.pointer (some ⟨b,0,none⟩))::V) w' (Ins O b) (ren φ key b) α :=
 h.zsm hf hb x hw hv kc (by simp only [VR];rw [show ren φ key b key=b from by simp [ren]])
theorem Rel.zq0 (h:Rl z σ V w O φ α) {d key:Nat} {v:Value} {e:Arr} {H:Nat→Prop} (hf:σ.z4l key=true) (x:Ext H w w') (t:Tr O w O' w') (more:∀ y,O y→O' y) (bd':Bd O' w') (only':∀ y,O' y→O y∨w.heap.size≤y)
  (hB:∀ b e,lk σ.B b=some e→¬H (φ b)) (hA:∀ a e,lk σ.A a=some e→∀ y,(α a).ownBlock=some y→¬H y) (hH:∀ y,H y→z.F y∨z.w.heap.size≤y) (ho:z5t w' O' e.T e.n v e.l)
  (h1:∀ y,v.ownBlock=some y→H y∨w.heap.size≤y) (h3:∀ y,v.ownBlock=some y→(e.zmv=false∧z.F y)∨z.w.heap.size≤y) :
  Rl z { σ with A:=(key,e)::σ.A,L:=(d,.ref key)::σ.L } ((d,v)::V) w' O' φ (zdb α key v):=by
 have k1:=h.reA hf v
 have er:zdb α key v key=v:=by simp [zdb]
 obtain ⟨f1,f2,f3⟩:=z7p hf
 have hA':∀ a e,lk σ.A a=some e→zdb α key v a=α a:=fun a e ha=>by
  have:a≠key:=fun hh=>by subst hh;rw [f1] at ha;cases ha
  simp [zdb,this]
 have k2:=k1.move x t more bd' hB (fun a e ha y hy=>by rw [hA' a e ha] at hy;exact hA a e ha y hy) (Ext.after h x hH) fun y hy=>by
  rcases only' y hy with hy|hy
  ·exact h.only y hy
  ·exact .inr (yo h.ext.size hy)
 have k3:=k2.ztb (a:=key) (e:=e) (by rw [er];exact ho) (fun c e' hc _ y hy=>by
  rw [er]
  intro hh
  rw [hA' c e' hc] at hy
  rcases h1 y hh with h2|h2
  ·exact hA c e' hc y hy h2
  ·have:=h.zp2 hc hy;omega) (fun b e' hb=>by
  rw [er]
  intro hh
  rcases h1 _ hh with h2|h2
  ·exact hB b e' hb h2
  ·have:=h.zm3 hb;omega) (fun y hy=>by rw [er] at hy;exact h3 y hy)
 have k4:=k3.put (d:=d) (v:=.ref key) (u:=v) ⟨er.symm,z5t.zw2 ho⟩
 exact k4.mono Le.cons (Le.refl _) Le.cons
theorem Rel.zfk (h:Rl z σ V w O φ α) {d:Nat} {v:PV} {u:Value} (hv:VR w O φ α v u):Rl z { σ with L:=(d,v)::σ.L } ((d,u)::V) w O φ α:=(h.put hv).mono Le.cons (Le.refl _) (Le.refl _)
def zsw (d:Option Nat) (u:Value) (V:Env):Env:=match d with
 | some d=>(d,u)::V
 | none=>V
theorem Rel.zsx (h:Rl z σ V w O φ α) (d:Option Nat) {v:PV} {u:Value} (hv:VR w O φ α v u):Rl z (σ.put d v) (zsw d u V) w O φ α:=by
 cases d with
 | none=>exact h
 | some d=>exact h.zfk hv
theorem Rel.zes (h:Rl z σ V w O φ α) (x:Ext z18 w w'):Rl z σ V w' O φ α :=
 h.move x (Tr.z3r x fun _ _ hh=>hh.elim) (fun _ hy=>hy) (h.bd.ext x) (fun _ _ _ hh=>hh) (fun _ _ _ _ _ hh=>hh) (Ext.after h x fun _ hh=>hh.elim) h.only
theorem Rel.zum (h:Rl z σ V w O φ α) {d key b T m len:Nat} {us:List Value} {l:List (List D)} {zmv:Bool} (hT:T<1000000) (hf:σ.z4l key=true) (hb:z2b w' b T us) (x:Ext z18 w w') (hw:w.heap.size≤b) (hl:l.length=len) (hm:len≤maxLen) (hs:us.length=len*m) (hr:RDl w O m l us) :
  Rl z { σ with A:=(key,⟨zmv,T,m,l⟩)::σ.A,L:=(d,.ref key)::σ.L } ((d,.slice (some ⟨b,0,none⟩) len len)::V) w' (Ins O b) φ (zdb α key (.slice (some ⟨b,0,none⟩) len len)):=by
 have t:Tr O w (Ins O b) w':=Tr.z6m x (fun _ _ hh=>hh.elim) hw
 exact h.zq0 hf x t (fun y hy => .inr hy) (Bd.new h.bd x (T:=T) (us:=us) (.inl ⟨hT,hb⟩)) (fun y hy=>by
  rcases hy with rfl|hy
  ·exact .inr hw
  ·exact .inl hy) (fun _ _ _ hh=>hh) (fun _ _ _ _ _ hh=>hh) (fun _ hh=>hh.elim) (.inl ⟨hT,Own.z6m hb hl hm hs (hr.tr t) (.inl rfl)⟩) (fun y hy=>by
  simp only [Value.ownBlock,Option.some.injEq] at hy
  subst hy
  exact .inr hw) (fun y hy=>by
  simp only [Value.ownBlock,Option.some.injEq] at hy
  subst hy
  exact .inr (yo h.ext.size hw))
theorem Rel.zgc (h:Rl z σ V w O φ α) {key b:Nat} {e:Bx} {us:List Value} {cs:List PV} (hk:lk σ.B key=some e) (hb:zdn w' (φ key) e.T us) (x:Ext (At (φ key)) w w') (hv:VRs w O φ α cs us) (_:b=b) :
  Rl z { σ with B:=zaz key ⟨e.T,cs⟩ σ.B } V w' O φ α:=by
 have ho:=(h.box key e hk).1
 have t:Tr O w O w':=Tr.z3r x fun y _ hy=>by cases hy;exact ho
 have h1:=h.mono (Le.refl _) (fB':=del (lk σ.B) key) (fun t v hv=>(z38 hv).2) (Le.refl _)
 have h2:=h1.move x t (fun _ hy=>hy) (h.bd.ext x) (fun c e' hc hh=>by
  obtain ⟨n1,hc⟩:=z38 hc
  exact h.bb c key e' e hc hk n1 hh) (fun a e' ha y hy hh=>by
  cases hh
  exact h.ab a key e' e ha hk hy) (Ext.after h x fun y hy=>by cases hy;exact (h.bF key e hk).elim (fun q => .inl q.2) .inr) h.only
 have h3:=h2.zuz (b:=key) (e:=⟨e.T,cs⟩) (us:=us) ho hb (VRs.tr t _ _ hv) (fun c e' hc n1 hh=>h.bb c key e' e (z38 hc).2 hk n1 hh) (fun a e' ha hh=>h.ab a key e' e ha hk hh) (h.bF key e hk)
 exact h3.mono (Le.refl _) Le.zaz (Le.refl _)
theorem Rel.zor (h:Rl z σ V w O φ α) {a:Nat} {e:Arr} {l:List (List D)} (hk:lk σ.A a=some e) (ho:z5t w' O e.T e.n (α a) l) (x:Ext (fun y=>(α a).ownBlock=some y) w w') :
  Rl z { σ with A:=zaz a { e with l:=l } σ.A } V w' O φ α:=by
 have t:Tr O w O w':=Tr.z3r x fun y _ hy=>h.ztd hk hy
 have h1:=h.mono (Le.refl _) (Le.refl _) (fA':=del (lk σ.A) a) (fun t v hv=>(z38 hv).2)
 have h2:=h1.move x t (fun _ hy=>hy) (h.bd.ext x) (fun c e' hc hh=>h.ab a c e e' hk hc hh) (fun c e' hc y hy hh=>by
  obtain ⟨n1,hc⟩:=z38 hc
  exact h.aa c a e' e hc hk n1 y hy hh) (Ext.after h x fun y hy=>(h.aF a e hk y hy).elim (fun q => .inl q.2) .inr) h.only
 have h3:=h2.ztb (a:=a) (e:={ e with l:=l }) ho (fun c e' hc n1 y hy hh=>h.aa c a e' e (z38 hc).2 hk n1 y hy hh) (fun b e' hb hh=>h.ab a b e e' hk hb hh) (h.aF a e hk)
 exact h3.mono (Le.refl _) (Le.refl _) Le.zaz
theorem RDs.len {w:World} {O:Nat→Prop}:∀ {l:List D} {us:List Value},RDs w O l us→us.length=l.length
 | [],us,h=>by cases h;rfl
 | d::l,us,h=>by
  obtain ⟨v,vs,rfl,_,h⟩:=h
  simp [RDs.len h]
theorem toD_ok {c:Option (Nat × Nat)} {v:PV} {d:D} {u:Value} (e:toD c v=some d) (h:VR w O φ α v u):RD w O d u:=by
 unfold toD at e
 split at e
 ·cases e;simpa [VR,RD] using h
 ·cases e;simpa [VR,RD] using h
 ·cases e;simpa [VR,RD] using h
 ·cases e;exact h
 ·split at e
  ·cases e
   simp only [VR] at h
   subst h
   exact .inl ⟨⟨_,rfl⟩,rfl⟩
  ·cases e
 ·cases e
  obtain ⟨us,vs,rfl,h1,h2⟩:=h
  obtain rfl:us=[]:=h1
  obtain rfl:vs=[]:=h2
  rfl
 ·cases e
theorem toDs_ok:∀ {cs:List PV} {ct:List (Option (Nat × Nat))} {ds:List D} {us:List Value},toDs ct cs=some ds→VRs w O φ α cs us→RDs w O ds us
 | [],ct,ds,us,e,h=>by
  unfold toDs at e
  cases e
  exact h
 | v::vs,ct,ds,us,e,h=>by
  obtain ⟨u,us',rfl,h2,h3⟩:=h
  cases ct with
  | nil =>
   simp only [toDs] at e
   split at e
   ·rename_i d ds' h4 h5
    cases e
    exact ⟨u,us',rfl,toD_ok h4 h2,toDs_ok h5 h3⟩
   ·cases e
  | cons c ct =>
   simp only [toDs] at e
   split at e
   ·rename_i d ds' h4 h5
    cases e
    exact ⟨u,us',rfl,toD_ok h4 h2,toDs_ok h5 h3⟩
   ·cases e
theorem zbv {ct:List (Option (Nat × Nat))} {m:Nat}:∀ {us:List PV} {is:List Nat} {xs:List Value} {ds:List (List D)} {i:Nat},z7w i is=true→is.length=us.length→VRs w O φ α us xs→us.all (fun x => !(z3k x))=true→zrx ct us=some ds→ds.all (fun x=>Nat.beq x.length m)=true →
  ∃ cs,flat m i (is.zip xs)=some cs∧RDl w O m ds cs∧cs.length=us.length*m∧ds.length=us.length
 | [],is,xs,ds,i,_,hl,h,_,e,_=>by
  cases h
  unfold zrx at e
  cases e
  simp only [List.zip_nil_right,flat]
  exact ⟨[],rfl,trivial,by simp,rfl⟩
 | u::us,is,xs,ds,i,hr,hl,h,hu,e,hm=>by
  obtain ⟨x,xs',rfl,h2,h3⟩:=h
  cases is with
  | nil=>simp at hl
  | cons j is =>
   simp only [z7w,yb] at hr
   simp only [List.all_cons,yb] at hu
   unfold zrx at e
   split at e
   ·rename_i d ds' h4 h5
    cases e
    simp only [List.all_cons,yb] at hm
    obtain ⟨cs,k1,k2,k3,k4⟩:=zbv hr.2 (by simpa using hl) h3 hu.2 h5 hm.2
    have h6:=toDs_ok h4 (h2.cells (by simpa using hu.1))
    have h7:=RDs.len h6
    have h8:=yl hm.1
    have h9:x.cells.size=m:=by rw [←h8,←h7,yp]
    refine ⟨x.cells.toList++cs,?_,?_,?_,by simp [k4]⟩
    ·simp only [List.zip_cons_cons]
     unfold flat
     rw [hr.1,k1,h9,Nat.beq_refl]
    ·refine ⟨?_,?_⟩
     ·have:(x.cells.toList++cs).take m=x.cells.toList:=by rw [←h9,←yp];exact List.take_left
      rw [this];exact h6
     ·have:(x.cells.toList++cs).drop m=cs:=by rw [←h9,←yp];exact List.drop_left
      rw [this];exact k2
    ·rw [List.length_append,k3,yp,h9,List.length_cons,Nat.succ_mul];omega
   ·cases e
theorem zjs:∀ {l:List (List D)} {s:List UInt8},dby l=some s→∃ xs:List Int,l=xs.map (eI .u8)∧s=byt xs
 | [],s,e=>by cases e;exact ⟨[],rfl,rfl⟩
 | x::r,s,e=>by
  unfold dby at e
  split at e
  ·cases e;exact ⟨[],by assumption,rfl⟩
  ·rename_i n r' hx
   split at e
   ·rename_i s' h1
    cases e
    simp only [List.cons.injEq] at hx
    obtain ⟨rfl,rfl⟩:=hx
    obtain ⟨xs,rfl,rfl⟩:=zjs h1
    exact ⟨n::xs,rfl,rfl⟩
   ·cases e
  ·cases e
end
def RS (z:W0) (σ:St) (V:Env) (w:World):Prop := ∃ O φ α,Rl z σ V w O φ α∧∀ x,z.O x→O x
def z7d (z:W0) (C:Cx) (n:Nat) (ds:List Deferred) (v:PV) (s:St):Prop := ∀ V w O φ α u φ' α',Rl z s V w O φ α→(∀ x,z.O x→O x)→VR w O φ' α' v u→∀ a,Has n V a→a.defers=ds→PN C a [{ v:=u,recovered:=false }] w
def NX (z:W0) (C:Cx) (n:Nat) (ds:List Deferred) (ops:Array Oper) (rest:List Oper) (K:Act→World→Prop) (s:St):Prop := ∀ V w,RS z s V w→OW C n ds ops rest K V w
theorem Rel.tr0 {z:W0} {fL:FL} {fB:FB} {fA:FA} {V:Env} {w:World} {O:Nat→Prop} {φ:Nat→Nat} {α:Nat→Value} (h:Rel z fL fB fA V w O φ α):Tr z.O z.w O w :=
 ⟨h.ext.size,fun b hb ho=>h.ext.block b hb fun hf=>ho (z.hF b hf),fun b hb ho ho'=>by
  rcases h.only b ho' with h1|h1
  ·exact ho h1
  ·omega⟩
theorem zhn {kb ka:Nat→Prop} (v:Value):z3h kb ka (zj8 v):=by
 unfold zj8
 split<;>trivial
theorem zeu {kb ka:Nat→Prop}:∀ (l:List Value),z3h.go kb ka (l.map zj8)
 | []=>trivial
 | v::l=>⟨zhn v,zeu l⟩
theorem zkr {kb ka:Nat→Prop} (v:Value):z3h kb ka (ofV v):=by
 unfold ofV
 split
 ·exact zeu _
 ·exact zhn v
theorem zdx {kb ka:Nat→Prop} {v:PV} (h:z3h kb ka v):z3h.go kb ka (cellsOf v):=by
 cases v with
 | agg cs=>exact h
 | _=>exact ⟨h,trivial⟩
theorem zry {kb ka:Nat→Prop} {σ:St} (hL:∀ t v,lk σ.L t=some v→z3h kb ka v) {x:Operand} {v:PV} (e:σ.ev x=some v):z3h kb ka v:=by
 cases x with
 | tmp t=>exact hL t v e
 | const c=>cases e;exact zkr c
 | global g=>cases e
 | func f =>
  simp only [St.ev] at e
  split at e
  ·cases e
  ·cases e;exact ⟨trivial,trivial⟩
theorem z8h {td:TypeDesc} {ky:Option IntKind} (h:zoh td=some ky):td=kdT ky:=by
 unfold zoh at h
 split at h<;>first|(cases h;rfl)|cases h
theorem toKey_ok {w:World} {O:Nat→Prop} {φ:Nat→Nat} {α:Nat→Value} {ky:Option IntKind} {v:PV} {kd:D} {u:Value} (e:toKey ky v=some kd) (h:VR w O φ α v u):zj7 ky kd∧RD w O kd u:=by
 unfold toKey at e
 split at e
 ·split at e
  ·rename_i hb
   cases e
   exact ⟨(z5m hb).symm,by simpa [VR,RD] using h⟩
  ·cases e
 ·cases e
  exact ⟨trivial,by simpa [VR,RD] using h⟩
 ·cases e
theorem zpl {a b:Option IntKind} (h:zuf a b=true):a=b:=by
 unfold zuf at h
 split at h
 ·rw [z5m h]
 ·rfl
 ·cases h
theorem zu1 {a b:Bool} (h:bq a b=true):a=b:=by
 cases a<;>cases b<;>first|rfl|cases h
theorem z5d {σ:St} {ky:Option IntKind} {g:Bool} {u:PV} {m:Nat × List (List D)} (h:z8k σ ky g u=some m):u = .mp m.1∧∃ e,lk σ.B m.1=some e∧e.cs=[.md (.cont ky g m.2)]∧e.T=1000000:=by
 unfold z8k at h
 split at h
 ·split at h
  ·rename_i e he
   split at h
   ·rename_i ky' g' l hc
    split at h
    ·rename_i hb
     simp only [yb] at hb
     cases h
     rw [zpl hb.1.2,zu1 hb.2]
     exact ⟨rfl,e,he,hc,yl hb.1.1⟩
    ·cases h
   ·cases h
  ·cases h
 ·cases h
theorem zbl {w:World} {O:Nat→Prop} {φ:Nat→Nat} {α:Nat→Value} {g:Bool} {n:Nat} {ds:List D} {r:PV} {v:Value} (e:z4r g n (zmz ds)=some r) (h:zja w O g ds v):VR w O φ α r v:=by
 cases g with
 | true =>
  obtain ⟨us,rfl,h2⟩:=h
  unfold z4r at e
  simp only at e
  split at e
  ·cases e
   exact ⟨us,rfl,z7v h2⟩
  ·cases e
 | false =>
  obtain ⟨d,rfl,h2⟩:=h
  simp only [zmz,ye,List.map_nil,z4r,Option.some.injEq] at e
  subst e
  exact zkq h2
theorem zgr {w:World} {O:Nat→Prop} {φ:Nat→Nat} {α:Nat→Value} {g:Bool} {ct:List (Option (Nat × Nat))} {ds:List D} {v:PV} {u:Value} (hq:zrc g v=true) (e:toDs ct (cellsOf v)=some ds) (h:VR w O φ α v u):zja w O g ds u:=by
 cases g with
 | true =>
  cases v<;>simp only [zrc,yc] at hq
  obtain ⟨us,rfl,h2⟩:=h
  exact ⟨us,rfl,toDs_ok e h2⟩
 | false =>
  have h1:zj9 v=true:=by simpa [zrc] using hq
  have h2:cellsOf v=[v]:=by cases v<;>first|rfl|simp [zj9] at h1
  rw [h2] at e
  have h3:=toDs_ok e (us:=[u]) (w:=w) (O:=O) (φ:=φ) (α:=α) ⟨u,[],rfl,h,rfl⟩
  cases ds with
  | nil=>cases h3
  | cons d ds =>
   obtain ⟨v',vs,h4,h5,h6⟩:=h3
   cases h4
   cases ds with
   | nil=>exact ⟨d,rfl,h5⟩
   | cons d2 ds =>
    obtain ⟨_,_,h7,_⟩:=h6
    cases h7
theorem OW.zwc {C:Cx} {n:Nat} {ds:List Deferred} {k:Act→World→Prop} {L:Env} {w:World} {ops:Array Oper} {o:Oper} {rest:List Oper} {v:Value} {w':World} (hg:o.guard=none) (hd:o.dst=none)
  (hr:∀ a,Has n L a→(execOp a.eval o).run C.P w = .ok (.value v) w') (h:OW C n ds ops rest k L w'):OW C n ds ops (o::rest) k L w:=fun a ha hds =>
 wpList_plain hg fun K hK=>by
  unfold Oper.wp
  rw [hr a ha,Oper.upon_value,hd]
  exact hK _ _ (h _ ha.same (by simpa [Act.put] using hds))
theorem za7 {b:Nat}:∀ (L:List MapEntry),(∀ x∈L,x.born≠b)→(L.filter fun x => !(x.born==b))=L
 | [],_=>rfl
 | x::L,h=>by
  rw [yd (by simpa using h x (by simp)),za7 L fun y hy=>h y (by simp [hy])]
theorem z9c:∀ (L:List MapEntry) (i:Nat) (e:MapEntry),(L.map (·.born)).Nodup→L[i]? = some e→(L.filter fun x => !(x.born==e.born))=L.eraseIdx i
 | x::L,0,e,hn,h=>by
  simp only [List.getElem?_cons_zero,Option.some.injEq] at h
  subst h
  simp only [ye,yh] at hn
  rw [List.filter_cons_of_neg (by simp),List.eraseIdx_cons_zero,za7]
  intro y hy e
  exact hn.1 (e▸yf hy)
 | x::L,i+1,e,hn,h=>by
  simp only [List.getElem?_cons_succ] at h
  simp only [ye,yh] at hn
  have hm:e.born∈L.map (·.born):=yf (yg h)
  rw [yd (by
   simp only [Bool.not_eq_true',beq_eq_false_iff_ne,ne_eq]
   intro q
   exact hn.1 (q▸hm)),List.eraseIdx_cons_succ,z9c L i e hn.2 h]
 | [],i,e,_,h=>by simp at h
theorem zis {es:List MapEntry} {seen:Array Nat} {i:Nat} {e:MapEntry} (hn:(es.map (·.born)).Nodup) (h:(z9m es seen.toList)[i]? = some e):z9m es (seen.push e.born).toList=(z9m es seen.toList).eraseIdx i:=by
 rw [←z9c (z9m es seen.toList) i e (List.Nodup.sublist (List.Sublist.map _ List.filter_sublist) hn) h]
 unfold z9m
 rw [List.filter_filter]
 congr 1
 funext x
 simp only [Array.toList_push,List.contains_eq_mem,List.mem_append,List.mem_singleton]
 by_cases h1:x.born=e.born<;>by_cases h2:x.born∈seen.toList<;>simp [h1,h2]
theorem Rel.zrw {z:W0} {V:Env} {w:World} {O:Nat→Prop} {φ:Nat→Nat} {α:Nat→Value} {σ:St} (h:Rl z σ V w O φ α) {b:Nat} {e:Bx} (hb:lk σ.B b=some e):Rl z { σ with B:=z65 b σ.B } V w (fun x=>O x∧x≠φ b) φ α:=by
 have td:Tr O w (fun x=>O x∧x≠φ b) w:=Tr.drop w fun x hx=>hx.1
 refine ⟨fun t v hv => ?_,fun c e' hc => ?_,fun a e' ha => ?_,fun c d e1 e2 h1 h2 hn=>h.bb c d e1 e2 (z2x h1).2 (z2x h2).2 hn,h.aa,fun a c e1 e2 h1 h2=>h.ab a c e1 e2 h1 (z2x h2).2,fun c e' hc=>h.bF c e' (z2x hc).2,h.aF,fun x hx=>h.bd x hx.1,h.ext,fun x hx=>h.only x hx.1,z.hG td h.gl,h.keep⟩
 ·obtain ⟨u,h2,h3⟩:=h.env t v hv
  exact ⟨u,h2,h3.tr td⟩
 ·obtain ⟨n1,hc⟩:=z2x hc
  obtain ⟨h2,us,h3,h4⟩:=h.box c e' hc
  exact ⟨⟨h2,h.bb c b e' e hc hb n1⟩,us,h3,VRs.tr td _ _ h4⟩
 ·exact (h.arr a e' ha).down (fun x hx=>hx.1) fun x hx=>⟨h.ztd ha hx,fun q=>h.ab a b e' e ha hb (q▸hx)⟩
section
variable {z:W0} {V:Env} {w:World} {O:Nat→Prop} {φ:Nat→Nat} {α:Nat→Value} {σ:St} {C:Cx} {n:Nat} {ops:Array Oper} {o:Oper} {rest:List Oper} {K:Act→World→Prop}
theorem zl7 {ann:Ann} {x:Operand} {d:Nat} (h:zur ann x=some d):x = .tmp d:=by
 unfold zur at h
 split at h
 ·split at h
  ·cases h;rfl
  ·cases h
 ·cases h
theorem zc6 {β:Type} {a:Nat} {x v:β}:∀ {l:List (Nat × β)},lk l a=some v→lk (zaz a x l) a=some x
 | [],h=>by cases h
 | (s,y)::r,h=>by
  unfold zaz
  split
  ·rename_i e
   have e:=yl e
   subst e
   unfold lk
   simp
  ·rename_i e
   unfold lk at h ⊢
   rw [e] at h ⊢
   exact zc6 h
theorem zc7 {β:Type} {a t:Nat} {x:β} (hn:t≠a):∀ {l:List (Nat × β)},lk (zaz a x l) t=lk l t
 | []=>rfl
 | (s,y)::r=>by
  unfold zaz
  split
  ·rename_i e
   have e:=yl e
   subst e
   unfold lk
   have:Nat.beq s t=false:=by
    cases q:Nat.beq s t with
    | false=>rfl
    | true=>exact (hn (yl q).symm).elim
   rw [this]
  ·unfold lk
   rw [zc7 hn]
theorem z6d {β:Type} {a t:Nat} {x v:β} {l:List (Nat × β)} (h:lk (z65 a l) t=some v):lk (z65 a (zaz a x l)) t=some v:=by
 obtain ⟨h1,h2⟩:=z2x h
 rw [z71 h1,zc7 h1]
 exact h2
theorem zi6 {key E:Nat} {k:St→Prop} (h:Rl z σ V w O φ α) (hw:σ.born key E k):∃ s α',Rl z s V w O φ α'∧k s:=by
 unfold St.born at hw
 obtain ⟨s,e1,hw⟩:=zf hw
 obtain ⟨α',h2⟩:=z4g _ h e1
 split at hw
 ·rename_i e2
  exact ⟨_,α',z6s h2 e2 fun u hu=>by simp only [VR] at hu ⊢;exact .inl hu,hw⟩
 ·exact hw.elim
theorem OW.zw5 {ds:List Deferred} {x:Operand} {T:TypeId} {u:Value} (hg:o.guard=none) (ho:o.op = .panic x) (hx:Lk.ev V x=some (.iface T u)) (h:∀ a,Has n V a→a.defers=ds→PN C a [{ v:=.iface T u,recovered:=false }] w):OW C n ds ops (o::rest) K V w:=fun a ha hds =>
 wpList_plain hg fun K hK=>by
  have hr:(execOp a.eval o).run C.P w = .halt (.panic (.iface T u)) w:=by simp [execOp,ho,ha.ev hx,Instr.panic]
  unfold Oper.wp
  rw [hr,Oper.upon_panic]
  exact h a ha hds
set_option maxRecDepth 100000 in
theorem zbk {ds:List Deferred} {tb:Tb} {cty:List (Nat × List (Option (Nat × Nat)))} {k:St→Prop} (ht:TbOk C.P tb) (hg:o.guard=none) (hn:dOk n o.dst=true) (h:Rl z σ V w O φ α) (hs:∀ x,z.O x→O x)
  (hk:∀ s,k s→NX z C n ds ops rest K s) (hw:zow tb cty σ o k):OW C n ds ops (o::rest) K V w:=by
 unfold zow at hw
 split at hw
 case h_1 =>
  rename_i t ho
  replace hw:=zf hw
  obtain ⟨d,hd,hw⟩:=hw
  rw [hd] at hn
  split at hw
  ·rename_i kt et hu
   replace hw:=zf hw
   obtain ⟨ky,h1,hw⟩:=hw
   replace hw:=zf hw
   obtain ⟨s,h2,hw⟩:=hw
   split at hw
   ·rename_i hf
    refine OW.val (v:=.map (some w.heap.size)) (w':=w.alloc (.map #[] 0)) hg hd hn (fun a ha=>by simp [execOp,ho,Instr.makeMap]) ?_
    have hx:Ext z18 w (w.alloc (.map #[] 0)):=Ext.alloc _ _ _
    refine hk _ hw _ _ ⟨_,_,_,h.zsm (T:=1000000) (us:=[zm9 []]) hf (.inr (.inl ⟨by omega,by omega,#[],0,heap_alloc_new w _,Stamped.nil,rfl⟩)) hx (yn _) ⟨_,[],rfl,⟨[],rfl,trivial⟩,rfl⟩ ⟨trivial,trivial⟩ (by simp [VR,ren]),fun y hy => .inr (hs y hy)⟩
   ·exact hw.elim
  ·exact hw.elim
 case h_2 =>
  rename_i t x y v ho
  split at hw
  ·rename_i hd
   split at hw
   ·rename_i kt et hu
    replace hw:=zf hw
    obtain ⟨ky,h1,hw⟩:=hw
    replace hw:=zf hw
    obtain ⟨s,h2,hw⟩:=hw
    replace hw:=zf hw
    obtain ⟨v0,h3,hw⟩:=hw
    replace hw:=zf hw
    obtain ⟨σ',h4,hw⟩:=hw
    replace hw:=zf hw
    obtain ⟨u,h5,hw⟩:=hw
    replace hw:=zf hw
    obtain ⟨kv,h6,hw⟩:=hw
    replace hw:=zf hw
    obtain ⟨v',h7,hw⟩:=hw
    replace hw:=zf hw
    obtain ⟨kd,h8,hw⟩:=hw
    replace hw:=zf hw
    obtain ⟨vd,h9,hw⟩:=hw
    replace hw:=zf hw
    obtain ⟨m,h10,hw⟩:=hw
    split at hw
    ·rename_i hq
     obtain ⟨l,h11,hw⟩:=hw
     cases h11
     obtain ⟨k1,k2,_,_⟩:=z1l _ h hs h4
     obtain ⟨rfl,e,e1,e2,e3⟩:=z5d h10
     obtain ⟨td,h12,h13⟩:=ya.1 h1
     obtain ⟨xu,hx1,hx2⟩:=k1.ev h5
     obtain ⟨yu,hy1,hy2⟩:=k1.ev h6
     obtain ⟨vu,hv1,hv2⟩:=k1.ev h7
     simp only [VR] at hx2
     subst hx2
     obtain ⟨es,clock,m1,m2,m3⟩:=k1.z8k e1 e2 e3
     obtain ⟨q1,q2⟩:=toKey_ok h8 hy2
     have hkt:C.P.underlying kt=some (kdT ky):=by rw [ht.und _ _ h12,z8h h13]
     obtain ⟨es',clock',w',r1,r2,r3,r4,r5⟩:=z8q (ht.und _ _ hu) hkt m1 m2 m3 q1 q2 (zgr hq h9 hv2)
     refine OW.unit (w':=w') hg hd (fun a ha => ?_) ?_
     ·simp only [execOp,ho,ha.ev hx1,ha.ev hy1,ha.ev hv1,Sem.run_bind,r1,Result.andThen_ok]
      rfl
     ·have hT:=k1.zgc (e:=e) (us:=[zm9 es'.toList]) (cs:=[.md (.cont ky s.1 (z6l m.2 kd vd))]) e1 (by rw [e3];exact .inr (.inl ⟨by omega,by omega,es',clock',r2,r3,rfl⟩)) r5 ⟨_,[],rfl,⟨_,rfl,r4⟩,rfl⟩ (rfl:m.1=m.1)
      rw [e3] at hT
      exact hk _ hw _ _ ⟨_,_,_,hT,k2⟩
    ·exact hw.elim
   ·exact hw.elim
  ·exact hw.elim
 case h_3 =>
  rename_i t x y v ho
  split at hw
  ·rename_i hd
   split at hw
   ·rename_i kt et hu
    replace hw:=zf hw
    obtain ⟨ky,h1,hw⟩:=hw
    replace hw:=zf hw
    obtain ⟨s,h2,hw⟩:=hw
    replace hw:=zf hw
    obtain ⟨v0,h3,hw⟩:=hw
    replace hw:=zf hw
    obtain ⟨σ',h4,hw⟩:=hw
    replace hw:=zf hw
    obtain ⟨u,h5,hw⟩:=hw
    replace hw:=zf hw
    obtain ⟨kv,h6,hw⟩:=hw
    replace hw:=zf hw
    obtain ⟨v',h7,hw⟩:=hw
    replace hw:=zf hw
    obtain ⟨kd,h8,hw⟩:=hw
    replace hw:=zf hw
    obtain ⟨vd,h9,hw⟩:=hw
    replace hw:=zf hw
    obtain ⟨m,h10,hw⟩:=hw
    split at hw
    ·rename_i hq
     obtain ⟨l,h11,hw⟩:=hw
     cases h11
     obtain ⟨k1,k2,_,_⟩:=z1l _ h hs h4
     obtain ⟨rfl,e,e1,e2,e3⟩:=z5d h10
     obtain ⟨td,h12,h13⟩:=ya.1 h1
     obtain ⟨xu,hx1,hx2⟩:=k1.ev h5
     obtain ⟨yu,hy1,hy2⟩:=k1.ev h6
     obtain ⟨vu,hv1,hv2⟩:=k1.ev h7
     simp only [VR] at hx2
     subst hx2
     obtain ⟨es,clock,m1,m2,m3⟩:=k1.z8k e1 e2 e3
     obtain ⟨q1,q2⟩:=toKey_ok h8 hy2
     have hkt:C.P.underlying kt=some (kdT ky):=by rw [ht.und _ _ h12,z8h h13]
     obtain ⟨es',clock',w',r1,r2,r3,r4,r5⟩:=z8q (ht.und _ _ hu) hkt m1 m2 m3 q1 q2 (zgr hq h9 hv2)
     refine OW.unit (w':=w') hg hd (fun a ha => ?_) ?_
     ·simp only [execOp,ho,ha.ev hx1,ha.ev hy1,ha.ev hv1,Sem.run_bind,r1,Result.andThen_ok]
      rfl
     ·have hT:=k1.zgc (e:=e) (us:=[zm9 es'.toList]) (cs:=[.md (.cont ky s.1 (z6l m.2 kd vd))]) e1 (by rw [e3];exact .inr (.inl ⟨by omega,by omega,es',clock',r2,r3,rfl⟩)) r5 ⟨_,[],rfl,⟨_,rfl,r4⟩,rfl⟩ (rfl:m.1=m.1)
      rw [e3] at hT
      exact hk _ hw _ _ ⟨_,_,_,hT,k2⟩
    ·exact hw.elim
   ·exact hw.elim
  ·exact hw.elim
 case h_4 =>
  rename_i t x y c ho
  replace hw:=zf hw
  obtain ⟨d,hd,hw⟩:=hw
  rw [hd] at hn
  split at hw
  ·rename_i kt et hu
   replace hw:=zf hw
   obtain ⟨ky,h1,hw⟩:=hw
   replace hw:=zf hw
   obtain ⟨⟨g,nn⟩,h2,hw⟩:=hw
   replace hw:=zf hw
   obtain ⟨zz,h3,hw⟩:=hw
   replace hw:=zf hw
   obtain ⟨u,h5,hw⟩:=hw
   replace hw:=zf hw
   obtain ⟨kv,h6,hw⟩:=hw
   replace hw:=zf hw
   obtain ⟨kd,h8,hw⟩:=hw
   replace hw:=zf hw
   obtain ⟨zd,h9,hw⟩:=hw
   replace hw:=zf hw
   obtain ⟨m,h10,hw⟩:=hw
   split at hw
   ·rename_i hq
    obtain ⟨dd,h11,hw⟩:=hw
    cases h11
    replace hw:=zf hw
    obtain ⟨r,h12,hw⟩:=hw
    obtain ⟨rfl,e,e1,e2,e3⟩:=z5d h10
    obtain ⟨td,h14,h13⟩:=ya.1 h1
    obtain ⟨xu,hx1,hx2⟩:=h.ev h5
    obtain ⟨yu,hy1,hy2⟩:=h.ev h6
    simp only [VR] at hx2
    subst hx2
    obtain ⟨es,clock,m1,m2,m3⟩:=h.z8k e1 e2 e3
    obtain ⟨q1,q2⟩:=toKey_ok h8 hy2
    have hkt:C.P.underlying kt=some (kdT ky):=by rw [ht.und _ _ h14,z8h h13]
    obtain ⟨v,ok,r1,r2⟩:=zj2 (ht.und _ _ hu) hkt (ht.zer _ _ h3) m1 m3 q1 q2 c
    have hv:zja w O g (zd6 m.2 kd zd) v∧ok=zeq m.2 kd:=by
     rcases r2 with ⟨r3,rfl,rfl⟩|⟨ds',r3,r4,rfl⟩
     ·simp only [zd6,zeq,r3,and_true]
      exact zgr hq h9 (zca (φ:=φ) (α:=α) _)
     ·simp only [zd6,zeq,r3,and_true]
      exact r4
    have hr:=zbl (φ:=φ) (α:=α) h12 hv.1
    refine OW.val (w':=w) hg hd hn (fun a ha=>by
     simp only [execOp,ho,ha.ev hx1,ha.ev hy1,Sem.run_bind,r1,Result.andThen_ok]
     rfl) ?_
    split at hw
    ·exact hk _ hw _ _ ⟨_,_,_,h.zfk hr,hs⟩
    ·obtain ⟨b,h15,hw⟩:=hw
     cases h15
     exact hk _ hw _ _ ⟨_,_,_,h.zfk (v:=.tup [r,.bool _]) ⟨[v,.bool ok],rfl,v,_,rfl,hr,_,[],rfl,by rw [hv.2];rfl,rfl⟩,hs⟩
   ·exact hw.elim
  ·exact hw.elim
 case h_5 =>
  rename_i t x ho
  replace hw:=zf hw
  obtain ⟨d,hd,hw⟩:=hw
  rw [hd] at hn
  split at hw
  ·rename_i kt et hu
   replace hw:=zf hw
   obtain ⟨ky,h1,hw⟩:=hw
   replace hw:=zf hw
   obtain ⟨⟨g,nn⟩,h2,hw⟩:=hw
   replace hw:=zf hw
   obtain ⟨u,h5,hw⟩:=hw
   replace hw:=zf hw
   obtain ⟨m,h10,hw⟩:=hw
   split at hw
   ·rename_i hf
    rw [yb] at hf
    have hf1:=ym hf.1
    obtain ⟨rfl,e,e1,e2,e3⟩:=z5d h10
    obtain ⟨xu,hx1,hx2⟩:=h.ev h5
    simp only [VR] at hx2
    subst hx2
    obtain ⟨es,clock,m1,m2,m3⟩:=h.z8k e1 e2 e3
    have hlt:φ m.1<w.heap.size:=h.zm3 e1
    have hd2:=h.zrw e1
    have td:Tr O w (fun x=>O x∧x≠φ m.1) w:=Tr.drop w fun x hx=>hx.1
    refine OW.val (w':=w.alloc (.mapIter (some (φ m.1)) clock #[] clock)) hg hd hn (fun a ha=>by
     simp only [execOp,ho,ha.ev hx1,Sem.run_bind,zlf (ht.und _ _ hu) m1,Result.andThen_ok]
     rfl) ?_
    have hx:Ext z18 w (w.alloc (.mapIter (some (φ m.1)) clock #[] clock)):=Ext.alloc _ _ _
    have hl:z9m es.toList (#[]:Array Nat).toList=es.toList:=by simp [z9m]
    refine hk _ hw _ _ ⟨_,_,_,hd2.zsl (T:=2000000) (us:=[encI (φ m.1) clock (#[]:Array Nat).toList clock]) hf.2 (.inr (.inr ⟨by omega,φ m.1,clock,#[],clock,heap_alloc_new w _,rfl⟩)) hx (yn _)
     ⟨_,[],rfl,⟨φ m.1,#[],clock,es,rfl,⟨m1,m2,fun q=>q.2 rfl⟩,by rw [hl];exact m3.tr td,trivial⟩,rfl⟩ ⟨trivial,trivial⟩,fun y hy => .inr ⟨hs y hy,fun q => ?_⟩⟩
    have h3:=z.hB y hy
    rcases h.bF _ e e1 with h4|h4
    ·omega
    ·omega
   ·exact hw.elim
  ·exact hw.elim
 case h_6 =>
  rename_i x ho
  replace hw:=zf hw
  obtain ⟨d,hd,hw⟩:=hw
  rw [hd] at hn
  replace hw:=zf hw
  obtain ⟨u,h5,hw⟩:=hw
  split at hw
  ·rename_i b off
   replace hw:=zf hw
   obtain ⟨e,e1,hw⟩:=hw
   split at hw
   ·rename_i ky g cur rem hc
    split at hw
    ·rename_i hT
     rw [yb] at hT
     have hoff:=yl hT.1
     subst hoff
     have hT:=yl hT.2
     obtain ⟨xu,hx1,hx2⟩:=h.ev h5
     simp only [VR] at hx2
     subst hx2
     obtain ⟨_,us,i1,i2⟩:=h.box b e e1
     obtain ⟨mm,since,seen,last,i3,rfl⟩:=i1.iter (by omega)
     rw [hc] at i2
     obtain ⟨uu,us',j1,j2,j3⟩:=i2
     cases j3
     cases j1
     obtain ⟨m',seen',clock',es,j4,⟨j5,j6,j7⟩,j8,j9⟩:=j2
     obtain ⟨p1,p2,j10,p4⟩:=zh3 j4
     subst p1 p2 p4
     have j10:seen=seen':=yq.1 j10
     subst j10
     rcases zn5 (P:=C.P) (ty:=o.type) j5 i3 j6.1 with ⟨r1,r2⟩|⟨i,en,r1,w',r2,r3,r4⟩
     ·rw [r1] at j8
      have hrem:rem=[]:=by
       cases rem with
       | nil=>rfl
       | cons _ _=>exact j8.elim
      refine OW.val (v:=.tuple #[.bool false]) (w':=w) hg hd hn (fun a ha=>by
       simp only [execOp,ho,ha.ev hx1,yj,Sem.run_bind,r2,Result.andThen_ok]
       rfl) (hk _ (hw.1 hrem) _ _ ⟨_,_,_,h.zfk (v:=.tup [.bool false]) ⟨[.bool false],rfl,_,[],rfl,rfl,rfl⟩,hs⟩)
     ·obtain ⟨xx,r5,r6⟩:=j8.get r1
      have hT2:=h.zgc (e:=e) (us:=[encI mm last (seen.push en.born).toList last]) (cs:=[.md (.it ky g (some xx) (rem.eraseIdx i))]) e1 (by rw [hT];exact .inr (.inr ⟨by omega,mm,last,_,last,r3,rfl⟩)) r2
       ⟨_,[],rfl,⟨mm,seen.push en.born,last,es,rfl,⟨j5,j6,j7⟩,by rw [zis j6.2.1 r1];exact j8.erase i,en.born,en,by simp,find_born en _ j6.2.1 ?_,r6⟩,rfl⟩ (rfl:b=b)
      ·rw [hT] at hT2
       exact OW.val (v:=.tuple #[.bool true,en.key,en.val]) (w':=w') hg hd hn (fun a ha=>by
        simp only [execOp,ho,ha.ev hx1,yj,Sem.run_bind,r4,Result.andThen_ok]
        rfl) (hk _ (hw.2 i xx r5) _ _ ⟨_,_,_,hT2.zfk (v:=.tup [.bool true,.undef,.undef]) ⟨[.bool true,en.key,en.val],rfl,_,_,rfl,rfl,_,_,rfl,trivial,_,[],rfl,trivial,rfl⟩,hs⟩)
      ·have:=yg r1
       exact (List.mem_filter.1 this).1
    ·exact hw.elim
   ·exact hw.elim
  ·exact hw.elim
 case h_7 =>
  rename_i x ho
  replace hw:=zf hw
  obtain ⟨d,hd,hw⟩:=hw
  rw [hd] at hn
  replace hw:=zf hw
  obtain ⟨u,h5,hw⟩:=hw
  split at hw
  ·rename_i b off
   replace hw:=zf hw
   obtain ⟨e,e1,hw⟩:=hw
   split at hw
   ·rename_i ky g kd dd rem hc
    split at hw
    ·rename_i hT
     rw [yb] at hT
     have hoff:=yl hT.1
     subst hoff
     have hT:=yl hT.2
     replace hw:=zf hw
     obtain ⟨r,h12,hw⟩:=hw
     obtain ⟨xu,hx1,hx2⟩:=h.ev h5
     simp only [VR] at hx2
     subst hx2
     obtain ⟨_,us,i1,i2⟩:=h.box b e e1
     obtain ⟨mm,since,seen,last,i3,rfl⟩:=i1.iter (by omega)
     rw [hc] at i2
     obtain ⟨uu,us',j1,j2,j3⟩:=i2
     cases j3
     cases j1
     obtain ⟨m',seen',clock',es,j4,⟨j5,j6,j7⟩,j8,bb,en,j9,j11,kk,dd',j12,j13,j14,j15⟩:=j2
     obtain ⟨p1,p2,j10,p4⟩:=zh3 j4
     subst p1 p2 p4
     have j10:seen=seen':=yq.1 j10
     subst j10
     cases j12
     refine OW.val (v:=.tuple #[en.key,en.val]) (w':=w) hg hd hn (fun a ha=>by
      simp only [execOp,ho,ha.ev hx1,yj,Sem.run_bind,zlc j5 i3 j9 j11,Result.andThen_ok]
      rfl) (hk _ hw _ _ ⟨_,_,_,h.zfk (v:=.tup [ofD kd,r]) ⟨[en.key,en.val],rfl,_,_,rfl,zkq j14,_,[],rfl,zbl h12 j15,rfl⟩,hs⟩)
    ·exact hw.elim
   ·exact hw.elim
  ·exact hw.elim
 case h_8 =>
  rename_i c ho
  obtain ⟨cal,cargs,cty'⟩:=c
  simp only at hw
  split at hw
  ·rename_i x y t tr ea et
   split at hw
   ·rename_i hd
    split at hw
    ·rename_i kt et' hu
     replace hw:=zf hw
     obtain ⟨ky,h1,hw⟩:=hw
     replace hw:=zf hw
     obtain ⟨s,h2,hw⟩:=hw
     replace hw:=zf hw
     obtain ⟨u,h5,hw⟩:=hw
     replace hw:=zf hw
     obtain ⟨kv,h6,hw⟩:=hw
     replace hw:=zf hw
     obtain ⟨kd,h8,hw⟩:=hw
     replace hw:=zf hw
     obtain ⟨m,h10,hw⟩:=hw
     obtain ⟨l,h11,hw⟩:=hw
     cases h11
     have ea:cargs = #[x,y]:=by apply yq.1;simpa using ea
     subst ea
     obtain ⟨rfl,e,e1,e2,e3⟩:=z5d h10
     obtain ⟨td,h12,h13⟩:=ya.1 h1
     obtain ⟨xu,hx1,hx2⟩:=h.ev h5
     obtain ⟨yu,hy1,hy2⟩:=h.ev h6
     simp only [VR] at hx2
     subst hx2
     obtain ⟨es,clock,m1,m2,m3⟩:=h.z8k e1 e2 e3
     obtain ⟨q1,q2⟩:=toKey_ok h8 hy2
     have hkt:C.P.underlying kt=some (kdT ky):=by rw [ht.und _ _ h12,z8h h13]
     have h0:cty'[0]? = some t:=by rw [←Array.getElem?_toList,et];rfl
     obtain ⟨es',clock',w',r1,r2,r3,r4,r5⟩:=zj0 (ty:=o.type) (ht.und _ _ hu) hkt m1 m2 m3 q1 q2 h0
     have hT:=h.zgc (e:=e) (us:=[zm9 es'.toList]) (cs:=[.md (.cont ky s.1 (zbe m.2 kd))]) e1 (by rw [e3];exact .inr (.inl ⟨by omega,by omega,es',clock',r2,r3,rfl⟩)) r5 ⟨_,[],rfl,⟨_,rfl,r4⟩,rfl⟩ (rfl:m.1=m.1)
     rw [e3] at hT
     refine OW.zwc (v:=.tuple #[]) (w':=w') hg hd (fun a ha => ?_) (hk _ hw _ _ ⟨_,_,_,hT,hs⟩)
     simp [execOp,ho,resolve,invoke,builtin,ha.ev hx1,ha.ev hy1,r1]
    ·exact hw.elim
   ·exact hw.elim
  ·exact hw.elim
 case h_9=>exact hw.elim
set_option maxRecDepth 100000 in
theorem zjd {ds:List Deferred} {tb:Tb} {cty:List (Nat × List (Option (Nat × Nat)))} {ann:Ann} {con:Nat→CIn→z2u→Prop} {k:St→Prop} {kp:PV→St→Prop} (ht:TbOk C.P tb) (hg:o.guard=none) (hn:dOk n o.dst=true) (h:Rl z σ V w O φ α) (hs:∀ x,z.O x→O x)
  (hk:∀ s,k s→NX z C n ds ops rest K s) (hp:∀ v s,kp v s→z7d z C n ds v s)
  (hc:∀ c x vs f as cs,o.op = .call c→c.callee = .value x→σ.evs c.args.toList=some vs→σ.ev x=some (.fn f as cs)→zcl con σ f (as++vs++cs) (fun v σ=>k (σ.put o.dst v)) kp→OW C n ds ops (o::rest) K V w)
  (hw:act tb cty ann con σ o k kp):OW C n ds ops (o::rest) K V w:=by
 unfold act at hw
 split at hw
 case h_1 =>
  rename_i T ho
  replace hw:=zf hw
  obtain ⟨d,hd,hw⟩:=hw
  replace hw:=zf hw
  obtain ⟨zz,h1,hw⟩:=hw
  split at hw
  ·rename_i hb
   rw [yb] at hb
   obtain ⟨hb,hT⟩:=hb
   have hT:T<1000000:=by simpa [yk] using hT
   rw [hd] at hn
   have hz:=zev (w:=w) (O:=O) (φ:=φ) (α:=α) zz
   refine OW.alloc hg hd hn ho (ht.zer _ _ h1) (cs:=zz.cells.toList) (by simp) fun b w' hbx x hsz => ?_
   have hnew:=h.zsl (d:=d) hb (.inl ⟨hT,hbx⟩) x hsz hz (zdx (zkr zz))
   split at hw
   ·exact hk _ hw _ _ ⟨_,_,_,hnew,fun y hy => .inr (hs y hy)⟩
   ·obtain ⟨s,α',k1,k2⟩:=zi6 hnew hw
    exact hk _ k2 _ _ ⟨_,_,_,k1,fun y hy => .inr (hs y hy)⟩
  ·exact hw.elim
 case h_2 =>
  rename_i T x ho
  replace hw:=zf hw
  obtain ⟨d,hd,hw⟩:=hw
  replace hw:=zf hw
  obtain ⟨v,h1,hw⟩:=hw
  split at hw
  ·replace hw:=zf hw
   obtain ⟨ds',hds,hw⟩:=hw
   split at hw
   ·rename_i hb
    rw [hd] at hn
    obtain ⟨u,h2,h3⟩:=h.ev h1
    have hz:=h3.cells (by simpa using hb)
    have hrd:=toDs_ok hds hz
    refine OW.box hg hd hn ho h2 (cs:=u.cells.toList) (by simp) fun b w' hbx x hsz => ?_
    have k4:=h.zes x
    have t:Tr O w O w':=Tr.z3r x fun _ _ hh=>hh.elim
    have hnb:¬O b:=fun hO=>by have:=h.bd b hO;omega
    refine hk _ hw _ _ ⟨_,_,_,k4.zfk (v:=.zn ds' 0) ⟨b,0,by simp,u.cells.toList,(RDs.len hrd),⟨hnb,_,_,_,hbx,fun j y hj=>by simpa using hj⟩,hrd.tr t⟩,hs⟩
   ·exact hw.elim
  split at hw
  ·rename_i hb
   simp only [yb] at hb
   obtain ⟨hb,hT⟩:=hb
   have hT:T<1000000:=by simpa [yk] using hT
   rw [hd] at hn
   obtain ⟨u,h2,h3⟩:=h.ev h1
   have hz:=h3.cells (by simpa using hb.2)
   refine OW.box hg hd hn ho h2 (cs:=u.cells.toList) (by simp) fun b w' hbx x hsz => ?_
   exact hk _ hw _ _ ⟨_,_,_,h.zsl hb.1 (.inl ⟨hT,hbx⟩) x hsz hz (zdx (zry (z7q hb.1).2.1 h1)),fun y hy => .inr (hs y hy)⟩
  ·exact hw.elim
 case h_3 =>
  rename_i T x y ho
  split at hw
  ·rename_i hd
   replace hw:=zf hw
   obtain ⟨⟨g,m⟩,h1,hw⟩:=hw
   split at hw
   ·rename_i d hro
    obtain rfl:_=Operand.tmp d:=zl7 hro
    replace hw:=zf hw
    obtain ⟨v0,_,hw⟩:=hw
    replace hw:=zf hw
    obtain ⟨σ',h6,hw⟩:=hw
    obtain ⟨k1,k2,_,_⟩:=z1l _ h hs h6
    replace hw:=zf hw
    obtain ⟨u,h2,hw⟩:=hw
    replace hw:=zf hw
    obtain ⟨v,h3,hw⟩:=hw
    obtain ⟨a,h4,h5⟩:=k1.env d u h2
    split at hw
    ·rename_i b off
     replace hw:=zf hw
     obtain ⟨e,h7,hw⟩:=hw
     replace hw:=zf hw
     obtain ⟨ds,h8,hw⟩:=hw
     obtain ⟨h7,h7T⟩:=z5o h7
     split at hw
     ·rename_i hb
      simp only [yb] at hb
      obtain ⟨⟨⟨⟨⟨hb1,hb2⟩,hb3⟩,hb4⟩,hb5⟩,hb6⟩:=hb
      have hb1:=yl hb1
      have hb2:=ym hb2
      have hb3:=yl hb3
      have hb4:=yl hb4
      subst hb1
      obtain ⟨c,h9,h10⟩:=k1.ev h3
      have hu:z3k v=false:=by
       cases v<;>first|rfl|(simp [cellsOf,zj9] at hb5)
      have h11:=h10.cells hu
      have l11:=VRs.len h11
      have h12:=toDs_ok h8 h11
      have l12:=RDs.len h12
      obtain ⟨hOb,us,h13,h14⟩:=k1.box b e h7
      have h13:=h13.un h7T
      have l14:=VRs.len h14
      simp only [VR] at h5
      subst h5
      refine OW.store hg hd ho (ht.shp _ _ h1) h4 h9 (vs:=c.cells.toList) (by simp) (by omega) h13 (by rw [Nat.ble_eq];omega) (VRs.ziw h11 hb5) rfl fun w' hbx x => ?_
      have ecs:us.take 0++c.cells.toList++us.drop (0+m)=c.cells.toList:=by
       rw [List.drop_eq_nil_of_le (by omega)]
       simp
      rw [l11,hb4,ecs] at hbx
      have t:Tr _ w _ w':=Tr.z3r (O:=z81 O α (lk σ.A) (z8p v0)) x fun y _ hy=>by cases hy;exact hOb
      have T1:=k1.zgc h7 (.inl ⟨h7T,hbx⟩) x h11 (rfl:b=b)
      have T2:=T1.zrw (b:=b) (e:=⟨e.T,cellsOf v⟩) (zc6 h7)
      have hz:∀ y,z.O y→y≠φ b:=fun y hy q=>by
       have h3:=z.hB y hy
       rcases k1.bF _ _ h7 with h4|h4
       ·omega
       ·omega
      simp only [St.zs5,yb,List.all_eq_true] at hb6
      refine hk _ hw _ _ ⟨_,φ,α,⟨fun tt vv hv => ?_,fun bb ee he=>T2.box bb ee (z6d he),T2.arr,fun p q e1 e2 h1 h2=>T2.bb p q e1 e2 (z6d h1) (z6d h2),T2.aa,fun a p e1 e2 h1 h2=>T2.ab a p e1 e2 h1 (z6d h2),fun p e1 h1=>T2.bF p e1 (z6d h1),T2.aF,T2.bd,T2.ext,T2.only,T2.gl,T2.keep⟩,fun y hy=>⟨k2 y hy,hz y hy⟩⟩
      rcases z2w hv with ⟨rfl,rfl⟩|⟨hne,hv⟩
      ·refine ⟨_,h4,φ b,0,rfl,c.cells.toList,by rw [RDs.len h12],⟨fun hh=>hh.2 rfl,_,_,_,hbx,fun j y hj=>by simpa using hj⟩,?_⟩
       exact (h12.tr t).tr (Tr.drop w' fun y hy=>hy.1)
      ·exact T2.env tt vv hv
     ·exact hw.elim
    ·exact hw.elim
   replace hw:=zf hw
   obtain ⟨u,h2,hw⟩:=hw
   replace hw:=zf hw
   obtain ⟨v,h3,hw⟩:=hw
   obtain ⟨a,h4,h5⟩:=h.ev h2
   split at hw
   ·rename_i b off
    replace hw:=zf hw
    obtain ⟨e,h6,hw⟩:=hw
    obtain ⟨h6,h6T⟩:=z5o h6
    replace hw:=zf hw
    obtain ⟨cs2,hcs,hw⟩:=hw
    unfold stC at hcs
    split at hcs
    ·rename_i hb
     cases hcs
     simp only [yb] at hb
     obtain ⟨⟨hb1,hb2⟩,hb3⟩:=hb
     have hb1:=yl hb1
     have hb2:=ym hb2
     obtain ⟨c,h7,h8⟩:=h.ev h3
     have hu:z3k v=false:=by
      cases v<;>first|rfl|(simp [cellsOf,zj9] at hb3)
     have h9:=h8.cells hu
     have l9:=VRs.len h9
     obtain ⟨_,us,h10,h11⟩:=h.box b e h6
     have h10:=h10.un h6T
     have l11:=VRs.len h11
     simp only [VR] at h5
     subst h5
     refine OW.store hg hd ho (ht.shp _ _ h1) h4 h7 (vs:=c.cells.toList) (by simp) (by omega) h10 (by rw [Nat.ble_eq];omega) (VRs.ziw h9 hb3) rfl fun w' hbx x => ?_
     refine hk _ hw _ _ ⟨_,_,_,h.zgc h6 (.inl ⟨h6T,hbx⟩) x ?_ (rfl:b=b),hs⟩
     rw [l9,hb1]
     exact ((VRs.take off h11).append h9).append (VRs.drop _ h11)
    ·cases hcs
   ·rename_i ak am ai
    replace hw:=zf hw
    obtain ⟨σ',h6,hw⟩:=hw
    replace hw:=zf hw
    obtain ⟨e,h7,hw⟩:=hw
    replace hw:=zf hw
    obtain ⟨v',h8,hw⟩:=hw
    replace hw:=zf hw
    obtain ⟨ds,h9,hw⟩:=hw
    split at hw
    ·rename_i hb
     simp only [yb] at hb
     obtain ⟨⟨⟨hb1,hb2⟩,hb3⟩,hb4⟩:=hb
     have hb1:=yl hb1
     have hb2:=yl hb2
     have hb3:=yl hb3
     obtain ⟨l,h10,hw⟩:=hw
     obtain ⟨k1,k2,k3,_⟩:=z1l _ h hs h6
     obtain ⟨c,h11,h12⟩:=k1.ev h8
     have hu:z3k v'=false:=by
      cases v'<;>first|rfl|(simp [cellsOf,zj9] at hb4)
     have h13:=h12.cells hu
     have h14:=toDs_ok h9 h13
     have l14:=RDs.len h14
     obtain ⟨b,len,cap,j,h15,h16,h17⟩:=h5
     have hjl:l=e.l.set j ds∧j<e.l.length:=by
      refine ⟨zlh h10 h16,?_⟩
      unfold Go.Lk.ztt at h10
      split at h10
      ·omega
      ·cases h10
     obtain ⟨rfl,hj⟩:=hjl
     have h7U:=z4u h7
     have h7:=h7U.1
     subst hb3
     rcases h7U.2 with h7T|h7T
     case inr =>
      have ho':=(k1.arr ak e h7).mk_ h7T
      exact OW.zt6 (m:=e.n) (b:=b) (j:=j) hg hd ho (by rw [←hb2];exact ht.shp _ _ h1) (by rw [h4,h17];simp) h11 (vs:=c.cells.toList) (by simp) (by omega) h15 ho' hj (VRs.ziw h13 hb4) h14 fun w' hown x =>
       hk _ hw _ _ ⟨_,_,_,k1.zor h7 (.inr (.inr ⟨h7T,hown⟩)) x,k2⟩
     have ho':=(k1.arr ak e h7).un h7T
     refine OW.zt5 (f:=id) (l:=e.l) (a:=ds) (m:=e.n) (b:=b) (q:=0) (j:=j) hg hd ho (by rw [←hb2];exact ht.shp _ _ h1) (by rw [h4,h17];simp) h11 (vs:=c.cells.toList) (by simp) (by omega) h15 (by simpa using ho') hj (VRs.ziw h13 hb4) h14 fun w' hown x => ?_
     exact hk _ hw _ _ ⟨_,_,_,k1.zor h7 (.inl ⟨h7T,by simpa using hown⟩) x,k2⟩
    ·exact hw.elim
   ·exact hw.elim
  ·exact hw.elim
 case h_4 =>
  rename_i t len parts ho
  replace hw:=zf hw
  obtain ⟨d,hd,hw⟩:=hw
  rw [hd] at hn
  split at hw
  ·rename_i e he
   replace hw:=zf hw
   obtain ⟨us0,_,hw⟩:=hw
   replace hw:=zf hw
   obtain ⟨σ',h2,hw⟩:=hw
   replace hw:=zf hw
   obtain ⟨us,h3,hw⟩:=hw
   replace hw:=zf hw
   obtain ⟨⟨g,m⟩,h4,hw⟩:=hw
   replace hw:=zf hw
   obtain ⟨zz,h5,hw⟩:=hw
   replace hw:=zf hw
   obtain ⟨ds,h6,hw⟩:=hw
   split at hw
   ·rename_i hb
    simp only [yb] at hb
    obtain ⟨⟨⟨⟨⟨⟨b1,b2⟩,b3⟩,b4⟩,b5⟩,b6⟩,b7⟩:=hb
    have b2:=yl b2
    have b3:=yl b3
    have b5:=ym b5
    obtain ⟨k1,k2,k3,_⟩:=z1l _ h hs h2
    obtain ⟨xs,h7,h8⟩:=k1.evs h3
    have l8:=VRs.len h8
    have lp:parts.toList.length=us.length:=by
     have:∀ {l:List Operand} {r:List PV},σ'.evs l=some r→r.length=l.length:=by
      intro l
      induction l with
      | nil=>intro r hr;cases hr;rfl
      | cons q l ih =>
       intro r hr
       unfold St.evs at hr
       split at hr
       ·rename_i hq2
        cases hr
        simp [ih hq2]
       ·cases hr
     simpa using (this h3).symm
    obtain ⟨cs,h9,h10,h11,h12⟩:=zbv b1 (by simpa using lp) h8 b6 h6 b7
    have lz:((parts.toList.map (·.1)).zip xs).length=len:=by
     rw [List.length_zip,List.length_map,l8,lp]
     omega
    have hml:len≤maxLen:=by unfold maxLen;omega
    have hd12:ds.length=len:=by omega
    refine OW.buildSlice hg hd hn ho (ht.und _ _ he) (ht.shp _ _ h4) (ht.zer _ _ h5) b3 (zdm h7) h9 lz b4 fun b w' hbx x hsz => ?_
    split at hw
    ·split at hw
     ·rename_i hf
      rw [yb] at hf
      exact hk _ hw _ _ ⟨_,_,_,k1.zum (by simpa [yk] using hf.2) hf.1 hbx x hsz hd12 hml (by rw [h11,b2]) h10,fun y hy => .inr (k2 y hy)⟩
     ·exact hw.elim
    ·have k4:=k1.zes x
     have t:Tr _ w _ w':=Tr.z3r (O:=z81 O α (lk σ.A) (z8p.go us0)) x fun _ _ hh=>hh.elim
     exact hk _ hw _ _ ⟨_,_,_,k4.zfk (v:=.sl e m ds) (RD.z6m hbx k1.bd hsz hd12 hml (by rw [h11,b2]) (h10.tr t)),k2⟩
   ·exact hw.elim
  ·exact hw.elim
 case h_5 =>
  rename_i x ho
  replace hw:=zf hw
  obtain ⟨v,h1,hw⟩:=hw
  split at hw
  ·obtain ⟨u,h2,h3⟩:=h.ev h1
   have h4:=h3
   obtain ⟨y,rfl,_⟩:=h4
   exact OW.zw5 hg ho h2 fun a ha hda=>hp _ _ hw _ _ _ _ _ _ _ _ h hs h3 a ha hda
  ·exact hw.elim
 case h_6 =>
  rename_i s t x ho
  replace hw:=zf hw
  obtain ⟨d,hd,hw⟩:=hw
  rw [hd] at hn
  replace hw:=zf hw
  obtain ⟨v,h1,hw⟩:=hw
  obtain ⟨u,h2,h3⟩:=h.ev h1
  split at hw
  ·rename_i e e1 e2
   split at hw
   ·rename_i e3
    obtain ⟨c1,c2⟩:=za0 hw
    simp only [VR] at h3
    subst h3
    split at c2
    ·split at c2
     ·rename_i hf
      refine OW.toBytesM (O:=O) hg hd hn ho (ht.und _ _ e1) (ht.und _ _ e2) (ht.und _ _ e3) h2 c1 fun v' w' x hb hsz hr => ?_
      have t:Tr O w (Ins O w.heap.size) w':=Tr.z6m x (fun _ _ hh=>hh.elim) (yn _)
      refine hk _ c2 _ _ ⟨_,_,_,h.zq0 (e:=⟨true,e+2000000,1,zj5 _⟩) hf x t (fun y hy => .inr hy) (fun y hy => ?_) (fun y hy => ?_) (fun _ _ _ hh=>hh) (fun _ _ _ _ _ hh=>hh) (fun _ hh=>hh.elim) (.inr (.inr ⟨Nat.le_add_left _ _,?_⟩)) (fun y hy => ?_) (fun y hy => ?_),fun y hy => .inr (hs y hy)⟩
      ·rcases hy with rfl|hy
       ·omega
       ·have:=h.bd y hy;omega
      ·rcases hy with rfl|hy
       ·exact .inr (yn _)
       ·exact .inl hy
      ·rw [yi]
       exact hr _ (.inl rfl)
      ·rw [hb] at hy
       cases hy
       exact .inr (yn _)
      ·rw [hb] at hy
       cases hy
       exact .inr h.ext.size
     ·exact c2.elim
    ·refine OW.toBytes hg hd hn ho (ht.und _ _ e1) (ht.und _ _ e2) (ht.und _ _ e3) h2 h.bd c1 fun v' w' x hr => ?_
     exact hk _ c2 _ _ ⟨_,_,_,(h.zes x).zfk (v:=.sl e 1 (zj5 _)) hr,hs⟩
   ·exact hw.elim
  ·rename_i T l e e1 e2
   split at hw
   ·rename_i e3
    obtain ⟨str,c1,c2⟩:=hw
    obtain ⟨xs,rfl,rfl⟩:=zjs c1
    exact OW.toStr hg hd hn ho (ht.und _ _ e1) (ht.und _ _ e3) (ht.und _ _ e2) h2 h3 (hk _ c2 _ _ ⟨_,_,_,h.zfk (v:=.str _) rfl,hs⟩)
   ·exact hw.elim
  ·rename_i a e e1 e2
   replace hw:=zf hw
   obtain ⟨ar,h4,hw⟩:=hw
   split at hw
   ·rename_i e3 e4
    obtain ⟨str,c1,c2⟩:=hw
    obtain ⟨xs,c3,rfl⟩:=zjs c1
    obtain ⟨_,h5⟩:=(h.arr a ar (z4u h4).1).data (z4u h4).2
    rw [c3] at h5
    have hn1:=yl e4
    rw [hn1] at h5
    rw [←h3.1] at h5
    exact OW.toStr hg hd hn ho (ht.und _ _ e1) (ht.und _ _ e3) (ht.und _ _ e2) h2 h5 (hk _ c2 _ _ ⟨_,_,_,h.zfk (v:=.str _) rfl,hs⟩)
   ·exact hw.elim
  ·exact hw.elim
 case h_7 =>
  rename_i c ho
  obtain ⟨cal,cargs,cty'⟩:=c
  simp only at hw
  split at hw
  ·rename_i x y ea
   replace hw:=zf hw
   obtain ⟨d,hd,hw⟩:=hw
   rw [hd] at hn
   replace hw:=zf hw
   obtain ⟨u,h1,hw⟩:=hw
   replace hw:=zf hw
   obtain ⟨v0,_,hw⟩:=hw
   split at hw
   ·rename_i t t2 et
    have ea:cargs = #[x,y]:=by apply yq.1;simpa using ea
    have et:cty' = #[t,t2]:=by apply yq.1;simpa using et
    subst ea et
    split at hw
    ·rename_i e he
     replace hw:=zf hw
     obtain ⟨⟨iz,im,ib⟩,h2,hw⟩:=hw
     replace hw:=zf hw
     obtain ⟨σ',h3,hw⟩:=hw
     replace hw:=zf hw
     obtain ⟨v,h4,hw⟩:=hw
     replace hw:=zf hw
     obtain ⟨l2,h5,hw⟩:=hw
     split at hw
     ·rename_i hb
      simp only [yb] at hb
      obtain ⟨⟨b1,b2⟩,b3⟩:=hb
      have b1:=yl b1
      obtain ⟨k1,k2,k3,_⟩:=z1l _ h hs h3
      obtain ⟨uy,h6,h7⟩:=k1.ev h4
      obtain ⟨ux,h8,h9⟩:=h.ev h1
      -- the step itself
      have step:∀ l r,Own w (z81 O α (lk σ.A) (z8p v0)) e im ux l→Go.Lk.app ib l l2=some r →
        (∀ v' w' O',zot w (z81 O α (lk σ.A) (z8p v0)) e im ux w' O' v' r→OW C n ds ops rest K ((d,v')::V) w')→OW C n ds ops (o::rest) K V w:=by
       intro l r hown happ hnext
       obtain ⟨hr,hbig⟩:=zgx happ
       subst hr
       unfold apL at h5
       split at h5
       ·split at h5
        ·rename_i hq
         cases h5
         simp only [yb] at hq
         have q1:=yl hq.1
         have q2:=yl hq.2
         subst q1 q2
         exact OW.zji hg hd hn ho (ht.und _ _ he) (ht.inf _ _ h2) b1 b2 b3 h8 h6 hown k1.bd h7 hbig hnext
        ·cases h5
       ·split at h5
        ·rename_i hq
         cases h5
         have q1:=yl hq
         subst q1
         simp only [VR] at h7
         subst h7
         exact OW.zji hg hd hn ho (ht.und _ _ he) (ht.inf _ _ h2) b1 b2 b3 h8 h6 hown k1.bd (.inl ⟨⟨_,rfl⟩,rfl⟩) hbig hnext
        ·cases h5
       ·split at h5
        ·rename_i e5 e6
         cases h5
         cases e6
         simp only [VR] at h7
         subst h7
         refine OW.zp1 hg hd hn ho (ht.und _ _ he) (ht.und _ _ e5) (ht.inf _ _ h2) h8 h6 hown k1.bd (by simpa [zj5,unb] using hbig) fun v' w' O' hG=>hnext v' w' O' ?_
         have e7:∀ q:List UInt8,zj5 q=q.map z6a:=fun q=>by simp [zj5,unb,z6a,eI]
         rw [e7]
         exact hG
        ·cases h5
       ·cases h5
      split at hw
      ·split at hw
       ·rename_i hf
        rw [yb] at hf
        have hfT:e<1000000:=by simpa [yk] using hf.2
        have hf:=hf.1
        obtain ⟨r,c1,c2⟩:=hw
        simp only [VR] at h9
        subst h9
        refine step [] r (Own.nil _ _ _ _) c1 fun v' w' O' hG=>hk _ c2 _ _ ⟨_,_,_,k1.zq0 hf hG.ext hG.tr hG.more hG.bd hG.only (fun _ _ _ hh=>by simp [Value.ownBlock] at hh) (fun _ _ _ _ _ hh=>by simp [Value.ownBlock] at hh) (fun _ hh=>by simp [Value.ownBlock] at hh) (.inl ⟨hfT,hG.own⟩) hG.at_ (fun y hy => ?_),fun y hy=>hG.more y (k2 y hy)⟩
        rcases hG.at_ y hy with hh|hh
        ·simp [Value.ownBlock] at hh
        ·exact .inr (yo h.ext.size hh)
       ·exact hw.elim
      ·rename_i a
       split at hw
       ·rename_i ar h10M
        split at hw
        ·rename_i hf
         simp only [yb] at hf
         obtain ⟨⟨⟨f1,f2⟩,f3⟩,f4⟩:=hf
         have f2:=yl f2
         have f3:=yl f3
         obtain ⟨r,c1,c2⟩:=hw
         have h10:=(zhh h10M).1
         have h10T:=(zhh h10M).2
         have h11:=(k1.arr a ar h10).mk_ h10T
         have e9:=h9.1
         rw [f2,yi,f3,←e9] at h11
         obtain ⟨hr,hbig⟩:=zgx c1
         subst hr
         have k5:Rl z { σ' with A:=z65 a σ'.A } V w (z81 O α (lk σ.A) (z8p v0)) φ α:=k1.mono (Le.refl _) (Le.refl _) (fun t v hv=>(z2x hv).2)
         cases v<;>simp only [ztu,yc] at f4
         rename_i s
         unfold apL at h5
         simp only at h5
         split at h5
         ·rename_i e5 e6
          cases h5
          cases e6
          simp only [VR] at h7
          subst h7
          refine OW.zp0 hg hd hn ho (ht.und _ _ he) (ht.und _ _ e5) (ht.inf _ _ h2) h8 h6 h11 k1.bd (by simpa [zj5,unb] using hbig) fun v' w' O' hG=>hk _ c2 _ _ ⟨_,_,_,k5.zq0 (e:={ ar with l:=ar.l++zj5 s }) f1 hG.ext hG.tr hG.more hG.bd hG.only (fun b e' hb hh => ?_) (fun c e' hc y hy hh => ?_) (fun y hy => ?_) (.inr (.inr ⟨h10T,?_⟩)) hG.at_ (fun y hy => ?_),fun y hy=>hG.more y (k2 y hy)⟩
          ·rw [e9] at hh
           exact k1.ab a b ar e' h10 hb hh
          ·rw [e9] at hh
           obtain ⟨n1,hc⟩:=z2x hc
           exact k1.aa c a e' ar hc h10 n1 y hy hh
          ·rw [e9] at hy
           exact (k1.aF a ar h10 y hy).elim (fun q => .inl q.2) .inr
          ·have e7:∀ q:List UInt8,zj5 q=q.map z6a:=fun q=>by simp [zj5,unb,z6a,eI]
           rw [f2,yi,f3,e7]
           exact hG.own
          ·rcases hG.at_ y hy with hh|hh
           ·rw [e9] at hh
            exact k1.aF a ar h10 y hh
           ·exact .inr (yo h.ext.size hh)
         ·cases h5
        ·exact hw.elim
       replace hw:=zf hw
       obtain ⟨ar,h10,hw⟩:=hw
       split at hw
       ·rename_i hf
        simp only [yb] at hf
        obtain ⟨⟨f1,f2⟩,f3⟩:=hf
        have f2:=yl f2
        have f3:=yl f3
        obtain ⟨r,c1,c2⟩:=hw
        have h10U:=zhi h10
        have h10:=h10U.1
        have h11:=(k1.arr a ar h10).un h10U.2
        have e9:=h9.1
        subst f2 f3
        rw [←e9] at h11
        have k5:Rl z { σ' with A:=z65 a σ'.A } V w (z81 O α (lk σ.A) (z8p v0)) φ α:=k1.mono (Le.refl _) (Le.refl _) (fun t v hv=>(z2x hv).2)
        refine step ar.l r h11 c1 fun v' w' O' hG=>hk _ c2 _ _ ⟨_,_,_,k5.zq0 (e:={ ar with l:=r }) f1 hG.ext hG.tr hG.more hG.bd hG.only (fun b e' hb hh => ?_) (fun c e' hc y hy hh => ?_) (fun y hy => ?_) (.inl ⟨h10U.2,hG.own⟩) hG.at_ (fun y hy => ?_),fun y hy=>hG.more y (k2 y hy)⟩
        ·rw [e9] at hh
         exact k1.ab a b ar e' h10 hb hh
        ·rw [e9] at hh
         obtain ⟨n1,hc⟩:=z2x hc
         exact k1.aa c a e' ar hc h10 n1 y hy hh
        ·rw [e9] at hy
         exact (k1.aF a ar h10 y hy).elim (fun q => .inl q.2) .inr
        ·rcases hG.at_ y hy with hh|hh
         ·rw [e9] at hh
          exact k1.aF a ar h10 y hh
         ·exact .inr (yo h.ext.size hh)
       ·exact hw.elim
      ·exact hw.elim
     ·exact hw.elim
    ·exact hw.elim
   ·exact hw.elim
  ·rename_i x
   replace hw:=zf hw
   obtain ⟨vs,h1,hw⟩:=hw
   split at hw
   ·rename_i f as cs hx
    exact hc _ _ _ _ _ _ ho rfl h1 hx hw
   ·exact hw.elim
  ·exact zbk ht hg hn h hs hk hw
 case h_8=>exact zbk ht hg hn h hs hk hw
end
end Go.Pe
