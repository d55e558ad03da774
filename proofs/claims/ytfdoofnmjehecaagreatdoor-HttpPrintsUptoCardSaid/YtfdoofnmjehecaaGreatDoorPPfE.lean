import Derived.Test.YtfdoofnmjehecaaGreatDoorPPfS6
import Derived.Test.YtfdoofnmjehecaaGreatDoorPLmH
set_option linter.all false
section
namespace Go.Pe
open _root_.Option renaming map_eq_some_iff → ya
open _root_.Bool renaming and_eq_true → yb
open _root_.List renaming toArray → yc
open _root_.Nat renaming beq → yd, eq_of_beq_eq_true → ye
open _root_.Array renaming toList_inj → yf
open Go.RowKit Go.Lk

def zfl (t b:Nat):PV→PV
 | .ptr x off=>match yd x b with
  | true => .ptr t off
  | false => .ptr x off
 | .z0m x=>match yd x b with
  | true => .z0m t
  | false => .z0m x
 | .mp x=>match yd x b with
  | true => .mp t
  | false => .mp x
 | .agg cs => .agg (go cs)
 | .tup cs => .tup (go cs)
 | .iface T v => .iface T (zfl t b v)
 | .fn f a c => .fn f (go a) (go c)
 | v=>v
where
 go:List PV→List PV
  | []=>[]
  | v::vs=>zfl t b v::go vs
def St.zpc (σ:St) (t:Nat):Bool:=(lk σ.B t).isNone&&σ.L.all (fun p=>noK (some t) none p.2)&&σ.B.all (fun p=>z8t (some t) none p.2.cs)&&Nat.blt t 1000
def St.zl5 (σ:St) (t b:Nat):Option St:=match lk σ.B b,σ.zpc t with
 | some e,true=>some { σ with L:=σ.L.map fun p=>(p.1,zfl t b p.2),B:=(t,⟨e.T,zfl.go t b e.cs⟩)::(z65 b σ.B).map fun p=>(p.1,⟨p.2.T,zfl.go t b p.2.cs⟩) }
 | _,_=>none
def St.zsz (σ:St) (f b:Nat):Option St:=match yd f NF with
 | true=>none
 | false=>σ.zl5 999 b
theorem zaw {σ s:St} {f b:Nat} (h:σ.zsz f b=some s):yd f NF=false∧σ.zl5 999 b=some s:=by
 unfold St.zsz at h
 split at h
 ·cases h
 ·exact ⟨by assumption,h⟩
def zua:Code→Option (Operand × Option Operand)
 | .region _ ops false=>match ops.toList with
  | [o]=>match o.op,o.guard,o.dst with
   | .defer c,none,none=>match c.callee,c.args.toList with
    | .value x,[y]=>some (x,some y)
    | .value x,[]=>some (x,none)
    | _,_=>none
   | _,_,_=>none
  | _=>none
 | _=>none
def ztf:Code→Option (Oper × Nat × Operand)
 | .region _ ops false=>match ops.toList with
  | [m,o]=>match m.op,m.guard,m.dst,o.op,o.guard,o.dst with
   | .makeFunc _ _ _,none,some d,.defer c,none,none=>match c.callee,c.args.toList with
    | .value x,[]=>some (m,d,x)
    | _,_=>none
   | _,_,_,_,_,_=>none
  | _=>none
 | _=>none
def exD (tb:Tb) (cty:List (Nat × List (Option (Nat × Nat)))) (ann:Ann) (con:Nat→CIn→z2u→Prop) (k:z61→St→Prop) (kD:Nat→z61→St→Prop):Code→St→Prop
 | .seq a b,σ=>match zua a with
  | some (x,some y)=>match σ.ev x,σ.ev y with
   | some (.fn f [] []),some (.ptr bx 0)=>wt (σ.zsz f bx) fun s=>ex tb cty ann con b s (kD f)
   | _,_=>False
  | some (x,none)=>match σ.ev x with
   | some (.fn f [] [.ptr bx 0])=>wt (σ.zsz f bx) fun s=>ex tb cty ann con b s (kD f)
   | _=>False
  | none=>match ztf a with
   | some (m,d,x)=>qop tb σ m.op fun v=>(σ.put (some d) v).go fun σ=>match σ.ev x with
    | some (.fn f [] [.ptr bx 0])=>wt (σ.zsz f bx) fun s=>ex tb cty ann con b s (kD f)
    | _=>False
   | none=>ex tb cty ann con a σ (z68 (fun s=>exD tb cty ann con k kD b s) k)
 | _,_=>False
section
variable {z:W0} {V:Env} {w:World} {O:Nat→Prop} {φ:Nat→Nat} {α:Nat→Value} {σ:St} {C:Cx} {n:Nat} {G:GI} {con:Nat→CIn→z2u→Prop} {tb:Tb} {cty:List (Nat × List (Option (Nat × Nat)))} {ann:Ann}
mutual
theorem zgj {t9 b:Nat}:∀ (v:PV) (u:Value),z3h (fun x=>x≠t9) (fun _=>True) v→VR w O φ α v u→VR w O (ren φ t9 (φ b)) α (zfl t9 b v) u
 | .int k n,u,_,h=>h
 | .bool b,u,_,h=>h
 | .str s,u,_,h=>h
 | .sl T n l,u,_,h=>h
 | .nil,u,_,h=>h
 | .zan,u,_,h=>h
 | .zb7,u,_,h=>h
 | .undef,u,_,h=>trivial
 | .gone,u,_,h=>h
 | .err _,u,_,h=>h
 | .zn cs off,u,_,h=>h
 | .z8y x m i off,u,k,h=>h
 | .ref a,u,k,h=>h
 | .ptr x off,u,k,h=>by
  have k:x≠t9:=k
  unfold zfl
  split
  ·rename_i e
   have e:=ye e
   subst e
   simp only [VR] at h ⊢
   simpa [ren] using h
  ·simp only [VR] at h ⊢
   simpa [ren,k] using h
 | .z0m x,u,k,h=>by
  have k:x≠t9:=k
  unfold zfl
  split
  ·rename_i e
   have e:=ye e
   subst e
   simp only [VR] at h ⊢
   simpa [ren] using h
  ·simp only [VR] at h ⊢
   simpa [ren,k] using h
 | .mp x,u,k,h=>by
  have k:x≠t9:=k
  unfold zfl
  split
  ·rename_i e
   have e:=ye e
   subst e
   simp only [VR] at h ⊢
   simpa [ren] using h
  ·simp only [VR] at h ⊢
   simpa [ren,k] using h
 | .md _,u,_,h=>h
 | .agg cs,u,k,h=>by
  obtain ⟨us,h1,h2⟩:=h
  exact ⟨us,h1,z5r cs us k h2⟩
 | .tup cs,u,k,h=>by
  obtain ⟨us,h1,h2⟩:=h
  exact ⟨us,h1,z5r cs us k h2⟩
 | .iface T v,u,k,h=>by
  obtain ⟨x,h1,h2⟩:=h
  exact ⟨x,h1,zgj v x k h2⟩
 | .fn f as' cs,u,k,h=>by
  obtain ⟨us,vs,h1,h2,h3⟩:=h
  exact ⟨us,vs,h1,z5r as' us k.1 h2,z5r cs vs k.2 h3⟩
theorem z5r {t9 b:Nat}:∀ (vs:List PV) (us:List Value),z3h.go (fun x=>x≠t9) (fun _=>True) vs→VRs w O φ α vs us→VRs w O (ren φ t9 (φ b)) α (zfl.go t9 b vs) us
 | [],us,_,h=>h
 | v::vs,us,k,h=>by
  obtain ⟨u,us',h1,h2,h3⟩:=h
  exact ⟨u,us',h1,zgj v u k.1 h2,z5r vs us' k.2 h3⟩
end
theorem Rel.zl5 {σ':St} {t9 b:Nat} (h:Rl z σ V w O φ α) (e:σ.zl5 t9 b=some σ'):Rl { z with φ0:=ren z.φ0 t9 (φ b) } σ' V w O (ren φ t9 (φ b)) α:=by
 unfold St.zl5 at e
 split at e
 ·rename_i eb hb hf
  cases e
  simp only [St.zpc,yb,List.all_eq_true] at hf
  obtain ⟨⟨⟨f1,f2⟩,f3⟩,f4⟩:=hf
  have f4:t9<1000:=by simpa [Nat.blt_eq] using f4
  have kL:∀ t v,lk σ.L t=some v→z3h (fun x=>x≠t9) (fun _=>True) v:=fun t v hv=>noK.b (x:=0) (f2 _ (zal hv))
  have kB:∀ b e,lk σ.B b=some e→z3h.go (fun x=>x≠t9) (fun _=>True) e.cs:=fun b e he=>z8t.b (f3 _ (zal he))
  have n9:∀ x e,lk σ.B x=some e→x≠t9:=fun x e he hx=>by
   subst hx
   rw [he] at f1
   cases f1
  have e9:ren φ t9 (φ b) t9=φ b:=by simp [ren]
  have eo:∀ x,x≠t9→ren φ t9 (φ b) x=φ x:=fun x hx=>by simp [ren,hx]
  have get:∀ x e,lk ((t9,(⟨eb.T,zfl.go t9 b eb.cs⟩:Bx))::(z65 b σ.B).map fun p=>(p.1,(⟨p.2.T,zfl.go t9 b p.2.cs⟩:Bx))) x=some e →
    (x=t9∧e=⟨eb.T,zfl.go t9 b eb.cs⟩)∨(x≠t9∧x≠b∧∃ e0,lk σ.B x=some e0∧e=⟨e0.T,zfl.go t9 b e0.cs⟩):=fun x e he=>by
   rcases z2w he with h1|⟨h1,h2⟩
   ·exact .inl h1
   ·have h3:(lk (z65 b σ.B) x).map (fun y:Bx=>(⟨y.T,zfl.go t9 b y.cs⟩:Bx))=some e:=(zc5 (fun y:Bx=>(⟨y.T,zfl.go t9 b y.cs⟩:Bx)) (z65 b σ.B) x).symm.trans h2
    obtain ⟨e0,h4,h5⟩:=ya.1 h3
    obtain ⟨h6,h7⟩:=z2x h4
    exact .inr ⟨h1,h6,e0,h7,h5.symm⟩
  refine ⟨fun t v hv => ?_,fun x e he => ?_,h.arr,fun x y e e' he he' hn => ?_,h.aa,fun a x e e' ha he => ?_,fun x e he => ?_,h.aF,h.bd,h.ext,h.only,h.gl,fun x hx => ?_⟩
  ·simp only at hv
   rw [zc5] at hv
   obtain ⟨v0,h1,rfl⟩:=ya.1 hv
   obtain ⟨u,h2,h3⟩:=h.env t v0 h1
   exact ⟨u,h2,zgj v0 u (kL t v0 h1) h3⟩
  ·rcases get x e he with ⟨rfl,rfl⟩|⟨h1,h2,e0,h3,rfl⟩
   ·rw [e9]
    obtain ⟨k1,us,k2,k3⟩:=h.box b eb hb
    exact ⟨k1,us,k2,z5r _ _ (kB b eb hb) k3⟩
   ·rw [eo x h1]
    obtain ⟨k1,us,k2,k3⟩:=h.box x e0 h3
    exact ⟨k1,us,k2,z5r _ _ (kB x e0 h3) k3⟩
  ·rcases get x e he with ⟨rfl,rfl⟩|⟨h1,h2,e0,h3,rfl⟩<;>rcases get y e' he' with ⟨rfl,rfl⟩|⟨h1',h2',e0',h3',rfl⟩
   ·exact (hn rfl).elim
   ·rw [e9,eo y h1'];exact h.bb b y eb e0' hb h3' (Ne.symm h2')
   ·rw [e9,eo x h1];exact h.bb x b e0 eb h3 hb h2
   ·rw [eo x h1,eo y h1'];exact h.bb x y e0 e0' h3 h3' hn
  ·rcases get x e' he with ⟨rfl,rfl⟩|⟨h1,h2,e0,h3,rfl⟩
   ·rw [e9];exact h.ab a b e eb ha hb
   ·rw [eo x h1];exact h.ab a x e e0 ha h3
  ·rcases get x e he with ⟨rfl,rfl⟩|⟨h1,h2,e0,h3,rfl⟩
   ·rw [e9]
    rcases h.bF b eb hb with ⟨_,k⟩|k
    ·exact .inl ⟨f4,k⟩
    ·exact .inr k
   ·rw [eo x h1];exact h.bF x e0 h3
  ·show ren φ t9 (φ b) x=ren z.φ0 t9 (φ b) x
   by_cases hx9:x=t9
   ·subst hx9;simp [ren]
   ·simp only [ren,hx9,if_false];exact h.keep x hx
 ·cases e
def zp8 (cl:Bool) (g:Nat):List Value:=match cl with
 | true=>[Value.pointer (some ⟨g,0,none⟩)]
 | false=>[]
def zp7 (cl:Bool) (g:Nat):List Value:=match cl with
 | true=>[]
 | false=>[Value.pointer (some ⟨g,0,none⟩)]
def zte (cl:Bool) (f g:Nat):Deferred:={ target:=.fn (.func f) (zp8 cl g).toArray,args:=(zp7 cl g).toArray }
theorem TW.zo7 {C:Cx} {n:Nat} {ds:List Deferred} {k:List Item} {L:Env} {w:World} {id:Nat} {m o:Oper} {dm:Nat} {v:Value} {x:Operand} {xs:Array Operand} {ts:Array TypeId} {g:FuncId} {vs z56:List Value} (hmg:m.guard=none) (hmd:m.dst=some dm) (hmn:Nat.blt dm n=true) (hmr:EX C n L w m v)
  (hg:o.guard=none) (hd:o.dst=none) (ho:o.op = .defer { callee:=.value x,args:=xs,argTypes:=ts })
  (hx:Lk.ev ((dm,v)::L) x=some (.func (.func g) #[] z56.toArray)) (hxs:Lk.evs ((dm,v)::L) xs.toList=some vs) (h:TW C n ({ target:=.fn (.func g) z56.toArray,args:=vs.toArray }::ds) k ((dm,v)::L) w):TW C n ds (.code (.region id [m,o].toArray false)::k) L w:=fun a0 ha0 hds0 cs=>by
 have h':wpList C.P [m,o].toArray (QT C ({ target:=.fn (.func g) z56.toArray,args:=vs.toArray }::ds) (TWa C k)) [m,o] a0 w :=
  wpList_plain hmg fun K hK=>by
   unfold Oper.wp
   rw [hmr a0 ha0,Oper.upon_value,hmd]
   refine hK _ _ ?_
   have ha:=ha0.put (d:=dm) (v:=v) (by simpa [Nat.blt_eq] using hmn)
   have hds:(a0.put (some dm) v).defers=ds:=by simpa [Act.put] using hds0
   have e1:xs.map (a0.put (some dm) v).eval=vs.toArray:=by apply yf.1;simpa using ha.evs hxs
   have hrun:(execOp (a0.put (some dm) v).eval o).run C.P w = .ok (.defer { target:=.fn (.func g) z56.toArray,args:=vs.toArray }) w:=by
    simp [execOp,ho,resolve,ha.ev hx,e1,Deferred.ofValue]
   exact wpList_plain hg fun K hK=>by
    unfold Oper.wp
    rw [hrun]
    simp only [Oper.upon,hd,Act.put]
    refine hK _ _ ⟨?_,h _ ⟨ha.size,ha.get⟩ ?_⟩<;>simp [hds0]
 have h2:wpOps C.P [m,o].toArray (QT C ({ target:=.fn (.func g) z56.toArray,args:=vs.toArray }::ds) (TWa C k)) (List.range [m,o].toArray.size) a0 w:=by
  rw [List.range_eq_range',←Array.length_toList,wpOps_eq_wpList [m,o].toArray.toList 0 (by simp)];exact h'
 exact (z5g h2 cs).of_steps (.one step_region)
theorem ze2 (ht:TbG C.P tb G) (hcon:∀ f i o,con f i o→Con C.P G f i o) (hz:∀ w O,z.G w O→G.p w O) {k:z61→St→Prop} {kD:Nat→z61→St→Prop}:∀ (c:Code) (σ:St) (todo:List Item),okC ann n c=true→z2n C.fn c=true→exD tb cty ann con k kD c σ→(∀ fl s,k fl s→fl ≠ .normal→FS z C n [] todo fl s) →
  (∀ cl f g fl s,kD f fl s→FS { z with φ0:=ren z.φ0 999 g } C n [zte cl f g] todo fl s)→KS z C n [] (.code c::todo) σ
 | .seq a b,σ,todo,hn,hd,hw,hk,hkD=>by
  simp only [okC,yb] at hn
  simp only [z2n,yb] at hd
  intro V w hr
  refine TW.seq ?_
  unfold exD at hw
  split at hw
  ·rename_i x y hx
   unfold zua at hx
   split at hx
   ·rename_i id ops
    split at hx
    ·rename_i o ho
     split at hx
     ·rename_i c hop hg hdst
      obtain ⟨cal,cargs,cty'⟩:=c
      split at hx
      ·rename_i x' y' hcx hcy
       cases hx
       simp only at hcx hcy
       subst hcx
       have e1:ops=[o].toArray:=by apply yf.1;simpa using ho
       subst e1
       obtain ⟨O,φ,α,h,hs⟩:=hr
       split at hw
       ·rename_i f bx hf hb
        obtain ⟨s,hs1,hw⟩:=zf hw
        obtain ⟨hnf,hs1⟩:=zaw hs1
        obtain ⟨uf,h1,us,vs,rfl,h2,h3⟩:=h.ev hf
        obtain ⟨ub,h4,h5⟩:=h.ev hb
        simp only [VR] at h5
        subst h5
        have h2:us=[]:=h2
        have h3:vs=[]:=h3
        subst h2 h3
        rw [zfw hnf] at h1
        refine TW.zo8 (z56:=[]) (vs:=[Value.pointer (some ⟨φ bx,0,none⟩)]) hg hdst hop h1 (by rw [hcy];simp only [Lk.evs,h4]) ?_
        have:=z2e (z:={ z with φ0:=ren z.φ0 999 (φ bx) }) (ds:=[zte false f (φ bx)]) (G:=G) ht hcon hz b s (kD f) todo hn.2 (.inr hd.2) hw (fun fl s hk=>hkD false f (φ bx) fl s hk)
        exact this V w ⟨O,_,α,h.zl5 hs1,hs⟩
       ·exact hw.elim
      ·cases hx
      ·cases hx
     ·cases hx
    ·cases hx
   ·cases hx
  ·rename_i x hx
   unfold zua at hx
   split at hx
   ·rename_i id ops
    split at hx
    ·rename_i o ho
     split at hx
     ·rename_i c hop hg hdst
      obtain ⟨cal,cargs,cty'⟩:=c
      split at hx
      ·cases hx
      ·rename_i x' hcx hcy
       cases hx
       simp only at hcx hcy
       subst hcx
       have e1:ops=[o].toArray:=by apply yf.1;simpa using ho
       subst e1
       obtain ⟨O,φ,α,h,hs⟩:=hr
       split at hw
       ·rename_i f bx hf
        obtain ⟨s,hs1,hw⟩:=zf hw
        obtain ⟨hnf,hs1⟩:=zaw hs1
        obtain ⟨uf,h1,us,vs,rfl,h2,h3⟩:=h.ev hf
        have h2:us=[]:=h2
        obtain ⟨u,vs',rfl,h5,h6⟩:=h3
        have h6:vs'=[]:=h6
        simp only [VR] at h5
        subst h2 h5 h6
        rw [zfw hnf] at h1
        refine TW.zo8 (z56:=[Value.pointer (some ⟨φ bx,0,none⟩)]) (vs:=[]) hg hdst hop h1 (by rw [hcy];simp only [Lk.evs]) ?_
        have:=z2e (z:={ z with φ0:=ren z.φ0 999 (φ bx) }) (ds:=[zte true f (φ bx)]) (G:=G) ht hcon hz b s (kD f) todo hn.2 (.inr hd.2) hw (fun fl s hk=>hkD true f (φ bx) fl s hk)
        exact this V w ⟨O,_,α,h.zl5 hs1,hs⟩
       ·exact hw.elim
      ·cases hx
     ·cases hx
    ·cases hx
   ·cases hx
  ·split at hw
   ·rename_i m d x hx
    unfold ztf at hx
    split at hx
    ·rename_i id ops _
     split at hx
     ·rename_i m' o ho
      split at hx
      ·rename_i fn0 fs0 cs0 dm c hmop hmg hmd hop hg hdst
       obtain ⟨cal,cargs,cty'⟩:=c
       split at hx
       ·rename_i x' hcx hcy
        cases hx
        simp only at hcx hcy
        subst hcx
        have e1:ops=[m,o].toArray:=by apply yf.1;simpa using ho
        subst e1
        obtain ⟨O,φ,α,h,hs⟩:=hr
        have hnm:dOk n m.dst=true:=by
         have h7:=hn.1
         simp only [okC,List.all_cons,yb] at h7
         first|exact h7.1|exact h7.1.1|exact h7.2.1
        rw [hmd] at hnm
        obtain ⟨v,u,hw,hv,hex,_⟩:=z6o (C:=C) (n:=n) (V:=V) ht.toTbOk (fun w O hg=>ht.gt w O (hz w O hg)) h hw
        rw [St.go_eq] at hw
        have h0:=h.zfk (d:=d) hv
        split at hw
        ·rename_i f bx hf
         obtain ⟨s,hs1,hw⟩:=zf hw
         obtain ⟨hnf,hs1⟩:=zaw hs1
         obtain ⟨uf,h1,us,vs,rfl,h2,h3⟩:=h0.ev hf
         have h2:us=[]:=h2
         obtain ⟨u',vs',rfl,h5,h6⟩:=h3
         have h6:vs'=[]:=h6
         simp only [VR] at h5
         subst h2 h5 h6
         rw [zfw hnf] at h1
         refine TW.zo7 (z56:=[Value.pointer (some ⟨φ bx,0,none⟩)]) (vs:=[]) hmg hmd hnm hex hg hdst hop h1 (by rw [hcy];simp only [Lk.evs]) ?_
         have:=z2e (z:={ z with φ0:=ren z.φ0 999 (φ bx) }) (ds:=[zte true f (φ bx)]) (G:=G) ht hcon hz b s (kD f) todo hn.2 (.inr hd.2) hw (fun fl s hk=>hkD true f (φ bx) fl s hk)
         exact this _ w ⟨O,_,α,h0.zl5 hs1,hs⟩
        ·exact hw.elim
       ·cases hx
      ·cases hx
     ·cases hx
    ·cases hx
   refine z2e (ds:=[]) (G:=G) ht hcon hz a σ _ (.code b::todo) hn.1 (.inr hd.1) hw (fun fl s hs => ?_) V w hr
   cases fl with
   | normal=>exact ze2 ht hcon hz b s todo hn.2 hd.2 hs hk hkD
   | exit i=>exact (hk _ _ hs (by simp)).code (by simp)
   | ret=>exact (hk _ _ hs (by simp)).code (by simp)
   | pan v=>exact (hk _ _ hs (by simp)).code (by simp)
 | .skip,σ,todo,_,_,hw,_,_=>hw.elim
 | .label _,σ,todo,_,_,hw,_,_=>hw.elim
 | .ret,σ,todo,_,_,hw,_,_=>hw.elim
 | .exit _,σ,todo,_,_,hw,_,_=>hw.elim
 | .region _ _ _,σ,todo,_,_,hw,_,_=>hw.elim
 | .cond _ _ _,σ,todo,_,_,hw,_,_=>hw.elim
 | .block _ _,σ,todo,_,_,hw,_,_=>hw.elim
 | .loop _,σ,todo,_,_,hw,_,_=>hw.elim
 | .rangeFunc ..,σ,todo,_,_,hw,_,_=>hw.elim
 | .scope _,σ,todo,_,_,hw,_,_=>hw.elim
 | .goto _,σ,todo,_,_,hw,_,_=>hw.elim
 | .refuse _,σ,todo,_,_,hw,_,_=>hw.elim
end
structure zdo (P:Program) (f T:Nat) (ik:IntKind) (Te:Nat):Prop where
 ent:∀ args w,(callFunc f args).run P w = .ok (.enter f args) w
 ret:∀ w b,CallsD P f (yc [Value.pointer (some ⟨b,0,none⟩)]) .returning w (fun e u w'=>e = .returned (.tuple #[])∧u = .returning∧Ext z18 w w')
 pan:∀ w b c e,z2b w b Te [c]→CallsD P f (yc [Value.pointer (some ⟨b,0,none⟩)]) (.panicking [{ v:=Value.iface T (Value.agg (yc [Value.int ik e])),recovered:=false }]) w
  (fun e' u w'=>e' = .returned (.tuple #[])∧u = .panicking [{ v:=Value.iface T (Value.agg (yc [Value.int ik e])),recovered:=true }]∧z2b w' b Te [Value.int ik e]∧Ext (At b) w w')
def zti (tb:Tb) (ann:Ann) (res:List ResultVar) (out:z2u) (fc T:Nat) (ik:IntKind) (Te:Nat) (f:Nat) (fl:z61) (s:St):Prop :=
 match yd f fc,fl,out with
 | true,.ret,.ok vs B A=>zmc tb ann res s vs B A
 | true,.pan v,.ok vs B A=>match v,lkB s.B 999 with
  | .iface T' (.agg [.int ik' e]),some ⟨Te',[_]⟩=>match yd T' T&&zmn ik' ik&&yd Te' Te with
   | true=>zmc tb ann res { s with B:=zaz 999 ⟨Te',[.int ik' e]⟩ s.B } vs B A
   | false=>False
  | _,_=>False
 | _,_,_=>False
theorem Con.ofD {P:Program} {G:GI} {tb:Tb} {cty:List (Nat × List (Option (Nat × Nat)))} {ann:Ann} {f:Nat} {fn:Func} {c:Code} {i:CIn} {o:z2u} {n:Nat} {res:List ResultVar} {fc T:Nat} {ik:IntKind} {Te:Nat} (hct:zdo P fc T ik Te) (ht:TbG P tb G) (ent:∀ args w,(callFunc f args).run P w = .ok (.enter f args) w) (hnn:yd f NF=false) (hf:P.funcs[f]? = some fn) (hb:fn.body=some c) (hn:fn.ntmps=n)
  (hres:fn.results=res.toArray) (hok:okC ann n c=true) (hnd:z2n fn c=true) (hl:Nat.ble i.vs.length n=true) (hnb:ann.nb=i.B.length) (h1000:Nat.ble i.B.length 900=true) (hw:exD tb cty ann (Con P G) (fin tb ann res o) (zti tb ann res o fc T ik Te) c (entry i)):Con P G f i o:=by
 refine ⟨ent,hnn,fun w O φ α us hv hm hB hG => ?_⟩
 have h1000:=Nat.le_of_ble_eq_true h1000
 obtain ⟨hF,h0⟩:=z88 (G:=G) hv hm hB hG (by omega)
 have hlu:us.length=i.vs.length:=hv.len
 refine zdv hf hb n hn (by rw [hlu];exact hl) ?_
 have hN:∀ b,b<i.B.length→b≠999:=fun b hb=>by omega
 refine ze2 (z:=zlo G i w O φ α hF hB) (C:={ P:=P,f:=f,fn:=fn,R:=z8s i w O φ α o,hf:=hf,lv:=true }) (n:=n) (G:=G) ht (fun _ _ _ h=>h) (fun _ _ h=>h) c (entry i) [] hok hnd hw (fun fl s hs hne => ?_) (fun cl f' g fl s hs => ?_) _ _ ⟨O,φ,α,h0,fun _ hx=>hx⟩
 ·cases fl with
  | normal=>exact (hne rfl).elim
  | ret =>
   intro k' V w' hr
   obtain ⟨O',φ',α',h1,h2⟩:=hr
   cases o with
   | pan v=>exact hs.elim
   | zbf _ _=>exact hs.elim
   | okI _ _ _=>exact hs.elim
   | ok vs B A =>
    obtain ⟨us',h3,h4⟩:=z43 (C:={ P:=P,f:=f,fn:=fn,R:=z8s i w O φ α (.ok vs B A),hf:=hf,lv:=true }) (n:=n) (hF:=hF) (hB:=hB) (g:=φ) ht hres (fun b hb=>h1.keep b (by omega)) h1 h2 hnb (by omega) hs
    exact TW.ret h3 h4
  | exit _=>exact hs.elim
  | pan v =>
   intro V w' O' φ' α' u φ2 α2 h1 h2 h3 a ha hda
   cases o with
   | ok _ _ _=>cases hs
   | okI _ _ _=>cases hs
   | zbf v' B =>
    obtain ⟨rfl,hsl,hw⟩:=hs
    obtain ⟨us',_,O3,φ3,α3,h4⟩:=z6y (ann:={ nb:=ann.nb }) (res:=[]) (C:={ P:=P,f:=f,fn:=fn,R:=z8s i w O φ α (.zbf v' B),hf:=hf,lv:=true }) (n:=n) (hF:=hF) (hB:=hB) (g:=φ) ht (fun b hb=>h1.keep b (by omega)) h1 h2 hnb (by omega) hw
    exact PN.nil hda ⟨u,φ2,α2,us',O3,φ3,α3,rfl,z4z _ _ hsl h3,h4⟩
   | pan v =>
    cases hs
    exact PN.nil hda ⟨u,O',φ2,α2,rfl,h3,h1.ext,h1.tr0,h1.bd,h1.only⟩
 ·unfold zti at hs
  split at hs
  ·rename_i vs B A hff
   have hff:=ye hff
   subst hff
   intro k' V w' hr
   obtain ⟨O',φ',α',h1,h2⟩:=hr
   refine TW.zvd rfl (LV.zw7 (z56:=zp8 cl g) (vs:=zp7 cl g) hct.ent (by cases cl<;>exact hct.ret w' g) fun w2 x => ?_)
   have h3:=h1.zes x
   obtain ⟨us',h4,h5⟩:=z43 (C:={ P:=P,f:=f,fn:=fn,R:=z8s i w O φ α (.ok vs B A),hf:=hf,lv:=true }) (n:=n) (hF:=hF) (hB:=hB) (g:=ren φ 999 g) ht hres (fun b hb=>(h3.keep b (by omega)).trans (by simp [ren,hN b hb,zlo])) h3 h2 hnb (by omega) hs
   exact ⟨_,h4,h5⟩
  ·rename_i v vs B A hff
   have hff:=ye hff
   subst hff
   split at hs
   ·rename_i T' ik' e Te' c0 hbx
    split at hs
    ·rename_i hb3
     simp only [yb] at hb3
     have e1:=ye hb3.1.1
     have e2:=z5m hb3.1.2
     have e3:=ye hb3.2
     subst e1 e2 e3
     intro V w' O' φ' α' u φ2 α2 h1 h2 h3 a ha hda
     obtain ⟨x,rfl,us',rfl,y,r,rfl,hy,hr⟩:=h3
     simp only [VR] at hy
     subst hy
     have hr:r=[]:=hr
     subst hr
     obtain ⟨hbx,hbT⟩:=z5o hbx
     obtain ⟨k1,us2,k2,k3⟩:=h1.box 999 _ hbx
     have k2:=k2.un hbT
     obtain ⟨c1,r1,rfl,_,hr1⟩:=k3
     have hr1:r1=[]:=hr1
     subst hr1
     have e9:φ' 999=g:=(h1.keep 999 (by decide)).trans (by simp [ren])
     rw [e9] at k2
     have key:=LV.zw4 (C:={ P:=P,f:=f,fn:=fn,R:=z8s i w O φ α (.ok vs B A),hf:=hf,lv:=true }) (n:=n) (L:=V) (z56:=zp8 cl g) (vs:=zp7 cl g) (fun w2=>z2b w2 g Te' [Value.int ik' e]∧Ext (At g) w' w2) hct.ent (by cases cl<;>exact hct.pan w' g c1 e k2) fun w2 ⟨q1,q2⟩=>by
      have h4:=h1.zgc (b:=0) (cs:=[.int ik' e]) hbx (by rw [e9];exact .inl ⟨hbT,q1⟩) (by rw [e9];exact q2) ⟨_,[],rfl,rfl,rfl⟩ rfl
      obtain ⟨us',h5,h6⟩:=z43 (C:={ P:=P,f:=f,fn:=fn,R:=z8s i w O φ α (.ok vs B A),hf:=hf,lv:=true }) (n:=n) (hF:=hF) (hB:=hB) (g:=ren φ 999 g) ht hres (fun b hb=>(h4.keep b (by omega)).trans (by simp [ren,hN b hb,zlo])) h4 h2 hnb (by omega) hs
      exact ⟨_,h5,h6⟩
     have:=key a ha hda
     unfold PN
     rw [hda]
     exact this
    ·exact hs.elim
   ·exact hs.elim
  ·exact hs.elim
end Go.Pe
end
section
namespace Go.Pe
open Go.RowKit Go.Lk
inductive Rs (α:Type) where
 | ok (a:α)
 | pan (e:Int)
inductive Rb (α β:Type) where
 | ok (a:α)
 | pan (e:Int) (p:β)
theorem zdu {a e v:Bool} (h:a=true) (p:v=e):v=(a&&e):=by rw [h];exact p
theorem zdt {a e:Bool} (h:a=false):false=(a&&e):=by rw [h];rfl
theorem zw3 {a e:Bool} (h:a=true):true=(a||e):=by rw [h];rfl
theorem zv9 {a e v:Bool} (h:a=false) (p:v=e):v=(a||e):=by rw [h];exact p
section
variable {R A:Type} {W:R→Prop} {y:Option R}
theorem S.an {p:Prop} (hp:p) (h:S y W):S y (fun r=>p∧W r):=fun r hm=>⟨hp,h r hm⟩
theorem S.b {z:Option A} {g:A→Option R} (h:∀ a,z=some a→S (g a) W):S (z >>= g) W:=by
 intro r hm
 obtain ⟨a,h1,h2⟩:=bnd hm
 exact h a h1 r h2
theorem S.two {V:R→Prop} (h:S y V) (h2:S y W):S y (fun r=>V r∧W r):=fun r hm=>⟨h r hm,h2 r hm⟩
theorem S.jb {X:Type} {B:R→St→Prop} {A':R→(St→Prop)→Prop} {v:X} (sh:X→St) (hA:∀ r,A' r fun s=>∃ b,s=sh b∧b=v) (hB:S y (fun r=>B r (sh v))):S y (fun r=>∃ J:St→Prop,A' r J∧∀ s,J s→B r s) :=
 fun r hm=>⟨_,hA r,fun s ⟨b,h1,h2⟩=>by subst h1 h2;exact hB r hm⟩
end
section
variable {tb:Tb} {cty:List (Nat × List (Option (Nat × Nat)))} {ann:Ann} {con:Nat→CIn→z2u→Prop}
theorem S.lw3 {X0 X1 X2 R:Type} {a:Code} {c:Cut} {k:R→z61→St→Prop} {σ:St} {L:X0→X1→X2→Option R} {Bd:(X0→X1→X2→Option R)→X0→X1→X2→Option R} {x0:X0} {x1:X1} {x2:X2} (sh:X0→X1→X2→St)
  (pc:∀ motive:X0→X1→X2→R→Prop,(∀ f:X0→X1→X2→Option R,(∀ x0 x1 x2 r,f x0 x1 x2=some r→motive x0 x1 x2 r)→∀ x0 x1 x2 r,Bd f x0 x1 x2=some r→motive x0 x1 x2 r)→∀ x0 x1 x2 r,L x0 x1 x2=some r→motive x0 x1 x2 r)
  (h0:σ=sh x0 x1 x2) (h:∀ (f:X0→X1→X2→Option R) (I:R→St→Prop),(∀ x0 x1 x2,S (f x0 x1 x2) (fun r=>I r (sh x0 x1 x2)))→∀ x0 x1 x2,S (Bd f x0 x1 x2) (fun r=>ex tb cty ann con a (sh x0 x1 x2) (z68 (fun s=>wt (s.cut c) (I r)) (k r)))) :
  S (L x0 x1 x2) (fun r=>LW (fun I s=>ex tb cty ann con a s (z68 (fun s=>wt (s.cut c) I) (k r))) σ):=by
 subst h0
 exact pc (fun x0 x1 x2 r=>LW (fun I s=>ex tb cty ann con a s (z68 (fun s=>wt (s.cut c) I) (k r))) (sh x0 x1 x2)) (fun f ih x0 x1 x2 r hm=>LW.fold (z6t a c (k r)) (h f (fun r=>LW (fun I s=>ex tb cty ann con a s (z68 (fun s=>wt (s.cut c) I) (k r)))) ih x0 x1 x2 r hm)) x0 x1 x2
theorem S.lw4 {X0 X1 X2 X3 R:Type} {a:Code} {c:Cut} {k:R→z61→St→Prop} {σ:St} {L:X0→X1→X2→X3→Option R} {Bd:(X0→X1→X2→X3→Option R)→X0→X1→X2→X3→Option R} {x0:X0} {x1:X1} {x2:X2} {x3:X3} (sh:X0→X1→X2→X3→St)
  (pc:∀ motive:X0→X1→X2→X3→R→Prop,(∀ f:X0→X1→X2→X3→Option R,(∀ x0 x1 x2 x3 r,f x0 x1 x2 x3=some r→motive x0 x1 x2 x3 r)→∀ x0 x1 x2 x3 r,Bd f x0 x1 x2 x3=some r→motive x0 x1 x2 x3 r)→∀ x0 x1 x2 x3 r,L x0 x1 x2 x3=some r→motive x0 x1 x2 x3 r)
  (h0:σ=sh x0 x1 x2 x3) (h:∀ (f:X0→X1→X2→X3→Option R) (I:R→St→Prop),(∀ x0 x1 x2 x3,S (f x0 x1 x2 x3) (fun r=>I r (sh x0 x1 x2 x3)))→∀ x0 x1 x2 x3,S (Bd f x0 x1 x2 x3) (fun r=>ex tb cty ann con a (sh x0 x1 x2 x3) (z68 (fun s=>wt (s.cut c) (I r)) (k r)))) :
  S (L x0 x1 x2 x3) (fun r=>LW (fun I s=>ex tb cty ann con a s (z68 (fun s=>wt (s.cut c) I) (k r))) σ):=by
 subst h0
 exact pc (fun x0 x1 x2 x3 r=>LW (fun I s=>ex tb cty ann con a s (z68 (fun s=>wt (s.cut c) I) (k r))) (sh x0 x1 x2 x3)) (fun f ih x0 x1 x2 x3 r hm=>LW.fold (z6t a c (k r)) (h f (fun r=>LW (fun I s=>ex tb cty ann con a s (z68 (fun s=>wt (s.cut c) I) (k r)))) ih x0 x1 x2 x3 r hm)) x0 x1 x2 x3
theorem S.lw5 {X0 X1 X2 X3 X4 R:Type} {a:Code} {c:Cut} {k:R→z61→St→Prop} {σ:St} {L:X0→X1→X2→X3→X4→Option R} {Bd:(X0→X1→X2→X3→X4→Option R)→X0→X1→X2→X3→X4→Option R} {x0:X0} {x1:X1} {x2:X2} {x3:X3} {x4:X4} (sh:X0→X1→X2→X3→X4→St)
  (pc:∀ motive:X0→X1→X2→X3→X4→R→Prop,(∀ f:X0→X1→X2→X3→X4→Option R,(∀ x0 x1 x2 x3 x4 r,f x0 x1 x2 x3 x4=some r→motive x0 x1 x2 x3 x4 r)→∀ x0 x1 x2 x3 x4 r,Bd f x0 x1 x2 x3 x4=some r→motive x0 x1 x2 x3 x4 r)→∀ x0 x1 x2 x3 x4 r,L x0 x1 x2 x3 x4=some r→motive x0 x1 x2 x3 x4 r)
  (h0:σ=sh x0 x1 x2 x3 x4) (h:∀ (f:X0→X1→X2→X3→X4→Option R) (I:R→St→Prop),(∀ x0 x1 x2 x3 x4,S (f x0 x1 x2 x3 x4) (fun r=>I r (sh x0 x1 x2 x3 x4)))→∀ x0 x1 x2 x3 x4,S (Bd f x0 x1 x2 x3 x4) (fun r=>ex tb cty ann con a (sh x0 x1 x2 x3 x4) (z68 (fun s=>wt (s.cut c) (I r)) (k r)))) :
  S (L x0 x1 x2 x3 x4) (fun r=>LW (fun I s=>ex tb cty ann con a s (z68 (fun s=>wt (s.cut c) I) (k r))) σ):=by
 subst h0
 exact pc (fun x0 x1 x2 x3 x4 r=>LW (fun I s=>ex tb cty ann con a s (z68 (fun s=>wt (s.cut c) I) (k r))) (sh x0 x1 x2 x3 x4)) (fun f ih x0 x1 x2 x3 x4 r hm=>LW.fold (z6t a c (k r)) (h f (fun r=>LW (fun I s=>ex tb cty ann con a s (z68 (fun s=>wt (s.cut c) I) (k r)))) ih x0 x1 x2 x3 x4 r hm)) x0 x1 x2 x3 x4
end
section
variable {R A X:Type} {f c:X→List D} {E:List X→List (List D)} {l l2:List (List D)} {xs ys:List X}
theorem S.ixE (hE:∀ l,E l=l.map f) {i:Int} {F:R→List D→Prop} {g:X→Option R} (hl:l=E xs) (hc:∀ x,f x=c x) (h:∀ x,S (g x) (fun r=>F r (c x))):S (Go.Lk.ix xs i >>= g) (fun r=>Ex (Go.Lk.ix l i) (F r)):=S.ix (hl.trans (hE xs)) hc h
theorem S.zvi (hE:∀ l,E l=l.map f) {n:Nat} {F:R→List (List D)→Prop} {g:List X→Option R} (hl:l=E xs) (hl2:l2=E ys) (h:∀ x,S (g x) (fun r=>F r (E x))):S (Go.Lk.app n xs ys >>= g) (fun r=>Ex (Go.Lk.app n l l2) (F r)):=S.app (f:=f) (hl.trans (hE xs)) (hl2.trans (hE ys)) fun x=>by rw [←hE];exact h x
end
section
variable {tb:Tb} {cty:List (Nat × List (Option (Nat × Nat)))} {ann:Ann} {con:Nat→CIn→z2u→Prop} {R X:Type}
def kD {Y:Type} (k:R→Y) (no:Y):Jn R X→Y
 | .done r=>k r
 | .go _=>no
def jG (sh:X→St) (j:Jn R X):St→Prop:=fun s=>match j with
 | .go x=>s=sh x
 | .done _=>False
theorem S.jn {a:Code} {σ:St} {c:Cut} {k:R→z61→St→Prop} {B:R→St→Prop} {z:Option (Jn R X)} {m:Jn R X→Option R} (sh:X→St)
  (hA:S z fun j=>ex tb cty ann con a σ (z68 (fun s=>wt (s.cut c) (jG sh j)) (kD k (fun _ _=>False) j))) (hd:∀ r,m (.done r)=some r) (hB:∀ x,S (m (.go x)) fun r=>B r (sh x)) :
  S (z >>= m) (fun r=>∃ J:St→Prop,ex tb cty ann con a σ (z68 (fun s=>wt (s.cut c) J) (k r))∧∀ s,J s→B r s):=by
 intro r hm
 obtain ⟨j,h1,h2⟩:=bnd hm
 refine ⟨jG sh j,z4x a _ _ _ (z6h (fun _=>id) ?_) (hA j h1),?_⟩
 ·cases j with
  | done r0=>rw [hd] at h2;cases h2;exact fun _ _=>id
  | go x=>exact fun _ _ h=>h.elim
 ·cases j with
  | done r0=>exact fun _ h=>h.elim
  | go x=>intro s h;cases h;exact hB x r h2
theorem S.dn {Y1 Y2:Type} {k:R→Y1→Y2→Prop} {p:Y1} {q:Y2} {y:Option R} (h:S y fun r=>k r p q):S (y >>= fun r=>some (Jn.done r:Jn R X)) (fun j=>kD k (fun _ _=>False) j p q):=by
 intro j hm
 obtain ⟨r,h1,h2⟩:=bnd hm
 cases h2
 exact h r h1
theorem z2a {Y:Type} {f:Y→List D} {xs:List Y}:zmt (xs.map f)=some (xs.length:Int):=by simp [zmt]
theorem z7h {Y:Type} {f:Y→List D} {E:List Y→List (List D)} (hE:∀ l,E l=l.map f) {xs:List Y}:zmt (E xs)=some (xs.length:Int):=by rw [hE];exact z2a
theorem Ex.i {Y:Type} {z:Option Y} {k:Y→Prop} {a:Y} (hz:z=some a) (h:k a):Ex z k:=⟨a,hz,h⟩
theorem jbI {Y:Type} {sh:Y→St} {v b:Y} {s:St} (h:s=sh b) (p:b=v):∃ b,s=sh b∧b=v:=⟨b,h,p⟩
end
end Go.Pe
end
