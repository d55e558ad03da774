import Derived.Test.YtfdoofnmjehecaaGreatDoorUPfS2
import Derived.KernelRfl
import Derived.Shelf.Strings.Builder1
set_option linter.all false
namespace Go.Pe
open _root_.Option renaming getD_some → ya
open _root_.Bool renaming and_eq_true → yb, eq_iff_iff → yc
open _root_.List renaming all_eq_true → yd, any_eq_true → ye, contains_iff_mem → yf, eq_nil_of_length_eq_zero → yg, getElem?_append_left → yh, getElem?_eq_some_iff → yi, length_append → yj, length_cons → yk, length_nil → yl, mem_cons_of_mem → ym, mem_cons_self → yn
open _root_.Nat renaming add_lt_add_left → yo, add_sub_cancel_left → yp, beq → yq, ble → yr, blt_eq → yt, eq_of_beq_eq_true → yu, le_of_ble_eq_true → yv, le_refl → yw, lt_irrefl → yx, lt_of_lt_of_le → yy, lt_succ_self → yz, not_lt_zero → yaa, zero_add → yab, zero_lt_one → yac
open _root_.Array renaming toList_inj → yad
section
open Go.RowKit Go.Lk
inductive Rs (α:Type) where
 | ok (a:α)
 | pan (e:Int)
inductive Rb (α β:Type) where
 | ok (a:α)
 | pan (e:Int) (p:β)
theorem zw4 {a e v:Bool} (h:a=true) (p:v=e):v=(a&&e):=by rw [h];exact p
theorem zw3 {a e:Bool} (h:a=false):false=(a&&e):=by rw [h];rfl
section
variable {R A:Type} {W:R→Prop} {y:Option R}
theorem S.an {p:Prop} (hp:p) (h:S y W):S y (fun r=>p∧W r):=fun r hm=>⟨hp,h r hm⟩
theorem S.b {z:Option A} {g:A→Option R} (h:∀ a,z=some a→S (g a) W):S (z >>= g) W:=by
 intro r hm
 obtain ⟨a,h1,h2⟩:=bnd hm
 exact h a h1 r h2
theorem S.two {V:R→Prop} (h:S y V) (h2:S y W):S y (fun r=>V r∧W r):=fun r hm=>⟨h r hm,h2 r hm⟩
theorem S.jb {X:Type} {B:R→St→Prop} {A':R→(St→Prop)→Prop} {v:X} (sh:X→St) (hA:∀ r,A' r fun s=>∃ b,s=sh b∧b=v) (hB:S y (fun r=>B r (sh v))):S y (fun r=>∃ J:St→Prop,A' r J∧∀ s,J s→B r s) :=
 fun r hm=>⟨_,hA r,fun s ⟨b,h1,h2⟩=>by subst h1 h2;exact hB r hm⟩
end
section
variable {tb:Tb} {cty:List (Nat × List (Option (Nat × Nat)))} {ann:Ann} {con:Nat→CIn→z3d→Prop}
theorem S.lw3 {X0 X1 X2 R:Type} {a:Code} {c:Cut} {k:R→z7v→St→Prop} {σ:St} {L:X0→X1→X2→Option R} {Bd:(X0→X1→X2→Option R)→X0→X1→X2→Option R} {x0:X0} {x1:X1} {x2:X2} (sh:X0→X1→X2→St)
  (pc:∀ motive:X0→X1→X2→R→Prop,(∀ f:X0→X1→X2→Option R,(∀ x0 x1 x2 r,f x0 x1 x2=some r→motive x0 x1 x2 r)→∀ x0 x1 x2 r,Bd f x0 x1 x2=some r→motive x0 x1 x2 r)→∀ x0 x1 x2 r,L x0 x1 x2=some r→motive x0 x1 x2 r)
  (h0:σ=sh x0 x1 x2) (h:∀ (f:X0→X1→X2→Option R) (I:R→St→Prop),(∀ x0 x1 x2,S (f x0 x1 x2) (fun r=>I r (sh x0 x1 x2)))→∀ x0 x1 x2,S (Bd f x0 x1 x2) (fun r=>ex tb cty ann con a (sh x0 x1 x2) (z81 (fun s=>wt (s.cut c) (I r)) (k r)))) :
  S (L x0 x1 x2) (fun r=>LW (fun I s=>ex tb cty ann con a s (z81 (fun s=>wt (s.cut c) I) (k r))) σ):=by
 subst h0
 exact pc (fun x0 x1 x2 r=>LW (fun I s=>ex tb cty ann con a s (z81 (fun s=>wt (s.cut c) I) (k r))) (sh x0 x1 x2)) (fun f ih x0 x1 x2 r hm=>LW.fold (z8u a c (k r)) (h f (fun r=>LW (fun I s=>ex tb cty ann con a s (z81 (fun s=>wt (s.cut c) I) (k r)))) ih x0 x1 x2 r hm)) x0 x1 x2
theorem S.lw4 {X0 X1 X2 X3 R:Type} {a:Code} {c:Cut} {k:R→z7v→St→Prop} {σ:St} {L:X0→X1→X2→X3→Option R} {Bd:(X0→X1→X2→X3→Option R)→X0→X1→X2→X3→Option R} {x0:X0} {x1:X1} {x2:X2} {x3:X3} (sh:X0→X1→X2→X3→St)
  (pc:∀ motive:X0→X1→X2→X3→R→Prop,(∀ f:X0→X1→X2→X3→Option R,(∀ x0 x1 x2 x3 r,f x0 x1 x2 x3=some r→motive x0 x1 x2 x3 r)→∀ x0 x1 x2 x3 r,Bd f x0 x1 x2 x3=some r→motive x0 x1 x2 x3 r)→∀ x0 x1 x2 x3 r,L x0 x1 x2 x3=some r→motive x0 x1 x2 x3 r)
  (h0:σ=sh x0 x1 x2 x3) (h:∀ (f:X0→X1→X2→X3→Option R) (I:R→St→Prop),(∀ x0 x1 x2 x3,S (f x0 x1 x2 x3) (fun r=>I r (sh x0 x1 x2 x3)))→∀ x0 x1 x2 x3,S (Bd f x0 x1 x2 x3) (fun r=>ex tb cty ann con a (sh x0 x1 x2 x3) (z81 (fun s=>wt (s.cut c) (I r)) (k r)))) :
  S (L x0 x1 x2 x3) (fun r=>LW (fun I s=>ex tb cty ann con a s (z81 (fun s=>wt (s.cut c) I) (k r))) σ):=by
 subst h0
 exact pc (fun x0 x1 x2 x3 r=>LW (fun I s=>ex tb cty ann con a s (z81 (fun s=>wt (s.cut c) I) (k r))) (sh x0 x1 x2 x3)) (fun f ih x0 x1 x2 x3 r hm=>LW.fold (z8u a c (k r)) (h f (fun r=>LW (fun I s=>ex tb cty ann con a s (z81 (fun s=>wt (s.cut c) I) (k r)))) ih x0 x1 x2 x3 r hm)) x0 x1 x2 x3
theorem S.lw5 {X0 X1 X2 X3 X4 R:Type} {a:Code} {c:Cut} {k:R→z7v→St→Prop} {σ:St} {L:X0→X1→X2→X3→X4→Option R} {Bd:(X0→X1→X2→X3→X4→Option R)→X0→X1→X2→X3→X4→Option R} {x0:X0} {x1:X1} {x2:X2} {x3:X3} {x4:X4} (sh:X0→X1→X2→X3→X4→St)
  (pc:∀ motive:X0→X1→X2→X3→X4→R→Prop,(∀ f:X0→X1→X2→X3→X4→Option R,(∀ x0 x1 x2 x3 x4 r,f x0 x1 x2 x3 x4=some r→motive x0 x1 x2 x3 x4 r)→∀ x0 x1 x2 x3 x4 r,Bd f x0 x1 x2 x3 x4=some r→motive x0 x1 x2 x3 x4 r)→∀ x0 x1 x2 x3 x4 r,L x0 x1 x2 x3 x4=some r→motive x0 x1 x2 x3 x4 r)
  (h0:σ=sh x0 x1 x2 x3 x4) (h:∀ (f:X0→X1→X2→X3→X4→Option R) (I:R→St→Prop),(∀ x0 x1 x2 x3 x4,S (f x0 x1 x2 x3 x4) (fun r=>I r (sh x0 x1 x2 x3 x4)))→∀ x0 x1 x2 x3 x4,S (Bd f x0 x1 x2 x3 x4) (fun r=>ex tb cty ann con a (sh x0 x1 x2 x3 x4) (z81 (fun s=>wt (s.cut c) (I r)) (k r)))) :
  S (L x0 x1 x2 x3 x4) (fun r=>LW (fun I s=>ex tb cty ann con a s (z81 (fun s=>wt (s.cut c) I) (k r))) σ):=by
 subst h0
 exact pc (fun x0 x1 x2 x3 x4 r=>LW (fun I s=>ex tb cty ann con a s (z81 (fun s=>wt (s.cut c) I) (k r))) (sh x0 x1 x2 x3 x4)) (fun f ih x0 x1 x2 x3 x4 r hm=>LW.fold (z8u a c (k r)) (h f (fun r=>LW (fun I s=>ex tb cty ann con a s (z81 (fun s=>wt (s.cut c) I) (k r)))) ih x0 x1 x2 x3 x4 r hm)) x0 x1 x2 x3 x4
end
section
variable {R A X:Type} {f c:X→List D} {E:List X→List (List D)} {l l2:List (List D)} {xs ys:List X}
theorem S.ixE (hE:∀ l,E l=l.map f) {i:Int} {F:R→List D→Prop} {g:X→Option R} (hl:l=E xs) (hc:∀ x,f x=c x) (h:∀ x,S (g x) (fun r=>F r (c x))):S (Go.Lk.ix xs i >>= g) (fun r=>Ex (Go.Lk.ix l i) (F r)):=S.ix (hl.trans (hE xs)) hc h
theorem S.appE (hE:∀ l,E l=l.map f) {n:Nat} {F:R→List (List D)→Prop} {g:List X→Option R} (hl:l=E xs) (hl2:l2=E ys) (h:∀ x,S (g x) (fun r=>F r (E x))):S (Go.Lk.app n xs ys >>= g) (fun r=>Ex (Go.Lk.app n l l2) (F r)):=S.app (f:=f) (hl.trans (hE xs)) (hl2.trans (hE ys)) fun x=>by rw [←hE];exact h x
end
section
variable {tb:Tb} {cty:List (Nat × List (Option (Nat × Nat)))} {ann:Ann} {con:Nat→CIn→z3d→Prop} {R X:Type}
def kD {Y:Type} (k:R→Y) (no:Y):Jn R X→Y
 | .done r=>k r
 | .go _=>no
def jG (sh:X→St) (j:Jn R X):St→Prop:=fun s=>match j with
 | .go x=>s=sh x
 | .done _=>False
theorem S.jn {a:Code} {σ:St} {c:Cut} {k:R→z7v→St→Prop} {B:R→St→Prop} {z:Option (Jn R X)} {m:Jn R X→Option R} (sh:X→St)
  (hA:S z fun j=>ex tb cty ann con a σ (z81 (fun s=>wt (s.cut c) (jG sh j)) (kD k (fun _ _=>False) j))) (hd:∀ r,m (.done r)=some r) (hB:∀ x,S (m (.go x)) fun r=>B r (sh x)) :
  S (z >>= m) (fun r=>∃ J:St→Prop,ex tb cty ann con a σ (z81 (fun s=>wt (s.cut c) J) (k r))∧∀ s,J s→B r s):=by
 intro r hm
 obtain ⟨j,h1,h2⟩:=bnd hm
 refine ⟨jG sh j,z6c a _ _ _ (z8g (fun _=>id) ?_) (hA j h1),?_⟩
 ·cases j with
  | done r0=>rw [hd] at h2;cases h2;exact fun _ _=>id
  | go x=>exact fun _ _ h=>h.elim
 ·cases j with
  | done r0=>exact fun _ h=>h.elim
  | go x=>intro s h;cases h;exact hB x r h2
theorem S.dn {Y1 Y2:Type} {k:R→Y1→Y2→Prop} {p:Y1} {q:Y2} {y:Option R} (h:S y fun r=>k r p q):S (y >>= fun r=>some (Jn.done r:Jn R X)) (fun j=>kD k (fun _ _=>False) j p q):=by
 intro j hm
 obtain ⟨r,h1,h2⟩:=bnd hm
 cases h2
 exact h r h1
theorem z3r {Y:Type} {f:Y→List D} {xs:List Y}:zxl (xs.map f)=some (xs.length:Int):=by simp [zxl]
theorem z9q {Y:Type} {f:Y→List D} {E:List Y→List (List D)} (hE:∀ l,E l=l.map f) {xs:List Y}:zxl (E xs)=some (xs.length:Int):=by rw [hE];exact z3r
theorem Ex.i {Y:Type} {z:Option Y} {k:Y→Prop} {a:Y} (hz:z=some a) (h:k a):Ex z k:=⟨a,hz,h⟩
theorem jbI {Y:Type} {sh:Y→St} {v b:Y} {s:St} (h:s=sh b) (p:b=v):∃ b,s=sh b∧b=v:=⟨b,h,p⟩
end
end
section
open Go.RowKit Go.Lk
section
variable {K V:Type} [DecidableEq K]
def z62:List (K × V)→K→V→V
 | [],_,z=>z
 | (a,v)::r,k,z=>if k=a then v else z62 r k z
def zxn:List (K × V)→K→Bool
 | [],_=>false
 | (a,_)::r,k=>if k=a then true else zxn r k
def z36:List (K × V)→K→V→List (K × V)
 | [],k,v=>[(k,v)]
 | (a,b)::r,k,v=>if k=a then (k,v)::r else (a,b)::z36 r k v
variable {R:Type} {y:Option R} {f:K × V→List D} {kf:K→D} {vf:V→List D} (hf:∀ x,f x=kf x.1::vf x.2) (hk:∀ a b,kEq (kf a) (kf b)=decide (a=b))
include hf hk
theorem zty (k:K) (z:V):∀ l:List (K × V),zie (l.map f) (kf k) (vf z)=vf (z62 l k z)∧zkk (l.map f) (kf k)=zxn l k
 | []=>⟨rfl,rfl⟩
 | (a,v)::r=>by
  obtain ⟨h1,h2⟩:=zty k z r
  by_cases e:k=a
  ·subst e
   simp [zie,zkk,mgD,hf,hk,z62,zxn]
  ·simp only [zie,zkk] at h1 h2
   simp [zie,zkk,mgD,hf,hk,z62,zxn,e,h1,h2]
theorem zkm (k:K) (v:V):∀ l:List (K × V),z8l (l.map f) (kf k) (vf v)=(z36 l k v).map f
 | []=>by simp [z8l,z36,hf]
 | (a,b)::r=>by
  have h1:=zkm k v r
  by_cases e:k=a
  ·subst e
   simp [z8l,hf,hk,z36]
  ·simp only [List.map_cons,hf,z8l,hk,e,decide_false,Bool.false_eq_true,if_false,z36,h1]
theorem S.mget {l:List (K × V)} {k:K} {z:V} {c:V→List D} {kd:D} {zd:List D} {F:R→List D→Prop} (hkd:kd=kf k) (hz:zd=vf z) (hc:∀ x,vf x=c x) (h:S y (fun r=>F r (c (z62 l k z)))):S y (fun r=>Ex (some (zie (l.map f) kd zd)) (F r)):=by
 subst hkd hz
 rw [(zty hf hk k z l).1,hc]
 exact fun r hm=>⟨_,rfl,h r hm⟩
theorem S.z6u {l:List (K × V)} {k:K} {v:V} {kd:D} {vd:List D} {F:R→List (List D)→Prop} {g:List (K × V)→Option R} (hkd:kd=kf k) (hv:vd=vf v) (h:∀ m,S (g m) (fun r=>F r (m.map f))):S (some (z36 l k v) >>= g) (fun r=>Ex (some (z8l (l.map f) kd vd)) (F r)):=by
 subst hkd hv
 rw [zkm hf hk k v l]
 exact fun r hm=>⟨_,rfl,h _ r hm⟩
end
theorem z7j (a b:List UInt8):kEq (.str a) (.str b)=decide (a=b):=rfl
theorem z47 (k:IntKind) (a b:Int):kEq (.int k a) (.int k b)=decide (a=b):=rfl
theorem S.wv {R A X:Type} {z:Option X} {g:X→Option R} {k:R→A→Prop} (w:Option A) (vf:X→A) (hz:∀ x,z=some x→w=some (vf x)) (h:∀ x,S (g x) (fun r=>k r (vf x))):S (z >>= g) (fun r=>wt w (k r)):=fun r hm=>by
 obtain ⟨x,h1,h2⟩:=Option.bind_eq_some_iff.1 hm
 rw [hz x h1]
 exact h x r h2
theorem S.di {R:Type} {p:Prop} [Decidable p] {y1 y2:Option R} {W:R→Prop} (h1:p→S y1 W) (h2:S y2 W):S (if p then y1 else y2) W:=fun r hm=>by
 by_cases h:p
 ·rw [if_pos h] at hm;exact h1 h r hm
 ·rw [if_neg h] at hm;exact h2 r hm
section
variable {tb:Tb} {cty:List (Nat × List (Option (Nat × Nat)))} {ann:Ann} {con:Nat→CIn→z3d→Prop} {R X:Type} {a:Code} {c:Cut} {k:R→z7v→St→Prop} {σ:St}
end
end
section
open Go.RowKit Go.Lk
def renL:Nat→List Nat→St→Option St
 | _,[],σ=>some σ
 | t,b::r,σ=>match σ.zus t b with
  | some s=>renL (t+1) r s
  | none=>none
def zp9:List PV→Option (List Nat)
 | []=>some []
 | .ptr b off::r=>match yq off 0,zp9 r with
  | true,some l=>some (b::l)
  | _,_=>none
 | _=>none
def exE (tb:Tb) (cty:List (Nat × List (Option (Nat × Nat)))) (ann:Ann) (con:Nat→CIn→z3d→Prop) (k:z7v→St→Prop) (kD:Nat→Nat→z7v→St→Prop):Code→St→Prop
 | .seq a b,σ=>match dfr2 a with
  | some (m,d,x)=>qop tb σ m.op fun v=>(σ.put (some d) v).go fun σ=>match σ.ev x with
    | some (.fn f [] cs)=>wt (zp9 cs) fun bs=>match yq f NF,bs.all (fun b=>Nat.blt b 990||yr 1000 b) with
     | false,true=>wt (renL 990 bs σ) fun s=>ex tb cty ann con b s (kD f bs.length)
     | _,_=>False
    | _=>False
  | none=>ex tb cty ann con a σ (z81 (fun s=>exE tb cty ann con k kD b s) k)
 | _,_=>False
def ovB (φ:Nat→Nat):Nat→List Nat→Nat→Nat
 | _,[]=>φ
 | t,g::r=>ovB (ren φ t g) (t+1) r
theorem zue {x:Nat}:∀ {gs:List Nat} {φ:Nat→Nat} {t:Nat},x<t→ovB φ t gs x=φ x
 | [],φ,t,_=>rfl
 | g::r,φ,t,h=>by
  unfold ovB
  rw [zue (by omega:x<t+1)]
  simp [ren,show x≠t by omega]
theorem zud:∀ {gs:List Nat} {φ:Nat→Nat} {t j g:Nat},gs[j]? = some g→ovB φ t gs (t+j)=g
 | g0::r,φ,t,0,g,h=>by
  simp at h
  subst h
  unfold ovB
  rw [zue (by omega)]
  simp [ren]
 | g0::r,φ,t,j+1,g,h=>by
  unfold ovB
  rw [show t+(j+1)=(t+1)+j by omega]
  exact zud (by simpa using h)
section
variable {z:W0} {V:Env} {w:World} {O:Nat→Prop} {φ:Nat→Nat} {α:Nat→Value} {σ:St} {C:Cx} {n:Nat} {G:GI} {con:Nat→CIn→z3d→Prop} {tb:Tb} {cty:List (Nat × List (Option (Nat × Nat)))} {ann:Ann}
theorem zur:∀ {bs:List Nat} {t:Nat} {z:W0} {φ:Nat→Nat} {σ σ':St},Rl z σ V w O φ α→(∀ b∈bs,b<t∨1000≤b)→renL t bs σ=some σ'→Rl { z with φ0:=ovB z.φ0 t (bs.map φ) } σ' V w O (ovB φ t (bs.map φ)) α
 | [],t,z,φ,σ,σ',h,_,e=>by cases e;exact h
 | b::r,t,z,φ,σ,σ',h,hb,e=>by
  unfold renL at e
  split at e
  ·rename_i s hs
   have h1:=h.zus hs
   have ht:t<1000:=by
    unfold St.zus at hs
    split at hs
    ·rename_i hf
     simp only [St.freeT,yb] at hf
     simpa [yt] using hf.2
    ·cases hs
   have h2:=zur h1 (fun b' hb'=>by
    rcases hb b' (ym _ hb') with q|q
    ·exact .inl (by omega)
    ·exact .inr q) e
   have em:r.map (ren φ t (φ b))=r.map φ:=List.map_congr_left fun b' hb'=>by
    have:b'≠t:=by
     rcases hb b' (ym _ hb') with q|q<;>omega
    simp [ren,this]
   rw [em] at h2
   exact h2
  ·cases e
theorem zl2:∀ {cs:List PV} {bs:List Nat} {us:List Value},zp9 cs=some bs→VRs w O φ α cs us→us=(bs.map φ).map fun g=>Value.pointer (some ⟨g,0,none⟩)
 | [],bs,us,e,h=>by cases e;exact h
 | .ptr b off::r,bs,us,e,h=>by
  obtain ⟨u,us',rfl,h1,h2⟩:=h
  simp only [zp9] at e
  split at e
  ·rename_i l e1 e2
   cases e
   have e1:=yu e1
   subst e1
   simp only [VR] at h1
   rw [h1,zl2 e2 h2]
   rfl
  ·cases e
def dOfE (f:Nat) (gs:List Nat):Deferred:={ target:=.fn (.func f) (List.toArray (gs.map fun g=>Value.pointer (some ⟨g,0,none⟩))),args:=(List.toArray []) }
theorem zjm (ht:TbG C.P tb G) (hcon:∀ f i o,con f i o→Con C.P G f i o) (hz:∀ w O,z.G w O→G.p w O) {k:z7v→St→Prop} {kD:Nat→Nat→z7v→St→Prop}:∀ (c:Code) (σ:St) (todo:List Item),okC ann n c=true→z3b C.fn c=true→exE tb cty ann con k kD c σ→(∀ fl s,k fl s→fl ≠ .normal→FS z C n [] todo fl s) →
  (∀ f gs fl s,kD f gs.length fl s→FS { z with φ0:=ovB z.φ0 990 gs } C n [dOfE f gs] todo fl s)→KS z C n [] (.code c::todo) σ
 | .seq a b,σ,todo,hn,hd,hw,hk,hkD=>by
  simp only [okC,yb] at hn
  simp only [z3b,yb] at hd
  intro V w hr
  refine TW.seq ?_
  unfold exE at hw
  split at hw
  ·rename_i m d x hx
   unfold dfr2 at hx
   split at hx
   ·rename_i id ops
    split at hx
    ·rename_i m' o ho
     split at hx
     ·rename_i fn0 fs0 cs0 dm c hmop hmg hmd hop hg hdst
      obtain ⟨cal,cargs,cty'⟩:=c
      split at hx
      ·rename_i x' hcx hcy
       cases hx
       simp only at hcx hcy
       subst hcx
       have e1:ops=[m,o].toArray:=by apply yad.1;simpa using ho
       subst e1
       obtain ⟨O,φ,α,h,hs⟩:=hr
       have hnm:dOk n m.dst=true:=by
        have h7:=hn.1
        simp only [okC,List.all_cons,yb] at h7
        first|exact h7.1|exact h7.1.1|exact h7.2.1
       rw [hmd] at hnm
       obtain ⟨v,u,hw,hv,hex,_⟩:=z8o (C:=C) (n:=n) (V:=V) ht.toTbOk (fun w O hg=>ht.gt w O (hz w O hg)) h hw
       rw [St.go_eq] at hw
       have h0:=h.zlr (d:=d) hv
       split at hw
       ·rename_i f cs hf
        obtain ⟨bs,hbs,hw⟩:=zc hw
        split at hw
        rotate_left
        ·exact hw.elim
        rename_i hnf hb9
        obtain ⟨s,hs1,hw⟩:=zc hw
        obtain ⟨uf,h1,us,vs,rfl,h2,h3⟩:=h0.ev hf
        have h2:us=[]:=h2
        subst h2
        have h4:=zl2 hbs h3
        rw [zma hnf] at h1
        subst h4
        refine TW.zzj (z6o:=(bs.map φ).map fun g=>Value.pointer (some ⟨g,0,none⟩)) (vs:=[]) hmg hmd hnm hex hg hdst hop h1 (by rw [hcy];simp only [Lk.evs]) ?_
        have:=z2v (z:={ z with φ0:=ovB z.φ0 990 (bs.map φ) }) (ds:=[dOfE f (bs.map φ)]) (G:=G) ht hcon hz b s (kD f bs.length) todo hn.2 (.inr hd.2) hw (fun fl s hk=>hkD f (bs.map φ) fl s (by simpa using hk))
        refine this _ w ⟨O,_,α,zur h0 (fun b' hb' => ?_) hs1,hs⟩
        have:=yd.1 hb9 b' hb'
        simp only [Bool.or_eq_true] at this
        rcases this with q|q
        ·exact .inl (by simpa [yt] using q)
        ·exact .inr (yv q)
       ·exact hw.elim
      ·cases hx
     ·cases hx
    ·cases hx
   ·cases hx
  ·refine z2v (ds:=[]) (G:=G) ht hcon hz a σ _ (.code b::todo) hn.1 (.inr hd.1) hw (fun fl s hs => ?_) V w hr
   cases fl with
   | normal=>exact zjm ht hcon hz b s todo hn.2 hd.2 hs hk hkD
   | exit i=>exact (hk _ _ hs (by simp)).code (by simp)
   | ret=>exact (hk _ _ hs (by simp)).code (by simp)
   | pan v=>exact (hk _ _ hs (by simp)).code (by simp)
 | .skip,σ,todo,_,_,hw,_,_=>hw.elim
 | .label _,σ,todo,_,_,hw,_,_=>hw.elim
 | .ret,σ,todo,_,_,hw,_,_=>hw.elim
 | .exit _,σ,todo,_,_,hw,_,_=>hw.elim
 | .region _ _ _,σ,todo,_,_,hw,_,_=>hw.elim
 | .cond _ _ _,σ,todo,_,_,hw,_,_=>hw.elim
 | .block _ _,σ,todo,_,_,hw,_,_=>hw.elim
 | .loop _,σ,todo,_,_,hw,_,_=>hw.elim
 | .rangeFunc ..,σ,todo,_,_,hw,_,_=>hw.elim
 | .scope _,σ,todo,_,_,hw,_,_=>hw.elim
 | .goto _,σ,todo,_,_,hw,_,_=>hw.elim
 | .refuse _,σ,todo,_,_,hw,_,_=>hw.elim
end
def mode0:Option PV→Value→FrameMode
 | none,_ => .returning
 | some _,u => .panicking [{ v:=u,recovered:=false }]
def mode1:Option PV→Value→FrameMode
 | none,_ => .returning
 | some _,u => .panicking [{ v:=u,recovered:=true }]
def recP:Option PV→PV
 | none => .zew
 | some v=>v
def recV:Option PV→Value→Value
 | none,_ => .nilIface
 | some _,u=>u
structure ConD (P:Program) (G:GI) (f:Nat) (m:Option PV) (i:CIn) (o:z3d):Prop where
 ent:∀ args w,(callFunc f args).run P w = .ok (.enter f args) w
 run:∀ w O φ α us u,(∀ v,m=some v→∃ φv αv,VR w O φv αv v u)→VRs w O φ α i.vs us→Mm w O φ α i.B (i.A.map some)→Bd O w→G.p w O→CallsD P f us.toArray (mode0 m u) w fun e fm w'=>fm=mode1 m u∧zbs i w O φ α o e w'
def exR (tb:Tb) (cty:List (Nat × List (Option (Nat × Nat)))) (ann:Ann) (con:Nat→CIn→z3d→Prop) (v:PV):Code→St→(z7v→St→Prop)→Prop
 | .seq a b,σ,k=>exR tb cty ann con v a σ (z81 (fun s=>ex tb cty ann con b s k) k)
 | .region _ ops false,σ,k=>match ops.toList with
  | o::l=>match o.op,o.guard,o.dst with
   | .call c,none,some d=>match c.callee,c.args.toList with
    | .builtin .recover,[]=>zjo tb cty ann con ops (fun v s=>k (.pan v) s) (fun s=>k .normal s) l (σ.put (some d) v)
    | _,_=>False
   | _,_,_=>False
  | []=>False
 | _,_,_=>False
section
variable {z:W0} {V:Env} {w:World} {O:Nat→Prop} {φ:Nat→Nat} {α:Nat→Value} {σ:St} {C:Cx} {n:Nat} {G:GI} {con:Nat→CIn→z3d→Prop} {tb:Tb} {cty:List (Nat × List (Option (Nat × Nat)))} {ann:Ann}
theorem zjn (ht:TbG C.P tb G) (hcon:∀ f i o,con f i o→Con C.P G f i o) (hz:∀ w O,z.G w O→G.p w O) (hN:C.dfr=true) (hlv:C.lv=false) {u0 u1:FrameMode} {v:PV} {u:Value} (hr:Rec u0 u1 u):∀ (c:Code) (σ:St) (k:z7v→St→Prop) (todo:List Item),okC ann n c=true→exR tb cty ann con v c σ k→(∀ fl s,k fl s→FS z C n [] todo fl s) →
  ∀ {V w O φ α},Rl z σ V w O φ α→(∀ x,z.O x→O x)→VR w O φ α v u→TWR C n u0 u1 (.code c::todo) V w
 | .seq a b,σ,k,todo,hn,hw,hk,V,w,O,φ,α,h,hs,hv=>by
  simp only [okC,yb] at hn
  refine TWR.seq ?_
  refine zjn ht hcon hz hN hlv hr a σ _ (.code b::todo) hn.1 hw (fun fl s hs => ?_) h hs hv
  cases fl with
  | normal=>exact z2v ht hcon hz b s k todo hn.2 (.inl hlv) hs hk
  | exit i=>exact (hk _ _ hs).code (by simp)
  | ret=>exact (hk _ _ hs).code (by simp)
  | pan v=>exact (hk _ _ hs).code (by simp)
 | .region id ops true,σ,k,todo,hn,hw,hk,V,w,O,φ,α,h,hs,hv=>hw.elim
 | .region id ops false,σ,k,todo,hn,hw,hk,V,w,O,φ,α,h,hs,hv=>by
  simp only [okC,yb] at hn
  have hn:=hn.1
  unfold exR at hw
  split at hw
  ·rename_i o l ho
   split at hw
   ·rename_i c d hop hg hd
    obtain ⟨cal,cargs,cty'⟩:=c
    split at hw
    ·rename_i hcx hcy
     simp only at hcx hcy
     subst hcx
     have e1:ops=(o::l).toArray:=by apply yad.1;simpa using ho
     subst e1
     have e2:cargs = #[]:=by apply yad.1;simpa using hcy
     subst e2
     simp only [List.all_cons,yb] at hn
     have hnd:Nat.blt d n=true:=by
      have:=hn.1
      rw [hd] at this
      exact this
     refine TWR.recover hN hr hg hd hnd hop ?_
     have:=z5s (K:=TWa C todo) (rest:=[]) (ops:=(o::l).toArray) (G:=G) ht hcon hz (k:=fun s=>k .normal s) (kp:=fun v s=>k (.pan v) s) (fun s hs V w hr=>OW.done (hk _ _ hs V w hr)) (fun v s hs=>hk _ _ hs) l _ hn.2 hw ((d,u)::V) w ⟨O,φ,α,h.zlr hv,hs⟩
     simpa using this
    ·exact hw.elim
   ·exact hw.elim
  ·exact hw.elim
 | .skip,σ,k,todo,_,hw,_,_,_,_,_,_,_,_,_=>hw.elim
 | .label _,σ,k,todo,_,hw,_,_,_,_,_,_,_,_,_=>hw.elim
 | .ret,σ,k,todo,_,hw,_,_,_,_,_,_,_,_,_=>hw.elim
 | .exit _,σ,k,todo,_,hw,_,_,_,_,_,_,_,_,_=>hw.elim
 | .cond _ _ _,σ,k,todo,_,hw,_,_,_,_,_,_,_,_,_=>hw.elim
 | .block _ _,σ,k,todo,_,hw,_,_,_,_,_,_,_,_,_=>hw.elim
 | .loop _,σ,k,todo,_,hw,_,_,_,_,_,_,_,_,_=>hw.elim
 | .rangeFunc ..,σ,k,todo,_,hw,_,_,_,_,_,_,_,_,_=>hw.elim
 | .scope _,σ,k,todo,_,hw,_,_,_,_,_,_,_,_,_=>hw.elim
 | .goto _,σ,k,todo,_,hw,_,_,_,_,_,_,_,_,_=>hw.elim
 | .refuse _,σ,k,todo,_,hw,_,_,_,_,_,_,_,_,_=>hw.elim
end
theorem ConD.of {P:Program} {G:GI} {tb:Tb} {cty:List (Nat × List (Option (Nat × Nat)))} {ann:Ann} {f:Nat} {fn:Func} {c:Code} {m:Option PV} {i:CIn} {o:z3d} {n:Nat} {res:List ResultVar} (ht:TbG P tb G) (ent:∀ args w,(callFunc f args).run P w = .ok (.enter f args) w) (hf:P.funcs[f]? = some fn) (hb:fn.body=some c) (hn:fn.ntmps=n)
  (hres:fn.results=res.toArray) (hok:okC ann n c=true) (hl:yr i.vs.length n=true) (hnb:ann.nb=i.B.length) (h1000:yr i.B.length 1000=true) (hkv:z48 (fun _=>False) (fun _=>False) (recP m)) (hw:exR tb cty ann (Con P G) (recP m) c (entry i) (fin tb ann res o)):ConD P G f m i o:=by
 refine ⟨ent,fun w O φ α us u hu hv hm hB hG => ?_⟩
 have h1000:=yv h1000
 obtain ⟨hF,h0⟩:=zau (G:=G) hv hm hB hG h1000
 have hlu:us.length=i.vs.length:=hv.len
 have hr:Rec (mode0 m u) (mode1 m u) (recV m u):=by
  cases m with
  | none=>exact .inl ⟨rfl,rfl,rfl⟩
  | some v=>exact .inr ⟨[],rfl,rfl⟩
 have hrv:VR w O φ α (recP m) (recV m u):=by
  cases m with
  | none=>exact rfl
  | some v =>
   obtain ⟨φv,αv,h⟩:=hu v rfl
   exact VR.re (fun _ h=>h.elim) (fun _ h=>h.elim) _ _ hkv h
 refine z86 (R:=zbs i w O φ α o) (mode0 m u) (mode1 m u) hf hb n hn (by rw [hlu];exact hl) ?_
 refine zjn (z:=zvl G i w O φ α hF hB) (C:={ P:=P,f:=f,fn:=fn,R:=zbs i w O φ α o,hf:=hf,dfr:=true }) (n:=n) (G:=G) ht (fun _ _ _ h=>h) (fun _ _ h=>h) rfl rfl hr c (entry i) _ [] hok hw (fun fl s hs => ?_) h0 (fun _ hx=>hx) hrv
 cases fl with
 | normal =>
  intro V w' hr
  obtain ⟨O',φ',α',h1,h2⟩:=hr
  cases o with
  | ok vs B A =>
   obtain ⟨us',h3,h4⟩:=z57 (C:={ P:=P,f:=f,fn:=fn,R:=zbs i w O φ α (.ok vs B A),hf:=hf,dfr:=true }) (n:=n) (hF:=hF) (hB:=hB) (g:=φ) ht hres (fun b hb=>h1.keep b (by omega)) h1 h2 hnb h1000 hs
   exact TW.fin h3 h4
  | _=>exact hs.elim
 | ret =>
  intro k' V w' hr
  obtain ⟨O',φ',α',h1,h2⟩:=hr
  cases o with
  | ok vs B A =>
   obtain ⟨us',h3,h4⟩:=z57 (C:={ P:=P,f:=f,fn:=fn,R:=zbs i w O φ α (.ok vs B A),hf:=hf,dfr:=true }) (n:=n) (hF:=hF) (hB:=hB) (g:=φ) ht hres (fun b hb=>h1.keep b (by omega)) h1 h2 hnb h1000 hs
   exact TW.ret h3 h4
  | _=>exact hs.elim
 | exit _=>exact hs.elim
 | pan v =>
  intro V w' O' φ' α' u φ2 α2 h1 h2 h3 a ha hda
  cases o with
  | ok _ _ _=>cases hs
  | okI _ _ _=>cases hs
  | zg3 v' B =>
   obtain ⟨rfl,hsl,hw⟩:=hs
   obtain ⟨us',_,O3,φ3,α3,h4⟩:=z8z (ann:={ nb:=ann.nb }) (res:=[]) (C:={ P:=P,f:=f,fn:=fn,R:=zbs i w O φ α (.zg3 v' B),hf:=hf,dfr:=true }) (n:=n) (hF:=hF) (hB:=hB) (g:=φ) ht (fun b hb=>h1.keep b (by omega)) h1 h2 hnb h1000 hw
   exact PN.nil hda ⟨u,φ2,α2,us',O3,φ3,α3,rfl,z6h _ _ hsl h3,h4⟩
  | pan v =>
   cases hs
   exact PN.nil hda ⟨u,O',φ2,α2,rfl,h3,h1.ext,h1.tr0,h1.bd,h1.only⟩
def zlo:Nat→List PV
 | 0=>[]
 | n+1 => .undef::zlo n
def ptrs:Nat→Nat→List PV
 | 0,_=>[]
 | n+1,t => .ptr t 0::ptrs n (t+1)
def dB (s:St):List Nat→List (Nat × Nat)→Bool
 | k::ks,e::es=>(match lk s.B k with
  | some x=>yq x.T e.1&&yq x.cs.length e.2
  | none=>false)&&dB s ks es
 | [],[]=>true
 | _,_=>false
def unB (l:List (Nat × Nat)):List Bx:=l.map fun e=>⟨e.1,zlo e.2⟩
def finE (tb:Tb) (ann:Ann) (res:List ResultVar) (out:z3d) (fc:Nat) (ts:List (Nat × Nat)) (T:Nat) (ik:IntKind) (B0:Int→List Bx) (f:Nat) (n:Nat) (fl:z7v) (s:St):Prop :=
 match yq f fc&&yq n ts.length&&yr n 10,fl,out with
 | true,.ret,.ok vs B A=>zwp tb ann res s vs B A
 | true,.pan v,.ok vs B A=>match v with
  | .iface T' (.agg [.int ik' e])=>match yq T' T&&zx6 ik' ik with
   | true=>(dB s (rng n 990) ts&&z7u (rng n 990)&&zkr { s with B:=z43 (rng n 990) s.B,A:=z43 [] s.A } (rng n 990) [] n [] (B0 e) [])=true∧zwp tb ann res (left true (rng n 990) [] [] (B0 e) [] s) vs B A
   | false=>False
  | _=>False
 | _,_,_=>False
structure zdl (P:Program) (G:GI) (fc:Nat) (ts:List (Nat × Nat)) (T:Nat) (ik:IntKind) (B0:Int→List Bx):Prop where
 ret:ConD P G fc none ⟨zlo ts.length,[],[]⟩ (.ok [] [] [])
 pan:∀ e,ConD P G fc (some (.iface T (.agg [.int ik e]))) ⟨ptrs ts.length 0,unB ts,[]⟩ (.ok [] (B0 e) [])
theorem zfk {w:World} {O:Nat→Prop} {φ:Nat→Nat} {α:Nat→Value}:∀ (us:List Value),VRs w O φ α (zlo us.length) us
 | []=>rfl
 | u::us=>⟨u,us,rfl,trivial,zfk us⟩
theorem zum {w:World} {O:Nat→Prop} {φ:Nat→Nat} {α:Nat→Value}:∀ (gs:List Nat) (t:Nat),(∀ j g,gs[j]? = some g→φ (t+j)=g)→VRs w O φ α (ptrs gs.length t) (gs.map fun g=>Value.pointer (some ⟨g,0,none⟩))
 | [],_,_=>rfl
 | g::gs,t,h=>⟨_,_,rfl,by
   have:=h 0 g rfl
   simp only [VR]
   rw [←this]
   rfl,zum gs (t+1) fun j g' hg=>by
   have:=h (j+1) g' (by simpa using hg)
   rw [←this]
   congr 1
   omega⟩
theorem zzi {s:St}:∀ {ks:List Nat} {es:List (Nat × Nat)},dB s ks es=true→ks.length=es.length∧∀ (j:Nat) (k:Nat),ks[j]? = some k→∃ x e,lk s.B k=some x∧es[j]? = some e∧x.T=e.1∧x.cs.length=e.2
 | [],[],_=>⟨rfl,fun j k h=>by simp at h⟩
 | [],_::_,h=>by cases h
 | _::_,[],h=>by cases h
 | k::ks,e::es,h=>by
  simp only [dB,yb] at h
  obtain ⟨h1,h2⟩:=h
  obtain ⟨h3,h4⟩:=zzi h2
  refine ⟨by simp [h3],fun j k' hk => ?_⟩
  cases j with
  | zero =>
   simp at hk
   subst hk
   split at h1
   ·rename_i x hx
    simp only [yb] at h1
    exact ⟨x,e,hx,rfl,yu h1.1,yu h1.2⟩
   ·cases h1
  | succ j=>simpa using h4 j k' (by simpa using hk)
theorem LV.ret3 {C:Cx} {n:Nat} {L:Env} {w:World} {g:FuncId} {args args' cap:Array Value} (Q:World→Prop) (hi:(invoke (.fn (.func g) cap) args).run C.P w = .ok (.enter g args') w)
  (hc:CallsD C.P g args' .returning w (fun e u w'=>e = .returned (.tuple #[])∧u = .returning∧Q w'))
  (h:∀ w',Q w'→∃ v,Out C n L w' v∧C.R (.returned v) w'):LV C n [{ target:=.fn (.func g) cap,args:=args }] L w .returning:=fun a ha hd=>by
 refine leaves_cons (by simp) hi (hc.mono ?_)
 rintro e u w' ⟨rfl,rfl,x⟩
 obtain ⟨v,h1,h2⟩:=h w' x
 exact ⟨v,h1 a ha,h2⟩
theorem Con.ofE {P:Program} {G:GI} {tb:Tb} {cty:List (Nat × List (Option (Nat × Nat)))} {ann:Ann} {f:Nat} {fn:Func} {c:Code} {i:CIn} {o:z3d} {n:Nat} {res:List ResultVar} {fc:Nat} {ts:List (Nat × Nat)} {T:Nat} {ik:IntKind} {B0:Int→List Bx} (hct:zdl P G fc ts T ik B0) (ht:TbG P tb G) (ent:∀ args w,(callFunc f args).run P w = .ok (.enter f args) w) (hnn:yq f NF=false) (hf:P.funcs[f]? = some fn) (hb:fn.body=some c) (hn:fn.ntmps=n)
  (hres:fn.results=res.toArray) (hok:okC ann n c=true) (hnd:z3b fn c=true) (hl:yr i.vs.length n=true) (hnb:ann.nb=i.B.length) (h1000:yr i.B.length 900=true) (hw:exE tb cty ann (Con P G) (fin tb ann res o) (finE tb ann res o fc ts T ik B0) c (entry i)):Con P G f i o:=by
 refine ⟨ent,hnn,fun w O φ α us hv hm hB hG => ?_⟩
 have h1000:=yv h1000
 obtain ⟨hF,h0⟩:=zau (G:=G) hv hm hB hG (by omega)
 have hlu:us.length=i.vs.length:=hv.len
 refine zj8 hf hb n hn (by rw [hlu];exact hl) ?_
 refine zjm (z:=zvl G i w O φ α hF hB) (C:={ P:=P,f:=f,fn:=fn,R:=zbs i w O φ α o,hf:=hf,lv:=true }) (n:=n) (G:=G) ht (fun _ _ _ h=>h) (fun _ _ h=>h) c (entry i) [] hok hnd hw (fun fl s hs hne => ?_) (fun f' gs fl s hs => ?_) _ _ ⟨O,φ,α,h0,fun _ hx=>hx⟩
 ·cases fl with
  | normal=>exact (hne rfl).elim
  | ret =>
   intro k' V w' hr
   obtain ⟨O',φ',α',h1,h2⟩:=hr
   cases o with
   | ok vs B A =>
    obtain ⟨us',h3,h4⟩:=z57 (C:={ P:=P,f:=f,fn:=fn,R:=zbs i w O φ α (.ok vs B A),hf:=hf,lv:=true }) (n:=n) (hF:=hF) (hB:=hB) (g:=φ) ht hres (fun b hb=>h1.keep b (by omega)) h1 h2 hnb (by omega) hs
    exact TW.ret h3 h4
   | _=>exact hs.elim
  | exit _=>exact hs.elim
  | pan v =>
   intro V w' O' φ' α' u φ2 α2 h1 h2 h3 a ha hda
   cases o with
   | ok _ _ _=>cases hs
   | okI _ _ _=>cases hs
   | zg3 v' B =>
    obtain ⟨rfl,hsl,hw⟩:=hs
    obtain ⟨us',_,O3,φ3,α3,h4⟩:=z8z (ann:={ nb:=ann.nb }) (res:=[]) (C:={ P:=P,f:=f,fn:=fn,R:=zbs i w O φ α (.zg3 v' B),hf:=hf,lv:=true }) (n:=n) (hF:=hF) (hB:=hB) (g:=φ) ht (fun b hb=>h1.keep b (by omega)) h1 h2 hnb (by omega) hw
    exact PN.nil hda ⟨u,φ2,α2,us',O3,φ3,α3,rfl,z6h _ _ hsl h3,h4⟩
   | pan v =>
    cases hs
    exact PN.nil hda ⟨u,O',φ2,α2,rfl,h3,h1.ext,h1.tr0,h1.bd,h1.only⟩
 ·have hkp:∀ {φ':Nat→Nat} {b:Nat},b<i.B.length→φ' b=ovB φ 990 gs b→φ' b=φ b:=fun {φ' b} hb e=>e.trans (zue (by omega))
  unfold finE at hs
  split at hs
  ·rename_i vs B A hff
   simp only [yb] at hff
   have e1:=yu hff.1.1
   have e2:=yu hff.1.2
   subst e1
   intro k' V w' hr
   obtain ⟨O',φ',α',h1,h2⟩:=hr
   have hcall:=hct.ret.run w' O' φ' α' (gs.map fun g=>Value.pointer (some ⟨g,0,none⟩)) .nilIface (fun v hv=>by cases hv) (by
    have:=zfk (w:=w') (O:=O') (φ:=φ') (α:=α') (gs.map fun g=>Value.pointer (some ⟨g,0,none⟩))
    rw [List.length_map,e2] at this
    exact this) ⟨fun b e he=>by simp at he,fun b e he=>by simp at he,fun a b la=>by simp at la,fun a b e e' he=>by simp at he,fun a b e he=>by simp at he⟩ h1.bd h1.gl
   refine TW.retD rfl (LV.ret3 (fun w2=>Ext z0v w' w2) (z9a (vs:=[]) (z6o:=gs.map fun g=>Value.pointer (some ⟨g,0,none⟩)) hct.ret.ent) (hcall.mono ?_) fun w2 x => ?_)
   ·rintro e fm w2 ⟨rfl,us',O3,φ3,α3,rfl,hd⟩
    have hus:us'=[]:=hd.res
    subst hus
    exact ⟨rfl,rfl,hd.ext.mono fun x _ hx=>by
     rcases hx with ⟨b,hb,_⟩|⟨b,hb,_⟩<;>simp at hb⟩
   ·have h3:=h1.zkl x
    obtain ⟨us',h4,h5⟩:=z57 (C:={ P:=P,f:=f,fn:=fn,R:=zbs i w O φ α (.ok vs B A),hf:=hf,lv:=true }) (n:=n) (hF:=hF) (hB:=hB) (g:=ovB φ 990 gs) ht hres (fun b hb=>hkp hb (h3.keep b (by omega))) h3 h2 hnb (by omega) hs
    exact ⟨_,h4,h5⟩
  ·rename_i v vs B A hff
   simp only [yb] at hff
   have e1:=yu hff.1.1
   have e2:=yu hff.1.2
   have e3:=yv hff.2
   subst e1
   split at hs
   ·rename_i T' ik' e
    split at hs
    ·rename_i hb3
     simp only [yb] at hb3
     have f1:=yu hb3.1
     have f2:=z7h hb3.2
     subst f1 f2
     obtain ⟨hs1,hs2⟩:=hs
     simp only [yb] at hs1
     obtain ⟨⟨hdb,hnd9⟩,hout⟩:=hs1
     obtain ⟨_,hdb⟩:=zzi hdb
     intro V w' O' φ' α' u φ2 α2 h1 h2 h3 a ha hda
     have hk9:∀ j g,gs[j]? = some g→φ' (990+j)=g:=fun j g hg=>by
      have hj:=(yi.1 hg).1
      exact (h1.keep (990+j) (by omega)).trans (zud hg)
     have hrg:∀ j,j<gs.length→(rng gs.length 990)[j]? = some (990+j):=fun j hj=>zil.2 ⟨hj,rfl⟩
     have hgd:∀ j,j<gs.length→(rng gs.length 990).getD j 0=990+j:=fun j hj=>by simp [List.getD,hrg j hj]
     have hul:(unB ts).length=gs.length:=by simp [unB,e2]
     have hmm:Mm w' O' (fun j=>φ' ((rng gs.length 990).getD j 0)) (fun j=>α' (([]:List Nat).getD j 0)) (unB ts) []:=by
      refine ⟨fun j x hx => ?_,fun b e he=>by simp at he,fun a b la lb hn => ?_,fun a b e e' he=>by simp at he,fun a b e he=>by simp at he⟩
      ·have hj:j<gs.length:=by
        have:=(yi.1 hx).1
        omega
       obtain ⟨y,ee,k1,k2,k3,k4⟩:=hdb j _ (hrg j hj)
       have hx':x=⟨ee.1,zlo ee.2⟩:=by
        simp only [unB,List.getElem?_map,k2,Option.map_some,Option.some.injEq] at hx
        exact hx.symm
       subst hx'
       obtain ⟨m1,us3,m2,m3⟩:=h1.box _ y k1
       simp only [hgd j hj]
       refine ⟨m1,us3,k3▸m2,?_⟩
       have:=zfk (w:=w') (O:=O') (φ:=fun j=>φ' ((rng gs.length 990).getD j 0)) (α:=fun j=>α' (([]:List Nat).getD j 0)) us3
       rw [m3.len,k4] at this
       exact this
      ·rw [hul] at la lb
       obtain ⟨y,_,k1,_⟩:=hdb a _ (hrg a la)
       obtain ⟨y',_,k1',_⟩:=hdb b _ (hrg b lb)
       simp only [hgd a la,hgd b lb]
       exact h1.bb _ _ y y' k1 k1' (by omega)
     have hcall:=(hct.pan e).run w' O' (fun j=>φ' ((rng gs.length 990).getD j 0)) (fun j=>α' (([]:List Nat).getD j 0)) (gs.map fun g=>Value.pointer (some ⟨g,0,none⟩)) u (fun v hv=>by cases hv;exact ⟨φ2,α2,h3⟩) (by
      have:=zum (w:=w') (O:=O') (φ:=fun j=>φ' ((rng gs.length 990).getD j 0)) (α:=fun j=>α' (([]:List Nat).getD j 0)) gs 0 fun j g hg=>by
       have hj:=(yi.1 hg).1
       simp only [yab,hgd j hj]
       exact hk9 j g hg
      show VRs _ _ _ _ (ptrs ts.length 0) _
      rw [←e2]
      exact this) hmm h1.bd h1.gl
     simp only [zkr,yb] at hout
     obtain ⟨⟨⟨⟨⟨⟨r1,r2⟩,r3⟩,r4⟩,r5⟩,r6⟩,r7⟩:=hout
     have r2:=yu r2
     have key:=LV.pan1 (C:={ P:=P,f:=f,fn:=fn,R:=zbs i w O φ α (.ok vs B A),hf:=hf,lv:=true }) (n:=n) (L:=V) (pv:=u)
      (fun w2=>∃ us' O3 φ3 α3,zg7 ⟨ptrs ts.length 0,unB ts,[]⟩ w' O' (fun j=>φ' ((rng gs.length 990).getD j 0)) (fun j=>α' (([]:List Nat).getD j 0)) [] (B0 e) [] w2 us' O3 φ3 α3)
      (z9a (vs:=[]) (z6o:=gs.map fun g=>Value.pointer (some ⟨g,0,none⟩)) hct.ret.ent) (hcall.mono (by
       rintro e fm w2 ⟨rfl,us',O3,φ3,α3,rfl,hd⟩
       have hus:us'=[]:=hd.res
       subst hus
       exact ⟨rfl,rfl,_,O3,φ3,α3,hd⟩)) fun w2 ⟨us',O3,φ3,α3,hd⟩=>by
      obtain ⟨O4,φ4,α4,m1,m2,_,_⟩:=zib (bs:=rng gs.length 990) (as_:=[]) (as_':=[]) (vs:=[]) (A:=[]) h1 h1 (fun _ h=>h) (fun _ h=>h) (fun b e he=>⟨e,he⟩) (fun b e he=>⟨e,he⟩)
       hnd9 rfl (by rw [hul,zag];exact yw _) rfl (fun j b hj hb=>by
        rw [hul] at hj
        obtain ⟨y,_,k1,_⟩:=hdb j b hb
        exact ⟨y,k1⟩) (fun j b hj=>by simp at hj) r2 rfl r4 r5 r6 (by rw [show (unB ts).length=gs.length from hul];exact r7) hd (.inl fun x hx=>hd.more x hx)
      obtain ⟨us4,h5,h6⟩:=z57 (C:={ P:=P,f:=f,fn:=fn,R:=zbs i w O φ α (.ok vs B A),hf:=hf,lv:=true }) (n:=n) (hF:=hF) (hB:=hB) (g:=ovB φ 990 gs) ht hres (fun b hb=>hkp hb (m1.keep b (by omega))) m1 (fun x hx=>m2 x (h2 x hx)) hnb (by omega) hs2
      exact ⟨_,h5,h6⟩
     have:=key a ha hda
     unfold PN
     rw [hda]
     exact this
    ·exact hs.elim
   ·exact hs.elim
  ·exact hs.elim
end
section
open Go.RowKit Go.Lk
section
variable {R A:Type} {W:R→Prop} {y:Option R}
theorem S.n {p:Prop} (h:S y W) (hp:p:=by (repeat' first|exact rfl|exact trivial|apply And.intro)):S y (fun r=>p∧W r):=S.an hp h
theorem S.zr {a:R} (h:W a:=by exact rfl):S (some a) W:=S.z h
theorem S.q {a:R} (h:W a:=by exact ⟨rfl,by (repeat' first|exact trivial|exact rfl|apply And.intro),by (repeat' first|exact trivial|exact rfl|apply And.intro),rfl⟩):S (some a) W:=S.z h
theorem S.qd {a:R} (h:W a:=by exact ⟨rfl,rfl,by (repeat' first|exact trivial|exact rfl|apply And.intro),by (repeat' first|exact trivial|exact rfl|apply And.intro),rfl⟩):S (some a) W:=S.z h
theorem S.qb {a:R} (h:W a:=by exact ⟨rfl,rfl,rfl,by (repeat' first|exact trivial|exact rfl|apply And.intro),trivial,rfl⟩):S (some a) W:=S.z h
theorem S.no:S (none:Option R) W:=fun _ h=>by cases h
theorem S.m {Y:Type} {f:Y→List D} {xs:List Y} {F:R→Int→Prop} (h:S y (fun r=>F r (xs.length:Int))):S y (fun r=>Ex (zxl (xs.map f)) (F r)):=S.eq z3r h
theorem S.kk {con:Nat→CIn→z3d→Prop} {σ:St} {f:Nat} {args:List PV} {k:R→PV→St→Prop} {kp:R→PV→St→Prop} {z:Option A} {g:A→Option R} {i:CIn} {o:A→z3d} (bs as_ as_':List Nat) (hc:∀ a,z=some a→con f i (o a))
  (h:∀ a,S (g a) (fun r=>zly bs as_ as_' i args σ (k r) (kp r) (o a)))
  (h1:nrm.go σ i.vs args=z9s.go bs as_ i.vs:=by exact rfl) (h2:z83 σ bs as_ bs i.B:=by (repeat' first|exact trivial|exact rfl|apply And.intro)) (h3:zdo σ as_ i.A:=by (repeat' first|exact trivial|exact rfl|apply And.intro)) (h4:zgf σ bs as_ (z92.go i.vs args) i=true:=by exact rfl):S (z >>= g) (fun r=>zhi con σ f args (k r) (kp r)):=S.k bs as_ as_' hc h1 h2 h3 h4 h
theorem S.k0 {con:Nat→CIn→z3d→Prop} {σ:St} {f:Nat} {args:List PV} {k:R→PV→St→Prop} {kp:R→PV→St→Prop} {z:Option A} {g:A→Option R} {i:CIn} {o:A→z3d} (hc:∀ a,z=some a→con f i (o a))
  (h:∀ a,S (g a) (fun r=>zly [] [] [] i args σ (k r) (kp r) (o a)))
  (h1:nrm.go σ i.vs args=z9s.go [] [] i.vs:=by exact rfl) (h2:z83 σ [] [] [] i.B:=by exact trivial) (h3:zdo σ [] i.A:=by exact trivial) (h4:zgf σ [] [] (z92.go i.vs args) i=true:=by exact rfl):S (z >>= g) (fun r=>zhi con σ f args (k r) (kp r)):=S.k [] [] [] hc h1 h2 h3 h4 h
section
variable {B:R→St→Prop} {A1 A2:R→(St→Prop)→Prop} {b:Bool} {s1 s2:St}
theorem S.ja {e:Bool} (sh:Bool→St) (h1:∀ r,A1 r fun s=>∃ x,s=sh x∧x=e) (hB:S y fun r=>B r (sh (b&&e))) (h2:s2=sh false:=by exact rfl):S y (fun r=>∃ J:St→Prop,cond b (A1 r J) (J s2)∧∀ s,J s→B r s):=by
 cases b with
 | true=>exact S.jb (v:=e) sh h1 hB
 | false=>exact S.jb (v:=false) sh (fun _=>⟨false,h2,rfl⟩) hB
theorem S.ja0 {e:Bool} (sh:Bool→St) (h1:s1=sh e) (hB:S y fun r=>B r (sh (b&&e))) (h2:s2=sh false:=by exact rfl):S y (fun r=>∃ J:St→Prop,cond b (J s1) (J s2)∧∀ s,J s→B r s) :=
 S.ja (A1:=fun _ J=>J s1) sh (fun _=>⟨e,h1,rfl⟩) hB h2
theorem S.ju {e:Bool} (sh:Bool→St) (h1:∀ r,A2 r fun s=>∃ x,s=sh x∧x=e) (hB:S y fun r=>B r (sh (b||e))) (h2:s1=sh true:=by exact rfl):S y (fun r=>∃ J:St→Prop,cond b (J s1) (A2 r J)∧∀ s,J s→B r s):=by
 cases b with
 | true=>exact S.jb (v:=true) sh (fun _=>⟨true,h2,rfl⟩) hB
 | false=>exact S.jb (v:=e) sh h1 hB
theorem S.ju0 {e:Bool} (sh:Bool→St) (h1:s2=sh e) (hB:S y fun r=>B r (sh (b||e))) (h2:s1=sh true:=by exact rfl):S y (fun r=>∃ J:St→Prop,cond b (J s1) (J s2)∧∀ s,J s→B r s) :=
 S.ju (A2:=fun _ J=>J s2) sh (fun _=>⟨e,h1,rfl⟩) hB h2
end
end
section
variable {R A X:Type} {f c:X→List D} {l l2:List (List D)} {xs ys:List X}
theorem S.ixf (f:X→List D) {i:Int} {F:R→List D→Prop} {g:X→Option R} (h:∀ x,S (g x) (fun r=>F r (f x))) (hl:l=xs.map f:=by exact rfl):S (Go.Lk.ix xs i >>= g) (fun r=>Ex (Go.Lk.ix l i) (F r)):=S.ix hl (fun _=>rfl) h
theorem S.ixm (hc:∀ x,f x=c x) {i:Int} {F:R→List D→Prop} {g:X→Option R} (h:∀ x,S (g x) (fun r=>F r (c x))) (hl:l=xs.map f:=by exact rfl):S (Go.Lk.ix xs i >>= g) (fun r=>Ex (Go.Lk.ix l i) (F r)):=S.ix hl hc h
theorem S.ixs {E:List X→List (List D)} (hE:∀ l,E l=l.map f) (hc:∀ x,f x=c x) {i:Int} {F:R→List D→Prop} {g:X→Option R} (h:∀ x,S (g x) (fun r=>F r (c x))) (hl:l=E xs:=by exact rfl):S (Go.Lk.ix xs i >>= g) (fun r=>Ex (Go.Lk.ix l i) (F r)):=S.ixE hE hl hc h
theorem S.subm (f:X→List D) {i j:Int} {F:R→List (List D)→Prop} {g:List X→Option R} (h:∀ x,S (g x) (fun r=>F r (x.map f))) (hl:l=xs.map f:=by exact rfl):S (Go.Lk.sub xs i j >>= g) (fun r=>Ex (Go.Lk.sub l i j) (F r)):=S.sub hl h
theorem S.zfl (f:X→List D) {n:Nat} {F:R→List (List D)→Prop} {g:List X→Option R} (h:∀ x,S (g x) (fun r=>F r (x.map f))) (hl2:l2=ys.map f:=by exact rfl) (hl:l=xs.map f:=by exact rfl):S (Go.Lk.app n xs ys >>= g) (fun r=>Ex (Go.Lk.app n l l2) (F r)):=S.app hl hl2 h
theorem S.apps {E:List X→List (List D)} (hE:∀ l,E l=l.map f) {n:Nat} {F:R→List (List D)→Prop} {g:List X→Option R} (h:∀ x,S (g x) (fun r=>F r (E x))) (hl2:l2=E ys:=by exact rfl) (hl:l=E xs:=by exact rfl):S (Go.Lk.app n xs ys >>= g) (fun r=>Ex (Go.Lk.app n l l2) (F r)):=S.appE hE hl hl2 h
theorem S.d {W':R→List UInt8→Prop} {y:Option R} {xs:List Int} (h:S y (fun r=>W' r (byt xs))) (hl:l=xs.map (eI .u8):=by exact rfl):S y (fun r=>Ex (Go.Pe.dby l) (W' r)):=S.dby hl h
end
section
variable {tb:Tb} {cty:List (Nat × List (Option (Nat × Nat)))} {ann:Ann} {con:Nat→CIn→z3d→Prop} {R X:Type}
theorem S.gn {a:Code} {σ:St} {c:Cut} {k:R→z7v→St→Prop} {B:R→St→Prop} {z:Option (Jn R X)} {m:Jn R X→Option R} (sh:X→St)
  (hA:S z fun j=>ex tb cty ann con a σ (z81 (fun s=>wt (s.cut c) (jG sh j)) (kD k (fun _ _=>False) j))) (hB:∀ x,S (m (.go x)) fun r=>B r (sh x)) (hd:∀ r,m (.done r)=some r:=by exact fun _=>rfl) :
  S (z >>= m) (fun r=>∃ J:St→Prop,ex tb cty ann con a σ (z81 (fun s=>wt (s.cut c) J) (k r))∧∀ s,J s→B r s):=S.jn sh hA hd hB
end
@[reducible] def cu (L B A:List Nat):Cut:={ L:=L,B:=B,A:=A }
@[reducible] def c1 (L:List Nat):Cut:={ L:=L }
@[reducible] def st (L:List (Nat × PV)):St:=⟨L,[],[],none⟩
@[reducible] def sb (L:List (Nat × PV)) (B:List (Nat × Bx)):St:=⟨L,B,[],none⟩
@[reducible] def PV.i (x:Int):PV:=.int .i64 x
@[reducible] def PV.b (x:Bool):PV:=.bool x
@[reducible] def PV.s (x:List UInt8):PV:=.str x
@[reducible] def PV.p (b:Nat):PV:=.ptr b 0
@[reducible] def ro {α:Type} (T:Nat) (k:IntKind) (o:α→z3d):Rs α→z3d
 | .ok r=>o r
 | .pan e => .pan (.iface T (.agg [.int k e]))
@[reducible] def rb {α β:Type} (T:Nat) (k:IntKind) (o:α→z3d) (p:β→List Bx):Rb α β→z3d
 | .ok r=>o r
 | .pan e x => .zg3 (.iface T (.agg [.int k e])) (p x)
@[reducible] def pn (b c:Nat):PV:=match yq c 1000000 with
 | true => .zfs
 | false => .ptr b c
theorem Con.oE {P:Program} {G:GI} {tb:Tb} {cty:List (Nat × List (Option (Nat × Nat)))} {α:Type} {y:Option α} {f:Nat} {fn:Func} {i:CIn} {o:α→z3d} {fc:Nat} {ts:List (Nat × Nat)} {T:Nat} {ik:IntKind} {B0:Int→List Bx} (hct:zdl P G fc ts T ik B0) (ht:TbG P tb G) (hf:P.funcs[f]? = some fn) (ann:Ann) (res:List ResultVar)
  (hw:S y fun r=>exE tb cty ann (Con P G) (fin tb ann res (o r)) (finE tb ann res (o r) fc ts T ik B0) (z2a fn) (entry i)) (hok:okC ann fn.ntmps (z2a fn)=true) (hb:fn.body=some (z2a fn)) (ent:∀ args w,(callFunc f args).run P w = .ok (.enter f args) w)
  (hnd:z3b fn (z2a fn)=true) (hres:fn.results=res.toArray) (hnn:yq f NF=false) (hl:yr i.vs.length fn.ntmps=true) (hnb:ann.nb=i.B.length) (h1000:yr i.B.length 900=true):S y fun r=>Con P G f i (o r) :=
 fun r hm=>Con.ofE hct ht ent hnn hf hb rfl hres hok hnd hl hnb h1000 (hw r hm)
theorem Con.oS {P:Program} {G:GI} {tb:Tb} {cty:List (Nat × List (Option (Nat × Nat)))} {α:Type} {y:Option α} {f:Nat} {fn:Func} {i:CIn} {o:α→z3d} (ht:TbG P tb G) (hf:P.funcs[f]? = some fn) (ann:Ann) (res:List ResultVar)
  (hw:S y fun r=>ex tb cty ann (Con P G) (z2a fn) (entry i) (fin tb ann res (o r))) (hok:okC ann fn.ntmps (z2a fn)=true) (hb:fn.body=some (z2a fn)) (ent:∀ args w,(callFunc f args).run P w = .ok (.enter f args) w)
  (hres:fn.results=res.toArray) (hnn:yq f NF=false) (hl:yr i.vs.length fn.ntmps=true) (hnb:ann.nb=i.B.length) (h1000:yr i.B.length 1000=true):S y fun r=>Con P G f i (o r) :=
 fun r hm=>Con.of ht ent hnn hf hb rfl hres hok hl hnb h1000 (hw r hm)
theorem Con.oD {P:Program} {G:GI} {tb:Tb} {cty:List (Nat × List (Option (Nat × Nat)))} {α:Type} {y:Option α} {f:Nat} {fn:Func} {i:CIn} {o:α→z3d} {fc T:Nat} {ik:IntKind} {Te:Nat} (hct:zj2 P fc T ik Te) (ht:TbG P tb G) (hf:P.funcs[f]? = some fn) (ann:Ann) (res:List ResultVar)
  (hw:S y fun r=>exD tb cty ann (Con P G) (fin tb ann res (o r)) (finD tb ann res (o r) fc T ik Te) (z2a fn) (entry i)) (hok:okC ann fn.ntmps (z2a fn)=true) (hb:fn.body=some (z2a fn)) (ent:∀ args w,(callFunc f args).run P w = .ok (.enter f args) w)
  (hnd:z3b fn (z2a fn)=true) (hres:fn.results=res.toArray) (hnn:yq f NF=false) (hl:yr i.vs.length fn.ntmps=true) (hnb:ann.nb=i.B.length) (h1000:yr i.B.length 900=true):S y fun r=>Con P G f i (o r) :=
 fun r hm=>Con.ofD hct ht ent hnn hf hb rfl hres hok hnd hl hnb h1000 (hw r hm)
end
section
set_option linter.unusedVariables false
open Go.RowKit Go.Lk Go.Proofs Go.Shelf
variable {P:Program} {ρ:Ren}
theorem VRs.str {w:World} {O:Nat→Prop} {φ:Nat→Nat} {α:Nat→Value} {a:List UInt8} {vs:List PV} {us:List Value} (h:VRs w O φ α (.str a::vs) us):∃ us',us = .string ⟨a.toArray⟩::us'∧VRs w O φ α vs us':=by
 obtain ⟨u,us',rfl,h1,h2⟩:=h
 simp only [VR] at h1
 exact ⟨us',by rw [h1],h2⟩
theorem VRs.int {w:World} {O:Nat→Prop} {φ:Nat→Nat} {α:Nat→Value} {k:IntKind} {a:Int} {vs:List PV} {us:List Value} (h:VRs w O φ α (.int k a::vs) us):∃ us',us = .int k a::us'∧VRs w O φ α vs us':=by
 obtain ⟨u,us',rfl,h1,h2⟩:=h
 simp only [VR] at h1
 exact ⟨us',by rw [h1],h2⟩
theorem VRs.nil {w:World} {O:Nat→Prop} {φ:Nat→Nat} {α:Nat→Value} {us:List Value} (h:VRs w O φ α [] us):us=[]:=h
theorem VRs.gStr {w:World} {O:Nat→Prop} {φ:Nat→Nat} {α:Nat→Value} (a:List UInt8):VRs w O φ α [.str a] [.string ⟨a.toArray⟩]:=⟨_,[],rfl,rfl,rfl⟩
theorem VRs.gInt {w:World} {O:Nat→Prop} {φ:Nat→Nat} {α:Nat→Value} (k:IntKind) (a:Int):VRs w O φ α [.int k a] [.int k a]:=⟨_,[],rfl,rfl,rfl⟩
theorem VRs.zsv {w:World} {O:Nat→Prop} {φ:Nat→Nat} {α:Nat→Value} (a:Bool):VRs w O φ α [.bool a] [.bool a]:=⟨_,[],rfl,rfl,rfl⟩
theorem Ext.bytes (w:World) (T:TypeId) (t:ByteArray):Ext z0v w (Lib.bytesWorld w T t):=by
 refine ⟨?_,?_,?_,?_,fun b hb _=>Lib.bytesWorld_at_old w T _ b hb⟩
 ·simp only [Lib.bytesWorld,World.freeze];split<;>rfl
 ·simp only [Lib.bytesWorld,World.freeze];split<;>rfl
 ·simp only [Lib.bytesWorld,World.freeze];split<;>rfl
 ·rw [Lib.bytesWorld_size];omega
theorem Con.lib {G:GI} {f:Nat} {vs rs:List PV} (ent:∀ args w,(callFunc f args).run P w = .ok (.enter f args) w)
  (h:∀ w O φ α us,VRs w O φ α vs us→Bd O w→G.p w O→Calls P f us.toArray w fun e w'=>∃ us',e = .returned (zvt us')∧(∀ O' φ' α',VRs w' O' φ' α' rs us')∧Ext z0v w w') (hnn:yq f NF=false:=by exact rfl):Con P G f ⟨vs,[],[]⟩ (.ok rs [] []):=by
 refine ⟨ent,hnn,fun w O φ α us hv hm hB hG=>(h w O φ α us hv hB hG).mono fun e w' ⟨us',h1,h2,h3⟩ => ?_⟩
 have tr:Tr O w O w':=Tr.z4n h3 fun _ _ hx=>hx.elim
 refine ⟨us',O,φ,α,h1,h2 O φ α,⟨fun b e he => ?_,fun a e he => ?_,fun a b la _ _ => ?_,fun a b e e' ha _ _ => ?_,fun a b e ha _ => ?_⟩,fun _ _=>rfl,yw _,fun x hx=>yy (hB x hx) h3.size,tr,fun _ hx=>hx,fun _ hx => .inl hx,h3.mono fun _ _ hx=>hx.elim,fun b h1 _ => ?_,fun a e x he _ => ?_⟩
 ·simp at he
 ·simp at he
 ·exact absurd la (yaa _)
 ·simp at ha
 ·simp at ha
 ·exact absurd h1 (yaa _)
 ·simp at he
theorem Ext.freeze (F:Nat→Prop) (w:World) (g n:Nat) (hF:F g):Ext F w (w.freeze ⟨g,0,none⟩ n):=by
 unfold World.freeze
 split
 ·exact Ext.refl _ _
 ·refine ⟨rfl,rfl,rfl,by simp,fun b hb hf => ?_⟩
  simp only [Array.getElem?_modify]
  rw [if_neg (fun h:g=b=>hf (h▸hF))]
set_option maxHeartbeats 2000000 in
set_option maxRecDepth 100000 in
theorem zft (L:Lays.n169 P ρ) (X:Builder.Extra P ρ) (b:Nat) (p v:Value) (l:List UInt8) (w:World) (hbk:w.heap[b]? = some (.cells #[p,v] (ρ.t 72) (0,0))) (hA:Lib.BuilderAtF (ρ.t 72) (ρ.t 5) 0 b p (Lib.byteCells l) w) :
  Calls P (ρ.f 169) #[.pointer (some ⟨b,0,none⟩)] w fun e w'=>e = .returned (.string ⟨l.toArray⟩)∧Lib.BuilderAtF (ρ.t 72) (ρ.t 5) 0 b p (Lib.byteCells l) w'∧Ext (fun x=>v.ownBlock=some x) w w':=by
 have hblt:b<w.heap.size:=by
  rcases Nat.lt_or_ge b w.heap.size with h'|h'
  ·exact h'
  ·simp [Array.getElem?_eq_none h'] at hbk
 obtain ⟨hB,v',hbk',hown,hne⟩:=id hA
 rw [hbk] at hbk'
 have ev:v=v':=by simpa using hbk'
 subst ev
 rw [Lib.byteCells_length] at hown
 have mixed:=L.mixed
 have t72:=L.t72;have a72:=L.a72;have z72:=L.z72;have v72:=L.v72;have u72:=run_underlying L.t72
 have t70:=L.t70;have a70:=L.a70;have z70:=L.z70;have v70:=L.v70;have u70:=run_underlying L.t70
 have t37:=L.t37;have a37:=L.a37;have z37:=L.z37;have v37:=L.v37;have u37:=run_underlying L.t37
 have t127:=L.t127;have a127:=L.a127;have z127:=L.z127;have v127:=L.v127;have u127:=run_underlying L.t127
 have t3:=L.t3;have a3:=L.a3;have z3:=L.z3;have v3:=L.v3;have u3:=run_underlying L.t3
 have t9:=L.t9;have a9:=L.a9;have z9:=L.z9;have v9:=L.v9;have u9:=run_underlying L.t9
 have t5:=X.t5;have a5:=X.a5;have z5:=X.z5;have v5:=X.v5;have u5:=run_underlying X.t5
 rcases hown.2 with ⟨rfl,hz⟩|⟨g,cap,cur,fz,rfl,hbg,hg,hfz,hnc,hcm,hcs,htake⟩
 ·obtain rfl:=yg hz
  have hUS:=Any.unsafeString_none L X
  have c1:w.drew.cell? ⟨b,1,none⟩=some (.slice none 0 0):=by
   have:w.drew.heap[b]? = some (.cells #[p,.slice none 0 0] (ρ.t 72) (0,0)):=hbk
   rw [Lib.cell_of_heap this];rfl
  have hSD:(Builtin.unsafeSliceData_ #[(ρ.t 37)] (ρ.t 127) #[.slice none 0 0]).run P w.drew = .ok (.pointer none) w.drew:=rfl
  go_enter L.f169,Body.n169_ntmps ρ
  go_wp2
  go_region_o
  all_goals (go_wp2;go_ret;exact ⟨rfl,hA.drew,Ext.drew _ _⟩)
 ·by_cases hl0:l=[]
  ·subst hl0
   by_cases hc0:cap=0
   ·subst hc0
    have hUS:=Any.unsafeString_none L X
    have c1:w.drew.cell? ⟨b,1,none⟩=some (.slice (some ⟨g,0,none⟩) 0 0):=by
     have:w.drew.heap[b]? = some (.cells #[p,.slice (some ⟨g,0,none⟩) 0 0] (ρ.t 72) (0,0)):=hbk
     rw [Lib.cell_of_heap this];rfl
    have hSD:(Builtin.unsafeSliceData_ #[(ρ.t 37)] (ρ.t 127) #[.slice (some ⟨g,0,none⟩) 0 0]).run P w.drew = .ok (.pointer (some ⟨w.drew.heap.size,0,none⟩)) (w.drew.alloc (.view ⟨g,0,none⟩ (ρ.t 5))) :=
     Lib.run_unsafeSliceData_zero w.drew _ _ (ρ.t 5) L.t127 ⟨g,0,none⟩ 0 ((ρ.t 5),cur.size) (by have hg':w.drew.heap[g]? = some (.cells cur (ρ.t 5) fz):=hg;simp [World.shape?,hg'])
    have c2:(w.drew.alloc (.view ⟨g,0,none⟩ (ρ.t 5))).cell? ⟨b,1,none⟩=some (.slice (some ⟨g,0,none⟩) 0 0):=by
     have:(w.drew.alloc (.view ⟨g,0,none⟩ (ρ.t 5))).heap[b]? = _:=(Lib.alloc_old w.drew _ b hblt).trans hbk
     rw [Lib.cell_of_heap this];rfl
    have c3:(w.alloc (.view ⟨g,0,none⟩ (ρ.t 5))).drew.cell? ⟨b,1,none⟩=some (.slice (some ⟨g,0,none⟩) 0 0):=c2
    have c0:w.cell? ⟨b,1,none⟩=some (.slice (some ⟨g,0,none⟩) 0 0):=c1
    go_enter L.f169,Body.n169_ntmps ρ
    go_wp2
    go_region_o
    all_goals (go_wp2;go_ret;exact ⟨rfl,hA.drew.alloc _,(Ext.drew _ w).trans (Ext.alloc _ _ _)⟩)
   ·have hUS:=Any.unsafeString_none L X
    have c1:w.drew.cell? ⟨b,1,none⟩=some (.slice (some ⟨g,0,none⟩) 0 cap):=by
     have:w.drew.heap[b]? = some (.cells #[p,.slice (some ⟨g,0,none⟩) 0 cap] (ρ.t 72) (0,0)):=hbk
     rw [Lib.cell_of_heap this];rfl
    have hSD:(Builtin.unsafeSliceData_ #[(ρ.t 37)] (ρ.t 127) #[.slice (some ⟨g,0,none⟩) 0 cap]).run P w.drew = .ok (.pointer (some ⟨g,0,none⟩)) w.drew :=
     Lib.run_unsafeSliceData_row _ _ _ _ _ _ hc0
    clear hc0
    go_enter L.f169,Body.n169_ntmps ρ
    go_wp2
    go_region_o
    all_goals (go_wp2;go_ret;exact ⟨rfl,hA.drew,Ext.drew _ _⟩)
  ·have hl1:l.length≠0:=fun h=>hl0 (yg h)
   have c1:w.drew.cell? ⟨b,1,none⟩=some (.slice (some ⟨g,0,none⟩) l.length cap):=by
    have:w.drew.heap[b]? = some (.cells #[p,.slice (some ⟨g,0,none⟩) l.length cap] (ρ.t 72) (0,0)):=hbk
    rw [Lib.cell_of_heap this];rfl
   have hSD:(Builtin.unsafeSliceData_ #[(ρ.t 37)] (ρ.t 127) #[.slice (some ⟨g,0,none⟩) l.length cap]).run P w.drew = .ok (.pointer (some ⟨g,0,none⟩)) w.drew :=
    Lib.run_unsafeSliceData_row _ _ _ _ _ _ (by omega)
   have hUS:(Builtin.unsafeString_ #[(ρ.t 127),(ρ.t 3)] (ρ.t 9) #[.pointer (some ⟨g,0,none⟩),.int .i64 l.length]).run P w.drew = .ok (.string ⟨l.toArray⟩) (w.drew.freeze ⟨g,0,none⟩ l.length):=by
    refine Lib.run_unsafeString_row w.drew (ρ.t 127) (ρ.t 3) (ρ.t 9) (ρ.t 5) L.t127 X.cellsByte g cur.size (by have hg':w.drew.heap[g]? = some (.cells cur (ρ.t 5) fz):=hg;simp [World.shape?,hg']) l hl0 (by omega) (by unfold maxLen at hcm;omega) ?_
    intro j x hx
    have:=hown.cells (g:=g) rfl j (.int .u8 x.toNat) (by simp [Lib.byteCells,hx])
    exact this
   have hkeep:Lib.BuilderAtF (ρ.t 72) (ρ.t 5) 0 b p (Lib.byteCells l) (w.drew.freeze ⟨g,0,none⟩ l.length):=by
    have hF:=hA.drew.froze (g:=g) (cap:=cap) (by rw [Lib.byteCells_length];exact c1)
    rw [Lib.byteCells_length] at hF
    exact hF
   have hx:Ext (fun x=>(Value.slice (some ⟨g,0,none⟩) l.length cap).ownBlock=some x) w (w.drew.freeze ⟨g,0,none⟩ l.length):=(Ext.drew _ w).trans (Ext.freeze _ _ _ _ rfl)
   go_enter L.f169,Body.n169_ntmps ρ
   go_wp2
   go_region_o
   all_goals (go_wp2;go_ret;exact ⟨rfl,hkeep,hx⟩)
theorem RDl.ints {w:World} {O:Nat→Prop} {k:IntKind}:∀ (xs:List Int) (cs:List Value),RDl w O 1 (xs.map (eI k)) cs→cs.take xs.length=xs.map (Value.int k)
 | [],cs,_=>by simp
 | x::xs,cs,h=>by
  obtain ⟨h1,h2⟩:=h
  obtain ⟨v,vs,h3,h4,h5⟩:=h1
  cases cs with
  | nil=>simp at h3
  | cons c r =>
   simp at h3
   simp only [RD] at h4
   have:=RDl.ints xs r (by simpa using h2)
   simp [this,h3.1,h4]
theorem RDl.zz004 {w:World} {O:Nat→Prop} {k:IntKind}:∀ (xs:List Int),RDl w O 1 (xs.map (eI k)) (xs.map (Value.int k))
 | []=>trivial
 | x::xs=>⟨⟨_,[],rfl,rfl,rfl⟩,by simpa using RDl.zz004 xs⟩
theorem zao {xs:List Int} (h:unb (byt xs)=xs):Lib.byteCells (byt xs)=xs.map (Value.int .u8):=by
 conv=>rhs;rw [←h]
 simp [Lib.byteCells,unb]
theorem Con.string {G:GI} (L:Lays.n169 P ρ) (X:Builder.Extra P ρ) (ent:∀ args w,(callFunc (ρ.f 169) args).run P w = .ok (.enter (ρ.f 169) args) w) (h5:ρ.t 5<1000000) (h72:ρ.t 72<1000000) {T0:Nat} (hT:T0=ρ.t 5∨T0=1000000+ρ.t 5) (xs:List Int) (hx:unb (byt xs)=xs) (hnn:yq (ρ.f 169) NF=false:=by exact rfl) :
  Con P G (ρ.f 169) ⟨[.ptr 0 0],[⟨ρ.t 72,[.z0h 0,.ref 0]⟩],[(T0,1,xs.map (eI .u8))]⟩ (.ok [.str (byt xs)] [⟨ρ.t 72,[.z0h 0,.ref 0]⟩] [some (1000000+ρ.t 5,1,xs.map (eI .u8))]):=by
 refine ⟨ent,hnn,fun w O φ α us hv hm hB hG => ?_⟩
 obtain ⟨u,us',rfl,hu,hus⟩:=hv
 have hus:us'=[]:=hus
 subst hus
 simp only [VR] at hu
 subst hu
 obtain ⟨hO,us,hbx,p,us2,rfl,hp,v,us3,rfl,hv,h3⟩:=hm.box 0 _ rfl
 have h3:us3=[]:=h3
 subst h3
 simp only [VR] at hp hv
 have hbx:=hbx.un h72
 obtain ⟨rfl,hone⟩:=hv
 have hox:z7q w O T0 1 (α 0) (xs.map (eI .u8)):=hm.arr 0 _ rfl
 have hoz:OwnZ w O (ρ.t 5) 1 (α 0) (xs.map (eI .u8)):=by
  rcases hox with ⟨k0,cs,k1,k2⟩|⟨k1,_,k2⟩|⟨k1,_⟩
  ·rcases hT with rfl|rfl
   ·exact ⟨cs,World.ownsRowF_of k1,k2⟩
   ·exact absurd (Nat.lt_of_le_of_lt (Nat.le_add_right 1000000 (ρ.t 5)) k0) (yx _)
  ·rcases hT with rfl|rfl
   ·exact absurd (yy h5 k1) (yx _)
   ·rwa [yp] at k2
  ·rcases hT with rfl|rfl
   ·exact absurd (yy h5 (Nat.le_trans (by decide:1000000≤2000000) k1)) (yx _)
   ·exact absurd (yy (yo h5 1000000) k1) (yx _)
 obtain ⟨cs,k1,k2,k3,k4⟩:=hoz
 have ecs:cs=Lib.byteCells (byt xs):=by
  have:=RDl.ints xs cs k2
  have hl:cs.length=xs.length:=by simpa using k1.1
  rw [zao hx,←this,List.take_of_length_le (by omega)]
 have lb:(byt xs).length=xs.length:=by
  have:=congrArg List.length hx
  simpa [unb] using this
 have hl2:(xs.map (eI .u8)).length=(Lib.byteCells (byt xs)).length:=by simp [lb,Lib.byteCells]
 have hA:Lib.BuilderAtF (ρ.t 72) (ρ.t 5) 0 (φ 0) p (Lib.byteCells (byt xs)) w:=by
  refine ⟨Nat.zero_le _,α 0,hbx,?_,hm.ab 0 0 _ rfl (yac)⟩
  rw [←hl2]
  rw [ecs] at k1
  exact k1
 refine (zft L X (φ 0) p (α 0) (byt xs) w hbx hA).mono fun e w' ⟨h1,h2,h3⟩ => ?_
 have hFI:∀ x,(α 0).ownBlock=some x→FI ⟨[.ptr 0 0],[⟨ρ.t 72,[.z0h 0,.ref 0]⟩],[(T0,1,xs.map (eI .u8))]⟩ φ α x:=fun x hx => .inr ⟨0,by simp,hx⟩
 have tr:Tr O w O w':=Tr.z4n h3 fun x _ hx=>k4 x hx
 have hbx':z2n w' (φ 0) (ρ.t 72) [p,α 0]:=hbx.keep h3 (hm.ab 0 0 _ rfl (yac))
 have own':z7q w' O (1000000+ρ.t 5) 1 (α 0) (xs.map (eI .u8)):=by
  refine .inr (.inl ⟨by omega,yo h5 1000000,?_⟩)
  rw [yp]
  obtain ⟨_,v',q1,q2,_⟩:=h2
  have q1':z2n w' (φ 0) (ρ.t 72) [p,v']:=q1
  have:α 0=v':=by
   unfold z2n at hbx' q1'
   rw [hbx'] at q1'
   simpa using q1'
  subst this
  refine ⟨_,by rw [hl2];exact q2,by rw [zao hx];exact RDl.zz004 xs,by simp [Lib.byteCells,Value.oneCell'],k4⟩
 refine ⟨[.string ⟨(byt xs).toArray⟩],O,φ,α,h1,⟨_,[],rfl,rfl,rfl⟩,⟨fun b e he => ?_,fun a e he => ?_,fun a b la lb' hn => ?_,fun a b e e' ha hb hn => ?_,fun a b e ha hb => ?_⟩,fun _ _=>rfl,yw _,fun x hx=>yy (hB x hx) h3.size,tr,fun _ hx=>hx,fun _ hx => .inl hx,h3.mono fun x _ hx=>hFI x hx,fun b h1 h2 => ?_,fun a e x he hx => ?_⟩
 ·match b,he with
  | 0,he =>
   cases he
   exact ⟨hO,_,.inl ⟨h72,hbx'⟩,p,_,rfl,hp,_,[],rfl,⟨rfl,hone⟩,rfl⟩
 ·match a,he with
  | 0,he=>cases he;exact own'
 ·simp at la lb'
  omega
 ·match a,b,ha,hb with
  | 0,0,_,_=>exact (hn rfl).elim
 ·match a,ha with
  | 0,ha =>
   have:b=0:=by simpa using hb
   subst this
   exact hm.ab 0 0 _ rfl (yac)
 ·simp at h1 h2
  omega
 ·match a,he with
  | 0,he=>exact .inl ⟨0,by simp,hx⟩
end
section
open Go.RowKit Go.Lk
structure Nd where
 alts:List (Nat × Nat × List Nat × List Nat)
 dn:List (Nat × Bool)
 rem:List Nat          -- those that have not acted yet
 wai:List Nat          -- the quiet zqt that wait
structure Dg where
 anc:List Nat
 E:List Nat
 qs:List Nat
 c:Cut
 nds:List Nd           -- those behind come first;the last one is the beginning
def mkG (gs:List Gt):List (Nat × Nat × List Nat × List Nat)→Gt
 | [] => .fin
 | (e,i,kp,qs)::r=>match r with
  | [] => .one e kp qs ((gs[i]?).getD .fin)
  | _ => .alt e kp qs ((gs[i]?).getD .fin) (mkG gs r)
def z8v:List Nd→List Gt→List Gt
 | [],gs=>gs
 | n::r,gs=>z8v r (gs++[mkG gs n.alts])
def Dg.gs (d:Dg):List Gt:=z8v d.nds []
def Dg.dn (d:Dg) (i:Nat):List (Nat × Bool):=match nthO d.nds i with
 | some n=>n.dn
 | none=>[]
def za2 (a b:List (Nat × Bool)):Bool:=a.all fun p=>b.any fun q=>yq p.1 q.1&&(p.2==q.2)
def zoa (tb:Tb) (cty:List (Nat × List (Option (Nat × Nat)))) (ann:Ann) (con:Nat→CIn→z3d→Prop) (ops:Array Oper) (d:Dg) (Sg:Nat→St) (kp:PV→St→Prop) (m:Nat):List (Nat × Nat × List Nat × List Nat)→Prop
 | []=>True
 | (e,j,kpl,qs2)::r=>(match zu9 ops e with
  | some o=>exo tb cty ann con ops (Sg m) o (fun σ2=>zod tb ops qs2 σ2 (z3a kpl (d.dn m)) fun σ3 dn3=>zbk tb ops σ3 (z3a kpl (d.dn m))∧(za2 dn3 (d.dn j)&&za2 (d.dn j) dn3)=true∧wt (σ3.cut d.c) fun s=>s=Sg j) kp
  | none=>False)∧zoa tb cty ann con ops d Sg kp m r
def zsf (tb:Tb) (cty:List (Nat × List (Option (Nat × Nat)))) (ann:Ann) (con:Nat→CIn→z3d→Prop) (ops:Array Oper) (d:Dg) (Sg:Nat→St) (kp:PV→St→Prop):Nat→List Nd→Prop
 | _,[]=>True
 | m,n::r=>zoa tb cty ann con ops d Sg kp m n.alts∧zsf tb cty ann con ops d Sg kp (m+1) r
def exdag (tb:Tb) (cty:List (Nat × List (Option (Nat × Nat)))) (ann:Ann) (con:Nat→CIn→z3d→Prop) (ops:Array Oper) (kp:PV→St→Prop) (k:St→Prop) (d:Dg) (σ:St):Prop :=
 ∃ Sg:Nat→St,(zod tb ops d.qs σ [] fun σ1 dn1=>zbk tb ops σ1 []∧(za2 dn1 (d.dn (d.nds.length - 1))&&za2 (d.dn (d.nds.length - 1)) dn1)=true∧wt (σ1.cut d.c) fun s=>s=Sg (d.nds.length - 1))∧zsf tb cty ann con ops d Sg kp 0 d.nds∧k (Sg 0)
def Nd.done (n:Nd):List Nat:=n.dn.map (·.1)
def zla (a b:List Nat):Bool:=a.all (b.contains ·)&&b.all (a.contains ·)
def covH (anc:Anc) (rem wai hs:List Nat):Bool:=wai.all (fun q=>rem.any fun e=>behind anc q e)&&rem.all fun i=>hs.contains i||rem.any fun j=>behind anc i j
def zqs (ops:Array Oper) (d:Dg) (i:Nat) (n:Nd) (a:Nat × Nat × List Nat × List Nat):Bool :=
 Nat.blt a.2.1 i&&z5f d.anc n.rem n.wai n.done a.1 a.2.2.1 a.2.2.2&&zzh ops a.1 a.2.2.1 a.2.2.2 n.done&&match nthO d.nds a.2.1 with
  | some m=>covH d.anc (z0t n.rem [a.1]) (z0t n.wai a.2.2.2) (m.alts.map (·.1))&&zla (z0t n.rem [a.1]) m.rem&&zla (z0t n.wai a.2.2.2) m.wai&&zla (a.2.2.1++a.2.2.2) m.done
  | none=>false
def zmz (ops:Array Oper) (d:Dg):List Nd→Nat→Bool
 | [],_=>true
 | n::r,i=>n.alts.all (zqs ops d i n)&&(if yq i 0 then n.alts.isEmpty else !n.alts.isEmpty)&&zmz ops d r (i+1)
def okPre (ops:Array Oper) (anc:Anc) (n:Nat) (E qs:List Nat):Bool :=
 okLow ops&&zu8 ops anc&&zz005 ops anc (z3o ops E)&&Region.noSelect ops&&okDst ops n (z3o ops E) E&&E.all (· < ops.size)&&qs.all ((z3o ops E).contains ·)
def okD (ops:Array Oper) (d:Dg) (n:Nat):Bool:=okPre ops d.anc n d.E d.qs&&zm1 ops d.qs []&&zmz ops d d.nds 0&&match nthO d.nds (d.nds.length - 1) with
 | some m=>covH d.anc d.E (z0t (z3o ops d.E) d.qs) (m.alts.map (·.1))&&zla d.E m.rem&&zla (z0t (z3o ops d.E) d.qs) m.wai&&zla d.qs m.done
 | none=>false
theorem z6w {a b:List Nat} (h:zla a b=true) (x:Nat):x∈a↔x∈b:=by
 simp only [zla,yb,yd,yf] at h
 exact ⟨h.1 x,h.2 x⟩
theorem zw5 {a b:List Nat} (h:∀ x,x∈a↔x∈b) (p:Nat→Bool):a.any p=b.any p:=by
 rw [yc,ye,ye]
 exact ⟨fun ⟨x,h1,h2⟩=>⟨x,(h x).1 h1,h2⟩,fun ⟨x,h1,h2⟩=>⟨x,(h x).2 h1,h2⟩⟩
theorem zhc {a b:List Nat} (h:∀ x,x∈a↔x∈b) (p:Nat→Bool):a.all p=b.all p:=by
 rw [yc,yd,yd]
 exact ⟨fun g x hx=>g x ((h x).2 hx),fun g x hx=>g x ((h x).1 hx)⟩
theorem zho {a b:List Nat} (h:∀ x,x∈a↔x∈b) (x:Nat):a.contains x=b.contains x:=by
 rw [yc,yf,yf]
 exact h x
theorem z6a {a b:List Nat} (h:∀ x,x∈a↔x∈b) (q:List Nat) (x:Nat):x∈z0t a q↔x∈z0t b q:=by
 rw [z3y,z3y,h x]
theorem zex {anc:Anc} {r r' w w' d d':List Nat} (hr:∀ x,x∈r↔x∈r') (hw:∀ x,x∈w↔x∈w') (hd:∀ x,x∈d↔x∈d') (e:Nat) (kp qs:List Nat):z5f anc r w d e kp qs=z5f anc r' w' d' e kp qs:=by
 simp only [z5f,zho hr,zho hw,zho hd,zhc hd]
theorem zgj {anc:Anc} {r r' w w':List Nat} (hr:∀ x,x∈r↔x∈r') (hw:∀ x,x∈w↔x∈w') (g:Gt):zar anc r w g=zar anc r' w' g:=by
 simp only [zar,zhc hw,zhc hr,zw5 hr]
theorem z5q {anc:Anc}:∀ {g:Gt} {r r' w w' d d':List Nat},(∀ x,x∈r↔x∈r')→(∀ x,x∈w↔x∈w')→(∀ x,x∈d↔x∈d')→z1x anc r w d g=true→z1x anc r' w' d' g=true
 | .fin,_,_,_,_,_,_,_,_,_,_=>rfl
 | .one e kp qs sub,r,r',w,w',d,d',hr,hw,hd,h=>by
  simp only [z1x,yb] at h ⊢
  refine ⟨⟨?_,?_⟩,z5q (z6a hr _) (z6a hw _) (fun _=>Iff.rfl) h.2⟩
  ·rw [←zex hr hw hd];exact h.1.1
  ·rw [←zgj (z6a hr _) (z6a hw _)];exact h.1.2
 | .alt e kp qs sub g,r,r',w,w',d,d',hr,hw,hd,h=>by
  simp only [z1x,yb] at h ⊢
  refine ⟨⟨⟨?_,?_⟩,z5q (z6a hr _) (z6a hw _) (fun _=>Iff.rfl) h.1.2⟩,z5q hr hw hd h.2⟩
  ·rw [←zex hr hw hd];exact h.1.1.1
  ·rw [←zgj (z6a hr _) (z6a hw _)];exact h.1.1.2
theorem zev (gs:List Gt):∀ (l:List (Nat × Nat × List Nat × List Nat)),(mkG gs l).zmd=l.map (·.1)
 | []=>rfl
 | [(e,i,kp,qs)]=>rfl
 | (e,i,kp,qs)::b::r=>by
  unfold mkG
  simp only [Gt.zmd,zev gs (b::r)]
  rfl
section
variable {z:W0} {V:Env} {w:World} {O:Nat→Prop} {φ:Nat→Nat} {α:Nat→Value} {σ:St} {C:Cx} {n:Nat} {ops:Array Oper} {K:Act→World→Prop} {G:GI} {con:Nat→CIn→z3d→Prop} {tb:Tb} {cty:List (Nat × List (Option (Nat × Nat)))} {ann:Ann} {ds:List Deferred}
theorem zjg {a b:List (Nat × Bool)} (h:za2 a b=true) {p:Nat × Bool} (hp:p∈a):p∈b:=by
 obtain ⟨q,hq,e⟩:=ye.1 (yd.1 h p hp)
 simp only [yb,beq_iff_eq] at e
 have e1:=yu e.1
 have:p=q:=Prod.ext e1 e.2
 rw [this];exact hq
theorem zrm {anc:Anc} {kp:PV→St→Prop} {k3:St→List (Nat × Bool)→Prop} {e:Nat} {o:Oper} {kpl qs2:List Nat} {g:Gt} {rem wai done:List Nat} {dn:List (Nat × Bool)} (ht:TbG C.P tb G) (hcon:∀ f i o,con f i o→Con C.P G f i o) (hz:∀ w O,z.G w O→G.p w O) (hn:∀ (q:Nat) (o:Oper),ops[q]? = some o→dOk n o.dst=true) (hp:∀ v s,kp v s→z9c z C n ds v s)
  (ho:ops[e]? = some o) (hnode:z5f anc rem wai done e kpl qs2=true)
  (hc2:(match (some o:Option Oper) with
   | some o=>match o.dst with
    | some d=>z88 ops d (z8h kpl (dn.map (·.1)))
    | none=>true
   | none=>true)=true) (hcq:zm1 ops qs2 (z8h kpl (dn.map (·.1)))=true)
  (ih:∀ (dn:List (Nat × Bool)) (σ:St) (w:World) (O:Nat→Prop) (φ:Nat→Nat) (α:Nat→Value) (b:Act),b.tmps.size=n→b.defers=ds→Rl z σ (Pe.z4q b) w O φ α→(∀ x,z.O x→O x)→(∀ p∈dn,KQ C n ops (Pe.z4q b) w O p) →
   (∀ q∈kpl++qs2,z5p C.P ops b w q)→(∀ q∈kpl++qs2,∃ st,(q,st)∈dn)→k3 σ dn→DRa C ds ops K (kpl++qs2) g b w)
  (b:Act) (hsz:b.tmps.size=n) (hda:b.defers=ds) (h:Rl z σ (Pe.z4q b) w O φ α) (hs:∀ x,z.O x→O x) (hd:∀ p∈dn,KQ C n ops (Pe.z4q b) w O p) (hdone:∀ q∈done,∃ st,(q,st)∈dn)
  (hw:exo tb cty ann con ops σ o (fun σ2=>zod tb ops qs2 σ2 (z3a kpl dn) fun σ3 dn3=>zbk tb ops σ3 (z3a kpl dn)∧k3 σ3 dn3) kp) :
  wpList C.P ops (QT C ds (fun a' w'=>∃ b',Off ops qs2 a' b'∧DRa C ds ops K (kpl++qs2) g b' w')) [o] b w:=by
 have ekept:(z3a kpl dn).map (·.1)=z8h kpl (dn.map (·.1)):=by
  unfold z3a z8h
  rw [List.filter_map]
  rfl
 have hb:Has n (Pe.z4q b) b:=z5j hsz
 refine zix (zax (z:=z.mark w O) (rest:=[]) (K:=fun a' w'=>(∀ t,o.dst≠some t→a'.tmps[t]? = b.tmps[t]?)→∃ b',Off ops qs2 a' b'∧DRa C ds ops K (kpl++qs2) g b' w') ht hcon (fun w O h=>hz w O h.1) (hn e o ho) h.mark hs (fun σ2 hσ2 V2 w2 hr => ?_) (fun v s hv V w O φ α u φ' α' r s2 hr a ha hda=>hp v s hv V w O φ α u φ' α' r.zd5.1 s2 hr a ha hda) hw b hb hda)
 obtain ⟨O2,φ2,α2,r,s2⟩:=hr
 obtain ⟨r',t⟩:=r.zd5
 refine OW.fin fun a' ha' hda' hag => ?_
 simp only [z5f,yb] at hnode
 have hmv:∀ p∈z3a kpl dn,KQ C n ops (Pe.z4q a') w2 O2 p:=fun p hp=>by
  obtain ⟨hp1,hp2⟩:=zi9 hp
  refine (hd p hp1).move t fun o' ho' d hd' => ?_
  have hne:∀ x,o.dst=some x→d≠x∧x∉o'.looksAt ops:=fun x hx=>by
   simp only [hx] at hc2
   exact z5n hc2 p.1 (by rw [←ekept];exact List.mem_map.2 ⟨p,hp,rfl⟩) o' ho' d hd'
  refine ⟨?_,fun t ht' => ?_⟩
  ·rw [za7,za7]
   exact hag d fun e=>(hne d e).1 rfl
  ·rw [za7,za7]
   exact hag t fun e=>(hne t e).2 ht'
 have hkd:∀ q∈kpl,∃ st,(q,st)∈z3a kpl dn:=fun q hq=>by
  have hc:=yd.1 hnode.1.2 q hq
  have hm:q∈done:=by simpa using hc
  obtain ⟨st,hst⟩:=hdone q hm
  exact ⟨st,List.mem_filter.2 ⟨hst,ye.2 ⟨q,hq,Nat.beq_refl q⟩⟩⟩
 obtain ⟨b',σ3,dn3,e1,e2,e3,e4,e5,e6,e7,e8,e9⟩:=z7f (k:=k3) ht.toTbOk (fun w O h=>ht.gt w O (hz w O h)) hn qs2 kpl a' ha'.size hda' (r'.z4q ha') hmv hkd (by rw [ekept];exact hcq) hσ2
 exact ⟨b',e1,ih dn3 σ3 w2 O2 φ2 α2 b' e2 e3 e4 s2 e5 e6 e7 e9⟩
theorem into {k3:Prop} {d:Dg} {Sg:Nat→St} {j:Nat} {dn3:List (Nat × Bool)} {b:Act} (h:Rl z σ (Pe.z4q b) w O φ α) (hs:∀ x,z.O x→O x) (hd:∀ p∈dn3,KQ C n ops (Pe.z4q b) w O p) {done:List Nat} (hdone:∀ q∈done,∃ st,(q,st)∈dn3)
  (hsub:(za2 dn3 (d.dn j)&&za2 (d.dn j) dn3)=true) (hw:wt (σ.cut d.c) fun s=>s=Sg j)
  (hk:∀ (O':Nat→Prop) (α':Nat→Value),Rl z (Sg j) (Pe.z4q b) w O' φ α'→(∀ x,z.O x→O' x)→(∀ p∈d.dn j,KQ C n ops (Pe.z4q b) w O' p)→(∀ q∈done,∃ st,(q,st)∈d.dn j)→k3):k3:=by
 simp only [yb] at hsub
 obtain ⟨s',e,hj⟩:=zc hw
 subst hj
 obtain ⟨O',α',h',hs'⟩:=zdz (z:=z.mark w O) h.mark hs e
 obtain ⟨r',t⟩:=h'.zd5
 refine hk O' α' r' hs' (fun p hp=>(hd p (zjg hsub.2 hp)).move t fun _ _ _ _=>⟨rfl,fun _ _=>rfl⟩) fun q hq => ?_
 obtain ⟨st,hst⟩:=hdone q hq
 exact ⟨st,zjg hsub.1 hst⟩
theorem zaj:∀ (l:List Nd) (gs:List Gt) (i:Nat),i<gs.length→(z8v l gs)[i]? = gs[i]?
 | [],gs,i,_=>rfl
 | n::r,gs,i,h=>by
  simp only [z8v]
  rw [zaj r _ i (by simp;omega),yh h]
theorem zz002 (gs gs':List Gt):∀ (l:List (Nat × Nat × List Nat × List Nat)),(∀ a∈l,gs'[a.2.1]? = gs[a.2.1]?)→mkG gs' l=mkG gs l
 | [],_=>rfl
 | [(e,i,kp,qs)],h=>by have:=h _ yn;simp only [mkG];simp only at this;rw [this]
 | (e,i,kp,qs)::b::r,h=>by
  have h1:=h _ yn
  have h2:=zz002 gs gs' (b::r) fun a ha=>h a (ym _ ha)
  simp only at h1
  unfold mkG
  rw [h1,h2]
theorem zh9:∀ (l:List Nd) (gs:List Gt) (j:Nat) (nd:Nd),l[j]? = some nd→(∀ a∈nd.alts,a.2.1<gs.length+j)→(z8v l gs)[gs.length+j]? = some (mkG (z8v l gs) nd.alts)
 | n::r,gs,0,nd,h,hlt=>by
  simp at h
  subst h
  simp only [z8v,Nat.add_zero]
  rw [zaj r _ _ (by simp),List.getElem?_append_right (yw _),Nat.sub_self]
  simp only [List.getElem?_cons_zero,Option.some.injEq]
  refine (zz002 _ _ _ fun a ha => ?_).symm
  have:=hlt a ha
  rw [zaj r _ _ (by simp;omega),yh (by omega)]
 | n::r,gs,j+1,nd,h,hlt=>by
  simp only [z8v]
  have:=zh9 r (gs++[mkG gs n.alts]) j nd (by simpa using h) fun a ha=>by
   have:=hlt a ha
   simp only [yj,yk,yl]
   omega
  simp only [yj,yk,yl] at this
  rw [show gs.length+(j+1)=gs.length+(0+1)+j by omega]
  exact this
theorem zob {d:Dg} {Sg:Nat→St} {kp:PV→St→Prop}:∀ (l:List Nd) (m j:Nat) (nd:Nd),zsf tb cty ann con ops d Sg kp m l→l[j]? = some nd→zoa tb cty ann con ops d Sg kp (m+j) nd.alts
 | n::r,m,0,nd,h,e=>by simp at e;subst e;exact h.1
 | n::r,m,j+1,nd,h,e=>by
  have:=zob r (m+1) j nd h.2 (by simpa using e)
  rwa [show m+(j+1)=m+1+j by omega]
theorem zdi {d:Dg}:∀ (l:List Nd) (i j:Nat) (nd:Nd),zmz ops d l i=true→l[j]? = some nd→(∀ a∈nd.alts,zqs ops d (i+j) nd a=true)∧(i+j=0→nd.alts=[])∧(i+j≠0→nd.alts≠[])
 | n::r,i,0,nd,h,e=>by
  simp at e
  subst e
  simp only [zmz,yb] at h
  refine ⟨fun a ha=>yd.1 h.1.1 a ha,fun h0 => ?_,fun h0 => ?_⟩
  ·have:=h.1.2
   rw [show i=0 by omega] at this
   simpa using this
  ·have:=h.1.2
   rw [if_neg (by intro q;have:=yu q;omega)] at this
   intro q
   rw [q] at this
   cases this
 | n::r,i,j+1,nd,h,e=>by
  simp only [zmz,yb] at h
  have:=zdi r (i+1) j nd h.2 (by simpa using e)
  rw [show i+(j+1)=i+1+j by omega]
  exact this
theorem zox {d:Dg} {i:Nat} {nd:Nd} (hok:zmz ops d d.nds 0=true) (h:d.nds[i]? = some nd):d.gs[i]? = some (mkG d.gs nd.alts):=by
 obtain ⟨h1,_,_⟩:=zdi d.nds 0 i nd hok h
 have:=zh9 d.nds [] i nd h fun a ha=>by
  have:=h1 a ha
  simp only [zqs,yb,yt] at this
  simpa using this.1.1.1
 simpa [Dg.gs] using this
theorem zrn {d:Dg} (hok:zmz ops d d.nds 0=true):∀ (m i:Nat) (nd:Nd),i<m→d.nds[i]? = some nd→z1x d.anc nd.rem nd.wai nd.done ((d.gs[i]?).getD .fin)=true:=by
 intro m
 induction m with
 | zero=>intro i _ h;omega
 | succ m ih =>
  intro i nd him hnd
  obtain ⟨h1,_,_⟩:=zdi d.nds 0 i nd hok hnd
  rw [yab] at h1
  rw [zox hok hnd,ya]
  have key:∀ a∈nd.alts,z5f d.anc nd.rem nd.wai nd.done a.1 a.2.2.1 a.2.2.2=true∧zar d.anc (z0t nd.rem [a.1]) (z0t nd.wai a.2.2.2) ((d.gs[a.2.1]?).getD .fin)=true∧z1x d.anc (z0t nd.rem [a.1]) (z0t nd.wai a.2.2.2) (a.2.2.1++a.2.2.2) ((d.gs[a.2.1]?).getD .fin)=true:=by
   intro a ha
   have h2:=h1 a ha
   simp only [zqs,yb,yt,zey] at h2
   obtain ⟨⟨⟨k1,k2⟩,k3⟩,k4⟩:=h2
   cases hm:d.nds[a.2.1]? with
   | none=>rw [hm] at k4;cases k4
   | some md =>
    rw [hm] at k4
    simp only [yb] at k4
    obtain ⟨⟨⟨k5,k6⟩,k7⟩,k8⟩:=k4
    refine ⟨k2,?_,z5q (fun x=>(z6w k6 x).symm) (fun x=>(z6w k7 x).symm) (fun x=>(z6w k8 x).symm) (ih a.2.1 md (by omega) hm)⟩
    rw [zox hok hm,ya]
    unfold zar
    rw [zev]
    exact k5
  have all:∀ (l:List (Nat × Nat × List Nat × List Nat)),(∀ a∈l,a∈nd.alts)→z1x d.anc nd.rem nd.wai nd.done (mkG d.gs l)=true:=by
   intro l
   induction l with
   | nil=>intro _;rfl
   | cons a r ihl =>
    intro hm
    obtain ⟨e,j,kp,qs⟩:=a
    obtain ⟨k1,k2,k3⟩:=key _ (hm _ yn)
    have hr:=ihl fun a ha=>hm a (ym _ ha)
    cases r with
    | nil=>simp only [mkG,z1x,yb];exact ⟨⟨k1,k2⟩,k3⟩
    | cons b r =>
     unfold mkG
     simp only [z1x,yb]
     exact ⟨⟨⟨k1,k2⟩,k3⟩,hr⟩
  exact all _ fun _ h=>h
theorem zs3 {d:Dg} {Sg:Nat→St} {kp:PV→St→Prop} (ht:TbG C.P tb G) (hcon:∀ f i o,con f i o→Con C.P G f i o) (hz:∀ w O,z.G w O→G.p w O) (hn:∀ (q:Nat) (o:Oper),ops[q]? = some o→dOk n o.dst=true) (hp:∀ v s,kp v s→z9c z C n ds v s) {N:Nat} (hok:okD ops d N=true)
  (hnd:zsf tb cty ann con ops d Sg kp 0 d.nds) (hk:∀ V w,RS z (Sg 0) V w→∀ a,Has n V a→a.defers=ds→K a w):∀ (m i:Nat),i<m→i<d.nds.length →
  ∀ (rem wai done:List Nat) {w:World} {O:Nat→Prop} {φ:Nat→Nat} {α:Nat→Value} (b:Act),b.tmps.size=n→b.defers=ds→Rl z (Sg i) (Pe.z4q b) w O φ α→(∀ x,z.O x→O x)→(∀ p∈d.dn i,KQ C n ops (Pe.z4q b) w O p) →
   (∀ q∈done,z5p C.P ops b w q)→(∀ q∈done,∃ st,(q,st)∈d.dn i)→z1x d.anc rem wai done ((d.gs[i]?).getD .fin)=true→DRa C ds ops K done ((d.gs[i]?).getD .fin) b w:=by
 intro m
 induction m with
 | zero=>intro i h;omega
 | succ m ih =>
  intro i him hi rem wai done w O φ α b hsz hda h hs hd hst hdone hal
  have hok':=hok
  simp only [okD,yb] at hok'
  obtain ⟨⟨_,hnds⟩,_⟩:=hok'
  have hndi:d.nds[i]? = some d.nds[i]:=List.getElem?_eq_getElem hi
  obtain ⟨hoa,hz1,hz2⟩:=zdi d.nds 0 i _ hnds hndi
  rw [yab] at hoa hz1 hz2
  have hg:d.gs[i]? = some (mkG d.gs d.nds[i].alts):=zox hnds hndi
  have hlt:∀ a∈d.nds[i].alts,a.2.1<i:=fun a ha=>by
   have:=hoa a ha
   simp only [zqs,yb,yt] at this
   exact this.1.1.1
  have hdn:(d.dn i).map (·.1)=d.nds[i].done:=by
   unfold Dg.dn
   rw [zey,hndi]
   rfl
  have hcn:∀ a∈d.nds[i].alts,zzh ops a.1 a.2.2.1 a.2.2.2 ((d.dn i).map (·.1))=true:=fun a ha=>by
   have:=hoa a ha
   simp only [zqs,yb] at this
   rw [hdn]
   exact this.1.2
  have hex:=zob d.nds 0 i _ hnd hndi
  rw [yab] at hex
  rw [hg,ya] at hal ⊢
  by_cases hz0:i=0
  ·subst hz0
   have hal0:d.nds[0].alts=[]:=hz1 rfl
   rw [hal0] at hal ⊢
   exact ⟨hst,hk _ _ ⟨_,_,_,h,hs⟩ b (z5j hsz) hda⟩
  ·have hne:d.nds[i].alts≠[]:=hz2 hz0
   have one:∀ (e j:Nat) (kpl qs2:List Nat),(e,j,kpl,qs2)∈d.nds[i].alts→∀ (rem wai done:List Nat) (hdone:∀ q∈done,∃ st,(q,st)∈d.dn i),z5f d.anc rem wai done e kpl qs2=true→z1x d.anc (z0t rem [e]) (z0t wai qs2) (kpl++qs2) ((d.gs[j]?).getD .fin)=true→zzh ops e kpl qs2 ((d.dn i).map (·.1))=true →
     (match zu9 ops e with
      | some o=>exo tb cty ann con ops (Sg i) o (fun σ2=>zod tb ops qs2 σ2 (z3a kpl (d.dn i)) fun σ3 dn3=>zbk tb ops σ3 (z3a kpl (d.dn i))∧(za2 dn3 (d.dn j)&&za2 (d.dn j) dn3)=true∧wt (σ3.cut d.c) fun s=>s=Sg j) kp
      | none=>False)→∀ o,ops[e]? = some o→wpList C.P ops (QT C ds (fun a' w'=>∃ b',Off ops qs2 a' b'∧DRa C ds ops K (kpl++qs2) ((d.gs[j]?).getD .fin) b' w')) [o] b w:=by
    intro e j kpl qs2 hmem rem wai done hdone hno hal2 hcn hw o ho
    have hj:j<i:=hlt _ hmem
    rw [z8n,ho] at hw
    simp only [zzh,yb,ho] at hcn
    refine zrm (k3:=fun σ3 dn3=>(za2 dn3 (d.dn j)&&za2 (d.dn j) dn3)=true∧wt (σ3.cut d.c) fun s=>s=Sg j) ht hcon hz hn hp ho hno hcn.1 hcn.2 (fun dn3 σ3 w3 O3 φ3 α3 b3 k1 k2 k3 k4 k5 k6 k7 k8 => ?_) b hsz hda h hs hd hdone hw
    exact into k3 k4 k5 k7 k8.1 k8.2 fun O' α' r' s' d' q'=>ih j (by omega) (by omega) _ _ _ b3 k1 k2 r' s' d' k6 q' hal2
   -- all choices,one by one
   have all:∀ (l:List (Nat × Nat × List Nat × List Nat)),l≠[]→(∀ a∈l,a∈d.nds[i].alts)→∀ (rem wai done:List Nat),(∀ q∈done,z5p C.P ops b w q)→(∀ q∈done,∃ st,(q,st)∈d.dn i)→z1x d.anc rem wai done (mkG d.gs l)=true→zoa tb cty ann con ops d Sg kp i l→DRa C ds ops K done (mkG d.gs l) b w:=by
    intro l
    induction l with
    | nil=>intro h;exact (h rfl).elim
    | cons a r ihl =>
     intro _ hm rem wai done hst hdone hal hex
     obtain ⟨e,j,kpl,qs2⟩:=a
     have hc1:=hcn _ (hm _ yn)
     cases r with
     | nil =>
      simp only [mkG,z1x,yb] at hal ⊢
      exact ⟨hst,fun o ho=>one e j kpl qs2 (hm _ yn) rem wai done hdone hal.1.1 hal.2 hc1 hex.1 o ho⟩
     | cons a2 r2 =>
      unfold mkG at hal ⊢
      simp only [z1x,yb] at hal ⊢
      exact ⟨fun o ho=>one e j kpl qs2 (hm _ yn) rem wai done hdone hal.1.1.1 hal.1.2 hc1 hex.1 o ho,ihl (by simp) (fun x hx=>hm x (ym _ hx)) rem wai done hst hdone hal.2 hex.2⟩
   exact all _ hne (fun a ha=>ha) rem wai done hst hdone hal hex
theorem zq1 {k:St→Prop} {kp:PV→St→Prop} {d:Dg} {id:Nat} {todo:List Item} (ht:TbG C.P tb G) (hcon:∀ f i o,con f i o→Con C.P G f i o) (hz:∀ w O,z.G w O→G.p w O) (hok:okD ops d n=true) (hn:ops.toList.all (fun o=>dOk n o.dst)=true)
  (hdo:DrOk C ops) (hw:exdag tb cty ann con ops kp k d σ) (hk:∀ s,k s→∀ V w,RS z s V w→TW C n ds todo V w) (hp:∀ v s,kp v s→z9c z C n ds v s) (V:Env) (w:World) (hr:RS z σ V w):TW C n ds (.code (.region id ops true)::todo) V w:=by
 have hn':∀ (q:Nat) (o:Oper),ops[q]? = some o→dOk n o.dst=true:=fun q o ho=>yd.1 hn o (by
  have:=List.mem_of_getElem? (l:=ops.toList) (i:=q) (a:=o) (by simpa using ho)
  exact this)
 obtain ⟨Sg,hw,hnd,hk0⟩:=hw
 obtain ⟨O,φ,α,h,hs⟩:=hr
 have hok':=hok
 simp only [okD,yb,zey] at hok'
 obtain ⟨⟨⟨hpre,hcq⟩,hnds⟩,hlast⟩:=hok'
 cases hm:d.nds[d.nds.length - 1]? with
 | none=>rw [hm] at hlast;cases hlast
 | some md =>
 rw [hm] at hlast
 simp only [yb] at hlast
 obtain ⟨⟨⟨k5,k6⟩,k7⟩,k8⟩:=hlast
 have hlen:d.nds.length - 1<d.nds.length:=by
  rcases Nat.lt_or_ge (d.nds.length - 1) d.nds.length with q|q
  ·exact q
  ·rw [List.getElem?_eq_none q] at hm;cases hm
 have hal:z1x d.anc d.E (z0t (z3o ops d.E) d.qs) d.qs ((d.gs[d.nds.length - 1]?).getD .fin)=true :=
  z5q (fun x=>(z6w k6 x).symm) (fun x=>(z6w k7 x).symm) (fun x=>(z6w k8 x).symm) (zrn hnds _ _ md (yz _) hm)
 have hdr:z7r ops d.anc n d.E d.qs ((d.gs[d.nds.length - 1]?).getD .fin)=true:=by
  unfold z7r
  rw [yb,yb]
  refine ⟨⟨hpre,?_⟩,hal⟩
  rw [zox hnds hm,ya]
  unfold zar
  rw [zev]
  exact k5
 have:=TW.drawP (C:=C) (n:=n) (ds:=ds) (k:=todo) (L:=V) (w:=w) (id:=id) (l:=ops.toList) d.anc d.E d.qs ((d.gs[d.nds.length - 1]?).getD .fin) ht.mix (by simpa using hdr) (by simpa using hdo) fun w' x a ha hda=>by
  have h2:=h.zkl x
  obtain ⟨b,σ1,dn1,e1,e2,e3,e4,e5,e6,e7,e8,e9⟩:=z7f (C:=C) (ds:=ds) (done:=[]) (k:=fun σ1 dn1=>(za2 dn1 (d.dn (d.nds.length - 1))&&za2 (d.dn (d.nds.length - 1)) dn1)=true∧wt (σ1.cut d.c) fun s=>s=Sg (d.nds.length - 1)) ht.toTbOk (fun w O h=>ht.gt w O (hz w O h)) hn' d.qs a ha.size hda (h2.z4q ha) (by simp) (by simp) (by simpa using hcq) hw
  refine ⟨b,by simpa using e1,?_⟩
  have:=into (C:=C) (n:=n) (ops:=ops) (done:=d.qs) (k3:=DRa C ds ops (TWa C todo) d.qs ((d.gs[d.nds.length - 1]?).getD .fin) b w') e4 hs e5 (by simpa using e7) e9.1 e9.2 fun O' α' r' s' d' q' =>
   zs3 (C:=C) (K:=TWa C todo) (G:=G) (z:=z) ht hcon hz hn' hp hok hnd (fun V w hr a ha hda=>hk _ hk0 V w hr a ha hda) _ _ (yz _) (by omega) _ _ d.qs b e2 e3 r' s' d' (by simpa using e6) q' hal
  simpa using this
 simpa using this
end
section
variable {z:W0} {C:Cx} {n:Nat} {G:GI} {con:Nat→CIn→z3d→Prop} {tb:Tb} {cty:List (Nat × List (Option (Nat × Nat)))} {ann:Ann} {ds:List Deferred} {dd:List (Nat × Dg)}
end
def nthS:List St→Nat→St
 | [],_=>⟨[],[],[],none⟩
 | s::_,0=>s
 | _::r,i+1=>nthS r i
theorem S.eb {R A:Type} {W:R→Prop} {z:Option A} {g:A→Option R} (h:∀ a,z=some a→S (g a) W):S (z >>= g) W:=S.b h
theorem Ex.cl {con:Nat→CIn→z3d→Prop} {σ:St} {f:Nat} {args:List PV} {k:PV→St→Prop} {kp:PV→St→Prop} {A:Type} {z:Option A} {a:A} {i:CIn} {o:A→z3d} (bs as_ as_':List Nat) (hc:∀ a,z=some a→con f i (o a)) (h:z=some a) (h0:zly bs as_ as_' i args σ k kp (o a))
  (h1:nrm.go σ i.vs args=z9s.go bs as_ i.vs:=by exact rfl) (h2:z83 σ bs as_ bs i.B:=by (repeat' first|exact trivial|exact rfl|apply And.intro)) (h3:zdo σ as_ i.A:=by (repeat' first|exact trivial|exact rfl|apply And.intro)) (h4:zgf σ bs as_ (z92.go i.vs args) i=true:=by exact rfl):zhi con σ f args k kp :=
 ⟨bs,as_,as_',i,o a,hc a h,h1,h2,h3,h4,h0⟩
theorem S.dg {R:Type} {y:Option R} {tb:Tb} {cty:List (Nat × List (Option (Nat × Nat)))} {ann:Ann} {con:Nat→CIn→z3d→Prop} {ops:Array Oper} {d:Dg} {σ:St} {kp:R→PV→St→Prop} {k:R→St→Prop} (Sg:List St) (h3:S y fun r=>k r (nthS Sg 0))
  (h1:zod tb ops d.qs σ [] fun σ1 dn1=>zbk tb ops σ1 []∧(za2 dn1 (d.dn (d.nds.length - 1))&&za2 (d.dn (d.nds.length - 1)) dn1)=true∧wt (σ1.cut d.c) fun s=>s=nthS Sg (d.nds.length - 1):=by (repeat' first|apply And.intro|exact rfl|exact trivial))
  (h2:∀ kp,zsf tb cty ann con ops d (nthS Sg) kp 0 d.nds:=by intro kp;(repeat (refine And.intro ?_ ?_;(as_aux_lemma=>(repeat' first|apply And.intro|exact rfl|exact trivial))));exact trivial) :
  S y (fun r=>exdag tb cty ann con ops (kp r) (k r) d σ):=fun r hm=>⟨nthS Sg,h1,h2 _,h3 r hm⟩
end
section
open Go.RowKit Go.Lk
def exY (tb:Tb) (cty:List (Nat × List (Option (Nat × Nat)))) (ann:Ann) (dd:List (Nat × Dg)) (con:Nat→CIn→z3d→Prop):Code→St→(z7v→St→Prop)→Prop
 | .region id ops dr,σ,k=>match lk dd id with
  | some d=>exdag tb cty ann con ops (fun v s=>k (.pan v) s) (fun s=>k .normal s) d σ
  | none=>ex tb cty ann con (.region id ops dr) σ k
 | .seq a b,σ,k=>match cutOf ann.seq b with
  | some c=>∃ J:St→Prop,exY tb cty ann dd con a σ (z81 (fun s=>wt (s.cut c) J) k)∧∀ s,J s→exY tb cty ann dd con b s k
  | none=>exY tb cty ann dd con a σ (z81 (fun s=>exY tb cty ann dd con b s k) k)
 | .cond c a b,σ,k=>match σ.ev c with
  | some (.bool x)=>cond x (exY tb cty ann dd con a σ k) (exY tb cty ann dd con b σ k)
  | _=>False
 | .block i a,σ,k=>exY tb cty ann dd con a σ (kBlk i k)
 | c,σ,k=>ex tb cty ann con c σ k
def okY (ann:Ann) (dd:List (Nat × Dg)) (n:Nat):Code→Bool
 | .region id ops dr=>match lk dd id with
  | some d=>dr&&okD ops d n&&(ops.toList.all fun o=>dOk n o.dst)
  | none=>okC ann n (.region id ops dr)
 | .seq a b=>okY ann dd n a&&okY ann dd n b
 | .cond _ a b=>okY ann dd n a&&okY ann dd n b
 | .block _ a=>okY ann dd n a
 | c=>okC ann n c
section
variable {z:W0} {C:Cx} {n:Nat} {G:GI} {con:Nat→CIn→z3d→Prop} {tb:Tb} {cty:List (Nat × List (Option (Nat × Nat)))} {ann:Ann} {ds:List Deferred} {dd:List (Nat × Dg)}
theorem zsd (ht:TbG C.P tb G) (hcon:∀ f i o,con f i o→Con C.P G f i o) (hz:∀ w O,z.G w O→G.p w O) (hlv:C.lv=false):∀ (c:Code) (σ:St) (k:z7v→St→Prop) (todo:List Item),okY ann dd n c=true→exY tb cty ann dd con c σ k→(∀ fl s,k fl s→FS z C n ds todo fl s)→KS z C n ds (.code c::todo) σ:=by
 intro c
 have other:∀ (c:Code) (σ:St) (k:z7v→St→Prop) (todo:List Item),okC ann n c=true→ex tb cty ann con c σ k→(∀ fl s,k fl s→FS z C n ds todo fl s)→KS z C n ds (.code c::todo) σ:=fun c σ k todo h1 h2 h3=>z2v ht hcon hz c σ k todo h1 (.inl hlv) h2 h3
 induction c with
 | region id ops dr =>
  intro σ k todo hok hw hk
  unfold exY at hw
  unfold okY at hok
  cases hl:lk dd id with
  | none =>
   rw [hl] at hw hok
   exact other _ σ k todo hok hw hk
  | some d =>
   rw [hl] at hw hok
   simp only [yb] at hok
   obtain ⟨⟨rfl,h1⟩,h2⟩:=hok
   intro V w hr
   refine zq1 ht hcon hz h1 h2 (.inl hlv) hw (fun s hs V w hr=>hk _ _ hs V w hr) (fun v s hs=>hk _ _ hs) V w hr
 | seq a b iha ihb =>
  intro σ k todo hok hw hk
  unfold okY at hok
  simp only [yb] at hok
  intro V w hr
  refine TW.seq ?_
  unfold exY at hw
  split at hw
  ·rename_i c _
   obtain ⟨J,h1,h2⟩:=hw
   refine iha σ _ (.code b::todo) hok.1 h1 (fun fl s hs => ?_) V w hr
   cases fl with
   | normal =>
    obtain ⟨s',e,hj⟩:=zc hs
    exact (ihb s' k todo hok.2 (h2 s' hj) hk).cut e
   | exit i=>exact (hk _ _ hs).code (by simp)
   | ret=>exact (hk _ _ hs).code (by simp)
   | pan v=>exact (hk _ _ hs).code (by simp)
  ·refine iha σ _ (.code b::todo) hok.1 hw (fun fl s hs => ?_) V w hr
   cases fl with
   | normal=>exact ihb s k todo hok.2 hs hk
   | exit i=>exact (hk _ _ hs).code (by simp)
   | ret=>exact (hk _ _ hs).code (by simp)
   | pan v=>exact (hk _ _ hs).code (by simp)
 | cond c a b iha ihb =>
  intro σ k todo hok hw hk
  unfold okY at hok
  simp only [yb] at hok
  intro V w hr
  unfold exY at hw
  split at hw
  ·rename_i x hx
   obtain ⟨O,φ,α,h,hs⟩:=hr
   obtain ⟨u,h1,h2⟩:=h.ev hx
   simp only [VR] at h2
   subst h2
   refine TW.cond h1 (fun e => ?_) (fun e => ?_)
   ·subst e
    exact iha σ k todo hok.1 hw hk V w ⟨O,φ,α,h,hs⟩
   ·subst e
    exact ihb σ k todo hok.2 hw hk V w ⟨O,φ,α,h,hs⟩
  ·exact hw.elim
 | block i a iha =>
  intro σ k todo hok hw hk
  unfold okY at hok
  intro V w hr
  refine TW.block ?_
  unfold exY at hw
  refine iha σ _ (.inBlock i::todo) hok hw (fun fl s hs => ?_) V w hr
  cases fl with
  | normal=>exact fun V w hr=>TW.inBlock (hk _ _ hs V w hr)
  | exit j =>
   simp only [kBlk] at hs
   cases e:yq i j with
   | true =>
    rw [e] at hs
    have e:=yu e
    subst e
    exact ⟨todo,by simp [exitTo],hk _ _ hs⟩
   | false =>
    rw [e] at hs
    have e:=Nat.ne_of_beq_eq_false e
    obtain ⟨k',h1,h2⟩:=hk _ _ hs
    exact ⟨k',by simp [exitTo,e,h1],h2⟩
  | ret=>exact hk _ _ hs
  | pan v=>exact hk _ _ hs
 | _=>intro σ k todo hok hw hk;exact other _ σ k todo hok hw hk
end
theorem Con.oY {P:Program} {G:GI} {tb:Tb} {cty:List (Nat × List (Option (Nat × Nat)))} {α:Type} {y:Option α} {f:Nat} {fn:Func} {i:CIn} {o:α→z3d} (ht:TbG P tb G) (hf:P.funcs[f]? = some fn) (ann:Ann) (dd:List (Nat × Dg)) (res:List ResultVar)
  (hw:S y fun r=>exY tb cty ann dd (Con P G) (z2a fn) (entry i) (fin tb ann res (o r))) (hok:okY ann dd fn.ntmps (z2a fn)=true) (hb:fn.body=some (z2a fn)) (ent:∀ args w,(callFunc f args).run P w = .ok (.enter f args) w)
  (hres:fn.results=res.toArray) (hnn:yq f NF=false) (hl:yr i.vs.length fn.ntmps=true) (hnb:ann.nb=i.B.length) (h1000:yr i.B.length 1000=true):S y fun r=>Con P G f i (o r):=by
 intro r hm
 have hw:exY tb cty ann dd (Con P G) (z2a fn) (entry i) (fin tb ann res (o r)):=hw r hm
 revert hw
 generalize o r=o
 intro hw
 refine ⟨ent,hnn,fun w O φ α us hv hm hB hG => ?_⟩
 have h1000:=yv h1000
 obtain ⟨hF,h0⟩:=zau (G:=G) hv hm hB hG h1000
 have hlu:us.length=i.vs.length:=hv.len
 refine zhj hf hb fn.ntmps rfl (by rw [hlu];exact hl) ?_
 refine zsd (z:=zvl G i w O φ α hF hB) (C:={ P:=P,f:=f,fn:=fn,R:=zbs i w O φ α o,hf:=hf }) (n:=fn.ntmps) (ds:=[]) (G:=G) ht (fun _ _ _ h=>h) (fun _ _ h=>h) rfl (z2a fn) (entry i) _ [] hok hw (fun fl s hs => ?_) _ _ ⟨O,φ,α,h0,fun _ hx=>hx⟩
 cases fl with
 | normal =>
  intro V w' hr
  obtain ⟨O',φ',α',h1,h2⟩:=hr
  cases o with
  | pan v=>exact hs.elim
  | zg3 _ _=>exact hs.elim
  | okI _ _ _=>exact hs.elim
  | ok vs B A =>
   obtain ⟨us',h3,h4⟩:=z57 (C:={ P:=P,f:=f,fn:=fn,R:=zbs i w O φ α (.ok vs B A),hf:=hf }) (n:=fn.ntmps) (hF:=hF) (hB:=hB) (g:=φ) ht hres (fun b hb=>h1.keep b (by omega)) h1 h2 hnb h1000 hs
   exact TW.fin h3 h4
 | ret =>
  intro k' V w' hr
  obtain ⟨O',φ',α',h1,h2⟩:=hr
  cases o with
  | pan v=>exact hs.elim
  | zg3 _ _=>exact hs.elim
  | okI _ _ _=>exact hs.elim
  | ok vs B A =>
   obtain ⟨us',h3,h4⟩:=z57 (C:={ P:=P,f:=f,fn:=fn,R:=zbs i w O φ α (.ok vs B A),hf:=hf }) (n:=fn.ntmps) (hF:=hF) (hB:=hB) (g:=φ) ht hres (fun b hb=>h1.keep b (by omega)) h1 h2 hnb h1000 hs
   exact TW.ret h3 h4
 | exit _=>exact hs.elim
 | pan v =>
  intro V w' O' φ' α' u φ2 α2 h1 h2 h3 a ha hda
  cases o with
  | ok _ _ _=>cases hs
  | okI _ _ _=>cases hs
  | pan v =>
   cases hs
   exact PN.nil hda ⟨u,O',φ2,α2,rfl,h3,h1.ext,h1.tr0,h1.bd,h1.only⟩
  | zg3 v' B =>
   obtain ⟨rfl,hsl,hw⟩:=hs
   obtain ⟨us',_,O3,φ3,α3,h4⟩:=z8z (ann:={ nb:=ann.nb }) (res:=[]) (C:={ P:=P,f:=f,fn:=fn,R:=zbs i w O φ α (.zg3 v' B),hf:=hf }) (n:=fn.ntmps) (hF:=hF) (hB:=hB) (g:=φ) ht (fun b hb=>h1.keep b (by omega)) h1 h2 hnb h1000 hw
   exact PN.nil hda ⟨u,φ2,α2,us',O3,φ3,α3,rfl,z6h _ _ hsl h3,h4⟩
end
end Go.Pe
