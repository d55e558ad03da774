import Derived.Test.YtmmgdladipbedaaGreatDoorLPeE
import Derived.KernelRfl
set_option linter.all false
section
namespace Go.Pe
open _root_.Bool renaming false_eq_true → ya
open Go.RowKit Go.Lk
section
variable {K V:Type} [DecidableEq K]
def z2x:List (K × V)→K→V→V
 | [],_,z=>z
 | (a,v)::r,k,z=>if k=a then v else z2x r k z
def zoo:List (K × V)→K→Bool
 | [],_=>false
 | (a,_)::r,k=>if k=a then true else zoo r k
def z2y:List (K × V)→K→V→List (K × V)
 | [],k,v=>[(k,v)]
 | (a,b)::r,k,v=>if k=a then (k,v)::r else (a,b)::z2y r k v
def z62:List (K × V)→K→List (K × V)
 | [],_=>[]
 | (a,b)::r,k=>if k=a then r else (a,b)::z62 r k
variable {R:Type} {y:Option R} {f:K × V→List D} {kf:K→D} {vf:V→List D} (hf:∀ x,f x=kf x.1::vf x.2) (hk:∀ a b,kEq (kf a) (kf b)=decide (a=b))
include hf hk
theorem zmb (k:K) (z:V):∀ l:List (K × V),zdf (l.map f) (kf k) (vf z)=vf (z2x l k z)∧zf3 (l.map f) (kf k)=zoo l k
 | []=>⟨rfl,rfl⟩
 | (a,v)::r=>by
  obtain ⟨h1,h2⟩:=zmb k z r
  by_cases e:k=a
  ·subst e
   simp [zdf,zf3,mgD,hf,hk,z2x,zoo]
  ·simp only [zdf,zf3] at h1 h2
   simp [zdf,zf3,mgD,hf,hk,z2x,zoo,e,h1,h2]
theorem zf4 (k:K) (v:V):∀ l:List (K × V),z6v (l.map f) (kf k) (vf v)=(z2y l k v).map f
 | []=>by simp [z6v,z2y,hf]
 | (a,b)::r=>by
  have h1:=zf4 k v r
  by_cases e:k=a
  ·subst e
   simp [z6v,hf,hk,z2y]
  ·simp only [List.map_cons,hf,z6v,hk,e,decide_false,ya,if_false,z2y,h1]
theorem zf2 (k:K):∀ l:List (K × V),z7p (l.map f) (kf k)=(z62 l k).map f
 | []=>rfl
 | (a,b)::r=>by
  have h1:=zf2 k r
  by_cases e:k=a
  ·subst e
   simp [z7p,hf,hk,z62]
  ·simp only [List.map_cons,hf,z7p,hk,e,decide_false,ya,if_false,z62,h1]
theorem S.zxb {l:List (K × V)} {k:K} {z:V} {c:V→List D} {kd:D} {zd:List D} {F:R→List D→Prop} (hkd:kd=kf k) (hz:zd=vf z) (hc:∀ x,vf x=c x) (h:S y (fun r=>F r (c (z2x l k z)))):S y (fun r=>Ex (some (zdf (l.map f) kd zd)) (F r)):=by
 subst hkd hz
 rw [(zmb hf hk k z l).1,hc]
 exact fun r hm=>⟨_,rfl,h r hm⟩
theorem S.zwf {l:List (K × V)} {k:K} {v:V} {kd:D} {vd:List D} {F:R→List (List D)→Prop} (hkd:kd=kf k) (hv:vd=vf v) (h:S y (fun r=>F r ((z2y l k v).map f))):S y (fun r=>Ex (some (z6v (l.map f) kd vd)) (F r)):=by
 subst hkd hv
 rw [zf4 hf hk k v l]
 exact fun r hm=>⟨_,rfl,h r hm⟩
theorem S.zxa {l:List (K × V)} {k:K} {kd:D} {F:R→List (List D)→Prop} (hkd:kd=kf k) (h:S y (fun r=>F r ((z62 l k).map f))):S y (fun r=>Ex (some (z7p (l.map f) kd)) (F r)):=by
 subst hkd
 rw [zf2 hf hk k l]
 exact fun r hm=>⟨_,rfl,h r hm⟩
end
theorem zd7 (a b:List UInt8):kEq (.str a) (.str b)=decide (a=b):=rfl
theorem zf1 {X Y:Type} (f:X→Y):∀ (l:List X) (i:Nat),(l.map f).eraseIdx i=(l.eraseIdx i).map f
 | [],i=>by simp
 | x::l,0=>by simp
 | x::l,i+1=>by simp [zf1 f l i]
theorem S.di {R:Type} {p:Prop} [Decidable p] {y1 y2:Option R} {W:R→Prop} (h1:p→S y1 W) (h2:S y2 W):S (if p then y1 else y2) W:=fun r hm=>by
 by_cases h:p
 ·rw [if_pos h] at hm;exact h1 h r hm
 ·rw [if_neg h] at hm;exact h2 r hm
theorem S.nx {R X:Type} {f c:X→List D} {L:List X→Option R} {l:List X} {W0:R→Prop} {W1:R→List D→List (List D)→Prop} (perm:∀ (i:Nat) (x:X),l[i]? = some x→L l=L (x::l.eraseIdx i)) (hc:∀ x,f x=c x)
  (h0:S (L []) W0) (h1:∀ (x:X) (l':List X),l'.length<l.length→S (L (x::l')) (fun r=>W1 r (c x) (l'.map f))):S (L l) (fun r=>NxW (l.map f) (W0 r) (W1 r)):=fun r hm=>by
 refine ⟨fun e => ?_,fun i ds e => ?_⟩
 ·have:l=[]:=by simpa using e
  subst this
  exact h0 r hm
 ·rw [List.getElem?_map] at e
  obtain ⟨x,e1,rfl⟩:=Option.map_eq_some_iff.1 e
  have hlt:i<l.length:=(List.getElem?_eq_some_iff.1 e1).1
  rw [perm i x e1] at hm
  have:=h1 x (l.eraseIdx i) (by rw [List.length_eraseIdx,if_pos hlt];omega) r hm
  rw [hc,zf1]
  exact this
section
variable {tb:Tb} {cty:List (Nat × List (Option (Nat × Nat)))} {ann:Ann} {con:Nat→CIn→z2l→Prop} {R X:Type} {a:Code} {c:Cut} {k:R→z74→St→Prop} {σ:St}
theorem S.lm {Y:Type} {L:List X→Y→Option R} {l0:List X} {y0:Y} (sh:List X→Y→St) (h0:σ=sh l0 y0)
  (h:∀ (I:R→St→Prop) (l:List X),(∀ l':List X,l'.length<l.length→∀ y',S (L l' y') (fun r=>I r (sh l' y')))→∀ y,S (L l y) (fun r=>ex tb cty ann con a (sh l y) (z5r (fun s=>wt (s.cut c) (I r)) (k r)))) :
  S (L l0 y0) (fun r=>LW (fun I s=>ex tb cty ann con a s (z5r (fun s=>wt (s.cut c) I) (k r))) σ):=by
 subst h0
 have key:∀ (n:Nat) (l:List X),l.length<n→∀ y,S (L l y) (fun r=>LW (fun I s=>ex tb cty ann con a s (z5r (fun s=>wt (s.cut c) I) (k r))) (sh l y)):=by
  intro n
  induction n with
  | zero =>
   intro l hl
   omega
  | succ n ih =>
   intro l hl y r hm
   exact LW.fold (z5k a c (k r)) (h (fun r=>LW (fun I s=>ex tb cty ann con a s (z5r (fun s=>wt (s.cut c) I) (k r)))) l (fun l' hl'=>ih l' (by omega)) y r hm)
 exact key _ l0 (Nat.lt_succ_self _) y0
end
end Go.Pe
end
section
namespace Go.Pe
open _root_.Nat renaming ble → ya
open Go.RowKit Go.Lk
section
variable {R A:Type} {W:R→Prop} {y:Option R}
theorem S.n {p:Prop} (h:S y W) (hp:p:=by (repeat' first|exact rfl|exact trivial|apply And.intro)):S y (fun r=>p∧W r):=S.an hp h
theorem S.zr {a:R} (h:W a:=by exact rfl):S (some a) W:=S.z h
theorem S.q {a:R} (h:W a:=by exact ⟨rfl,by (repeat' first|exact trivial|exact rfl|apply And.intro),by (repeat' first|exact trivial|exact rfl|apply And.intro),rfl⟩):S (some a) W:=S.z h
theorem S.no:S (none:Option R) W:=fun _ h=>by cases h
theorem S.m {Y:Type} {f:Y→List D} {xs:List Y} {F:R→Int→Prop} (h:S y (fun r=>F r (xs.length:Int))):S y (fun r=>Ex (zon (xs.map f)) (F r)):=S.eq z4m h
theorem S.kk {con:Nat→CIn→z2l→Prop} {σ:St} {f:Nat} {args:List PV} {k:R→PV→St→Prop} {kp:R→PV→St→Prop} {z:Option A} {g:A→Option R} {i:CIn} {o:A→z2l} (bs as as':List Nat) (hc:∀ a,z=some a→con f i (o a))
  (h:∀ a,S (g a) (fun r=>zj8 bs as as' i args σ (k r) (kp r) (o a)))
  (h1:nrm.go σ i.vs args=z6x.go bs as i.vs:=by exact rfl) (h2:z6g σ bs as bs i.B:=by (repeat' first|exact trivial|exact rfl|apply And.intro)) (h3:zbn σ as i.A:=by (repeat' first|exact trivial|exact rfl|apply And.intro)) (h4:ze6 σ bs as (z6u.go i.vs args) i=true:=by exact rfl):S (z >>= g) (fun r=>ze7 con σ f args (k r) (kp r)):=S.k bs as as' hc h1 h2 h3 h4 h
theorem S.k0 {con:Nat→CIn→z2l→Prop} {σ:St} {f:Nat} {args:List PV} {k:R→PV→St→Prop} {kp:R→PV→St→Prop} {z:Option A} {g:A→Option R} {i:CIn} {o:A→z2l} (hc:∀ a,z=some a→con f i (o a))
  (h:∀ a,S (g a) (fun r=>zj8 [] [] [] i args σ (k r) (kp r) (o a)))
  (h1:nrm.go σ i.vs args=z6x.go [] [] i.vs:=by exact rfl) (h2:z6g σ [] [] [] i.B:=by exact trivial) (h3:zbn σ [] i.A:=by exact trivial) (h4:ze6 σ [] [] (z6u.go i.vs args) i=true:=by exact rfl):S (z >>= g) (fun r=>ze7 con σ f args (k r) (kp r)):=S.k [] [] [] hc h1 h2 h3 h4 h
section
variable {B:R→St→Prop} {A1 A2:R→(St→Prop)→Prop} {b:Bool} {s1 s2:St}
theorem S.ja {e:Bool} (sh:Bool→St) (h1:∀ r,A1 r fun s=>∃ x,s=sh x∧x=e) (hB:S y fun r=>B r (sh (b&&e))) (h2:s2=sh false:=by exact rfl):S y (fun r=>∃ J:St→Prop,cond b (A1 r J) (J s2)∧∀ s,J s→B r s):=by
 cases b with
 | true=>exact S.jb (v:=e) sh h1 hB
 | false=>exact S.jb (v:=false) sh (fun _=>⟨false,h2,rfl⟩) hB
theorem S.ja0 {e:Bool} (sh:Bool→St) (h1:s1=sh e) (hB:S y fun r=>B r (sh (b&&e))) (h2:s2=sh false:=by exact rfl):S y (fun r=>∃ J:St→Prop,cond b (J s1) (J s2)∧∀ s,J s→B r s) :=
 S.ja (A1:=fun _ J=>J s1) sh (fun _=>⟨e,h1,rfl⟩) hB h2
theorem S.ju {e:Bool} (sh:Bool→St) (h1:∀ r,A2 r fun s=>∃ x,s=sh x∧x=e) (hB:S y fun r=>B r (sh (b||e))) (h2:s1=sh true:=by exact rfl):S y (fun r=>∃ J:St→Prop,cond b (J s1) (A2 r J)∧∀ s,J s→B r s):=by
 cases b with
 | true=>exact S.jb (v:=true) sh (fun _=>⟨true,h2,rfl⟩) hB
 | false=>exact S.jb (v:=e) sh h1 hB
theorem S.ju0 {e:Bool} (sh:Bool→St) (h1:s2=sh e) (hB:S y fun r=>B r (sh (b||e))) (h2:s1=sh true:=by exact rfl):S y (fun r=>∃ J:St→Prop,cond b (J s1) (J s2)∧∀ s,J s→B r s) :=
 S.ju (A2:=fun _ J=>J s2) sh (fun _=>⟨e,h1,rfl⟩) hB h2
end
end
section
variable {R A X:Type} {f c:X→List D} {l l2:List (List D)} {xs ys:List X}
theorem S.ixf (f:X→List D) {i:Int} {F:R→List D→Prop} {g:X→Option R} (h:∀ x,S (g x) (fun r=>F r (f x))) (hl:l=xs.map f:=by exact rfl):S (Go.Lk.ix xs i >>= g) (fun r=>Ex (Go.Lk.ix l i) (F r)):=S.ix hl (fun _=>rfl) h
theorem S.ixm (hc:∀ x,f x=c x) {i:Int} {F:R→List D→Prop} {g:X→Option R} (h:∀ x,S (g x) (fun r=>F r (c x))) (hl:l=xs.map f:=by exact rfl):S (Go.Lk.ix xs i >>= g) (fun r=>Ex (Go.Lk.ix l i) (F r)):=S.ix hl hc h
theorem S.ixs {E:List X→List (List D)} (hE:∀ l,E l=l.map f) (hc:∀ x,f x=c x) {i:Int} {F:R→List D→Prop} {g:X→Option R} (h:∀ x,S (g x) (fun r=>F r (c x))) (hl:l=E xs:=by exact rfl):S (Go.Lk.ix xs i >>= g) (fun r=>Ex (Go.Lk.ix l i) (F r)):=S.ixE hE hl hc h
theorem S.zcl (f:X→List D) {n:Nat} {F:R→List (List D)→Prop} {g:List X→Option R} (h:∀ x,S (g x) (fun r=>F r (x.map f))) (hl2:l2=ys.map f:=by exact rfl) (hl:l=xs.map f:=by exact rfl):S (Go.Lk.app n xs ys >>= g) (fun r=>Ex (Go.Lk.app n l l2) (F r)):=S.app hl hl2 h
theorem S.apps {E:List X→List (List D)} (hE:∀ l,E l=l.map f) {n:Nat} {F:R→List (List D)→Prop} {g:List X→Option R} (h:∀ x,S (g x) (fun r=>F r (E x))) (hl2:l2=E ys:=by exact rfl) (hl:l=E xs:=by exact rfl):S (Go.Lk.app n xs ys >>= g) (fun r=>Ex (Go.Lk.app n l l2) (F r)):=S.zwo hE hl hl2 h
theorem S.d {W':R→List UInt8→Prop} {y:Option R} {xs:List Int} (h:S y (fun r=>W' r (byt xs))) (hl:l=xs.map (eI .u8):=by exact rfl):S y (fun r=>Ex (Go.Pe.dby l) (W' r)):=S.dby hl h
end
section
variable {tb:Tb} {cty:List (Nat × List (Option (Nat × Nat)))} {ann:Ann} {con:Nat→CIn→z2l→Prop} {R X:Type}
theorem S.gn {a:Code} {σ:St} {c:Cut} {k:R→z74→St→Prop} {B:R→St→Prop} {z:Option (Jn R X)} {m:Jn R X→Option R} (sh:X→St)
  (hA:S z fun j=>ex tb cty ann con a σ (z5r (fun s=>wt (s.cut c) (jG sh j)) (kD k (fun _ _=>False) j))) (hB:∀ x,S (m (.go x)) fun r=>B r (sh x)) (hd:∀ r,m (.done r)=some r:=by exact fun _=>rfl) :
  S (z >>= m) (fun r=>∃ J:St→Prop,ex tb cty ann con a σ (z5r (fun s=>wt (s.cut c) J) (k r))∧∀ s,J s→B r s):=S.jn sh hA hd hB
end
@[reducible] def cu (L B A:List Nat):Cut:={ L:=L,B:=B,A:=A }
@[reducible] def c1 (L:List Nat):Cut:={ L:=L }
@[reducible] def st (L:List (Nat × PV)):St:=⟨L,[],[],none⟩
@[reducible] def sb (L:List (Nat × PV)) (B:List (Nat × Bx)):St:=⟨L,B,[],none⟩
@[reducible] def PV.i (x:Int):PV:=.int .i64 x
@[reducible] def PV.b (x:Bool):PV:=.bool x
@[reducible] def PV.s (x:List UInt8):PV:=.str x
@[reducible] def PV.p (b:Nat):PV:=.ptr b 0
@[reducible] def ro {α:Type} (T:Nat) (k:IntKind) (o:α→z2l):Rs α→z2l
 | .ok r=>o r
 | .pan e => .pan (.iface T (.agg [.int k e]))
theorem Con.oS {P:Program} {G:GI} {tb:Tb} {cty:List (Nat × List (Option (Nat × Nat)))} {α:Type} {y:Option α} {f:Nat} {fn:Func} {i:CIn} {o:α→z2l} (ht:TbG P tb G) (hf:P.funcs[f]? = some fn) (ann:Ann) (res:List ResultVar)
  (hw:S y fun r=>ex tb cty ann (Con P G) (z1v fn) (entry i) (fin tb ann res (o r))) (hok:okC ann fn.ntmps (z1v fn)=true) (hb:fn.body=some (z1v fn)) (ent:∀ args w,(callFunc f args).run P w = .ok (.enter f args) w)
  (hres:fn.results=res.toArray) (hl:ya i.vs.length fn.ntmps=true) (hnb:ann.nb=i.B.length) (h1000:ya i.B.length 1000=true):S y fun r=>Con P G f i (o r) :=
 fun r hm=>Con.of ht ent hf hb rfl hres hok hl hnb h1000 (hw r hm)
theorem Con.oD {P:Program} {G:GI} {tb:Tb} {cty:List (Nat × List (Option (Nat × Nat)))} {α:Type} {y:Option α} {f:Nat} {fn:Func} {i:CIn} {o:α→z2l} {fc T:Nat} {ik:IntKind} {Te:Nat} (hct:ze2 P fc T ik Te) (ht:TbG P tb G) (hf:P.funcs[f]? = some fn) (ann:Ann) (res:List ResultVar)
  (hw:S y fun r=>exD tb cty ann (Con P G) (fin tb ann res (o r)) (zuj tb ann res (o r) fc T ik Te) (z1v fn) (entry i)) (hok:okC ann fn.ntmps (z1v fn)=true) (hb:fn.body=some (z1v fn)) (ent:∀ args w,(callFunc f args).run P w = .ok (.enter f args) w)
  (hnd:z1y (z1v fn)=true) (hres:fn.results=res.toArray) (hl:ya i.vs.length fn.ntmps=true) (hnb:ann.nb=i.B.length) (h1000:ya i.B.length 900=true):S y fun r=>Con P G f i (o r) :=
 fun r hm=>Con.ofD hct ht ent hf hb rfl hres hok hnd hl hnb h1000 (hw r hm)
end Go.Pe
end
