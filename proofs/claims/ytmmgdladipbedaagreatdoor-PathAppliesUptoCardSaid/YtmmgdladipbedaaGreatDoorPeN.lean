import Derived.Test.YtmmgdladipbedaaGreatDoorPeS6
import Derived.KernelRfl
set_option linter.all false
section
namespace Go.Pe
open Go.RowKit Go.Lk
variable [Lb]
inductive Rs (α:Type) where
 | ok (a:α)
 | pan (e:Int)
theorem zhi {a e v:Bool} (h:a=true) (p:v=e):v=(a&&e):=by rw [h];exact p
theorem zhh {a e:Bool} (h:a=false):false=(a&&e):=by rw [h];rfl
theorem zza {a e:Bool} (h:a=true):true=(a||e):=by rw [h];rfl
theorem zz9 {a e v:Bool} (h:a=false) (p:v=e):v=(a||e):=by rw [h];exact p
section
variable {R A:Type} {W:R→Prop} {y:Option R}
theorem S.an {p:Prop} (hp:p) (h:S y W):S y (fun r=>p∧W r):=fun r hm=>⟨hp,h r hm⟩
theorem S.two {V:R→Prop} (h:S y V) (h2:S y W):S y (fun r=>V r∧W r):=fun r hm=>⟨h r hm,h2 r hm⟩
theorem S.jb {X:Type} {B:R→St→Prop} {A':R→(St→Prop)→Prop} {v:X} (sh:X→St) (hA:∀ r,A' r fun s=>∃ b,s=sh b∧b=v) (hB:S y (fun r=>B r (sh v))):S y (fun r=>∃ J:St→Prop,A' r J∧∀ s,J s→B r s) :=
 fun r hm=>⟨_,hA r,fun s ⟨b,h1,h2⟩=>by subst h1 h2;exact hB r hm⟩
end
section
variable {tb:Tb} {cty:List (Nat × List (Option (Nat × Nat)))} {ann:Ann} {con:Nat→CIn→z3s→Prop}
theorem S.lw3 {X0 X1 X2 R:Type} {a:Code} {c:Cut} {k:R→z8v→St→Prop} {σ:St} {L:X0→X1→X2→Option R} {Bd:(X0→X1→X2→Option R)→X0→X1→X2→Option R} {x0:X0} {x1:X1} {x2:X2} (sh:X0→X1→X2→St)
  (pc:∀ motive:X0→X1→X2→R→Prop,(∀ f:X0→X1→X2→Option R,(∀ x0 x1 x2 r,f x0 x1 x2=some r→motive x0 x1 x2 r)→∀ x0 x1 x2 r,Bd f x0 x1 x2=some r→motive x0 x1 x2 r)→∀ x0 x1 x2 r,L x0 x1 x2=some r→motive x0 x1 x2 r)
  (h0:σ=sh x0 x1 x2) (h:∀ (f:X0→X1→X2→Option R) (I:R→St→Prop),(∀ x0 x1 x2,S (f x0 x1 x2) (fun r=>I r (sh x0 x1 x2)))→∀ x0 x1 x2,S (Bd f x0 x1 x2) (fun r=>ex tb cty ann con a (sh x0 x1 x2) (z7a (fun s=>wt (s.cut c) (I r)) (k r)))) :
  S (L x0 x1 x2) (fun r=>LW (fun I s=>ex tb cty ann con a s (z7a (fun s=>wt (s.cut c) I) (k r))) σ):=by
 subst h0
 exact pc (fun x0 x1 x2 r=>LW (fun I s=>ex tb cty ann con a s (z7a (fun s=>wt (s.cut c) I) (k r))) (sh x0 x1 x2)) (fun f ih x0 x1 x2 r hm=>LW.fold (z6c a c (k r)) (h f (fun r=>LW (fun I s=>ex tb cty ann con a s (z7a (fun s=>wt (s.cut c) I) (k r)))) ih x0 x1 x2 r hm)) x0 x1 x2
theorem S.lw5 {X0 X1 X2 X3 X4 R:Type} {a:Code} {c:Cut} {k:R→z8v→St→Prop} {σ:St} {L:X0→X1→X2→X3→X4→Option R} {Bd:(X0→X1→X2→X3→X4→Option R)→X0→X1→X2→X3→X4→Option R} {x0:X0} {x1:X1} {x2:X2} {x3:X3} {x4:X4} (sh:X0→X1→X2→X3→X4→St)
  (pc:∀ motive:X0→X1→X2→X3→X4→R→Prop,(∀ f:X0→X1→X2→X3→X4→Option R,(∀ x0 x1 x2 x3 x4 r,f x0 x1 x2 x3 x4=some r→motive x0 x1 x2 x3 x4 r)→∀ x0 x1 x2 x3 x4 r,Bd f x0 x1 x2 x3 x4=some r→motive x0 x1 x2 x3 x4 r)→∀ x0 x1 x2 x3 x4 r,L x0 x1 x2 x3 x4=some r→motive x0 x1 x2 x3 x4 r)
  (h0:σ=sh x0 x1 x2 x3 x4) (h:∀ (f:X0→X1→X2→X3→X4→Option R) (I:R→St→Prop),(∀ x0 x1 x2 x3 x4,S (f x0 x1 x2 x3 x4) (fun r=>I r (sh x0 x1 x2 x3 x4)))→∀ x0 x1 x2 x3 x4,S (Bd f x0 x1 x2 x3 x4) (fun r=>ex tb cty ann con a (sh x0 x1 x2 x3 x4) (z7a (fun s=>wt (s.cut c) (I r)) (k r)))) :
  S (L x0 x1 x2 x3 x4) (fun r=>LW (fun I s=>ex tb cty ann con a s (z7a (fun s=>wt (s.cut c) I) (k r))) σ):=by
 subst h0
 exact pc (fun x0 x1 x2 x3 x4 r=>LW (fun I s=>ex tb cty ann con a s (z7a (fun s=>wt (s.cut c) I) (k r))) (sh x0 x1 x2 x3 x4)) (fun f ih x0 x1 x2 x3 x4 r hm=>LW.fold (z6c a c (k r)) (h f (fun r=>LW (fun I s=>ex tb cty ann con a s (z7a (fun s=>wt (s.cut c) I) (k r)))) ih x0 x1 x2 x3 x4 r hm)) x0 x1 x2 x3 x4
end
section
variable {R A X:Type} {f c:X→List D} {E:List X→List (List D)} {l l2:List (List D)} {xs ys:List X}
theorem S.ixE (hE:∀ l,E l=l.map f) {i:Int} {F:R→List D→Prop} {g:X→Option R} (hl:l=E xs) (hc:∀ x,f x=c x) (h:∀ x,S (g x) (fun r=>F r (c x))):S (Go.Lk.ix xs i >>= g) (fun r=>Ex (Go.Lk.ix l i) (F r)):=S.ix (hl.trans (hE xs)) hc h
theorem S.appE (hE:∀ l,E l=l.map f) {n:Nat} {F:R→List (List D)→Prop} {g:List X→Option R} (hl:l=E xs) (hl2:l2=E ys) (h:∀ x,S (g x) (fun r=>F r (E x))):S (Go.Lk.app n xs ys >>= g) (fun r=>Ex (Go.Lk.app n l l2) (F r)):=S.app (f:=f) (hl.trans (hE xs)) (hl2.trans (hE ys)) fun x=>by rw [←hE];exact h x
end
section
variable {tb:Tb} {cty:List (Nat × List (Option (Nat × Nat)))} {ann:Ann} {con:Nat→CIn→z3s→Prop} {R X:Type}
def kD {Y:Type} (k:R→Y) (no:Y):Jn R X→Y
 | .done r=>k r
 | .go _=>no
def jG (sh:X→St) (j:Jn R X):St→Prop:=fun s=>match j with
 | .go x=>s=sh x
 | .done _=>False
theorem S.jn {a:Code} {σ:St} {c:Cut} {k:R→z8v→St→Prop} {B:R→St→Prop} {z:Option (Jn R X)} {m:Jn R X→Option R} (sh:X→St)
  (hA:S z fun j=>ex tb cty ann con a σ (z7a (fun s=>wt (s.cut c) (jG sh j)) (kD k (fun _ _=>False) j))) (hd:∀ r,m (.done r)=some r) (hB:∀ x,S (m (.go x)) fun r=>B r (sh x)) :
  S (z >>= m) (fun r=>∃ J:St→Prop,ex tb cty ann con a σ (z7a (fun s=>wt (s.cut c) J) (k r))∧∀ s,J s→B r s):=by
 intro r hm
 obtain ⟨j,h1,h2⟩:=bnd hm
 refine ⟨jG sh j,z4f a _ _ _ (z5t (fun _=>id) ?_) (hA j h1),?_⟩
 ·cases j with
  | done r0=>rw [hd] at h2;cases h2;exact fun _ _=>id
  | go x=>exact fun _ _ h=>h.elim
 ·cases j with
  | done r0=>exact fun _ h=>h.elim
  | go x=>intro s h;cases h;exact hB x r h2
theorem S.dn {Y1 Y2:Type} {k:R→Y1→Y2→Prop} {p:Y1} {q:Y2} {y:Option R} (h:S y fun r=>k r p q):S (y >>= fun r=>some (Jn.done r:Jn R X)) (fun j=>kD k (fun _ _=>False) j p q):=by
 intro j hm
 obtain ⟨r,h1,h2⟩:=bnd hm
 cases h2
 exact h r h1
theorem z1x {Y:Type} {f:Y→List D} {xs:List Y}:zqt (xs.map f)=some (xs.length:Int):=by simp [zqt]
theorem z1f {Y:Type} {f:Y→List D} {E:List Y→List (List D)} (hE:∀ l,E l=l.map f) {xs:List Y}:zqt (E xs)=some (xs.length:Int):=by rw [hE];exact z1x
theorem Ex.i {Y:Type} {z:Option Y} {k:Y→Prop} {a:Y} (hz:z=some a) (h:k a):Ex z k:=⟨a,hz,h⟩
theorem jbI {Y:Type} {sh:Y→St} {v b:Y} {s:St} (h:s=sh b) (p:b=v):∃ b,s=sh b∧b=v:=⟨b,h,p⟩
end
end Go.Pe
end
section
namespace Go.Pe
open _root_.Bool renaming false_eq_true → ya
open Go.RowKit Go.Lk
variable [Lb]
section
variable {K V:Type} [DecidableEq K]
def z2s:List (K × V)→K→V→V
 | [],_,z=>z
 | (a,v)::r,k,z=>if k=a then v else z2s r k z
def zqu:List (K × V)→K→Bool
 | [],_=>false
 | (a,_)::r,k=>if k=a then true else zqu r k
def z3b:List (K × V)→K→V→List (K × V)
 | [],k,v=>[(k,v)]
 | (a,b)::r,k,v=>if k=a then (k,v)::r else (a,b)::z3b r k v
def z5m:List (K × V)→K→List (K × V)
 | [],_=>[]
 | (a,b)::r,k=>if k=a then r else (a,b)::z5m r k
variable {R:Type} {y:Option R} {f:K × V→List D} {kf:K→D} {vf:V→List D} (hf:∀ x,f x=kf x.1::vf x.2) (hk:∀ a b,kEq (kf a) (kf b)=decide (a=b))
include hf hk
theorem znz (k:K) (z:V):∀ l:List (K × V),zei (l.map f) (kf k) (vf z)=vf (z2s l k z)∧zgl (l.map f) (kf k)=zqu l k
 | []=>⟨rfl,rfl⟩
 | (a,v)::r=>by
  obtain ⟨h1,h2⟩:=znz k z r
  by_cases e:k=a
  ·subst e
   simp [zei,zgl,mgD,hf,hk,z2s,zqu]
  ·simp only [zei,zgl] at h1 h2
   simp [zei,zgl,mgD,hf,hk,z2s,zqu,e,h1,h2]
theorem zgm (k:K) (v:V):∀ l:List (K × V),z7t (l.map f) (kf k) (vf v)=(z3b l k v).map f
 | []=>by simp [z7t,z3b,hf]
 | (a,b)::r=>by
  have h1:=zgm k v r
  by_cases e:k=a
  ·subst e
   simp [z7t,hf,hk,z3b]
  ·simp only [List.map_cons,hf,z7t,hk,e,decide_false,ya,if_false,z3b,h1]
theorem zgk (k:K):∀ l:List (K × V),z8h (l.map f) (kf k)=(z5m l k).map f
 | []=>rfl
 | (a,b)::r=>by
  have h1:=zgk k r
  by_cases e:k=a
  ·subst e
   simp [z8h,hf,hk,z5m]
  ·simp only [List.map_cons,hf,z8h,hk,e,decide_false,ya,if_false,z5m,h1]
theorem S.zzv {l:List (K × V)} {k:K} {z:V} {c:V→List D} {kd:D} {zd:List D} {F:R→List D→Prop} (hkd:kd=kf k) (hz:zd=vf z) (hc:∀ x,vf x=c x) (h:S y (fun r=>F r (c (z2s l k z)))):S y (fun r=>Ex (some (zei (l.map f) kd zd)) (F r)):=by
 subst hkd hz
 rw [(znz hf hk k z l).1,hc]
 exact fun r hm=>⟨_,rfl,h r hm⟩
theorem S.zy0 {l:List (K × V)} {k:K} {v:V} {kd:D} {vd:List D} {F:R→List (List D)→Prop} (hkd:kd=kf k) (hv:vd=vf v) (h:S y (fun r=>F r ((z3b l k v).map f))):S y (fun r=>Ex (some (z7t (l.map f) kd vd)) (F r)):=by
 subst hkd hv
 rw [zgm hf hk k v l]
 exact fun r hm=>⟨_,rfl,h r hm⟩
theorem S.zzu {l:List (K × V)} {k:K} {kd:D} {F:R→List (List D)→Prop} (hkd:kd=kf k) (h:S y (fun r=>F r ((z5m l k).map f))):S y (fun r=>Ex (some (z8h (l.map f) kd)) (F r)):=by
 subst hkd
 rw [zgk hf hk k l]
 exact fun r hm=>⟨_,rfl,h r hm⟩
end
theorem z5s (a b:List UInt8):kEq (.str a) (.str b)=decide (a=b):=rfl
theorem zgj {X Y:Type} (f:X→Y):∀ (l:List X) (i:Nat),(l.map f).eraseIdx i=(l.eraseIdx i).map f
 | [],i=>by simp
 | x::l,0=>by simp
 | x::l,i+1=>by simp [zgj f l i]
theorem S.di {R:Type} {p:Prop} [Decidable p] {y1 y2:Option R} {W:R→Prop} (h1:p→S y1 W) (h2:S y2 W):S (if p then y1 else y2) W:=fun r hm=>by
 by_cases h:p
 ·rw [if_pos h] at hm;exact h1 h r hm
 ·rw [if_neg h] at hm;exact h2 r hm
theorem S.nx {R X:Type} {f c:X→List D} {L:List X→Option R} {l:List X} {W0:R→Prop} {W1:R→List D→List (List D)→Prop} (perm:∀ (i:Nat) (x:X),l[i]? = some x→L l=L (x::l.eraseIdx i)) (hc:∀ x,f x=c x)
  (h0:S (L []) W0) (h1:∀ (x:X) (l':List X),l'.length<l.length→S (L (x::l')) (fun r=>W1 r (c x) (l'.map f))):S (L l) (fun r=>NxW (l.map f) (W0 r) (W1 r)):=fun r hm=>by
 refine ⟨fun e => ?_,fun i ds e => ?_⟩
 ·have:l=[]:=by simpa using e
  subst this
  exact h0 r hm
 ·rw [List.getElem?_map] at e
  obtain ⟨x,e1,rfl⟩:=Option.map_eq_some_iff.1 e
  have hlt:i<l.length:=(List.getElem?_eq_some_iff.1 e1).1
  rw [perm i x e1] at hm
  have:=h1 x (l.eraseIdx i) (by rw [List.length_eraseIdx,if_pos hlt];omega) r hm
  rw [hc,zgj]
  exact this
section
variable {tb:Tb} {cty:List (Nat × List (Option (Nat × Nat)))} {ann:Ann} {con:Nat→CIn→z3s→Prop} {R X:Type} {a:Code} {c:Cut} {k:R→z8v→St→Prop} {σ:St}
theorem S.lm {Y:Type} {L:List X→Y→Option R} {l0:List X} {y0:Y} (sh:List X→Y→St) (h0:σ=sh l0 y0)
  (h:∀ (I:R→St→Prop) (l:List X),(∀ l':List X,l'.length<l.length→∀ y',S (L l' y') (fun r=>I r (sh l' y')))→∀ y,S (L l y) (fun r=>ex tb cty ann con a (sh l y) (z7a (fun s=>wt (s.cut c) (I r)) (k r)))) :
  S (L l0 y0) (fun r=>LW (fun I s=>ex tb cty ann con a s (z7a (fun s=>wt (s.cut c) I) (k r))) σ):=by
 subst h0
 have key:∀ (n:Nat) (l:List X),l.length<n→∀ y,S (L l y) (fun r=>LW (fun I s=>ex tb cty ann con a s (z7a (fun s=>wt (s.cut c) I) (k r))) (sh l y)):=by
  intro n
  induction n with
  | zero =>
   intro l hl
   omega
  | succ n ih =>
   intro l hl y r hm
   exact LW.fold (z6c a c (k r)) (h (fun r=>LW (fun I s=>ex tb cty ann con a s (z7a (fun s=>wt (s.cut c) I) (k r)))) l (fun l' hl'=>ih l' (by omega)) y r hm)
 exact key _ l0 (Nat.lt_succ_self _) y0
end
end Go.Pe
end
section
namespace Go.Pe
open _root_.Nat renaming ble → ya
open Go.RowKit Go.Lk
variable [Lb]
section
variable {R A:Type} {W:R→Prop} {y:Option R}
theorem S.n {p:Prop} (h:S y W) (hp:p:=by (repeat' first|exact rfl|exact trivial|apply And.intro)):S y (fun r=>p∧W r):=S.an hp h
theorem S.zr {a:R} (h:W a:=by exact rfl):S (some a) W:=S.z h
theorem S.q {a:R} (h:W a:=by exact ⟨rfl,by (repeat' first|exact trivial|exact rfl|apply And.intro),by (repeat' first|exact trivial|exact rfl|apply And.intro),rfl⟩):S (some a) W:=S.z h
theorem S.no:S (none:Option R) W:=fun _ h=>by cases h
theorem S.m {Y:Type} {f:Y→List D} {xs:List Y} {F:R→Int→Prop} (h:S y (fun r=>F r (xs.length:Int))):S y (fun r=>Ex (zqt (xs.map f)) (F r)):=S.eq z1x h
theorem S.kk {con:Nat→CIn→z3s→Prop} {σ:St} {f:Nat} {args:List PV} {k:R→PV→St→Prop} {kp:R→PV→St→Prop} {z:Option A} {g:A→Option R} {i:CIn} {o:A→z3s} (bs as as':List Nat) (hc:∀ a,z=some a→con f i (o a))
  (h:∀ a,S (g a) (fun r=>zkq bs as as' i args σ (k r) (kp r) (o a)))
  (h1:nrm.go σ i.vs args=z7y.go bs as i.vs:=by exact rfl) (h2:z7h σ bs as bs i.B:=by (repeat' first|exact trivial|exact rfl|apply And.intro)) (h3:zcr σ as i.A:=by (repeat' first|exact trivial|exact rfl|apply And.intro)) (h4:zfj σ bs as (z7s.go i.vs args) i=true:=by exact rfl):S (z >>= g) (fun r=>zfk con σ f args (k r) (kp r)):=S.k bs as as' hc h1 h2 h3 h4 h
theorem S.k0 {con:Nat→CIn→z3s→Prop} {σ:St} {f:Nat} {args:List PV} {k:R→PV→St→Prop} {kp:R→PV→St→Prop} {z:Option A} {g:A→Option R} {i:CIn} {o:A→z3s} (hc:∀ a,z=some a→con f i (o a))
  (h:∀ a,S (g a) (fun r=>zkq [] [] [] i args σ (k r) (kp r) (o a)))
  (h1:nrm.go σ i.vs args=z7y.go [] [] i.vs:=by exact rfl) (h2:z7h σ [] [] [] i.B:=by exact trivial) (h3:zcr σ [] i.A:=by exact trivial) (h4:zfj σ [] [] (z7s.go i.vs args) i=true:=by exact rfl):S (z >>= g) (fun r=>zfk con σ f args (k r) (kp r)):=S.k [] [] [] hc h1 h2 h3 h4 h
section
variable {B:R→St→Prop} {A1 A2:R→(St→Prop)→Prop} {b:Bool} {s1 s2:St}
theorem S.ja {e:Bool} (sh:Bool→St) (h1:∀ r,A1 r fun s=>∃ x,s=sh x∧x=e) (hB:S y fun r=>B r (sh (b&&e))) (h2:s2=sh false:=by exact rfl):S y (fun r=>∃ J:St→Prop,cond b (A1 r J) (J s2)∧∀ s,J s→B r s):=by
 cases b with
 | true=>exact S.jb (v:=e) sh h1 hB
 | false=>exact S.jb (v:=false) sh (fun _=>⟨false,h2,rfl⟩) hB
theorem S.ja0 {e:Bool} (sh:Bool→St) (h1:s1=sh e) (hB:S y fun r=>B r (sh (b&&e))) (h2:s2=sh false:=by exact rfl):S y (fun r=>∃ J:St→Prop,cond b (J s1) (J s2)∧∀ s,J s→B r s) :=
 S.ja (A1:=fun _ J=>J s1) sh (fun _=>⟨e,h1,rfl⟩) hB h2
theorem S.ju {e:Bool} (sh:Bool→St) (h1:∀ r,A2 r fun s=>∃ x,s=sh x∧x=e) (hB:S y fun r=>B r (sh (b||e))) (h2:s1=sh true:=by exact rfl):S y (fun r=>∃ J:St→Prop,cond b (J s1) (A2 r J)∧∀ s,J s→B r s):=by
 cases b with
 | true=>exact S.jb (v:=true) sh (fun _=>⟨true,h2,rfl⟩) hB
 | false=>exact S.jb (v:=e) sh h1 hB
theorem S.ju0 {e:Bool} (sh:Bool→St) (h1:s2=sh e) (hB:S y fun r=>B r (sh (b||e))) (h2:s1=sh true:=by exact rfl):S y (fun r=>∃ J:St→Prop,cond b (J s1) (J s2)∧∀ s,J s→B r s) :=
 S.ju (A2:=fun _ J=>J s2) sh (fun _=>⟨e,h1,rfl⟩) hB h2
end
end
section
variable {R A X:Type} {f c:X→List D} {l l2:List (List D)} {xs ys:List X}
theorem S.ixf (f:X→List D) {i:Int} {F:R→List D→Prop} {g:X→Option R} (h:∀ x,S (g x) (fun r=>F r (f x))) (hl:l=xs.map f:=by exact rfl):S (Go.Lk.ix xs i >>= g) (fun r=>Ex (Go.Lk.ix l i) (F r)):=S.ix hl (fun _=>rfl) h
theorem S.ixm (hc:∀ x,f x=c x) {i:Int} {F:R→List D→Prop} {g:X→Option R} (h:∀ x,S (g x) (fun r=>F r (c x))) (hl:l=xs.map f:=by exact rfl):S (Go.Lk.ix xs i >>= g) (fun r=>Ex (Go.Lk.ix l i) (F r)):=S.ix hl hc h
theorem S.ixs {E:List X→List (List D)} (hE:∀ l,E l=l.map f) (hc:∀ x,f x=c x) {i:Int} {F:R→List D→Prop} {g:X→Option R} (h:∀ x,S (g x) (fun r=>F r (c x))) (hl:l=E xs:=by exact rfl):S (Go.Lk.ix xs i >>= g) (fun r=>Ex (Go.Lk.ix l i) (F r)):=S.ixE hE hl hc h
theorem S.subm (f:X→List D) {i j:Int} {F:R→List (List D)→Prop} {g:List X→Option R} (h:∀ x,S (g x) (fun r=>F r (x.map f))) (hl:l=xs.map f:=by exact rfl):S (Go.Lk.sub xs i j >>= g) (fun r=>Ex (Go.Lk.sub l i j) (F r)):=S.sub hl h
theorem S.zc4 (f:X→List D) {n:Nat} {F:R→List (List D)→Prop} {g:List X→Option R} (h:∀ x,S (g x) (fun r=>F r (x.map f))) (hl2:l2=ys.map f:=by exact rfl) (hl:l=xs.map f:=by exact rfl):S (Go.Lk.app n xs ys >>= g) (fun r=>Ex (Go.Lk.app n l l2) (F r)):=S.app hl hl2 h
theorem S.apps {E:List X→List (List D)} (hE:∀ l,E l=l.map f) {n:Nat} {F:R→List (List D)→Prop} {g:List X→Option R} (h:∀ x,S (g x) (fun r=>F r (E x))) (hl2:l2=E ys:=by exact rfl) (hl:l=E xs:=by exact rfl):S (Go.Lk.app n xs ys >>= g) (fun r=>Ex (Go.Lk.app n l l2) (F r)):=S.appE hE hl hl2 h
end
section
variable {tb:Tb} {cty:List (Nat × List (Option (Nat × Nat)))} {ann:Ann} {con:Nat→CIn→z3s→Prop} {R X:Type}
theorem S.gn {a:Code} {σ:St} {c:Cut} {k:R→z8v→St→Prop} {B:R→St→Prop} {z:Option (Jn R X)} {m:Jn R X→Option R} (sh:X→St)
  (hA:S z fun j=>ex tb cty ann con a σ (z7a (fun s=>wt (s.cut c) (jG sh j)) (kD k (fun _ _=>False) j))) (hB:∀ x,S (m (.go x)) fun r=>B r (sh x)) (hd:∀ r,m (.done r)=some r:=by exact fun _=>rfl) :
  S (z >>= m) (fun r=>∃ J:St→Prop,ex tb cty ann con a σ (z7a (fun s=>wt (s.cut c) J) (k r))∧∀ s,J s→B r s):=S.jn sh hA hd hB
end
@[reducible] def cu (L B A:List Nat):Cut:={ L:=L,B:=B,A:=A }
@[reducible] def c1 (L:List Nat):Cut:={ L:=L }
@[reducible] def st (L:List (Nat × PV)):St:=⟨L,[],[],none⟩
@[reducible] def sb (L:List (Nat × PV)) (B:List (Nat × Bx)):St:=⟨L,B,[],none⟩
@[reducible] def PV.i (x:Int):PV:=.int .i64 x
@[reducible] def PV.b (x:Bool):PV:=.bool x
@[reducible] def PV.s (x:List UInt8):PV:=.str x
@[reducible] def PV.p (b:Nat):PV:=.ptr b 0
@[reducible] def ro {α:Type} (T:Nat) (k:IntKind) (o:α→z3s):Rs α→z3s
 | .ok r=>o r
 | .pan e => .pan (.iface T (.agg [.int k e]))
theorem Con.oS {P:Program} {G:GI} {tb:Tb} {cty:List (Nat × List (Option (Nat × Nat)))} {α:Type} {y:Option α} {f:Nat} {fn:Func} {i:CIn} {o:α→z3s} (ht:TbG P tb G) (hf:P.funcs[f]? = some fn) (ann:Ann) (res:List ResultVar)
  (hw:S y fun r=>ex tb cty ann (Con P G) (z2x fn) (entry i) (fin tb ann res (o r))) (hok:okC ann fn.ntmps (z2x fn)=true) (hb:fn.body=some (z2x fn)) (ent:∀ args w,(callFunc f args).run P w = .ok (.enter f args) w)
  (hres:fn.results=res.toArray) (hl:ya i.vs.length fn.ntmps=true) (hnb:ann.nb=i.B.length) (h1000:ya i.B.length 1000=true):S y fun r=>Con P G f i (o r) :=
 fun r hm=>Con.of ht ent hf hb rfl hres hok hl hnb h1000 (hw r hm)
theorem Con.oD {P:Program} {G:GI} {tb:Tb} {cty:List (Nat × List (Option (Nat × Nat)))} {α:Type} {y:Option α} {f:Nat} {fn:Func} {i:CIn} {o:α→z3s} {fc T:Nat} {ik:IntKind} {Te:Nat} (hct:zff P fc T ik Te) (ht:TbG P tb G) (hf:P.funcs[f]? = some fn) (ann:Ann) (res:List ResultVar)
  (hw:S y fun r=>exD tb cty ann (Con P G) (fin tb ann res (o r)) (zxp tb ann res (o r) fc T ik Te) (z2x fn) (entry i)) (hok:okC ann fn.ntmps (z2x fn)=true) (hb:fn.body=some (z2x fn)) (ent:∀ args w,(callFunc f args).run P w = .ok (.enter f args) w)
  (hnd:z2o (z2x fn)=true) (hres:fn.results=res.toArray) (hl:ya i.vs.length fn.ntmps=true) (hnb:ann.nb=i.B.length) (h1000:ya i.B.length 900=true):S y fun r=>Con P G f i (o r) :=
 fun r hm=>Con.ofD hct ht ent hf hb rfl hres hok hnd hl hnb h1000 (hw r hm)
end Go.Pe
end
