import Derived.Test.YtfdoofnmjehecaaGreatDoorPPfS2
import Derived.Test.YtfdoofnmjehecaaGreatDoorPLmH
set_option linter.all false
namespace Go.Pe
open _root_.Option renaming map_eq_some_iff → ya
open _root_.Bool renaming and_eq_true → yb, or_eq_false_iff → yc
open _root_.List renaming mem_cons → yd, mem_of_getElem? → ye
open Go.RowKit Go.Lk

structure GI where
 p:World→(Nat→Prop)→Prop
 tr:∀ {O w O' w'},Tr O w O' w'→p w O→p w' O'
structure TbG (P:Program) (tb:Tb) (G:GI):Prop extends TbOk P tb where
 gt:∀ w O,G.p w O→zrb tb w O
structure Mm (w:World) (O:Nat→Prop) (φ:Nat→Nat) (α:Nat→Value) (B:List Bx) (A:List (Option (Nat × Nat × List (List D)))):Prop where
 box:∀ b e,B[b]? = some e→O (φ b)∧∃ us,zdn w (φ b) e.T us∧VRs w O φ α e.cs us
 arr:∀ a e,A[a]? = some (some e)→z5t w O e.1 e.2.1 (α a) e.2.2
 bb:∀ a b,a<B.length→b<B.length→a≠b→φ a≠φ b
 aa:∀ a b e e',A[a]? = some (some e)→A[b]? = some (some e')→a≠b→∀ x,(α a).ownBlock=some x→(α b).ownBlock≠some x
 ab:∀ a b e,A[a]? = some (some e)→b<B.length→(α a).ownBlock≠some (φ b)
def FI (i:CIn) (φ:Nat→Nat) (α:Nat→Value) (x:Nat):Prop:=(∃ b,b<i.B.length∧φ b=x)∨∃ a,a<i.A.length∧(α a).ownBlock=some x
def zlt:List Value→Value
 | [u]=>u
 | us => .tuple (List.toArray us)
structure zbi (i:CIn) (w:World) (O:Nat→Prop) (φ:Nat→Nat) (α:Nat→Value) (vs:List PV) (B:List Bx) (A:List (Option (Nat × Nat × List (List D)))) (w':World) (us:List Value) (O':Nat→Prop) (φ':Nat→Nat) (α':Nat→Value):Prop where
 res:VRs w' O' φ' α' vs us
 mm:Mm w' O' φ' α' B A
 same:∀ b,b<i.B.length→φ' b=φ b
 long:i.B.length≤B.length
 bd:Bd O' w'
 tr:Tr O w O' w'
 more:∀ x,O x→O' x
 only:∀ x,O' x→O x∨w.heap.size≤x
 ext:Ext (FI i φ α) w w'
 zsl:∀ b,b<B.length→i.B.length≤b→w.heap.size≤φ' b
 zq0:∀ a e x,A[a]? = some (some e)→(α' a).ownBlock=some x→(∃ c,c<i.A.length∧(α c).ownBlock=some x)∨w.heap.size≤x
def z8s (i:CIn) (w:World) (O:Nat→Prop) (φ:Nat→Nat) (α:Nat→Value) (o:z2u) (e:Ending) (w':World):Prop:=match o with
 | .ok vs B A=>∃ us O' φ' α',e = .returned (zlt us)∧zbi i w O φ α vs B A w' us O' φ' α'
 | .okI vs B A=>∃ us O' φ' α',e = .returned (zlt us)∧zbi i w O φ α vs B A w' us O' φ' α'∧∀ a,a<i.A.length→α' a=α a
 | .pan v=>∃ u O' φ' α',e = .panicked [{ v:=u,recovered:=false }]∧VR w' O' φ' α' v u∧Ext (FI i φ α) w w'∧Tr O w O' w'∧Bd O' w'∧∀ x,O' x→O x∨w.heap.size≤x
 | .zbf v B=>∃ u φv αv us O' φ' α',e = .panicked [{ v:=u,recovered:=false }]∧VR w' O' φv αv v u∧zbi i w O φ α [] B [] w' us O' φ' α'
structure Con (P:Program) (G:GI) (f:Nat) (i:CIn) (o:z2u):Prop where
 ent:∀ args w,(callFunc f args).run P w = .ok (.enter f args) w
 nn:Nat.beq f NF=false
 run:∀ w O φ α us,VRs w O φ α i.vs us→Mm w O φ α i.B (i.A.map some)→Bd O w→G.p w O→Calls P f us.toArray w (z8s i w O φ α o)

def idx (x:Nat):List Nat→Option Nat
 | []=>none
 | y::r=>if y=x then some 0 else (idx x r).map (· + 1)
theorem zd0 {x:Nat}:∀ {l:List Nat} {j:Nat},idx x l=some j→l[j]? = some x
 | y::r,j,h=>by
  unfold idx at h
  split at h
  ·cases h;simp_all
  ·obtain ⟨k,h1,rfl⟩:=ya.1 h
   simpa using zd0 h1
theorem zhe {x:Nat}:∀ {l:List Nat},idx x l=none→x∉l
 | [],_=>by simp
 | y::r,h=>by
  unfold idx at h
  split at h
  ·cases h
  ·rename_i hy
   have:=zhe (Option.map_eq_none_iff.1 h)
   simp [this,Ne.symm hy]
theorem z4o:∀ {l:List Nat},z5y l=true→∀ (i j x:Nat),l[i]? = some x→l[j]? = some x→i=j
 | [],_,i,j,x,h,_=>by simp at h
 | y::r,hn,i,j,x,h1,h2=>by
  simp only [z5y,yb,Bool.not_eq_true'] at hn
  have hy:∀ k:Nat,r[k]? ≠ some y:=fun k hk=>by
   have:r.any (Nat.beq y)=true:=List.any_eq_true.2 ⟨y,ye hk,Nat.beq_refl y⟩
   rw [this] at hn
   exact Bool.noConfusion hn.1
  cases i with
  | zero =>
   cases j with
   | zero=>rfl
   | succ j =>
    simp at h1 h2
    subst h1
    exact (hy j h2).elim
  | succ i =>
   cases j with
   | zero =>
    simp at h1 h2
    subst h2
    exact (hy i h1).elim
   | succ j=>rw [z4o hn.2 i j x (by simpa using h1) (by simpa using h2)]
theorem zs8 {l:List Nat} (hn:z5y l=true) {j x:Nat} (h:l[j]? = some x):idx x l=some j:=by
 cases hi:idx x l with
 | none=>exact (zhe hi (ye h)).elim
 | some k=>rw [z4o hn k j x (zd0 hi) h]
def ov {β:Type} (ks:List Nat) (f' f:Nat→β):Nat→β:=fun x=>match idx x ks with
 | some j=>f' j
 | none=>f x
theorem zix {β:Type} {ks:List Nat} {f' f:Nat→β} (hn:z5y ks=true) {j x:Nat} (h:ks[j]? = some x):ov ks f' f x=f' j:=by
 unfold ov;rw [zs8 hn h]
theorem zex {β:Type} {ks:List Nat} {f' f:Nat→β} {x:Nat} (h:x∉ks):ov ks f' f x=f x:=by
 unfold ov
 split
 ·rename_i j hj
  exact (h (ye (zd0 hj))).elim
 ·rfl
section
variable {w w':World} {O O':Nat→Prop} {φ φ':Nat→Nat} {α α':Nat→Value} {bs as:List Nat} {nb na:Nat}
theorem z99 {a b:Nat} (h:Nat.blt a b=true):a<b:=by simpa [Nat.blt_eq] using h
mutual
theorem zon (hb:∀ j x,j<nb→bs[j]? = some x→φ' j=φ x) (ha:∀ j x,j<na→as[j]? = some x→α' j=α x) (lb:nb≤bs.length) (la:na≤as.length):∀ (v:PV) (u:Value),inR nb na v=true→VR w O φ α (z7j bs as v) u→VR w O φ' α' v u
 | .int k n,u,_,h=>h
 | .bool b,u,_,h=>h
 | .str s,u,_,h=>h
 | .sl T n l,u,_,h=>h
 | .nil,u,_,h=>h
 | .zan,u,_,h=>h
 | .zb7,u,_,h=>h
 | .undef,u,_,h=>trivial
 | .gone,u,_,h=>h
 | .err _,u,_,h=>h
 | .z0m b,u,k,h=>by
  have k:=z99 k
  have e:bs[b]? = some bs[b]:=by simp [show b<bs.length by omega]
  unfold z7j at h
  rw [e] at h
  simp only [VR] at h ⊢
  rw [hb b _ k e]
  exact h
 | .mp b,u,k,h=>by
  have k:=z99 k
  have e:bs[b]? = some bs[b]:=by simp [show b<bs.length by omega]
  unfold z7j at h
  rw [e] at h
  simp only [VR] at h ⊢
  rw [hb b _ k e]
  exact h
 | .md _,u,_,h=>h
 | .zn cs off,u,_,h=>h
 | .z8y x m i off,u,k,h=>by cases k
 | .ref a,u,k,h=>by
  have k:=z99 k
  have e:as[a]? = some as[a]:=by simp [show a<as.length by omega]
  unfold z7j at h
  rw [e] at h
  simp only [VR] at h ⊢
  rw [ha a _ k e]
  exact h
 | .ptr b off,u,k,h=>by
  have k:=z99 k
  have e:bs[b]? = some bs[b]:=by simp [show b<bs.length by omega]
  unfold z7j at h
  rw [e] at h
  simp only [VR] at h ⊢
  rw [hb b _ k e]
  exact h
 | .agg cs,u,k,h=>by
  obtain ⟨us,h1,h2⟩:=h
  exact ⟨us,h1,z6p hb ha lb la cs us k h2⟩
 | .tup cs,u,k,h=>by
  obtain ⟨us,h1,h2⟩:=h
  exact ⟨us,h1,z6p hb ha lb la cs us k h2⟩
 | .iface T v,u,k,h=>by
  obtain ⟨x,h1,h2⟩:=h
  exact ⟨x,h1,zon hb ha lb la v x k h2⟩
 | .fn f as' cs,u,k,h=>by
  simp only [inR,yb] at k
  obtain ⟨us,vs,h1,h2,h3⟩:=h
  exact ⟨us,vs,h1,z6p hb ha lb la as' us k.1 h2,z6p hb ha lb la cs vs k.2 h3⟩
theorem z6p (hb:∀ j x,j<nb→bs[j]? = some x→φ' j=φ x) (ha:∀ j x,j<na→as[j]? = some x→α' j=α x) (lb:nb≤bs.length) (la:na≤as.length):∀ (vs:List PV) (us:List Value),inR.go nb na vs=true→VRs w O φ α (z7j.go bs as vs) us→VRs w O φ' α' vs us
 | [],us,_,h=>h
 | v::vs,us,k,h=>by
  simp only [inR.go,yb] at k
  obtain ⟨u,us',h1,h2,h3⟩:=h
  exact ⟨u,us',h1,zon hb ha lb la v u k.1 h2,z6p hb ha lb la vs us' k.2 h3⟩
end
mutual
theorem zl6 (hb:∀ j x,bs[j]? = some x→φ' x=φ j) (ha:∀ j x,as[j]? = some x→α' x=α j) (lb:nb≤bs.length) (la:na≤as.length):∀ (v:PV) (u:Value),inR nb na v=true→VR w O φ α v u→VR w O φ' α' (z7j bs as v) u
 | .int k n,u,_,h=>h
 | .bool b,u,_,h=>h
 | .str s,u,_,h=>h
 | .sl T n l,u,_,h=>h
 | .nil,u,_,h=>h
 | .zan,u,_,h=>h
 | .zb7,u,_,h=>h
 | .undef,u,_,h=>trivial
 | .gone,u,_,h=>h
 | .err _,u,_,h=>h
 | .z0m b,u,k,h=>by
  have k:=z99 k
  have e:bs[b]? = some bs[b]:=by simp [show b<bs.length by omega]
  unfold z7j
  rw [e]
  simp only [VR] at h ⊢
  rw [hb b _ e]
  exact h
 | .mp b,u,k,h=>by
  have k:=z99 k
  have e:bs[b]? = some bs[b]:=by simp [show b<bs.length by omega]
  unfold z7j
  rw [e]
  simp only [VR] at h ⊢
  rw [hb b _ e]
  exact h
 | .md _,u,_,h=>h
 | .zn cs off,u,_,h=>h
 | .z8y x m i off,u,k,h=>by cases k
 | .ref a,u,k,h=>by
  have k:=z99 k
  have e:as[a]? = some as[a]:=by simp [show a<as.length by omega]
  unfold z7j
  rw [e]
  simp only [VR] at h ⊢
  rw [ha a _ e]
  exact h
 | .ptr b off,u,k,h=>by
  have k:=z99 k
  have e:bs[b]? = some bs[b]:=by simp [show b<bs.length by omega]
  unfold z7j
  rw [e]
  simp only [VR] at h ⊢
  rw [hb b _ e]
  exact h
 | .agg cs,u,k,h=>by
  obtain ⟨us,h1,h2⟩:=h
  exact ⟨us,h1,z7a hb ha lb la cs us k h2⟩
 | .tup cs,u,k,h=>by
  obtain ⟨us,h1,h2⟩:=h
  exact ⟨us,h1,z7a hb ha lb la cs us k h2⟩
 | .iface T v,u,k,h=>by
  obtain ⟨x,h1,h2⟩:=h
  exact ⟨x,h1,zl6 hb ha lb la v x k h2⟩
 | .fn f as' cs,u,k,h=>by
  simp only [inR,yb] at k
  obtain ⟨us,vs,h1,h2,h3⟩:=h
  exact ⟨us,vs,h1,z7a hb ha lb la as' us k.1 h2,z7a hb ha lb la cs vs k.2 h3⟩
theorem z7a (hb:∀ j x,bs[j]? = some x→φ' x=φ j) (ha:∀ j x,as[j]? = some x→α' x=α j) (lb:nb≤bs.length) (la:na≤as.length):∀ (vs:List PV) (us:List Value),inR.go nb na vs=true→VRs w O φ α vs us→VRs w O φ' α' (z7j.go bs as vs) us
 | [],us,_,h=>h
 | v::vs,us,k,h=>by
  simp only [inR.go,yb] at k
  obtain ⟨u,us',h1,h2,h3⟩:=h
  exact ⟨u,us',h1,zl6 hb ha lb la v u k.1 h2,z7a hb ha lb la vs us' k.2 h3⟩
end
mutual
theorem z4z:∀ (v:PV) (u:Value),z6f v=false→VR w O φ α v u→VR w' O' φ α v u
 | .int k n,u,_,h=>h
 | .bool b,u,_,h=>h
 | .str s,u,_,h=>h
 | .sl T n l,u,k,h=>by cases k
 | .nil,u,_,h=>h
 | .zan,u,_,h=>h
 | .zb7,u,_,h=>h
 | .undef,u,_,h=>trivial
 | .gone,u,_,h=>h
 | .z0m _,u,_,h=>h
 | .err _,u,_,h=>h
 | .zn cs off,u,k,h=>by cases k
 | .md _,u,k,h=>by cases k
 | .mp _,u,k,h=>h
 | .z8y x m i off,u,k,h=>h
 | .ref a,u,k,h=>h
 | .ptr b off,u,k,h=>h
 | .agg cs,u,k,h=>by
  obtain ⟨us,h1,h2⟩:=h
  exact ⟨us,h1,z73 cs us k h2⟩
 | .tup cs,u,k,h=>by
  obtain ⟨us,h1,h2⟩:=h
  exact ⟨us,h1,z73 cs us k h2⟩
 | .iface T v,u,k,h=>by
  obtain ⟨x,h1,h2⟩:=h
  exact ⟨x,h1,z4z v x k h2⟩
 | .fn f as' cs,u,k,h=>by
  simp only [z6f,yc] at k
  obtain ⟨us,vs,h1,h2,h3⟩:=h
  exact ⟨us,vs,h1,z73 as' us k.1 h2,z73 cs vs k.2 h3⟩
theorem z73:∀ (vs:List PV) (us:List Value),z6f.go vs=false→VRs w O φ α vs us→VRs w' O' φ α vs us
 | [],us,_,h=>h
 | v::vs,us,k,h=>by
  simp only [z6f.go,yc] at k
  obtain ⟨u,us',h1,h2,h3⟩:=h
  exact ⟨u,us',h1,z4z v u k.1 h2,z73 vs us' k.2 h3⟩
end
end
section
variable {w:World} {φ:Nat→Nat} {α:Nat→Value} {σ:St} {O O2:Nat→Prop}
mutual
theorem zso (hO:∀ x,O2 x→O x) (hA:∀ a e,lk σ.A a=some e→z5t w O e.T e.n (α a) e.l) (wv:PV):∀ (v:PV) (u:Value),(∀ a∈z6z wv v,∀ e,lk σ.A a=some e→∀ x,O2 x→(α a).ownBlock≠some x)→VR w O φ α v u→VR w O2 φ α (nrm σ wv v) u
 | .ref a,u,hl,h=>by
  cases wv with
  | sl T n l =>
   show VR w O2 φ α (match lkU σ.A a with
    | some e => .sl e.T e.n e.l
    | none => .undef) u
   cases he:lkU σ.A a with
   | none=>trivial
   | some e =>
    obtain ⟨he,hU⟩:=zhi he
    have h1:=((hA a e he).un hU).data
    rw [←h.1] at h1
    exact h1.tr (Tr.drop w fun x hx=>⟨hO x hx,by rw [h.1];exact hl a (by simp [z6z]) e he x hx⟩)
  | _=>exact h
 | .nil,u,hl,h=>by
  cases wv with
  | sl T n l =>
   simp only [VR] at h
   subst h
   exact .inl ⟨⟨_,rfl⟩,rfl⟩
  | _=>exact h
 | .agg vs,u,hl,h=>by
  obtain ⟨us,h1,h2⟩:=h
  cases wv with
  | agg ws=>exact ⟨us,h1,z7u hO hA ws vs us hl h2⟩
  | _=>exact ⟨us,h1,VRs.tr (Tr.drop w hO) vs us h2⟩
 | .tup vs,u,hl,h=>by
  obtain ⟨us,h1,h2⟩:=h
  cases wv with
  | tup ws=>exact ⟨us,h1,z7u hO hA ws vs us hl h2⟩
  | _=>exact ⟨us,h1,VRs.tr (Tr.drop w hO) vs us h2⟩
 | .int k n,u,hl,h=>by cases wv<;>exact h
 | .bool b,u,hl,h=>by cases wv<;>exact h
 | .str s,u,hl,h=>by cases wv<;>exact h
 | .zan,u,hl,h=>by
  cases wv with
  | err _=>exact .inl ⟨rfl,h⟩
  | _=>exact h
 | .zb7,u,hl,h=>by cases wv<;>exact h
 | .undef,u,hl,h=>by cases wv<;>trivial
 | .gone,u,hl,h=>by cases wv<;>exact h
 | .z0m _,u,hl,h=>by cases wv<;>exact h
 | .err _,u,hl,h=>by cases wv<;>exact h
 | .ptr b off,u,hl,h=>by cases wv<;>exact h
 | .z8y x m i off,u,hl,h=>by cases wv<;>exact h
 | .sl T n l,u,hl,h=>by cases wv<;>exact VR.tr (Tr.drop w hO) (.sl T n l) u h
 | .mp b,u,hl,h=>by cases wv<;>exact h
 | .md c,u,hl,h=>by cases wv<;>exact VR.tr (Tr.drop w hO) (.md c) u h
 | .zn cs off,u,hl,h=>by cases wv<;>exact VR.tr (Tr.drop w hO) (.zn cs off) u h
 | .iface T v,u,hl,h=>by
  cases wv with
  | err _ =>
   obtain ⟨x,h1,_⟩:=h
   exact .inr ⟨rfl,T,x,h1⟩
  | _=>exact VR.tr (Tr.drop w hO) (.iface T v) u h
 | .fn f as cs,u,hl,h=>by cases wv<;>exact VR.tr (Tr.drop w hO) (.fn f as cs) u h
theorem z7u (hO:∀ x,O2 x→O x) (hA:∀ a e,lk σ.A a=some e→z5t w O e.T e.n (α a) e.l):∀ (ws vs:List PV) (us:List Value),(∀ a∈z6z.go ws vs,∀ e,lk σ.A a=some e→∀ x,O2 x→(α a).ownBlock≠some x)→VRs w O φ α vs us→VRs w O2 φ α (nrm.go σ ws vs) us
 | [],vs,us,hl,h=>by
  have:nrm.go σ [] vs=vs:=by cases vs<;>rfl
  rw [this]
  exact VRs.tr (Tr.drop w hO) vs us h
 | wv::ws,[],us,hl,h=>h
 | wv::ws,v::vs,us,hl,h=>by
  obtain ⟨u,us',h1,h2,h3⟩:=h
  simp only [z6z.go,List.mem_append] at hl
  exact ⟨u,us',h1,zso hO hA wv v u (fun a ha=>hl a (.inl ha)) h2,z7u hO hA ws vs us' (fun a ha=>hl a (.inr ha)) h3⟩
end
end
theorem z7m {σ:St} {bs as:List Nat}:∀ {ks:List Nat} {es:List Bx},z69 σ bs as ks es→∀ (j:Nat) (e:Bx),es[j]? = some e→∃ (b:Nat) (x:Bx),ks[j]? = some b∧lk σ.B b=some x∧x.T=e.T∧nrm.go { σ with A:=[] } e.cs x.cs=z7j.go bs as e.cs
 | _,[],_,j,e,h=>by simp at h
 | [],_::_,hb,_,_,_=>hb.elim
 | b::ks,e::es,hb,j,e',h=>by
  obtain ⟨h1,h2⟩:=hb
  cases j with
  | zero =>
   simp at h
   subst h
   split at h1
   ·exact ⟨b,_,rfl,by assumption,h1.1,h1.2⟩
   ·exact h1.elim
  | succ j=>simpa using z7m h2 j e' (by simpa using h)
theorem zbm {σ:St}:∀ {ks:List Nat} {es:List (Nat × Nat × List (List D))},z9v σ ks es→∀ (j:Nat) (e:Nat × Nat × List (List D)),es[j]? = some e→∃ (a:Nat) (x:Arr),ks[j]? = some a∧lk σ.A a=some x∧x.T=e.1∧x.n=e.2.1∧x.l=e.2.2
 | _,[],_,j,e,h=>by simp at h
 | [],_::_,hb,_,_,_=>hb.elim
 | b::ks,e::es,hb,j,e',h=>by
  obtain ⟨h1,h2⟩:=hb
  cases j with
  | zero =>
   simp at h
   subst h
   split at h1
   ·exact ⟨b,_,rfl,by assumption,h1⟩
   ·exact h1.elim
  | succ j=>simpa using zbm h2 j e' (by simpa using h)
theorem zak {β:Type} {t:Nat} {v:β}:∀ {l l2:List (Nat × β)},lk (l++l2) t=some v→lk l t=some v∨lk l2 t=some v
 | [],l2,h => .inr h
 | (s,x)::r,l2,h=>by
  simp only [List.cons_append] at h
  rcases z2w h with ⟨rfl,rfl⟩|⟨h1,h2⟩
  ·left;unfold lk;simp
  ·rcases zak h2 with h3|h3
   ·left
    show (match Nat.beq s t with
     | true=>some x
     | false=>lk r t)=some v
    split
    ·rename_i e;exact (h1 (Nat.eq_of_beq_eq_true e).symm).elim
    ·exact h3
   ·exact .inr h3
theorem zi2 {bs as:List Nat} {x:Nat} {e:Bx}:∀ {ks:List Nat} {es:List Bx},lk (zt8 bs as ks es) x=some e→∃ (j:Nat) (e0:Bx),ks[j]? = some x∧es[j]? = some e0∧e=⟨e0.T,z7j.go bs as e0.cs⟩
 | [],[],h=>by cases h
 | [],_::_,h=>by cases h
 | _::_,[],h=>by cases h
 | b::ks,e0::es,h=>by
  simp only [zt8] at h
  rcases z2w h with ⟨rfl,rfl⟩|⟨_,h⟩
  ·exact ⟨0,e0,rfl,rfl,rfl⟩
  ·obtain ⟨j,e1,h1,h2,h3⟩:=zi2 h
   exact ⟨j+1,e1,by simpa using h1,by simpa using h2,h3⟩
theorem zdl {m:Bool} {x:Nat} {e:Arr}:∀ {ks:List Nat} {es:List (Option (Nat × Nat × List (List D)))},lk (zr6 m ks es) x=some e→∃ (j:Nat) (e0:Nat × Nat × List (List D)),ks[j]? = some x∧es[j]? = some (some e0)∧e=⟨m,e0.1,e0.2.1,e0.2.2⟩
 | [],[],h=>by cases h
 | [],_::_,h=>by cases h
 | _::_,[],h=>by cases h
 | b::ks,some e0::es,h=>by
  simp only [zr6] at h
  rcases z2w h with ⟨rfl,rfl⟩|⟨_,h⟩
  ·exact ⟨0,e0,rfl,rfl,rfl⟩
  ·obtain ⟨j,e1,h1,h2,h3⟩:=zdl h
   exact ⟨j+1,e1,by simpa using h1,by simpa using h2,h3⟩
 | b::ks,none::es,h=>by
  simp only [zr6] at h
  obtain ⟨j,e1,h1,h2,h3⟩:=zdl h
  exact ⟨j+1,e1,by simpa using h1,by simpa using h2,h3⟩
theorem z9u {σ:St}:∀ {as:List Nat},z4w σ as=true→∀ a∈as,∀ e,lk σ.A a=some e→e.zmv=true
 | b::as,h,a,ha,e,he=>by
  simp only [z4w,yb] at h
  rcases yd.1 ha with rfl|ha
  ·rw [he] at h;exact h.1
  ·exact z9u h.2 a ha e he
theorem z8d {b:Nat} {e:Bx}:∀ {ls:List Nat} {σ σ':St},σ.freeze ls=some σ'→lk σ'.B b=some e→∃ e0,lk σ.B b=some e0
 | [],σ,σ',h,k=>by cases h;exact ⟨e,k⟩
 | a::ls,σ,σ',h,k=>by
  unfold St.freeze at h
  split at h
  ·rename_i ar _
   split at h
   ·obtain ⟨e0,h1⟩:=z8d h k
    have h2:(lk σ.B b).map (fun x:Bx=>({ x with cs:=x.cs.map (z7r a ar) }:Bx))=some e0:=(zc5 (fun x:Bx=>({ x with cs:=x.cs.map (z7r a ar) }:Bx)) σ.B b).symm.trans h1
    obtain ⟨y,h3,_⟩:=ya.1 h2
    exact ⟨y,h3⟩
   ·cases h
  ·exact z8d h k
theorem zof {σ:St}:∀ {as:List Nat},as.all σ.z4l=true→(∀ t v,lk σ.L t=some v→z3h (fun _=>True) (fun x=>x∉as) v)∧(∀ b e,lk σ.B b=some e→z3h.go (fun _=>True) (fun x=>x∉as) e.cs)∧∀ a∈as,lk σ.A a=none
 | [],_=>⟨fun _ _ _=>z3h.all (fun _=>trivial) (fun _=>by simp),fun _ _ _=>z3h.zoy (fun _=>trivial) (fun _=>by simp),fun _ h=>by simp at h⟩
 | a::as,h=>by
  simp only [List.all_cons,yb] at h
  obtain ⟨h1,h2,h3⟩:=z7p h.1
  obtain ⟨h4,h5,h6⟩:=zof h.2
  refine ⟨fun t v hv=>(h2 t v hv).and (fun _ _ _=>trivial) (fun x k1 k2=>by simp [k1,k2]) (h4 t v hv),fun b e he=>z3h.zo4 (fun _ _ _=>trivial) (fun x k1 k2=>by simp [k1,k2]) (h3 b e he) (h5 b e he),fun x hx => ?_⟩
  rcases yd.1 hx with rfl|hx
  ·exact h1
  ·exact h6 x hx
theorem zog {σ:St}:∀ {bs:List Nat},bs.all σ.z5x=true→(∀ t v,lk σ.L t=some v→z3h (fun x=>x∉bs) (fun _=>True) v)∧(∀ b e,lk σ.B b=some e→z3h.go (fun x=>x∉bs) (fun _=>True) e.cs)∧∀ a∈bs,1000≤a∧lk σ.B a=none
 | [],_=>⟨fun _ _ _=>z3h.all (fun _=>by simp) (fun _=>trivial),fun _ _ _=>z3h.zoy (fun _=>by simp) (fun _=>trivial),fun _ h=>by simp at h⟩
 | a::as,h=>by
  simp only [List.all_cons,yb] at h
  obtain ⟨h1,h2,h3⟩:=z7q h.1
  obtain ⟨h4,h5,h6⟩:=zog h.2
  refine ⟨fun t v hv=>(h2 t v hv).and (fun x k1 k2=>by simp [k1,k2]) (fun _ _ _=>trivial) (h4 t v hv),fun b e he=>z3h.zo4 (fun x k1 k2=>by simp [k1,k2]) (fun _ _ _=>trivial) (h3 b e he) (h5 b e he),fun x hx => ?_⟩
  rcases yd.1 hx with rfl|hx
  ·exact h1
  ·exact h6 x hx
end Go.Pe
