import Derived.Test.YtmmgdladipbedaaGreatDoorPeS2
import Derived.Test.YtmmgdladipbedaaGreatDoorLkH
set_option linter.all false
section
namespace Go.Pe
open _root_.Option renaming map_eq_some_iff → ya
open _root_.Bool renaming and_eq_true → yb, or_eq_false_iff → yc
open _root_.List renaming mem_cons → yd, mem_of_getElem? → ye
open Go.RowKit Go.Lk
variable [Lb]

structure GI where
 p:World→(Nat→Prop)→Prop
 tr:∀ {O w O' w'},Tr O w O' w'→p w O→p w' O'
 lb:∀ {w O},p w O→Lb.n≤w.heap.size
structure TbG (P:Program) (tb:Tb) (G:GI):Prop extends TbOk P tb where
 gt:∀ w O,G.p w O→zpm tb w O
theorem TbG.nil {P:Program} {tb:Tb} {G:GI} (h:TbOk P tb) (hn:tb.glb=[]):TbG P tb G:=⟨h,fun _ _ _=>zpm.nil hn⟩
structure Mm (w:World) (O:Nat→Prop) (φ:Nat→Nat) (α:Nat→Value) (B:List Bx) (A:List (Option (Nat × Nat × List (List D)))):Prop where
 box:∀ b e,B[b]? = some e→O (φ b)∧∃ us,zf8 w (φ b) e.T us∧VRs w O φ α e.cs us
 arr:∀ a e,A[a]? = some (some e)→z7f w O e.1 e.2.1 (α a) e.2.2
 bb:∀ a b,a<B.length→b<B.length→a≠b→φ a≠φ b
 aa:∀ a b e e',A[a]? = some (some e)→A[b]? = some (some e')→a≠b→∀ x,(α a).ownBlock=some x→(α b).ownBlock≠some x
 ab:∀ a b e,A[a]? = some (some e)→b<B.length→(α a).ownBlock≠some (φ b)
def FI (i:CIn) (φ:Nat→Nat) (α:Nat→Value) (x:Nat):Prop:=(∃ b,b<i.B.length∧φ b=x)∨∃ a,a<i.A.length∧(α a).ownBlock=some x
def zss:List Value→Value
 | [u]=>u
 | us => .tuple (List.toArray us)
structure zma (i:CIn) (w:World) (O:Nat→Prop) (φ:Nat→Nat) (α:Nat→Value) (vs:List PV) (B:List Bx) (A:List (Option (Nat × Nat × List (List D)))) (w':World) (us:List Value) (O':Nat→Prop) (φ':Nat→Nat) (α':Nat→Value):Prop where
 res:VRs w' O' φ' α' vs us
 mm:Mm w' O' φ' α' B A
 same:∀ b,b<i.B.length→φ' b=φ b
 long:i.B.length≤B.length
 bd:Bd O' w'
 tr:Tr O w O' w'
 more:∀ x,O x→O' x
 only:∀ x,O' x→O x∨w.heap.size≤x
 ext:Ext (FI i φ α) w w'
 zwm:∀ b,b<B.length→i.B.length≤b→w.heap.size≤φ' b
 zwl:∀ a e x,A[a]? = some (some e)→(α' a).ownBlock=some x→(∃ c,c<i.A.length∧(α c).ownBlock=some x)∨w.heap.size≤x
def zf9 (i:CIn) (w:World) (O:Nat→Prop) (φ:Nat→Nat) (α:Nat→Value) (o:z3s) (e:Ending) (w':World):Prop:=match o with
 | .ok vs B A=>∃ us O' φ' α',e = .returned (zss us)∧zma i w O φ α vs B A w' us O' φ' α'
 | .okI vs B A=>∃ us O' φ' α',e = .returned (zss us)∧zma i w O φ α vs B A w' us O' φ' α'∧∀ a,a<i.A.length→α' a=α a
 | .pan v=>∃ u O' φ' α',e = .panicked [{ v:=u,recovered:=false }]∧VR w' O' φ' α' v u∧Ext (FI i φ α) w w'∧Tr O w O' w'∧Bd O' w'∧∀ x,O' x→O x∨w.heap.size≤x
structure Con (P:Program) (G:GI) (f:Nat) (i:CIn) (o:z3s):Prop where
 ent:∀ args w,(callFunc f args).run P w = .ok (.enter f args) w
 run:∀ w O φ α us,VRs w O φ α i.vs us→Mm w O φ α i.B (i.A.map some)→Bd O w→G.p w O→Calls P f us.toArray w (zf9 i w O φ α o)

def idx (x:Nat):List Nat→Option Nat
 | []=>none
 | y::r=>if y=x then some 0 else (idx x r).map (· + 1)
theorem ze7 {x:Nat}:∀ {l:List Nat} {j:Nat},idx x l=some j→l[j]? = some x
 | y::r,j,h=>by
  unfold idx at h
  split at h
  ·cases h;simp_all
  ·obtain ⟨k,h1,rfl⟩:=ya.1 h
   simpa using ze7 h1
theorem zjn {x:Nat}:∀ {l:List Nat},idx x l=none→x∉l
 | [],_=>by simp
 | y::r,h=>by
  unfold idx at h
  split at h
  ·cases h
  ·rename_i hy
   have:=zjn (Option.map_eq_none_iff.1 h)
   simp [this,Ne.symm hy]
theorem z43:∀ {l:List Nat},z5w l=true→∀ (i j x:Nat),l[i]? = some x→l[j]? = some x→i=j
 | [],_,i,j,x,h,_=>by simp at h
 | y::r,hn,i,j,x,h1,h2=>by
  simp only [z5w,yb,Bool.not_eq_true'] at hn
  have hy:∀ k:Nat,r[k]? ≠ some y:=fun k hk=>by
   have:r.any (Nat.beq y)=true:=List.any_eq_true.2 ⟨y,ye hk,Nat.beq_refl y⟩
   rw [this] at hn
   exact Bool.noConfusion hn.1
  cases i with
  | zero =>
   cases j with
   | zero=>rfl
   | succ j =>
    simp at h1 h2
    subst h1
    exact (hy j h2).elim
  | succ i =>
   cases j with
   | zero =>
    simp at h1 h2
    subst h2
    exact (hy i h1).elim
   | succ j=>rw [z43 hn.2 i j x (by simpa using h1) (by simpa using h2)]
theorem zw9 {l:List Nat} (hn:z5w l=true) {j x:Nat} (h:l[j]? = some x):idx x l=some j:=by
 cases hi:idx x l with
 | none=>exact (zjn hi (ye h)).elim
 | some k=>rw [z43 hn k j x (ze7 hi) h]
def ov {β:Type} (ks:List Nat) (f' f:Nat→β):Nat→β:=fun x=>match idx x ks with
 | some j=>f' j
 | none=>f x
theorem zlq {β:Type} {ks:List Nat} {f' f:Nat→β} (hn:z5w ks=true) {j x:Nat} (h:ks[j]? = some x):ov ks f' f x=f' j:=by
 unfold ov;rw [zw9 hn h]
theorem zgr {β:Type} {ks:List Nat} {f' f:Nat→β} {x:Nat} (h:x∉ks):ov ks f' f x=f x:=by
 unfold ov
 split
 ·rename_i j hj
  exact (h (ye (ze7 hj))).elim
 ·rfl
section
variable {w w':World} {O O':Nat→Prop} {φ φ':Nat→Nat} {α α':Nat→Value} {bs as:List Nat} {nb na:Nat}
theorem z9h {a b:Nat} (h:Nat.blt a b=true):a<b:=by simpa [Nat.blt_eq] using h
mutual
theorem zsr (hb:∀ j x,j<nb→bs[j]? = some x→φ' j=φ x) (ha:∀ j x,j<na→as[j]? = some x→α' j=α x) (lb:nb≤bs.length) (la:na≤as.length):∀ (v:PV) (u:Value),inR nb na v=true→VR w O φ α (z7y bs as v) u→VR w O φ' α' v u
 | .int k n,u,_,h=>h
 | .bool b,u,_,h=>h
 | .str s,u,_,h=>h
 | .sl T n l,u,_,h=>h
 | .fsl T n l,u,_,h=>h
 | .slx T n l v,u,_,h=>h
 | .nil,u,_,h=>h
 | .zc7,u,_,h=>h
 | .zfc,u,_,h=>h
 | .undef,u,_,h=>trivial
 | .gone,u,_,h=>h
 | .err _,u,_,h=>h
 | .z0g b,u,k,h=>by
  have k:=z9h k
  have e:bs[b]? = some bs[b]:=by simp [show b<bs.length by omega]
  unfold z7y at h
  rw [e] at h
  simp only [VR] at h ⊢
  rw [hb b _ k e]
  exact h
 | .mp b,u,k,h=>by
  have k:=z9h k
  have e:bs[b]? = some bs[b]:=by simp [show b<bs.length by omega]
  unfold z7y at h
  rw [e] at h
  simp only [VR] at h ⊢
  rw [hb b _ k e]
  exact h
 | .md _,u,_,h=>h
 | .z09 cs off,u,_,h=>h
 | .z9k cs off v,u,_,h=>h
 | .z8y x m i off,u,k,h=>by cases k
 | .ref a,u,k,h=>by
  have k:=z9h k
  have e:as[a]? = some as[a]:=by simp [show a<as.length by omega]
  unfold z7y at h
  rw [e] at h
  simp only [VR] at h ⊢
  rw [ha a _ k e]
  exact h
 | .ptr b off,u,k,h=>by
  have k:=z9h k
  have e:bs[b]? = some bs[b]:=by simp [show b<bs.length by omega]
  unfold z7y at h
  rw [e] at h
  simp only [VR] at h ⊢
  rw [hb b _ k e]
  exact h
 | .agg cs,u,k,h=>by
  obtain ⟨us,h1,h2⟩:=h
  exact ⟨us,h1,z63 hb ha lb la cs us k h2⟩
 | .tup cs,u,k,h=>by
  obtain ⟨us,h1,h2⟩:=h
  exact ⟨us,h1,z63 hb ha lb la cs us k h2⟩
 | .iface T v,u,k,h=>by
  obtain ⟨x,h1,h2⟩:=h
  exact ⟨x,h1,zsr hb ha lb la v x k h2⟩
 | .fn f as' cs,u,k,h=>by
  simp only [inR,yb] at k
  obtain ⟨us,vs,h1,h2,h3⟩:=h
  exact ⟨us,vs,h1,z63 hb ha lb la as' us k.1 h2,z63 hb ha lb la cs vs k.2 h3⟩
theorem z63 (hb:∀ j x,j<nb→bs[j]? = some x→φ' j=φ x) (ha:∀ j x,j<na→as[j]? = some x→α' j=α x) (lb:nb≤bs.length) (la:na≤as.length):∀ (vs:List PV) (us:List Value),inR.go nb na vs=true→VRs w O φ α (z7y.go bs as vs) us→VRs w O φ' α' vs us
 | [],us,_,h=>h
 | v::vs,us,k,h=>by
  simp only [inR.go,yb] at k
  obtain ⟨u,us',h1,h2,h3⟩:=h
  exact ⟨u,us',h1,zsr hb ha lb la v u k.1 h2,z63 hb ha lb la vs us' k.2 h3⟩
end
mutual
theorem zok (hb:∀ j x,bs[j]? = some x→φ' x=φ j) (ha:∀ j x,as[j]? = some x→α' x=α j) (lb:nb≤bs.length) (la:na≤as.length):∀ (v:PV) (u:Value),inR nb na v=true→VR w O φ α v u→VR w O φ' α' (z7y bs as v) u
 | .int k n,u,_,h=>h
 | .bool b,u,_,h=>h
 | .str s,u,_,h=>h
 | .sl T n l,u,_,h=>h
 | .fsl T n l,u,_,h=>h
 | .slx T n l v,u,_,h=>h
 | .nil,u,_,h=>h
 | .zc7,u,_,h=>h
 | .zfc,u,_,h=>h
 | .undef,u,_,h=>trivial
 | .gone,u,_,h=>h
 | .err _,u,_,h=>h
 | .z0g b,u,k,h=>by
  have k:=z9h k
  have e:bs[b]? = some bs[b]:=by simp [show b<bs.length by omega]
  unfold z7y
  rw [e]
  simp only [VR] at h ⊢
  rw [hb b _ e]
  exact h
 | .mp b,u,k,h=>by
  have k:=z9h k
  have e:bs[b]? = some bs[b]:=by simp [show b<bs.length by omega]
  unfold z7y
  rw [e]
  simp only [VR] at h ⊢
  rw [hb b _ e]
  exact h
 | .md _,u,_,h=>h
 | .z09 cs off,u,_,h=>h
 | .z9k cs off v,u,_,h=>h
 | .z8y x m i off,u,k,h=>by cases k
 | .ref a,u,k,h=>by
  have k:=z9h k
  have e:as[a]? = some as[a]:=by simp [show a<as.length by omega]
  unfold z7y
  rw [e]
  simp only [VR] at h ⊢
  rw [ha a _ e]
  exact h
 | .ptr b off,u,k,h=>by
  have k:=z9h k
  have e:bs[b]? = some bs[b]:=by simp [show b<bs.length by omega]
  unfold z7y
  rw [e]
  simp only [VR] at h ⊢
  rw [hb b _ e]
  exact h
 | .agg cs,u,k,h=>by
  obtain ⟨us,h1,h2⟩:=h
  exact ⟨us,h1,z6p hb ha lb la cs us k h2⟩
 | .tup cs,u,k,h=>by
  obtain ⟨us,h1,h2⟩:=h
  exact ⟨us,h1,z6p hb ha lb la cs us k h2⟩
 | .iface T v,u,k,h=>by
  obtain ⟨x,h1,h2⟩:=h
  exact ⟨x,h1,zok hb ha lb la v x k h2⟩
 | .fn f as' cs,u,k,h=>by
  simp only [inR,yb] at k
  obtain ⟨us,vs,h1,h2,h3⟩:=h
  exact ⟨us,vs,h1,z6p hb ha lb la as' us k.1 h2,z6p hb ha lb la cs vs k.2 h3⟩
theorem z6p (hb:∀ j x,bs[j]? = some x→φ' x=φ j) (ha:∀ j x,as[j]? = some x→α' x=α j) (lb:nb≤bs.length) (la:na≤as.length):∀ (vs:List PV) (us:List Value),inR.go nb na vs=true→VRs w O φ α vs us→VRs w O φ' α' (z7y.go bs as vs) us
 | [],us,_,h=>h
 | v::vs,us,k,h=>by
  simp only [inR.go,yb] at k
  obtain ⟨u,us',h1,h2,h3⟩:=h
  exact ⟨u,us',h1,zok hb ha lb la v u k.1 h2,z6p hb ha lb la vs us' k.2 h3⟩
end
mutual
theorem zel:∀ (v:PV) (u:Value),z7p v=false→VR w O φ α v u→VR w' O' φ α v u
 | .int k n,u,_,h=>h
 | .bool b,u,_,h=>h
 | .str s,u,_,h=>h
 | .sl T n l,u,k,h=>by cases k
 | .fsl T n l,u,k,h=>by cases k
 | .slx T n l v,u,k,h=>by cases k
 | .nil,u,_,h=>h
 | .zc7,u,_,h=>h
 | .zfc,u,_,h=>h
 | .undef,u,_,h=>trivial
 | .gone,u,_,h=>h
 | .z0g _,u,_,h=>h
 | .err _,u,_,h=>h
 | .z09 cs off,u,k,h=>by cases k
 | .z9k cs off v,u,k,h=>by cases k
 | .md _,u,k,h=>by cases k
 | .mp _,u,k,h=>h
 | .z8y x m i off,u,k,h=>h
 | .ref a,u,k,h=>h
 | .ptr b off,u,k,h=>h
 | .agg cs,u,k,h=>by
  obtain ⟨us,h1,h2⟩:=h
  exact ⟨us,h1,z6m cs us k h2⟩
 | .tup cs,u,k,h=>by
  obtain ⟨us,h1,h2⟩:=h
  exact ⟨us,h1,z6m cs us k h2⟩
 | .iface T v,u,k,h=>by
  obtain ⟨x,h1,h2⟩:=h
  exact ⟨x,h1,zel v x k h2⟩
 | .fn f as' cs,u,k,h=>by
  simp only [z7p,yc] at k
  obtain ⟨us,vs,h1,h2,h3⟩:=h
  exact ⟨us,vs,h1,z6m as' us k.1 h2,z6m cs vs k.2 h3⟩
theorem z6m:∀ (vs:List PV) (us:List Value),z7p.go vs=false→VRs w O φ α vs us→VRs w' O' φ α vs us
 | [],us,_,h=>h
 | v::vs,us,k,h=>by
  simp only [z7p.go,yc] at k
  obtain ⟨u,us',h1,h2,h3⟩:=h
  exact ⟨u,us',h1,zel v u k.1 h2,z6m vs us' k.2 h3⟩
end
end
section
variable {w:World} {φ:Nat→Nat} {α:Nat→Value} {σ:St} {O O2:Nat→Prop}
mutual
theorem zwo (hO:∀ x,O2 x→O x) (hA:∀ a e,lk σ.A a=some e→z7f w O e.T e.n (α a) e.l) (wv:PV):∀ (v:PV) (u:Value),(∀ a∈z7s wv v,∀ e,lk σ.A a=some e→∀ x,O2 x→(α a).ownBlock≠some x)→VR w O φ α v u→VR w O2 φ α (nrm σ wv v) u
 | .ref a,u,hl,h=>by
  cases wv with
  | sl T n l =>
   show VR w O2 φ α (match lkU σ.A a with
    | some e => .sl e.T e.n e.l
    | none => .undef) u
   cases he:lkU σ.A a with
   | none=>trivial
   | some e =>
    obtain ⟨he,hU⟩:=z3k he
    have h1:=((hA a e he).un hU).data
    rw [←h.1] at h1
    exact h1.tr (Tr.drop w fun x hx=>⟨hO x hx,by rw [h.1];exact hl a (by simp [z7s]) e he x hx⟩)
  | _=>exact h
 | .nil,u,hl,h=>by
  cases wv with
  | sl T n l =>
   simp only [VR] at h
   subst h
   exact .inl ⟨⟨_,rfl⟩,rfl⟩
  | _=>exact h
 | .agg vs,u,hl,h=>by
  obtain ⟨us,h1,h2⟩:=h
  cases wv with
  | agg ws=>exact ⟨us,h1,z7u hO hA ws vs us hl h2⟩
  | _=>exact ⟨us,h1,VRs.tr (Tr.drop w hO) vs us h2⟩
 | .tup vs,u,hl,h=>by
  obtain ⟨us,h1,h2⟩:=h
  cases wv with
  | tup ws=>exact ⟨us,h1,z7u hO hA ws vs us hl h2⟩
  | _=>exact ⟨us,h1,VRs.tr (Tr.drop w hO) vs us h2⟩
 | .int k n,u,hl,h=>by cases wv<;>exact h
 | .bool b,u,hl,h=>by cases wv<;>exact h
 | .str s,u,hl,h=>by cases wv<;>exact h
 | .zc7,u,hl,h=>by
  cases wv with
  | err _=>exact .inl ⟨rfl,h⟩
  | _=>exact h
 | .zfc,u,hl,h=>by cases wv<;>exact h
 | .undef,u,hl,h=>by cases wv<;>trivial
 | .gone,u,hl,h=>by cases wv<;>exact h
 | .z0g _,u,hl,h=>by cases wv<;>exact h
 | .err _,u,hl,h=>by cases wv<;>exact h
 | .ptr b off,u,hl,h=>by cases wv<;>exact h
 | .z8y x m i off,u,hl,h=>by cases wv<;>exact h
 | .sl T n l,u,hl,h=>by cases wv<;>exact VR.tr (Tr.drop w hO) (.sl T n l) u h
 | .fsl T n l,u,hl,h=>by cases wv<;>exact VR.tr (Tr.drop w hO) (.fsl T n l) u h
 | .slx T n l v,u,hl,h=>by cases wv<;>first|exact ⟨h.1,h.2.tr (Tr.drop w hO)⟩|exact h.2.tr (Tr.drop w hO)
 | .mp b,u,hl,h=>by cases wv<;>exact h
 | .md c,u,hl,h=>by cases wv<;>exact VR.tr (Tr.drop w hO) (.md c) u h
 | .z09 cs off,u,hl,h=>by cases wv<;>exact VR.tr (Tr.drop w hO) (.z09 cs off) u h
 | .z9k cs off v,u,hl,h=>by cases wv<;>exact VR.tr (Tr.drop w hO) (.z9k cs off v) u h
 | .iface T v,u,hl,h=>by
  cases wv with
  | err _ =>
   obtain ⟨x,h1,_⟩:=h
   exact .inr ⟨rfl,T,x,h1⟩
  | _=>exact VR.tr (Tr.drop w hO) (.iface T v) u h
 | .fn f as cs,u,hl,h=>by cases wv<;>exact VR.tr (Tr.drop w hO) (.fn f as cs) u h
theorem z7u (hO:∀ x,O2 x→O x) (hA:∀ a e,lk σ.A a=some e→z7f w O e.T e.n (α a) e.l):∀ (ws vs:List PV) (us:List Value),(∀ a∈z7s.go ws vs,∀ e,lk σ.A a=some e→∀ x,O2 x→(α a).ownBlock≠some x)→VRs w O φ α vs us→VRs w O2 φ α (nrm.go σ ws vs) us
 | [],vs,us,hl,h=>by
  have:nrm.go σ [] vs=vs:=by cases vs<;>rfl
  rw [this]
  exact VRs.tr (Tr.drop w hO) vs us h
 | wv::ws,[],us,hl,h=>h
 | wv::ws,v::vs,us,hl,h=>by
  obtain ⟨u,us',h1,h2,h3⟩:=h
  simp only [z7s.go,List.mem_append] at hl
  exact ⟨u,us',h1,zwo hO hA wv v u (fun a ha=>hl a (.inl ha)) h2,z7u hO hA ws vs us' (fun a ha=>hl a (.inr ha)) h3⟩
end
end
theorem z7i {σ:St} {bs as:List Nat}:∀ {ks:List Nat} {es:List Bx},z7h σ bs as ks es→∀ (j:Nat) (e:Bx),es[j]? = some e→∃ (b:Nat) (x:Bx),ks[j]? = some b∧lk σ.B b=some x∧x.T=e.T∧nrm.go { σ with A:=[] } e.cs x.cs=z7y.go bs as e.cs
 | _,[],_,j,e,h=>by simp at h
 | [],_::_,hb,_,_,_=>hb.elim
 | b::ks,e::es,hb,j,e',h=>by
  obtain ⟨h1,h2⟩:=hb
  cases j with
  | zero =>
   simp at h
   subst h
   split at h1
   ·exact ⟨b,_,rfl,by assumption,h1.1,h1.2⟩
   ·exact h1.elim
  | succ j=>simpa using z7i h2 j e' (by simpa using h)
theorem zcs {σ:St}:∀ {ks:List Nat} {es:List (Nat × Nat × List (List D))},zcr σ ks es→∀ (j:Nat) (e:Nat × Nat × List (List D)),es[j]? = some e→∃ (a:Nat) (x:Arr),ks[j]? = some a∧lk σ.A a=some x∧x.T=e.1∧x.n=e.2.1∧x.l=e.2.2
 | _,[],_,j,e,h=>by simp at h
 | [],_::_,hb,_,_,_=>hb.elim
 | b::ks,e::es,hb,j,e',h=>by
  obtain ⟨h1,h2⟩:=hb
  cases j with
  | zero =>
   simp at h
   subst h
   split at h1
   ·exact ⟨b,_,rfl,by assumption,h1⟩
   ·exact h1.elim
  | succ j=>simpa using zcs h2 j e' (by simpa using h)
theorem zbg {β:Type} {t:Nat} {v:β}:∀ {l l2:List (Nat × β)},lk (l++l2) t=some v→lk l t=some v∨lk l2 t=some v
 | [],l2,h => .inr h
 | (s,x)::r,l2,h=>by
  simp only [List.cons_append] at h
  rcases z0t h with ⟨rfl,rfl⟩|⟨h1,h2⟩
  ·left;unfold lk;simp
  ·rcases zbg h2 with h3|h3
   ·left
    show (match Nat.beq s t with
     | true=>some x
     | false=>lk r t)=some v
    split
    ·rename_i e;exact (h1 (Nat.eq_of_beq_eq_true e).symm).elim
    ·exact h3
   ·exact .inr h3
theorem zkm {bs as:List Nat} {x:Nat} {e:Bx}:∀ {ks:List Nat} {es:List Bx},lk (zxg bs as ks es) x=some e→∃ (j:Nat) (e0:Bx),ks[j]? = some x∧es[j]? = some e0∧e=⟨e0.T,z7y.go bs as e0.cs⟩
 | [],[],h=>by cases h
 | [],_::_,h=>by cases h
 | _::_,[],h=>by cases h
 | b::ks,e0::es,h=>by
  simp only [zxg] at h
  rcases z0t h with ⟨rfl,rfl⟩|⟨_,h⟩
  ·exact ⟨0,e0,rfl,rfl,rfl⟩
  ·obtain ⟨j,e1,h1,h2,h3⟩:=zkm h
   exact ⟨j+1,e1,by simpa using h1,by simpa using h2,h3⟩
theorem zf7 {m:Bool} {x:Nat} {e:Arr}:∀ {ks:List Nat} {es:List (Option (Nat × Nat × List (List D)))},lk (zv9 m ks es) x=some e→∃ (j:Nat) (e0:Nat × Nat × List (List D)),ks[j]? = some x∧es[j]? = some (some e0)∧e=⟨m,e0.1,e0.2.1,e0.2.2⟩
 | [],[],h=>by cases h
 | [],_::_,h=>by cases h
 | _::_,[],h=>by cases h
 | b::ks,some e0::es,h=>by
  simp only [zv9] at h
  rcases z0t h with ⟨rfl,rfl⟩|⟨_,h⟩
  ·exact ⟨0,e0,rfl,rfl,rfl⟩
  ·obtain ⟨j,e1,h1,h2,h3⟩:=zf7 h
   exact ⟨j+1,e1,by simpa using h1,by simpa using h2,h3⟩
 | b::ks,none::es,h=>by
  simp only [zv9] at h
  obtain ⟨j,e1,h1,h2,h3⟩:=zf7 h
  exact ⟨j+1,e1,by simpa using h1,by simpa using h2,h3⟩
theorem zai {σ:St}:∀ {as:List Nat},z4w σ as=true→∀ a∈as,∀ e,lk σ.A a=some e→e.zqv=true
 | b::as,h,a,ha,e,he=>by
  simp only [z4w,yb] at h
  rcases yd.1 ha with rfl|ha
  ·rw [he] at h;exact h.1
  ·exact zai h.2 a ha e he
theorem zad {b:Nat} {e:Bx}:∀ {ls:List Nat} {σ σ':St},σ.freeze ls=some σ'→lk σ'.B b=some e→∃ e0,lk σ.B b=some e0
 | [],σ,σ',h,k=>by cases h;exact ⟨e,k⟩
 | a::ls,σ,σ',h,k=>by
  unfold St.freeze at h
  split at h
  ·rename_i ar _
   split at h
   ·obtain ⟨e0,h1⟩:=zad h k
    have h2:(lk σ.B b).map (fun x:Bx=>({ x with cs:=x.cs.map (z6z a ar) }:Bx))=some e0:=(zd8 (fun x:Bx=>({ x with cs:=x.cs.map (z6z a ar) }:Bx)) σ.B b).symm.trans h1
    obtain ⟨y,h3,_⟩:=ya.1 h2
    exact ⟨y,h3⟩
   ·cases h
  ·exact zad h k
theorem zsg {σ:St}:∀ {as:List Nat},as.all σ.z4q=true→(∀ t v,lk σ.L t=some v→z2r (fun _=>True) (fun x=>x∉as) v)∧(∀ b e,lk σ.B b=some e→z2r.go (fun _=>True) (fun x=>x∉as) e.cs)∧∀ a∈as,lk σ.A a=none
 | [],_=>⟨fun _ _ _=>z2r.all (fun _=>trivial) (fun _=>by simp),fun _ _ _=>z2r.zt4 (fun _=>trivial) (fun _=>by simp),fun _ h=>by simp at h⟩
 | a::as,h=>by
  simp only [List.all_cons,yb] at h
  obtain ⟨h1,h2,h3⟩:=z7n h.1
  obtain ⟨h4,h5,h6⟩:=zsg h.2
  refine ⟨fun t v hv=>(h2 t v hv).and (fun _ _ _=>trivial) (fun x k1 k2=>by simp [k1,k2]) (h4 t v hv),fun b e he=>z2r.zs1 (fun _ _ _=>trivial) (fun x k1 k2=>by simp [k1,k2]) (h3 b e he) (h5 b e he),fun x hx => ?_⟩
  rcases yd.1 hx with rfl|hx
  ·exact h1
  ·exact h6 x hx
theorem zsh {σ:St}:∀ {bs:List Nat},bs.all σ.z5j=true→(∀ t v,lk σ.L t=some v→z2r (fun x=>x∉bs) (fun _=>True) v)∧(∀ b e,lk σ.B b=some e→z2r.go (fun x=>x∉bs) (fun _=>True) e.cs)∧∀ a∈bs,1000≤a∧lk σ.B a=none
 | [],_=>⟨fun _ _ _=>z2r.all (fun _=>by simp) (fun _=>trivial),fun _ _ _=>z2r.zt4 (fun _=>by simp) (fun _=>trivial),fun _ h=>by simp at h⟩
 | a::as,h=>by
  simp only [List.all_cons,yb] at h
  obtain ⟨h1,h2,h3⟩:=z7o h.1
  obtain ⟨h4,h5,h6⟩:=zsh h.2
  refine ⟨fun t v hv=>(h2 t v hv).and (fun x k1 k2=>by simp [k1,k2]) (fun _ _ _=>trivial) (h4 t v hv),fun b e he=>z2r.zs1 (fun x k1 k2=>by simp [k1,k2]) (fun _ _ _=>trivial) (h3 b e he) (h5 b e he),fun x hx => ?_⟩
  rcases yd.1 hx with rfl|hx
  ·exact h1
  ·exact h6 x hx
end Go.Pe
end
section
namespace Go.Pe
open _root_.Bool renaming and_eq_true → ya, not_eq_true' → yb
open _root_.List renaming all_eq_true → yc, any_eq_false → yd, getD → ye, getElem?_eq_some_iff → yf, mem_of_getElem? → yg
open _root_.Nat renaming eq_of_beq_eq_true → yh, le_trans → yi, lt_of_lt_of_le → yj
open Go.RowKit Go.Lk
variable [Lb]

theorem zuf {w:World} {O:Nat→Prop} {φ:Nat→Nat} {α:Nat→Value}:∀ {vs:List PV} {us:List Value},VRs w O φ α vs us→VR w O φ α (zy5 vs) (zss us)
 | [],us,h=>by cases h;exact ⟨[],rfl,rfl⟩
 | [v],us,h=>by
  obtain ⟨u,us',rfl,h2,h3⟩:=h
  cases h3
  exact h2
 | v::v'::vs,us,h=>by
  have h':=h
  obtain ⟨u,us',rfl,h2,u',us'',rfl,h3⟩:=h
  exact ⟨_,rfl,h'⟩
theorem zhv {nb na:Nat} {B:List Bx} (h:B.all (fun e=>inR.go nb na e.cs)=true) {j:Nat} {e:Bx} (he:B[j]? = some e):inR.go nb na e.cs=true:=yc.1 h e (yg he)
theorem zt5 {B:List Bx} (h:(B.any fun e=>z7p.go e.cs)=false) {j:Nat} {e:Bx} (he:B[j]? = some e):z7p.go e.cs=false:=by
 rw [yd] at h
 simpa using h e (yg he)
section
variable {z:W0} {V:Env} {w w':World} {O O':Nat→Prop} {φ φ':Nat→Nat} {α α':Nat→Value} {σ s:St} {bs as as':List Nat} {i:CIn} {vs:List PV} {B:List Bx} {A:List (Option (Nat × Nat × List (List D)))}
theorem znu {Ob Oc:Nat→Prop} {us:List Value} (h:Rl z σ V w O φ α) (hb:Rl z s V w Ob φ α) (hbO:∀ x,Ob x→O x) (hc:∀ x,Oc x→Ob x)
  (sB:∀ b e,lk s.B b=some e→∃ e0,lk σ.B b=some e0) (sA:∀ a e,lk s.A a=some e→∃ e0,lk σ.A a=some e0)
  (nb:z5w bs=true) (na:z5w as'=true) (lb:i.B.length≤bs.length) (la:i.A.length=as.length) (pB:∀ j b,j<i.B.length→bs[j]? = some b→∃ e,lk σ.B b=some e) (pA:∀ j a,j<i.A.length→as[j]? = some a→∃ e,lk σ.A a=some e)
  (lB:B.length=bs.length) (lA:A.length=as'.length) (rv:inR.go B.length A.length vs=true) (rB:B.all (fun e=>inR.go B.length A.length e.cs)=true)
  (fA:as'.all ({ s with B:=z34 bs s.B,A:=z34 as s.A }:St).z4q=true) (fB:(bs.drop i.B.length).all ({ s with B:=z34 bs s.B,A:=z34 as s.A }:St).z5j=true)
  (hd:zma i w Oc (fun j=>φ (bs.getD j 0)) (fun j=>α (as.getD j 0)) vs B A w' us O' φ' α') (hl:(∀ x,Ob x→O' x)∨zbe vs B A=false) :
  ∃ O2 φ2 α2,Rl z (left (z4w σ as) bs as as' B A s) V w' O2 φ2 α2∧(∀ x,Ob x→O2 x)∧VR w' O2 φ2 α2 (zy5 (z7y.go bs as' vs)) (zss us)∧α2=ov as' α' α:=by
 have gb:∀ j b,bs[j]? = some b→bs.getD j 0=b:=fun j b e=>by simp [ye,e]
 have ga:∀ j b,as[j]? = some b→as.getD j 0=b:=fun j b e=>by simp [ye,e]
 have bsj:∀ j,j<i.B.length→∃ b,bs[j]? = some b:=fun j hj=>⟨bs[j]'(by omega),by simp [show j<bs.length by omega]⟩
 have asj:∀ j,j<i.A.length→∃ b,as[j]? = some b:=fun j hj=>⟨as[j]'(by omega),by simp [show j<as.length by omega]⟩
 -- the blocks that the call may turn
 have fiB:∀ x,FI i (fun j=>φ (bs.getD j 0)) (fun j=>α (as.getD j 0)) x→(∃ b e,b∈bs∧lk σ.B b=some e∧φ b=x)∨∃ a e,a∈as∧lk σ.A a=some e∧(α a).ownBlock=some x:=fun x hx=>by
  rcases hx with ⟨j,hj,hx⟩|⟨j,hj,hx⟩
  ·obtain ⟨b,e⟩:=bsj j hj
   obtain ⟨y,hy⟩:=pB j b hj e
   exact .inl ⟨b,y,yg e,hy,by simp only [gb j b e] at hx;exact hx⟩
  ·obtain ⟨a,e⟩:=asj j hj
   obtain ⟨y,hy⟩:=pA j a hj e
   exact .inr ⟨a,y,yg e,hy,by simp only [ga j a e] at hx;exact hx⟩
 have hH:∀ x,FI i (fun j=>φ (bs.getD j 0)) (fun j=>α (as.getD j 0)) x→z.F x∨z.w.heap.size≤x:=fun x hx=>by
  rcases fiB x hx with ⟨b,e,_,h1,rfl⟩|⟨a,e,_,h1,h2⟩
  ·exact (h.bF b e h1).elim (fun q => .inl q.2) .inr
  ·exact (h.aF a e h1 x h2).elim (fun q => .inl q.2) .inr
 have tr2:Tr Ob w (fun x=>O' x∨Ob x) w':=⟨hd.tr.size,fun b hb' hn=>hd.tr.block b hb' fun hh=>hn (hc b hh),fun b hb' hn hh=>by
  rcases hh with hh|hh
  ·exact hd.tr.owned b hb' (fun h'=>hn (hc b h')) hh
  ·exact hn hh⟩
 have nB:∀ b e,lk (z34 bs s.B) b=some e→¬FI i (fun j=>φ (bs.getD j 0)) (fun j=>α (as.getD j 0)) (φ b):=fun b e he hx=>by
  obtain ⟨n1,h1⟩:=z1y he
  obtain ⟨e0,h2⟩:=sB b e h1
  rcases fiB _ hx with ⟨b',e',m1,h3,h4⟩|⟨a,e',m1,h3,h4⟩
  ·exact h.bb b' b e' e0 h3 h2 (fun q=>n1 (q▸m1)) h4
  ·exact h.ab a b e' e0 h3 h2 h4
 have nA:∀ a e,lk (z34 as s.A) a=some e→∀ y,(α a).ownBlock=some y→¬FI i (fun j=>φ (bs.getD j 0)) (fun j=>α (as.getD j 0)) y:=fun a e he y hy hx=>by
  obtain ⟨n1,h1⟩:=z1y he
  obtain ⟨e0,h2⟩:=sA a e h1
  rcases fiB _ hx with ⟨b',e',m1,h3,h4⟩|⟨a',e',m1,h3,h4⟩
  ·exact h.ab a b' e0 e' h2 h3 (by rw [h4];exact hy)
  ·exact h.aa a' a e' e0 h3 h2 (fun q=>n1 (q▸m1)) y h4 hy
 have b1:Rl z { s with B:=z34 bs s.B,A:=z34 as s.A } V w Ob φ α:=hb.mono (Le.refl _) (fun t v hv=>(z1y hv).2) (fun t v hv=>(z1y hv).2)
 have b2:Rl z { s with B:=z34 bs s.B,A:=z34 as s.A } V w' (fun x=>O' x∨Ob x) φ α:=b1.move hd.ext tr2 (fun y hy => .inr hy) (fun x hx=>by
   rcases hx with hx|hx
   ·exact hd.bd x hx
   ·exact yj (hb.bd x hx) hd.tr.size) nB nA (Ext.after h hd.ext hH) (fun x hx=>by
   rcases hx with hx|hx
   ·rcases hd.only x hx with h1|h1
    ·exact hb.only x (hc x h1)
    ·exact .inr (yi h.ext.size h1)
   ·exact hb.only x hx)
 -- the names
 obtain ⟨kA1,kA2,kA3⟩:=zsg fA
 obtain ⟨kB1,kB2,kB3⟩:=zsh fB
 have eφ:∀ x,x∉bs.drop i.B.length→ov bs φ' φ x=φ x:=fun x hx=>by
  by_cases hm:x∈bs
  ·obtain ⟨j,hj⟩:=List.getElem?_of_mem hm
   have:j<i.B.length:=by
    rcases Nat.lt_or_ge j i.B.length with h1|h1
    ·exact h1
    ·exact (hx (yg (i:=j - i.B.length) (by rw [List.getElem?_drop];rw [show i.B.length+(j - i.B.length)=j by omega];exact hj))).elim
   rw [zlq nb hj,hd.same j this,gb j x hj]
  ·exact zgr hm
 have eα:∀ x,x∉as'→ov as' α' α x=α x:=fun x hx=>zgr hx
 have b3:Rl z { s with B:=z34 bs s.B,A:=z34 as s.A } V w' (fun x=>O' x∨Ob x) (ov bs φ' φ) (ov as' α' α):=b2.re (kb:=fun x=>x∉bs.drop i.B.length) (ka:=fun x=>x∉as') (fun x hx hm=>by have:=(kB3 x hm).1;omega) eφ eα
  (fun t v hv=>(kB1 t v hv).and (fun _ k1 _=>k1) (fun _ _ k2=>k2) (kA1 t v hv)) (fun b e he=>⟨fun hm=>(z1y he).1 (List.mem_of_mem_drop hm),z2r.zs1 (fun _ k1 _=>k1) (fun _ _ k2=>k2) (kB2 b e he) (kA2 b e he)⟩) (fun a e he hm=>by
   have:=kA3 a hm
   rw [this] at he
   cases he)
 -- what comes back
 have up:∀ v u,(zbe vs B A=false→z7p v=false)→VR w' O' φ' α' v u→VR w' (fun x=>O' x∨Ob x) φ' α' v u:=fun v u hv hr=>by
  rcases hl with hl|hl
  ·exact hr.tr (Tr.drop w' fun x hx=>hx.elim id (hl x))
  ·exact zel v u (hv hl) hr
 have ups:∀ vs' us',(zbe vs B A=false→z7p.go vs'=false)→VRs w' O' φ' α' vs' us'→VRs w' (fun x=>O' x∨Ob x) φ' α' vs' us':=fun v u hv hr=>by
  rcases hl with hl|hl
  ·exact VRs.tr (Tr.drop w' fun x hx=>hx.elim id (hl x)) _ _ hr
  ·exact z6m v u (hv hl) hr
 have lends_p:zbe vs B A=false→z7p.go vs=false∧(B.any fun e=>z7p.go e.cs)=false∧(A.any fun e=>e.isSome)=false:=fun hh=>by
  simp only [zbe,Bool.or_eq_false_iff] at hh
  exact ⟨hh.1.1,hh.1.2,hh.2⟩
 have ro:∀ {cs:List PV} {us':List Value},inR.go B.length A.length cs=true→VRs w' (fun x=>O' x∨Ob x) φ' α' cs us'→VRs w' (fun x=>O' x∨Ob x) (ov bs φ' φ) (ov as' α' α) (z7y.go bs as' cs) us':=fun {cs us'} hi hr =>
  z6p (fun j x e=>zlq nb e) (fun j x e=>zlq na e) (by omega) (by omega) cs us' hi hr
 have upA:∀ a e,A[a]? = some (some e)→z7f w' (fun x=>O' x∨Ob x) e.1 e.2.1 (α' a) e.2.2:=fun a e he=>by
  have h1:=hd.mm.arr a e he
  rcases hl with hl|hl
  ·exact h1.down (fun x hx=>hx.elim id (hl x)) fun x hx => .inl (h1.mem x hx)
  ·have:=(lends_p hl).2.2
   rw [yd] at this
   exact (this _ (yg he) rfl).elim
 have rest_old:∀ b e,lk (z34 bs s.B) b=some e→φ b<w.heap.size∧∃ e0,lk σ.B b=some e0∧b∉bs:=fun b e he=>⟨b1.zpx he,by
  obtain ⟨n1,h1⟩:=z1y he
  obtain ⟨e0,h2⟩:=sB b e h1
  exact ⟨e0,h2,n1⟩⟩
 have rest_oldA:∀ a e,lk (z34 as s.A) a=some e→(∀ x,(α a).ownBlock=some x→x<w.heap.size)∧(∃ e0,lk σ.A a=some e0)∧a∉as∧a∉as':=fun a e he=>⟨fun x hx=>b1.zt7 he hx,sA a e (z1y he).2,(z1y he).1,fun hm=>by
  have h1:lk (z34 as s.A) a=none:=kA3 a hm
  rw [h1] at he;cases he⟩
 have boxL:∀ b e,lk (zxg bs as' bs B++z34 bs s.B) b=some e→(∃ j e0,bs[j]? = some b∧B[j]? = some e0∧e=⟨e0.T,z7y.go bs as' e0.cs⟩∧ov bs φ' φ b=φ' j)∨(lk (z34 bs s.B) b=some e∧b∉bs∧ov bs φ' φ b=φ b):=fun b e he=>by
  rcases zbg he with h1|h1
  ·obtain ⟨j,e0,k1,k2,k3⟩:=zkm h1
   exact .inl ⟨j,e0,k1,k2,k3,zlq nb k1⟩
  ·exact .inr ⟨h1,(z1y h1).1,zgr (z1y h1).1⟩
 have arrL:∀ a e,lk (zv9 (z4w σ as) as' A++z34 as s.A) a=some e→(∃ j e0,as'[j]? = some a∧A[j]? = some (some e0)∧e=⟨z4w σ as,e0.1,e0.2.1,e0.2.2⟩∧ov as' α' α a=α' j)∨(lk (z34 as s.A) a=some e∧ov as' α' α a=α a):=fun a e he=>by
  rcases zbg he with h1|h1
  ·obtain ⟨j,e0,k1,k2,k3⟩:=zf7 h1
   exact .inl ⟨j,e0,k1,k2,k3,zlq na k1⟩
  ·exact .inr ⟨h1,zgr (rest_oldA a e h1).2.2.2⟩
 have newBlk:∀ j e0 x,A[j]? = some (some e0)→(α' j).ownBlock=some x→(∃ a e,a∈as∧lk σ.A a=some e∧(α a).ownBlock=some x)∨w.heap.size≤x:=fun j e0 x he hx=>by
  rcases hd.zwl j e0 x he hx with ⟨c,k1,k2⟩|k1
  ·obtain ⟨a,e⟩:=asj c k1
   obtain ⟨y,hy⟩:=pA c a k1 e
   exact .inl ⟨a,y,yg e,hy,by simp only [ga c a e] at k2;exact k2⟩
  ·exact .inr k1
 have boxBlk:∀ j b,bs[j]? = some b→j<B.length→(∃ e,b∈bs∧lk σ.B b=some e∧φ' j=φ b)∨w.heap.size≤φ' j:=fun j b hj hlt=>by
  rcases Nat.lt_or_ge j i.B.length with h1|h1
  ·obtain ⟨y,hy⟩:=pB j b h1 hj
   exact .inl ⟨y,yg hj,hy,by rw [hd.same j h1,gb j b hj]⟩
  ·exact .inr (hd.zwm j hlt h1)
 have jlt:∀ {j:Nat} {e0:Bx},B[j]? = some e0→j<B.length:=fun {j e0} hj=>(yf.1 hj).1
 refine ⟨fun x=>O' x∨Ob x,ov bs φ' φ,ov as' α' α,⟨b3.env,fun b e he => ?_,fun a e he => ?_,fun a b e e' ha hb' hn => ?_,fun a b e e' ha hb' hn x hx => ?_,fun a b e e' ha hb' => ?_,fun b e he => ?_,fun a e he x hx => ?_,b2.bd,b2.ext,b2.only,b2.gl,b3.keep⟩,fun x hx => .inr hx,?_⟩
 ·rcases boxL b e he with ⟨j,e0,k1,k2,rfl,k4⟩|⟨k1,_,_⟩
  ·obtain ⟨k5,us',k6,k7⟩:=hd.mm.box j e0 k2
   rw [k4]
   exact ⟨.inl k5,us',k6,ro (zhv rB k2) (ups _ _ (fun hh=>zt5 (lends_p hh).2.1 k2) k7)⟩
  ·exact b3.box b e k1
 ·rcases arrL a e he with ⟨j,e0,k1,k2,rfl,k4⟩|⟨k1,_⟩
  ·rw [k4];exact upA j e0 k2
  ·exact b3.arr a e k1
 ·rcases boxL a e ha with ⟨j,e0,k1,k2,rfl,k4⟩|⟨k1,k5,k4⟩<;>rcases boxL b e' hb' with ⟨j',e0',k1',k2',rfl,k4'⟩|⟨k1',k5',k4'⟩
  ·rw [k4,k4']
   exact hd.mm.bb j j' (jlt k2) (jlt k2') fun q=>hn (by subst q;rw [k1] at k1';exact Option.some.inj k1')
  ·rw [k4,k4']
   obtain ⟨q1,e1,q2,q3⟩:=rest_old b e' k1'
   rcases boxBlk j a k1 (jlt k2) with ⟨y,m1,m2,m3⟩|m1
   ·rw [m3];exact h.bb a b y e1 m2 q2 hn
   ·omega
  ·rw [k4,k4']
   obtain ⟨q1,e1,q2,q3⟩:=rest_old a e k1
   rcases boxBlk j' b k1' (jlt k2') with ⟨y,m1,m2,m3⟩|m1
   ·rw [m3];exact h.bb a b e1 y q2 m2 hn
   ·omega
  ·exact b3.bb a b e e' k1 k1' hn
 ·rcases arrL a e ha with ⟨j,e0,k1,k2,rfl,k4⟩|⟨k1,k4⟩<;>rcases arrL b e' hb' with ⟨j',e0',k1',k2',rfl,k4'⟩|⟨k1',k4'⟩
  ·rw [k4] at hx
   rw [k4']
   exact hd.mm.aa j j' e0 e0' k2 k2' (fun q=>hn (by subst q;rw [k1] at k1';exact Option.some.inj k1')) x hx
  ·rw [k4] at hx
   rw [k4']
   intro hh
   obtain ⟨q1,⟨e1,q2⟩,q3,_⟩:=rest_oldA b e' k1'
   rcases newBlk j e0 x k2 hx with ⟨a',y,m1,m2,m3⟩|m1
   ·exact h.aa a' b y e1 m2 q2 (fun q=>q3 (q▸m1)) x m3 hh
   ·have:=q1 x hh;omega
  ·rw [k4] at hx
   rw [k4']
   intro hh
   obtain ⟨q1,⟨e1,q2⟩,q3,_⟩:=rest_oldA a e k1
   rcases newBlk j' e0' x k2' hh with ⟨a',y,m1,m2,m3⟩|m1
   ·exact h.aa a' a y e1 m2 q2 (fun q=>q3 (q▸m1)) x m3 hx
   ·have:=q1 x hx;omega
  ·exact b3.aa a b e e' k1 k1' hn x hx
 ·rcases arrL a e ha with ⟨j,e0,k1,k2,rfl,k4⟩|⟨k1,k4⟩<;>rcases boxL b e' hb' with ⟨j',e0',k1',k2',rfl,k4'⟩|⟨k1',k5',k4'⟩
  ·rw [k4,k4']
   exact hd.mm.ab j j' e0 k2 (jlt k2')
  ·rw [k4,k4']
   intro hh
   obtain ⟨q1,e1,q2,q3⟩:=rest_old b e' k1'
   rcases newBlk j e0 _ k2 hh with ⟨a',y,m1,m2,m3⟩|m1
   ·exact h.ab a' b y e1 m2 q2 m3
   ·omega
  ·rw [k4,k4']
   intro hh
   obtain ⟨q1,⟨e1,q2⟩,q3,_⟩:=rest_oldA a e k1
   rcases boxBlk j' b k1' (jlt k2') with ⟨y,m1,m2,m3⟩|m1
   ·rw [m3] at hh;exact h.ab a b e1 y q2 m2 hh
   ·have:=q1 _ hh;omega
  ·exact b3.ab a b e e' k1 k1'
 ·rcases boxL b e he with ⟨j,e0,k1,k2,rfl,k4⟩|⟨k1,_,_⟩
  ·rw [k4]
   rcases boxBlk j b k1 (jlt k2) with ⟨y,m1,m2,m3⟩|m1
   ·rw [m3];exact h.bF b y m2
   ·exact .inr (yi h.ext.size m1)
  ·exact b3.bF b e k1
 ·rcases arrL a e he with ⟨j,e0,k1,k2,rfl,k4⟩|⟨k1,k4⟩
  ·rw [k4] at hx
   rcases newBlk j e0 x k2 hx with ⟨a',y,m1,m2,m3⟩|m1
   ·rcases h.aF a' y m2 x m3 with ⟨m4,m5⟩|m4
    ·left
     refine ⟨?_,m5⟩
     simp only
     cases hm:z4w σ as with
     | false=>rfl
     | true=>rw [zai hm a' m1 y m2] at m4;cases m4
    ·exact .inr m4
   ·exact .inr (yi h.ext.size m1)
  ·exact b3.aF a e k1 x hx
 ·exact ⟨zuf (ro rv (ups _ _ (fun hh=>(lends_p hh).1) hd.res)),rfl⟩
theorem Rel.za2:∀ (as as':List Nat) {σ:St},Rl z σ V w O φ α→(∀ (j a a':Nat),as[j]? = some a→as'[j]? = some a'→α a=α a')→Rl z (σ.za2 as as') V w O φ α
 | [],_,σ,h,_=>h
 | _::_,[],σ,h,_=>h
 | a::as,a'::as',σ,h,he=>by
  have hr:∀ (j b b':Nat),as[j]? = some b→as'[j]? = some b'→α b=α b':=fun j b b' h1 h2=>he (j+1) b b' (by simpa using h1) (by simpa using h2)
  have e0:α a=α a':=he 0 a a' rfl rfl
  unfold St.za2 Go.Pe.za2
  split
  ·rename_i e hk
   have hget:∀ t x,lk ((a,e)::z88 a' σ.A) t=some x→(t=a∧x=e)∨(t≠a'∧t≠a∧lk σ.A t=some x):=fun t x ht=>by
    simp only [lk] at ht
    split at ht
    ·rename_i hb
     cases ht
     exact .inl ⟨(yh hb).symm,rfl⟩
    ·rename_i hb
     obtain ⟨k1,k2⟩:=z2m ht
     exact .inr ⟨k1,fun q=>(by subst q;simp at hb),k2⟩
   have h2:Rl z { σ with A:=(a,e)::z88 a' σ.A } V w O φ α:=by
    refine ⟨h.env,h.box,fun t x ht => ?_,h.bb,fun t u x y ht hu hn v hv => ?_,fun t b x y ht hb => ?_,h.bF,fun t x ht => ?_,h.bd,h.ext,h.only,h.gl,h.keep⟩
    ·rcases hget t x ht with ⟨rfl,rfl⟩|⟨k1,k2,k3⟩
     ·rw [e0];exact h.arr _ _ hk
     ·exact h.arr _ _ k3
    ·rcases hget t x ht with ⟨rfl,rfl⟩|⟨k1,k2,k3⟩<;>rcases hget u y hu with ⟨rfl,rfl⟩|⟨l1,l2,l3⟩
     ·exact (hn rfl).elim
     ·rw [e0] at hv
      exact h.aa _ _ _ _ hk l3 (fun q=>l1 q.symm) v hv
     ·rw [e0]
      exact h.aa _ _ _ _ k3 hk k1 v hv
     ·exact h.aa _ _ _ _ k3 l3 hn v hv
    ·rcases hget t x ht with ⟨rfl,rfl⟩|⟨k1,k2,k3⟩
     ·rw [e0];exact h.ab _ _ _ _ hk hb
     ·exact h.ab _ _ _ _ k3 hb
    ·rcases hget t x ht with ⟨rfl,rfl⟩|⟨k1,k2,k3⟩
     ·rw [e0];exact h.aF _ _ hk
     ·exact h.aF _ _ k3
   exact Rel.za2 as as' h2 hr
  ·exact Rel.za2 as as' h hr
end
section
variable {z:W0} {V:Env} {w:World} {O:Nat→Prop} {φ:Nat→Nat} {α:Nat→Value} {σ:St} {C:Cx} {n:Nat} {ops:Array Oper} {o:Oper} {rest:List Oper} {K:Act→World→Prop}
theorem zkt {ds:List Deferred} {G:GI} {con:Nat→CIn→z3s→Prop} {k:St→Prop} {kp:PV→St→Prop} (hcon:∀ f i o,con f i o→Con C.P G f i o) (hz:∀ w O,z.G w O→G.p w O) (hg:o.guard=none) (hn:dOk n o.dst=true) (h:Rl z σ V w O φ α) (hs:∀ x,z.O x→O x)
  (hk:∀ s,k s→NX z C n ds ops rest K s) (hp:∀ v s,kp v s→z8w z C n ds v s) {c:Call} {x:Operand} {vs:List PV} {f:Nat} {as0 cs0:List PV} (ho:o.op = .call c) (hcx:c.callee = .value x) (hvs:σ.evs c.args.toList=some vs) (hx:σ.ev x=some (.fn f as0 cs0))
  (hw:zfk con σ f (as0++vs++cs0) (fun v σ=>k (σ.put o.dst v)) kp):OW C n ds ops (o::rest) K V w:=by
 obtain ⟨bs,as,as',i,out,hco,h1,h2,h3,h4,h5⟩:=hw
 have hC:=hcon _ _ _ hco
 obtain ⟨cal,cargs,cty⟩:=c
 simp only at hcx hvs
 subst hcx
 obtain ⟨ux,e1,us0,uc0,rfl,e2,e3⟩:=h.ev hx
 obtain ⟨ua,e4,e5⟩:=h.evs hvs
 have e6:VRs w O φ α (as0++vs++cs0) (us0++ua++uc0):=(VRs.append (VRs.append e2 e5) e3)
 simp only [zfj,ya] at h4
 obtain ⟨⟨⟨⟨⟨⟨q1,q2⟩,q3⟩,q4⟩,q5⟩,q6⟩,q7⟩:=h4
 have q3:=Nat.le_of_ble_eq_true q3
 have q4:=yh q4
 -- what is owned for the call
 have hOc:∀ y,z8u O α (lk σ.A) (z7s.go i.vs (as0++vs++cs0)) y→O y:=fun y hy=>hy.1
 have ls:∀ a∈z7s.go i.vs (as0++vs++cs0),(∃ e,lk σ.A a=some e)∧a∉as:=fun a ha=>by
  have:=yc.1 q7 a ha
  simp only [ya,yb] at this
  refine ⟨Option.isSome_iff_exists.1 this.1,fun hm => ?_⟩
  have h':as.any (Nat.beq a)=true:=List.any_eq_true.2 ⟨a,hm,Nat.beq_refl a⟩
  rw [h'] at this
  exact Bool.noConfusion this.2
 have gb:∀ j b,bs[j]? = some b→bs.getD j 0=b:=fun j b e=>by simp [ye,e]
 have ga:∀ j b,as[j]? = some b→as.getD j 0=b:=fun j b e=>by simp [ye,e]
 have td:Tr O w (z8u O α (lk σ.A) (z7s.go i.vs (as0++vs++cs0))) w:=Tr.drop w hOc
 have hin:VRs w (z8u O α (lk σ.A) (z7s.go i.vs (as0++vs++cs0))) (fun j=>φ (bs.getD j 0)) (fun j=>α (as.getD j 0)) i.vs (us0++ua++uc0):=by
  have:=z7u (σ:=σ) (O:=O) (φ:=φ) (α:=α) (O2:=z8u O α (lk σ.A) (z7s.go i.vs (as0++vs++cs0))) hOc h.arr i.vs _ _ (fun a ha _ _ y hy=>hy.2 a ha (by obtain ⟨e,he⟩:=(ls a ha).1;rw [he];rfl)) e6
  rw [h1] at this
  exact z63 (fun j y _ e=>by rw [gb j y e]) (fun j y _ e=>by rw [ga j y e]) q3 (by omega) _ _ q5 this
 have pB:∀ (j:Nat) (e:Bx),i.B[j]? = some e→∃ (b:Nat) (y:Bx),bs[j]? = some b∧lk σ.B b=some y∧y.T=e.T∧nrm.go { σ with A:=[] } e.cs y.cs=z7y.go bs as e.cs:=z7i h2
 have pA:∀ (j:Nat) (e:Nat × Nat × List (List D)),i.A[j]? = some e→∃ (a:Nat) (y:Arr),as[j]? = some a∧lk σ.A a=some y∧y.T=e.1∧y.n=e.2.1∧y.l=e.2.2:=zcs h3
 have geB:∀ j (hj:j<i.B.length),i.B[j]? = some i.B[j]:=fun j hj=>by simp
 have geA:∀ j (hj:j<i.A.length),i.A[j]? = some i.A[j]:=fun j hj=>by simp
 have ownIn:∀ a y,lk σ.A a=some y→a∈as→∀ b,(α a).ownBlock=some b→z8u O α (lk σ.A) (z7s.go i.vs (as0++vs++cs0)) b:=fun a y hy hm b hb=>⟨h.zxl hy hb,fun a' ha' _ hh=>by
  obtain ⟨⟨e',he'⟩,hna⟩:=ls a' ha'
  exact h.aa a' a e' y he' hy (fun q=>hna (q▸hm)) b hh hb⟩
 have aget:∀ (j:Nat) (e:Nat × Nat × List (List D)),(i.A.map some)[j]? = some (some e)→i.A[j]? = some e:=fun j e he=>by
  rw [List.getElem?_map] at he
  obtain ⟨y,k1,k2⟩:=Option.map_eq_some_iff.1 he
  cases k2
  exact k1
 have hmm:Mm w (z8u O α (lk σ.A) (z7s.go i.vs (as0++vs++cs0))) (fun j=>φ (bs.getD j 0)) (fun j=>α (as.getD j 0)) i.B (i.A.map some):=by
  refine ⟨fun j e he => ?_,fun j e he => ?_,fun a b la lb hn => ?_,fun a b e e' ha hb hn y hy => ?_,fun a b e ha lb => ?_⟩
  ·obtain ⟨b,y,k1,k2,k3,k4⟩:=pB j e he
   obtain ⟨k5,us,k6,k7⟩:=h.box b y k2
   simp only [gb j b k1]
   refine ⟨⟨k5,fun a ha _=>h.ab a b _ y ((ls a ha).1.choose_spec) k2⟩,us,k3▸k6,?_⟩
   have h8:=z7u (σ:={ σ with A:=[] }) (O:=z8u O α (lk σ.A) (z7s.go i.vs (as0++vs++cs0))) (φ:=φ) (α:=α) (O2:=z8u O α (lk σ.A) (z7s.go i.vs (as0++vs++cs0))) (fun _ hx=>hx) (fun _ _ hx=>by cases hx) e.cs _ _ (fun _ _ _ hx=>by cases hx) (VRs.tr td _ _ k7)
   rw [k4] at h8
   exact z63 (fun j y _ e=>by rw [gb j y e]) (fun j y _ e=>by rw [ga j y e]) q3 (by omega) _ _ (zhv q6 he) h8
  ·obtain ⟨a,y,k1,k2,k3,k4,k5⟩:=pA j e (aget j e he)
   simp only [ga j a k1]
   have:=(h.arr a y k2).down hOc (ownIn a y k2 (yg k1))
   rw [k3,k4,k5] at this
   exact this
  ·obtain ⟨b1,y1,k1,k2,_⟩:=pB a _ (geB a la)
   obtain ⟨b2,y2,k3,k4,_⟩:=pB b _ (geB b lb)
   simp only [gb a b1 k1,gb b b2 k3]
   exact h.bb b1 b2 y1 y2 k2 k4 fun q=>hn (z43 q1 a b b1 k1 (q▸k3))
  ·obtain ⟨b1,y1,k1,k2,_⟩:=pA a e (aget a e ha)
   obtain ⟨b2,y2,k3,k4,_⟩:=pA b e' (aget b e' hb)
   simp only [ga a b1 k1] at hy
   simp only [ga b b2 k3]
   exact h.aa b1 b2 y1 y2 k2 k4 (fun q=>hn (z43 q2 a b b1 k1 (q▸k3))) y hy
  ·obtain ⟨b1,y1,k1,k2,_⟩:=pA a e (aget a e ha)
   obtain ⟨b2,y2,k3,k4,_⟩:=pB b _ (geB b lb)
   simp only [ga a b1 k1,gb b b2 k3]
   exact h.ab b1 b2 y1 y2 k2 k4
 have pB':∀ j b,j<i.B.length→bs[j]? = some b→∃ e,lk σ.B b=some e:=fun j b hj hb=>by
  obtain ⟨b1,y1,k1,k2,_⟩:=pB j _ (geB j hj)
  rw [hb] at k1
  cases k1
  exact ⟨y1,k2⟩
 have pA':∀ j a,j<i.A.length→as[j]? = some a→∃ e,lk σ.A a=some e:=fun j b hj hb=>by
  obtain ⟨b1,y1,k1,k2,_⟩:=pA j _ (geA j hj)
  rw [hb] at k1
  cases k1
  exact ⟨y1,k2⟩
 refine OW.zyc hg rfl hn ho e1 e4 hC.ent ((hC.run w _ _ _ _ hin hmm (fun y hy=>h.bd y hy.1) (hz _ _ (z.hG td h.gl))).mono fun e w' hdone => ?_)
 cases out with
 | ok rvs B A =>
  obtain ⟨us,O',φ',α',rfl,hd⟩:=hdone
  replace h5:=zi h5
  obtain ⟨s,hf,hok,hkk⟩:=h5
  simp only [zr5,ya] at hok
  obtain ⟨⟨⟨⟨⟨⟨r1,r2⟩,r3⟩,r4⟩,r5⟩,r6⟩,r7⟩:=hok
  have r2:=yh r2
  have r3:=yh r3
  have key:∃ Ob,Rl z s V w Ob φ α∧(∀ y,Ob y→O y)∧(∀ y,z8u O α (lk σ.A) (z7s.go i.vs (as0++vs++cs0)) y→Ob y)∧(∀ y,z.O y→Ob y)∧(∀ b e,lk s.B b=some e→∃ e0,lk σ.B b=some e0)∧(∀ b e,lk s.A b=some e→∃ e0,lk σ.A b=some e0)∧((∀ x,Ob x→O' x)∨zbe rvs B A=false):=by
   cases hl:zbe rvs B A with
   | true =>
    rw [hl] at hf
    obtain ⟨k1,k2,k3,_⟩:=z19 _ h hs hf
    exact ⟨_,k1,fun y hy=>hy.1,fun y hy=>hy,k2,fun b e=>zad hf,fun b e he=>⟨e,k3 b e he⟩,.inl fun x hx=>hd.more x hx⟩
   | false =>
    rw [hl] at hf
    cases hf
    exact ⟨O,h,fun _ hy=>hy,fun y hy=>hy.1,hs,fun b e he=>⟨e,he⟩,fun b e he=>⟨e,he⟩,.inr rfl⟩
  obtain ⟨Ob,k1,k2,k3,k4,k5,k6,k7⟩:=key
  obtain ⟨O2,φ2,α2,m1,m2,m3,_⟩:=znu h k1 k2 k3 k5 k6 q1 r1 q3 q4 pB' pA' r2 r3 r4 r5 r6 r7 hd k7
  have m4:=m1.zww o.dst m3
  have m5:=hk _ hkk _ _ ⟨O2,φ2,α2,m4,fun y hy=>m2 y (k4 y hy)⟩
  unfold zpl
  revert m5
  unfold zwv
  exact id
 | okI rvs B A =>
  obtain ⟨us,O',φ',α',rfl,hd,hin'⟩:=hdone
  replace h5:=zi h5
  obtain ⟨s,hf,hok,hkk⟩:=h5
  simp only [zr5,ya] at hok
  obtain ⟨⟨⟨⟨⟨⟨⟨r1,r2⟩,r3⟩,r4⟩,r5⟩,r6⟩,r7⟩,r8⟩:=hok
  have r2:=yh r2
  have r3:=yh r3
  have key:∃ Ob,Rl z s V w Ob φ α∧(∀ y,Ob y→O y)∧(∀ y,z8u O α (lk σ.A) (z7s.go i.vs (as0++vs++cs0)) y→Ob y)∧(∀ y,z.O y→Ob y)∧(∀ b e,lk s.B b=some e→∃ e0,lk σ.B b=some e0)∧(∀ b e,lk s.A b=some e→∃ e0,lk σ.A b=some e0)∧((∀ x,Ob x→O' x)∨zbe rvs B A=false):=by
   cases hl:zbe rvs B A with
   | true =>
    rw [hl] at hf
    obtain ⟨k1,k2,k3,_⟩:=z19 _ h hs hf
    exact ⟨_,k1,fun y hy=>hy.1,fun y hy=>hy,k2,fun b e=>zad hf,fun b e he=>⟨e,k3 b e he⟩,.inl fun x hx=>hd.more x hx⟩
   | false =>
    rw [hl] at hf
    cases hf
    exact ⟨O,h,fun _ hy=>hy,fun y hy=>hy.1,hs,fun b e he=>⟨e,he⟩,fun b e he=>⟨e,he⟩,.inr rfl⟩
  obtain ⟨Ob,k1,k2,k3,k4,k5,k6,k7⟩:=key
  obtain ⟨O2,φ2,α2,m1,m2,m3,m0⟩:=znu h k1 k2 k3 k5 k6 q1 r1 q3 q4 pB' pA' r2 r3 r4 r5 r6 r7 hd k7
  have m1:=Rel.za2 as as' m1 fun j a a' ha ha'=>by
   have hlt:j<i.A.length:=by
    have:=(yf.1 ha).1
    omega
   have hna:a∉as':=fun hm=>by
    have:=yc.1 r8 a (yg ha)
    rw [yb,yd] at this
    exact this a hm (Nat.beq_refl a)
   rw [m0,zgr hna,zlq r1 ha',hin' j hlt]
   show α a=α (as.getD j 0)
   rw [ga j a ha]
  have m4:=m1.zww o.dst m3
  have m5:=hk _ hkk _ _ ⟨O2,φ2,α2,m4,fun y hy=>m2 y (k4 y hy)⟩
  unfold zpl
  revert m5
  unfold zwv
  exact id
 | pan v =>
  obtain ⟨u,O',φ',α',rfl,d1,d2,d3,d4,d5⟩:=hdone
  have fi:∀ y,FI i (fun j=>φ (bs.getD j 0)) (fun j=>α (as.getD j 0)) y→z.F y∨z.w.heap.size≤y:=fun y hy=>by
   rcases hy with ⟨j,hj,rfl⟩|⟨j,hj,hy⟩
   ·obtain ⟨b,e,k1,k2,_⟩:=pB j _ (geB j hj)
    simp only [gb j b k1]
    exact (h.bF b e k2).elim (fun q => .inl q.2) .inr
   ·obtain ⟨b,e,k1,k2,_⟩:=pA j _ (geA j hj)
    simp only [ga j b k1] at hy
    exact (h.aF b e k2 y hy).elim (fun q => .inl q.2) .inr
  obtain ⟨hsl,hkp⟩:=h5
  have h6:Rl z (σ.lost bs (as++z7s.go i.vs (as0++vs++cs0))) V w O φ α:=h.mono (Le.refl _) (fun t v hv=>(z1y hv).2) (fun t v hv=>(z1y hv).2)
  have fiB:∀ x,FI i (fun j=>φ (bs.getD j 0)) (fun j=>α (as.getD j 0)) x→(∃ b e,b∈bs∧lk σ.B b=some e∧φ b=x)∨∃ a e,a∈as∧lk σ.A a=some e∧(α a).ownBlock=some x:=fun x hx=>by
   rcases hx with ⟨j,hj,hx⟩|⟨j,hj,hx⟩
   ·obtain ⟨b,e,k1,k2,_⟩:=pB j _ (geB j hj)
    exact .inl ⟨b,e,yg k1,k2,by simp only [gb j b k1] at hx;exact hx⟩
   ·obtain ⟨b,e,k1,k2,_⟩:=pA j _ (geA j hj)
    exact .inr ⟨b,e,yg k1,k2,by simp only [ga j b k1] at hx;exact hx⟩
  have h7:=h6.move d2 (O':=fun x=>O' x∨O x) ⟨d3.size,fun b hb' hn=>d3.block b hb' fun hh=>hn hh.1,fun b hb' hn hh=>by
    rcases hh with hh|hh
    ·exact d3.owned b hb' (fun h'=>hn h'.1) hh
    ·exact hn hh⟩ (fun y hy => .inr hy) (fun x hx=>by
    rcases hx with hx|hx
    ·exact d4 x hx
    ·exact yj (h.bd x hx) d3.size) (fun b e he hx=>by
    obtain ⟨n1,k1⟩:=z1y he
    rcases fiB _ hx with ⟨b',e',m1,m2,m3⟩|⟨a,e',m1,m2,m3⟩
    ·exact h.bb b' b e' e m2 k1 (fun q=>n1 (q▸m1)) m3
    ·exact h.ab a b e' e m2 k1 m3) (fun a e he y hy hx=>by
    obtain ⟨n1,k1⟩:=z1y he
    rcases fiB _ hx with ⟨b',e',m1,m2,m3⟩|⟨a',e',m1,m2,m3⟩
    ·exact h.ab a b' e e' k1 m2 (by rw [m3];exact hy)
    ·exact h.aa a' a e' e m2 k1 (fun q=>n1 (List.mem_append_left _ (q▸m1))) y m3 hy) (Ext.after h d2 fi) (fun x hx=>by
    rcases hx with hx|hx
    ·rcases d5 x hx with h1|h1
     ·exact h.only x h1.1
     ·exact .inr (yi h.ext.size h1)
    ·exact h.only x hx)
  exact fun a ha hda=>hp v _ hkp V w' _ φ α u φ' α' h7 (fun x hx => .inr (hs x hx)) (zel v u hsl d1) a ha hda
end
end Go.Pe
end
