import Derived.Test.YtfdoofnmjehecaaGreatDoorPPfL
import Derived.Lib.FrozenHead
import Derived.Test.YtfdoofnmjehecaaGreatDoorPLmM
set_option linter.all false
namespace Go.Pe
open _root_.Nat renaming eq_of_beq_eq_true → ya, ne_of_beq_eq_false → yb
open _root_.Array renaming getElem?_eq_some_iff → yc
open Go.RowKit Go.Lk

theorem zc5 {β γ:Type} (f:β→γ):∀ (l:List (Nat × β)) (t:Nat),lk (l.map fun p=>(p.1,f p.2)) t=(lk l t).map f
 | [],t=>rfl
 | (s,v)::r,t=>by
  simp only [List.map_cons,lk]
  cases Nat.beq s t with
  | true=>rfl
  | false=>exact zc5 f r t
theorem z2w {β:Type} {s t:Nat} {x v:β} {l:List (Nat × β)} (h:lk ((s,x)::l) t=some v):(t=s∧v=x)∨(t≠s∧lk l t=some v):=by
 unfold lk at h
 split at h
 ·rename_i e
  cases h
  exact .inl ⟨(ya e).symm,rfl⟩
 ·rename_i e
  exact .inr ⟨fun h'=>yb e h'.symm,h⟩
theorem z2x {β:Type} {a t:Nat} {v:β}:∀ {l:List (Nat × β)},lk (z65 a l) t=some v→t≠a∧lk l t=some v
 | [],h=>by cases h
 | (s,x)::r,h=>by
  unfold z65 at h
  split at h
  ·rename_i e
   have e:=ya e
   subst e
   obtain ⟨h1,h2⟩:=z2x h
   refine ⟨h1,?_⟩
   unfold lk
   split
   ·rename_i e2
    exact (h1 (ya e2).symm).elim
   ·exact h2
  ·rename_i e
   have e:=yb e
   rcases z2w h with ⟨rfl,rfl⟩|⟨h1,h2⟩
   ·refine ⟨e,?_⟩
    unfold lk
    simp
   ·obtain ⟨h3,h4⟩:=z2x h2
    refine ⟨h3,?_⟩
    unfold lk
    split
    ·rename_i e2
     exact (h1 (ya e2).symm).elim
    ·exact h4
theorem z2y {β:Type} {t:Nat} {v:β}:∀ {as:List Nat} {l:List (Nat × β)},lk (z3e as l) t=some v→t∉as∧lk l t=some v
 | [],l,h=>⟨by simp,h⟩
 | a::as,l,h=>by
  obtain ⟨h1,h2⟩:=z2y (as:=as) h
  obtain ⟨h3,h4⟩:=z2x h2
  exact ⟨by simp [h1,h3],h4⟩
theorem z6k {β:Type} {a t:Nat} {x v:β}:∀ {l:List (Nat × β)},lk (zaz a x l) t=some v→(t=a∧v=x)∨(t≠a∧lk l t=some v)
 | [],h=>by cases h
 | (s,y)::r,h=>by
  unfold zaz at h
  split at h
  ·rename_i e
   have e:=ya e
   subst e
   rcases z2w h with h|⟨h1,h2⟩
   ·exact .inl h
   ·refine .inr ⟨h1,?_⟩
    unfold lk
    split
    ·rename_i e2
     exact (h1 (ya e2).symm).elim
    ·exact h2
  ·rename_i e
   have e:=yb e
   rcases z2w h with ⟨rfl,rfl⟩|⟨h1,h2⟩
   ·refine .inr ⟨e,?_⟩
    unfold lk
    simp
   ·rcases z6k h2 with h3|⟨h3,h4⟩
    ·exact .inl h3
    ·refine .inr ⟨h3,?_⟩
     unfold lk
     split
     ·rename_i e2
      exact (h1 (ya e2).symm).elim
     ·exact h4
theorem z5p {β:Type} {t:Nat} {v:β}:∀ {ks:List Nat} {l:List (Nat × β)},lk (z62 ks l) t=some v→lk l t=some v
 | [],l,h=>by cases h
 | x::r,l,h=>by
  unfold z62 at h
  split at h
  ·rename_i y e
   rcases z2w h with ⟨rfl,rfl⟩|⟨_,h2⟩
   ·exact e
   ·exact z5p h2
  ·exact z5p h

abbrev FL:=Nat→Option PV
abbrev FB:=Nat→Option Bx
abbrev FA:=Nat→Option Arr
def upd {β:Type} (f:Nat→Option β) (a:Nat) (v:β):Nat→Option β:=fun x=>if x=a then some v else f x
def del {β:Type} (f:Nat→Option β) (a:Nat):Nat→Option β:=fun x=>if x=a then none else f x
def Le {β:Type} (f g:Nat→Option β):Prop := ∀ x v,f x=some v→g x=some v
theorem Le.refl {β:Type} (f:Nat→Option β):Le f f:=fun _ _ h=>h
theorem Le.cons {β:Type} {s:Nat} {x:β} {l:List (Nat × β)}:Le (lk ((s,x)::l)) (upd (lk l) s x):=fun t v h=>by
 unfold upd
 rcases z2w h with ⟨rfl,rfl⟩|⟨h1,h2⟩
 ·simp
 ·rw [if_neg h1];exact h2
theorem Le.z65 {β:Type} {a:Nat} {l:List (Nat × β)}:Le (lk (z65 a l)) (del (lk l) a):=fun t v h=>by
 unfold del
 obtain ⟨h1,h2⟩:=z2x h
 rw [if_neg h1];exact h2
theorem Le.zaz {β:Type} {s:Nat} {x:β} {l:List (Nat × β)}:Le (lk (zaz s x l)) (upd (del (lk l) s) s x):=fun t v h=>by
 unfold upd del
 rcases z6k h with ⟨rfl,rfl⟩|⟨h1,h2⟩
 ·simp
 ·rw [if_neg h1,if_neg h1];exact h2
theorem z4q {β:Type} {f:Nat→Option β} {a t:Nat} {v x:β} (h:upd f a v t=some x):(t=a∧x=v)∨(t≠a∧f t=some x):=by
 unfold upd at h
 split at h
 ·cases h;exact .inl ⟨by assumption,rfl⟩
 ·exact .inr ⟨by assumption,h⟩
theorem z38 {β:Type} {f:Nat→Option β} {a t:Nat} {x:β} (h:del f a t=some x):t≠a∧f t=some x:=by
 unfold del at h
 split at h
 ·cases h
 ·exact ⟨by assumption,h⟩
def ren (φ:Nat→Nat) (a b:Nat):Nat→Nat:=fun x=>if x=a then b else φ x
def zdb (α:Nat→Value) (a:Nat) (v:Value):Nat→Value:=fun x=>if x=a then v else α x

structure W0 where
 w:World
 O:Nat→Prop
 F:Nat→Prop
 G:World→(Nat→Prop)→Prop
 hF:∀ x,F x→O x
 hB:Bd O w
 hG:∀ {O w O' w'},Tr O w O' w'→G w O→G w' O'
 φ0:Nat→Nat

def zrl (w:World) (O:Nat→Prop) (T m:Nat) (v:Value) (l:List (List D)):Prop :=
 ∃ xs,w.ownsRowF 0 T m v l.length xs∧RDl w O m l xs∧(∀ x∈xs,x.oneCell'=true)∧∀ b,v.ownBlock=some b→O b
def z5t (w:World) (O:Nat→Prop) (T m:Nat) (v:Value) (l:List (List D)):Prop :=
 (T<1000000∧Own w O T m v l)∨(1000000≤T∧T<2000000∧zrl w O (T - 1000000) m v l)∨(2000000≤T∧z8w w O (T - 2000000) m v l)
theorem z5t.un {w:World} {O:Nat→Prop} {T m:Nat} {v:Value} {l:List (List D)} (h:z5t w O T m v l) (ht:T<1000000):Own w O T m v l:=by
 rcases h with h|h|h
 ·exact h.2
 ·omega
 ·omega
theorem z5t.mk_ {w:World} {O:Nat→Prop} {T m:Nat} {v:Value} {l:List (List D)} (h:z5t w O T m v l) (ht:2000000≤T):z8w w O (T - 2000000) m v l:=by
 rcases h with h|h|h
 ·omega
 ·omega
 ·exact h.2
theorem zrl.keep {w w':World} {O O' F:Nat→Prop} {T m:Nat} {v:Value} {l:List (List D)} (h:zrl w O T m v l) (x:Ext F w w') (hf:∀ b,v.ownBlock=some b→¬F b) (t:Tr O w O' w') (ho:∀ b,O b→O' b):zrl w' O' T m v l:=by
 obtain ⟨xs,h1,h2,h3,h4⟩:=h
 refine ⟨xs,⟨h1.1,?_⟩,h2.tr t,h3,fun b hb=>ho b (h4 b hb)⟩
 rcases h1.2 with h5|⟨g,cap,cur,fz,rfl,h6,h7,h8⟩
 ·exact .inl h5
 ·exact .inr ⟨g,cap,cur,fz,rfl,h6,(x.block g (yc.1 h7).1 (hf g rfl)).trans h7,h8⟩
theorem z5t.nil (w:World) (O:Nat→Prop) (T m:Nat):z5t w O T m (.slice none 0 0) []:=by
 rcases Nat.lt_or_ge T 1000000 with h|h
 ·exact .inl ⟨h,Own.nil w O T m⟩
 ·rcases Nat.lt_or_ge T 2000000 with h2|h2
  ·exact .inr (.inl ⟨h,h2,[],World.ownsRowF_of (World.ownsRow_nil w 0 _ m),trivial,by simp,by simp [Value.ownBlock]⟩)
  ·exact .inr (.inr ⟨h2,z8w.nil w O _ m⟩)
theorem z5t.keep {w w':World} {O O' F:Nat→Prop} {T m:Nat} {v:Value} {l:List (List D)} (h:z5t w O T m v l) (x:Ext F w w') (hf:∀ b,v.ownBlock=some b→¬F b) (t:Tr O w O' w') (ho:∀ b,O b→O' b):z5t w' O' T m v l :=
 h.imp (fun h=>⟨h.1,h.2.keep x hf t ho⟩) fun h=>h.imp (fun h=>⟨h.1,h.2.1,h.2.2.keep x hf t ho⟩) fun h=>⟨h.1,h.2.keep x hf t ho⟩
theorem z5t.mem {w:World} {O:Nat→Prop} {T m:Nat} {v:Value} {l:List (List D)} (h:z5t w O T m v l):∀ b,v.ownBlock=some b→O b:=by
 rcases h with ⟨_,h⟩|⟨_,_,xs,_,_,_,h⟩|⟨_,xs,_,_,_,h⟩
 ·exact h.mem
 ·exact h
 ·exact h
theorem z5t.down {w:World} {O O':Nat→Prop} {T m:Nat} {v:Value} {l:List (List D)} (h:z5t w O T m v l) (ho:∀ x,O' x→O x) (hv:∀ b,v.ownBlock=some b→O' b):z5t w O' T m v l:=by
 rcases h with ⟨k,h⟩|⟨k,k',xs,h1,h2,h3,_⟩|⟨k,xs,h1,h2,h3,_⟩
 ·exact .inl ⟨k,h.down ho hv⟩
 ·exact .inr (.inl ⟨k,k',xs,h1,h2.tr (Tr.drop w ho),h3,hv⟩)
 ·exact .inr (.inr ⟨k,xs,h1,h2.tr (Tr.drop w ho),h3,hv⟩)
theorem z5t.lt {w:World} {O:Nat→Prop} {T m:Nat} {v:Value} {l:List (List D)} (h:z5t w O T m v l):∀ b,v.ownBlock=some b→b<w.heap.size:=by
 rcases h with ⟨k,h⟩|⟨k,_,xs,h1,_⟩|⟨_,h⟩
 ·exact h.lt
 ·intro b hb
  rcases h1.2 with ⟨rfl,_⟩|⟨g,cap,cur,fz,rfl,_,h7,_⟩
  ·simp [Value.ownBlock] at hb
  ·simp only [Value.ownBlock,Option.some.injEq] at hb
   subst hb
   exact (yc.1 h7).1
 ·exact h.lt
theorem z5t.len {w:World} {O:Nat→Prop} {T m:Nat} {v:Value} {l:List (List D)} (h:z5t w O T m v l):∃ p c,v = .slice p l.length c:=by
 rcases h with ⟨k,h⟩|⟨k,_,xs,h1,_⟩|⟨_,h⟩
 ·exact h.len
 ·rcases h1.2 with ⟨rfl,h0⟩|⟨g,cap,cur,fz,rfl,_⟩
  ·exact ⟨none,0,by rw [h0]⟩
  ·exact ⟨_,_,rfl⟩
 ·exact h.len
theorem z5t.data {w:World} {O:Nat→Prop} {T m:Nat} {v:Value} {l:List (List D)} (h:z5t w O T m v l) (hT:T<1000000∨2000000≤T):∃ U,RD w (Del O v) (.sl U m l) v:=by
 rcases h with ⟨_,h⟩|⟨_,_,_⟩|⟨_,h⟩
 ·exact ⟨_,h.data⟩
 ·omega
 ·exact ⟨_,h.data⟩
theorem z5t.at_ {w:World} {O:Nat→Prop} {T m:Nat} {v:Value} {l:List (List D)} (h:z5t w O T m v l) (hT:T<1000000∨2000000≤T):(v = .slice none 0 0∧l.length=0)∨∃ b cap,v = .slice (some ⟨b,0,none⟩) l.length cap:=by
 rcases h with ⟨_,xs,h,_⟩|⟨_,_,_⟩|⟨_,xs,h,_⟩
 ·rcases h.2 with h|⟨b,cap,_,h,_⟩
  ·exact .inl h
  ·exact .inr ⟨b,cap,h⟩
 ·omega
 ·rcases h.2 with h|⟨b,cap,_,_,h,_⟩
  ·exact .inl h
  ·exact .inr ⟨b,cap,h⟩

structure Rel (z:W0) (fL:FL) (fB:FB) (fA:FA) (V:Env) (w:World) (O:Nat→Prop) (φ:Nat→Nat) (α:Nat→Value):Prop where
 env:∀ t v,fL t=some v→∃ u,Env.get V t=some u∧VR w O φ α v u
 box:∀ b e,fB b=some e→O (φ b)∧∃ us,zdn w (φ b) e.T us∧VRs w O φ α e.cs us
 arr:∀ a e,fA a=some e→z5t w O e.T e.n (α a) e.l
 bb:∀ a b e e',fB a=some e→fB b=some e'→a≠b→φ a≠φ b
 aa:∀ a b e e',fA a=some e→fA b=some e'→a≠b→∀ x,(α a).ownBlock=some x→(α b).ownBlock≠some x
 ab:∀ a b e e',fA a=some e→fB b=some e'→(α a).ownBlock≠some (φ b)
 bF:∀ b e,fB b=some e→(b<1000∧z.F (φ b))∨z.w.heap.size≤φ b
 aF:∀ a e,fA a=some e→∀ x,(α a).ownBlock=some x→(e.zmv=false∧z.F x)∨z.w.heap.size≤x
 bd:Bd O w
 ext:Ext z.F z.w w
 only:∀ x,O x→z.O x∨z.w.heap.size≤x
 gl:z.G w O
 keep:∀ b,b<1000→φ b=z.φ0 b

section
variable {z:W0} {fL fL':FL} {fB fB':FB} {fA fA':FA} {V:Env} {w w':World} {O O':Nat→Prop} {φ φ':Nat→Nat} {α α':Nat→Value}
theorem Rel.mono (h:Rel z fL fB fA V w O φ α) (hL:Le fL' fL) (hB:Le fB' fB) (hA:Le fA' fA):Rel z fL' fB' fA' V w O φ α :=
 ⟨fun t v e=>h.env t v (hL _ _ e),fun b e k=>h.box b e (hB _ _ k),fun b e k=>h.arr b e (hA _ _ k),fun a b e e' k k'=>h.bb a b e e' (hB _ _ k) (hB _ _ k'),
  fun a b e e' k k'=>h.aa a b e e' (hA _ _ k) (hA _ _ k'),fun a b e e' k k'=>h.ab a b e e' (hA _ _ k) (hB _ _ k'),fun b e k=>h.bF b e (hB _ _ k),fun a e k=>h.aF a e (hA _ _ k),h.bd,h.ext,h.only,h.gl,h.keep⟩
theorem Rel.move {H:Nat→Prop} (h:Rel z fL fB fA V w O φ α) (x:Ext H w w') (t:Tr O w O' w') (more:∀ y,O y→O' y) (bd':Bd O' w') (hB:∀ b e,fB b=some e→¬H (φ b)) (hA:∀ a e,fA a=some e→∀ y,(α a).ownBlock=some y→¬H y)
  (hx:Ext z.F z.w w') (only':∀ x,O' x→z.O x∨z.w.heap.size≤x):Rel z fL fB fA V w' O' φ α:=by
 refine ⟨fun s v e => ?_,fun b e k => ?_,fun a e k=>(h.arr a e k).keep x (hA a e k) t more,h.bb,h.aa,h.ab,h.bF,h.aF,bd',hx,only',z.hG t h.gl,h.keep⟩
 ·obtain ⟨u,h1,h2⟩:=h.env s v e
  exact ⟨u,h1,h2.tr t⟩
 ·obtain ⟨h1,us,h2,h3⟩:=h.box b e k
  exact ⟨more _ h1,us,h2.keep x (hB b e k),VRs.tr t _ _ h3⟩
theorem Rel.re {kb ka:Nat→Prop} (h:Rel z fL fB fA V w O φ α) (hk:∀ x,x<1000→kb x) (hφ:∀ x,kb x→φ' x=φ x) (hα:∀ x,ka x→α' x=α x) (hL:∀ t v,fL t=some v→z3h kb ka v) (hB:∀ b e,fB b=some e→kb b∧z3h.go kb ka e.cs) (hA:∀ a e,fA a=some e→ka a):Rel z fL fB fA V w O φ' α':=by
 have eb:∀ b e,fB b=some e→φ' b=φ b:=fun b e k=>hφ b (hB b e k).1
 have ea:∀ b e,fA b=some e→α' b=α b:=fun b e k=>hα b (hA b e k)
 refine ⟨fun s v e => ?_,fun b e k => ?_,fun a e k => ?_,fun a b e e' k k' hn => ?_,fun a b e e' k k' hn => ?_,fun a b e e' k k' => ?_,fun b e k => ?_,fun a e k => ?_,h.bd,h.ext,h.only,h.gl,fun b hb=>(hφ b (hk b hb)).trans (h.keep b hb)⟩
 ·obtain ⟨u,h1,h2⟩:=h.env s v e
  exact ⟨u,h1,VR.re hφ hα _ _ (hL _ _ e) h2⟩
 ·obtain ⟨h1,us,h2,h3⟩:=h.box b e k
  rw [eb b e k]
  exact ⟨h1,us,h2,VRs.re hφ hα _ _ (hB b e k).2 h3⟩
 ·rw [ea a e k];exact h.arr a e k
 ·rw [eb a e k,eb b e' k'];exact h.bb a b e e' k k' hn
 ·rw [ea a e k,ea b e' k'];exact h.aa a b e e' k k' hn
 ·rw [ea a e k,eb b e' k'];exact h.ab a b e e' k k'
 ·rw [eb b e k];exact h.bF b e k
 ·rw [ea a e k];exact h.aF a e k
theorem Rel.put (h:Rel z fL fB fA V w O φ α) {d:Nat} {v:PV} {u:Value} (hv:VR w O φ α v u):Rel z (upd fL d v) fB fA ((d,u)::V) w O φ α:=by
 refine ⟨fun t x e => ?_,h.box,h.arr,h.bb,h.aa,h.ab,h.bF,h.aF,h.bd,h.ext,h.only,h.gl,h.keep⟩
 rcases z4q e with ⟨rfl,rfl⟩|⟨h1,h2⟩
 ·exact ⟨u,by simp [Env.get],hv⟩
 ·obtain ⟨u',h3,h4⟩:=h.env t x h2
  refine ⟨u',?_,h4⟩
  unfold Env.get
  split
  ·rename_i e2
   exact (h1 (ya e2).symm).elim
  ·exact h3
theorem Rel.zuz (h:Rel z fL fB fA V w O φ α) {b:Nat} {e:Bx} {us:List Value} (ho:O (φ b)) (hb:zdn w (φ b) e.T us) (hv:VRs w O φ α e.cs us) (h1:∀ c e',fB c=some e'→c≠b→φ c≠φ b) (h2:∀ a e',fA a=some e'→(α a).ownBlock≠some (φ b))
  (h3:(b<1000∧z.F (φ b))∨z.w.heap.size≤φ b):Rel z fL (upd fB b e) fA V w O φ α:=by
 refine ⟨h.env,fun c e' k => ?_,h.arr,fun c d e1 e2 k1 k2 hn => ?_,h.aa,fun a c e1 e2 k1 k2 => ?_,fun c e' k => ?_,h.aF,h.bd,h.ext,h.only,h.gl,h.keep⟩
 ·rcases z4q k with ⟨rfl,rfl⟩|⟨_,k⟩
  ·exact ⟨ho,us,hb,hv⟩
  ·exact h.box c e' k
 ·rcases z4q k1 with ⟨rfl,rfl⟩|⟨n1,j1⟩<;>rcases z4q k2 with ⟨rfl,rfl⟩|⟨n2,j2⟩
  ·exact (hn rfl).elim
  ·exact fun e=>h1 d e2 j2 n2 e.symm
  ·exact h1 c e1 j1 n1
  ·exact h.bb c d e1 e2 j1 j2 hn
 ·rcases z4q k2 with ⟨rfl,rfl⟩|⟨n2,k2⟩
  ·exact h2 a e1 k1
  ·exact h.ab a c e1 e2 k1 k2
 ·rcases z4q k with ⟨rfl,rfl⟩|⟨_,k⟩
  ·exact h3
  ·exact h.bF c e' k
theorem Rel.ztb (h:Rel z fL fB fA V w O φ α) {a:Nat} {e:Arr} (ho:z5t w O e.T e.n (α a) e.l) (h1:∀ c e',fA c=some e'→c≠a→∀ x,(α c).ownBlock=some x→(α a).ownBlock≠some x) (h2:∀ b e',fB b=some e'→(α a).ownBlock≠some (φ b))
  (h3:∀ x,(α a).ownBlock=some x→(e.zmv=false∧z.F x)∨z.w.heap.size≤x):Rel z fL fB (upd fA a e) V w O φ α:=by
 refine ⟨h.env,h.box,fun c e' k => ?_,h.bb,fun c d e1 e2 k1 k2 hn => ?_,fun c b e1 e2 k1 k2 => ?_,h.bF,fun c e' k => ?_,h.bd,h.ext,h.only,h.gl,h.keep⟩
 ·rcases z4q k with ⟨rfl,rfl⟩|⟨_,k⟩
  ·exact ho
  ·exact h.arr c e' k
 ·rcases z4q k1 with ⟨rfl,rfl⟩|⟨n1,j1⟩<;>rcases z4q k2 with ⟨rfl,rfl⟩|⟨n2,j2⟩
  ·exact (hn rfl).elim
  ·exact fun x e=>fun e'=>h1 d e2 j2 n2 x e' e
  ·exact h1 c e1 j1 n1
  ·exact h.aa c d e1 e2 j1 j2 hn
 ·rcases z4q k1 with ⟨rfl,rfl⟩|⟨n1,k1⟩
  ·exact h2 b e2 k2
  ·exact h.ab c b e1 e2 k1 k2
 ·rcases z4q k with ⟨rfl,rfl⟩|⟨_,k⟩
  ·exact h3
  ·exact h.aF c e' k
theorem Rel.zm3 (h:Rel z fL fB fA V w O φ α) {b:Nat} {e:Bx} (k:fB b=some e):φ b<w.heap.size:=h.bd _ (h.box b e k).1
theorem Rel.zp2 (h:Rel z fL fB fA V w O φ α) {a:Nat} {e:Arr} (k:fA a=some e) {x:Nat} (hx:(α a).ownBlock=some x):x<w.heap.size:=(h.arr a e k).lt x hx
theorem Rel.ztd (h:Rel z fL fB fA V w O φ α) {a:Nat} {e:Arr} (k:fA a=some e) {x:Nat} (hx:(α a).ownBlock=some x):O x:=(h.arr a e k).mem x hx
end
end Go.Pe
