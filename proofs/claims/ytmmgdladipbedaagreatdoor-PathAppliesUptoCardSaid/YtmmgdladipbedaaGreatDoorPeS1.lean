import Derived.Test.YtmmgdladipbedaaGreatDoorPeQ
set_option linter.all false
namespace Go.Pe
open _root_.Option renaming map_eq_some_iff → ya
open _root_.Bool renaming and_eq_true → yb
open _root_.List renaming all_eq_true → yc, mem_cons → yd
open _root_.Nat renaming eq_of_beq_eq_true → ye
open Go.RowKit Go.Lk
variable [Lb]

theorem zbh {β:Type}:∀ {l:List (Nat × β)} {t:Nat} {v:β},lk l t=some v→(t,v)∈l
 | (s,x)::r,t,v,h=>by
  rcases z0t h with ⟨rfl,rfl⟩|⟨_,h⟩
  ·exact List.mem_cons_self
  ·exact List.mem_cons_of_mem _ (zbh h)
theorem z94 {β:Type} {a t:Nat} (hn:t≠a):∀ {l:List (Nat × β)},lk (z88 a l) t=lk l t
 | []=>rfl
 | (s,x)::r=>by
  unfold z88
  split
  ·rename_i e
   have e:=ye e
   subst e
   rw [z94 hn]
   show lk r t=match Nat.beq s t with
    | true=>some x
    | false=>lk r t
   split
   ·rename_i e2
    exact (hn (ye e2).symm).elim
   ·rfl
  ·simp only [lk]
   split
   ·rfl
   ·exact z94 hn
section
variable {z:W0} {fL fL':FL} {fB fB':FB} {fA fA':FA} {V:Env} {w w':World} {O O':Nat→Prop} {φ φ':Nat→Nat} {α α':Nat→Value} {σ σ':St}
mutual
theorem znd {a:Nat} {e:Arr} (ho:Own w O e.T e.n (α a) e.l):∀ (v:PV) (u:Value),VR w O φ α v u→VR w (Del O (α a)) φ α (z6z a e v) u
 | .int k n,u,h=>by simpa [VR,z6z] using h
 | .bool b,u,h=>by simpa [VR,z6z] using h
 | .str s,u,h=>by simpa [VR,z6z] using h
 | .sl T n l,u,h=>by simp only [VR,z6z] at h ⊢;exact h.tr (Tr.drop w fun x hx=>hx.1)
 | .fsl T n l,u,h=>by simp only [VR,z6z] at h ⊢;exact h.tr (Tr.drop w fun x hx=>hx.1)
 | .slx T n l v,u,h=>⟨h.1,h.2.tr (Tr.drop w fun x hx=>hx.1)⟩
 | .nil,u,h=>by simpa [VR,z6z] using h
 | .ref x,u,h=>by
  unfold z6z
  split
  ·rename_i hb
   have hb:=ye hb
   subst hb
   simp only [VR] at h ⊢
   rw [h.1]
   exact ho.data
  ·exact h
 | .ptr b off,u,h=>by simpa [VR,z6z] using h
 | .z9k cs off v,u,h=>by
  obtain ⟨h0,b,q,h1,h2⟩:=h
  exact ⟨h0,b,q,h1,z3m.tr h2 (Tr.drop w fun x hx=>hx.1)⟩
 | .z09 cs off,u,h=>by
  simp only [VR,z6z] at h ⊢
  obtain ⟨b,q,h1,h2⟩:=h
  exact ⟨b,q,h1,z3m.tr h2 (Tr.drop w fun x hx=>hx.1)⟩
 | .z8y x m i off,u,h=>by
  unfold z6z
  split
  ·trivial
  ·exact h
 | .agg cs,u,h=>by
  simp only [VR,z6z] at h ⊢
  obtain ⟨us,h1,h2⟩:=h
  exact ⟨us,h1,z8z ho cs us h2⟩
 | .tup cs,u,h=>by
  simp only [VR,z6z] at h ⊢
  obtain ⟨us,h1,h2⟩:=h
  exact ⟨us,h1,z8z ho cs us h2⟩
 | .iface T v,u,h=>by
  simp only [VR,z6z] at h ⊢
  obtain ⟨x,h1,h2⟩:=h
  exact ⟨x,h1,znd ho v x h2⟩
 | .zc7,u,h=>by simpa [VR,z6z] using h
 | .fn f as cs,u,h=>by
  simp only [VR,z6z] at h ⊢
  obtain ⟨us,vs,h1,h2,h3⟩:=h
  exact ⟨us,vs,h1,z8z ho as us h2,z8z ho cs vs h3⟩
 | .zfc,u,h=>by simpa [VR,z6z] using h
 | .undef,u,h=>by simp only [VR,z6z]
 | .gone,u,h=>h
 | .z0g _,u,h=>h
 | .err _,u,h=>h
 | .mp _,u,h=>h
 | .md c,u,h=>by simp only [VR,z6z] at h ⊢;exact h.tr (Tr.drop w fun x hx=>hx.1)
theorem z8z {a:Nat} {e:Arr} (ho:Own w O e.T e.n (α a) e.l):∀ (vs:List PV) (us:List Value),VRs w O φ α vs us→VRs w (Del O (α a)) φ α (z6z.go a e vs) us
 | [],us,h=>h
 | v::vs,us,h=>by
  obtain ⟨u,us',h1,h2,h3⟩:=h
  exact ⟨u,us',h1,znd ho v u h2,z8z ho vs us' h3⟩
end
theorem zg6 {a:Nat} {e:Arr}:∀ (vs:List PV),z6z.go a e vs=vs.map (z6z a e)
 | []=>rfl
 | v::vs=>by simp only [z6z.go,List.map_cons,zg6 vs]
def z8u (O:Nat→Prop) (α:Nat→Value) (fA:FA) (ls:List Nat):Nat→Prop:=fun x=>O x∧∀ a∈ls,(fA a).isSome=true→(α a).ownBlock≠some x
theorem Rel.ztk (h:Rel z fL fB fA V w O φ α) {a:Nat} {e:Arr} (k:fA a=some e) (hT:e.T<1000000):Rel z (fun t=>(fL t).map (z6z a e)) (fun b=>(fB b).map fun x => { x with cs:=x.cs.map (z6z a e) }) (del fA a) V w (Del O (α a)) φ α:=by
 have ho:=(h.arr a e k).un hT
 have td:Tr O w (Del O (α a)) w:=Tr.drop w fun x hx=>hx.1
 refine ⟨fun t v hv => ?_,fun b e' hb => ?_,fun b e' hb => ?_,fun b c e1 e2 h1 h2 hn => ?_,fun b c e1 e2 h1 h2 hn => ?_,fun b c e1 e2 h1 h2 => ?_,fun b e' hb => ?_,fun b e' hb => ?_,fun x hx=>h.bd x hx.1,h.ext,fun x hx=>h.only x hx.1,z.hG td h.gl,h.keep⟩
 ·obtain ⟨v',h1,rfl⟩:=ya.1 hv
  obtain ⟨u,h2,h3⟩:=h.env t v' h1
  exact ⟨u,h2,znd ho v' u h3⟩
 ·obtain ⟨x,h1,rfl⟩:=ya.1 hb
  obtain ⟨h2,us,h3,h4⟩:=h.box b x h1
  refine ⟨⟨h2,h.ab a b e x k h1⟩,us,h3,?_⟩
  rw [←zg6]
  exact z8z ho _ _ h4
 ·obtain ⟨h1,h2⟩:=z2d hb
  exact (h.arr b e' h2).down (fun x hx=>hx.1) fun x hx=>⟨h.zxl h2 hx,fun hh=>h.aa b a e' e h2 k h1 x hx hh⟩
 ·obtain ⟨x1,h3,rfl⟩:=ya.1 h1
  obtain ⟨x2,h4,rfl⟩:=ya.1 h2
  exact h.bb b c x1 x2 h3 h4 hn
 ·exact h.aa b c e1 e2 (z2d h1).2 (z2d h2).2 hn
 ·obtain ⟨x2,h4,rfl⟩:=ya.1 h2
  exact h.ab b c e1 x2 (z2d h1).2 h4
 ·obtain ⟨x,h1,rfl⟩:=ya.1 hb
  exact h.bF b x h1
 ·exact h.aF b e' (z2d hb).2
abbrev Rl (z:W0) (σ:St) (V:Env) (w:World) (O:Nat→Prop) (φ:Nat→Nat) (α:Nat→Value):Prop:=Rel z (lk σ.L) (lk σ.B) (lk σ.A) V w O φ α
theorem z19:∀ (ls:List Nat) {σ σ':St} {O:Nat→Prop},Rl z σ V w O φ α→(∀ x,z.O x→O x)→σ.freeze ls=some σ'→Rl z σ' V w (z8u O α (lk σ.A) ls) φ α∧(∀ x,z.O x→z8u O α (lk σ.A) ls x)∧Le (lk σ'.A) (lk σ.A)∧(∀ a∈ls,lk σ'.A a=none)
 | [],σ,σ',O,h,hs,e=>by
  simp only [St.freeze,Option.some.injEq] at e
  subst e
  have:z8u O α (lk σ.A) []=O:=by funext x;simp [z8u]
  rw [this]
  exact ⟨h,hs,Le.refl _,by simp⟩
 | a::ls,σ,σ',O,h,hs,e=>by
  unfold St.freeze at e
  split at e
  ·rename_i ar ha
   split at e
   ·rename_i hm
    rw [yb] at hm
    have hT:ar.T<1000000:=by simpa [Nat.blt_eq] using hm.2
    have hm:=hm.1
    have h1:=h.ztk ha hT
    have h2:Rl z ({ (σ.zxy (z6z a ar)) with A:=z88 a σ.A }:St) V w (Del O (α a)) φ α:=h1.mono (fun t v hv=>by
     simp only [St.zxy] at hv
     rwa [zd8] at hv) (fun t v hv=>by
     simp only [St.zxy] at hv
     exact (zd8 (fun x:Bx=>({ x with cs:=x.cs.map (z6z a ar) }:Bx)) σ.B t).symm.trans hv) Le.z88
    obtain ⟨h3,h4,h5,h6⟩:=z19 ls h2 (fun x hx=>⟨hs x hx,fun hh=>by
     rcases h.aF a ar ha x hh with ⟨h5,_⟩|h5
     ·rw [hm] at h5;cases h5
     ·have:=z.hB x hx;omega⟩) e
    have heq:z8u (Del O (α a)) α (lk (z88 a σ.A)) ls=z8u O α (lk σ.A) (a::ls):=by
     funext x
     apply propext
     simp only [z8u,Del,yd,forall_eq_or_imp]
     constructor
     ·rintro ⟨⟨k1,k2⟩,k3⟩
      refine ⟨k1,fun _=>k2,fun b hb hsome => ?_⟩
      by_cases hba:b=a
      ·subst hba;exact k2
      ·exact k3 b hb (by rw [z94 hba];exact hsome)
     ·rintro ⟨k1,k2,k3⟩
      refine ⟨⟨k1,k2 (by rw [ha];rfl)⟩,fun b hb hsome=>k3 b hb ?_⟩
      obtain ⟨y,hy⟩:=Option.isSome_iff_exists.1 hsome
      rw [(z2m hy).2];rfl
    rw [←heq]
    refine ⟨h3,h4,fun t v hv=>(z2m (h5 t v hv)).2,fun b hb => ?_⟩
    rcases yd.1 hb with rfl|hb
    ·cases hq:lk σ'.A b with
     | none=>rfl
     | some y=>exact ((z2m (h5 b y hq)).1 rfl).elim
    ·exact h6 b hb
   ·cases e
  ·rename_i ha
   obtain ⟨h3,h4,h5,h6⟩:=z19 ls h hs e
   have heq:z8u O α (lk σ.A) ls=z8u O α (lk σ.A) (a::ls):=by
    funext x
    apply propext
    simp [z8u,ha]
   rw [←heq]
   refine ⟨h3,h4,h5,fun b hb => ?_⟩
   rcases yd.1 hb with rfl|hb
   ·cases hq:lk σ'.A b with
    | none=>rfl
    | some y=>rw [h5 b y hq] at ha;cases ha
   ·exact h6 b hb

theorem z7n {a:Nat} (h:σ.z4q a=true):lk σ.A a=none∧(∀ t v,lk σ.L t=some v→z2r (fun _=>True) (fun x=>x≠a) v)∧∀ b e,lk σ.B b=some e→z2r.go (fun _=>True) (fun x=>x≠a) e.cs:=by
 simp only [St.z4q,yb,yc] at h
 obtain ⟨⟨h1,h2⟩,h3⟩:=h
 refine ⟨by simpa using h1,fun t v hv=>noK.a (x:=0) (h2 _ (zbh hv)),fun b e he=>z96.a (h3 _ (zbh he))⟩
theorem z7o {a:Nat} (h:σ.z5j a=true):(1000≤a∧lk σ.B a=none)∧(∀ t v,lk σ.L t=some v→z2r (fun x=>x≠a) (fun _=>True) v)∧∀ b e,lk σ.B b=some e→z2r.go (fun x=>x≠a) (fun _=>True) e.cs:=by
 simp only [St.z5j,yb,yc] at h
 obtain ⟨⟨⟨h0,h1⟩,h2⟩,h3⟩:=h
 refine ⟨⟨Nat.le_of_ble_eq_true h0,by simpa using h1⟩,fun t v hv=>noK.b (x:=0) (h2 _ (zbh hv)),fun b e he=>z96.b (h3 _ (zbh he))⟩
theorem Rel.reA (h:Rl z σ V w O φ α) {a:Nat} (hf:σ.z4q a=true) (v:Value):Rl z σ V w O φ (zex α a v):=by
 obtain ⟨h1,h2,h3⟩:=z7n hf
 refine h.re (kb:=fun _=>True) (ka:=fun x=>x≠a) (fun _ _=>trivial) (fun _ _=>rfl) (fun x hx=>by simp [zex,hx]) h2 (fun b e k=>⟨trivial,h3 b e k⟩) fun b e k hb => ?_
 subst hb
 rw [h1] at k
 cases k
theorem Rel.reB (h:Rl z σ V w O φ α) {b:Nat} (hf:σ.z5j b=true) (g:Nat):Rl z σ V w O (ren φ b g) α:=by
 obtain ⟨⟨h0,h1⟩,h2,h3⟩:=z7o hf
 refine h.re (kb:=fun x=>x≠b) (ka:=fun _=>True) (fun x hx=>by omega) (fun x hx=>by simp [ren,hx]) (fun _ _=>rfl) h2 (fun c e k=>⟨fun hb => ?_,h3 c e k⟩) fun _ _ _=>trivial
 subst hb
 rw [h1] at k
 cases k

theorem VRs.set:∀ {cs:List PV} {us:List Value} {j:Nat} {v x:PV},VRs w O φ α cs us→cs[j]? = some v→(∀ u,VR w O φ α v u→VR w O φ α x u)→VRs w O φ α (cs.set j x) us
 | c::cs,us,0,v,x,h,e,hx=>by
  obtain ⟨u,us',rfl,h2,h3⟩:=h
  simp at e
  subst e
  exact ⟨u,us',rfl,hx u h2,h3⟩
 | c::cs,us,j+1,v,x,h,e,hx=>by
  obtain ⟨u,us',rfl,h2,h3⟩:=h
  exact ⟨u,us',rfl,h2,VRs.set h3 (by simpa using e) hx⟩
theorem z6a (h:Rl z σ V w O φ α) {p:Place} {v x:PV} (hp:σ.at p=some v) (hx:∀ u,VR w O φ α v u→VR w O φ α x u):Rl z (σ.set x p) V w O φ α:=by
 cases p with
 | slot t leaf =>
  unfold St.at at hp
  unfold St.set
  simp only at hp ⊢
  split at hp
  ·rename_i v0 hv0
   refine ⟨fun s y hy => ?_,h.box,h.arr,h.bb,h.aa,h.ab,h.bF,h.aF,h.bd,h.ext,h.only,h.gl,h.keep⟩
   rcases z5u hy with ⟨rfl,rfl⟩|⟨_,h2⟩
   ·obtain ⟨u,h3,h4⟩:=h.env _ _ hv0
    refine ⟨u,h3,?_⟩
    cases leaf with
    | none =>
     simp only [zns,Option.some.injEq] at hp
     subst hp
     exact hx u h4
    | some j =>
     cases v0<;>simp only [zns,reduceCtorEq] at hp
     obtain ⟨us,h5,h6⟩:=h4
     exact ⟨us,h5,VRs.set h6 hp hx⟩
   ·exact h.env s y h2
  ·cases hp
 | cell b j =>
  unfold St.at at hp
  unfold St.set
  simp only at hp ⊢
  split at hp
  ·rename_i e he
   refine ⟨h.env,fun c e' hc => ?_,h.arr,fun c c' e1 e2 h1 h2 hn => ?_,h.aa,fun a c e1 e2 h1 h2 => ?_,fun c e' hc => ?_,h.aF,h.bd,h.ext,h.only,h.gl,h.keep⟩
   ·rcases z5u hc with ⟨rfl,rfl⟩|⟨_,h2⟩
    ·obtain ⟨h3,us,h4,h5⟩:=h.box _ _ he
     exact ⟨h3,us,h4,VRs.set h5 hp hx⟩
    ·exact h.box c e' h2
   ·rcases z5u h1 with ⟨rfl,rfl⟩|⟨n1,j1⟩<;>rcases z5u h2 with ⟨rfl,rfl⟩|⟨n2,j2⟩
    ·exact (hn rfl).elim
    ·exact h.bb _ _ _ _ he j2 hn
    ·exact h.bb _ _ _ _ j1 he hn
    ·exact h.bb _ _ _ _ j1 j2 hn
   ·rcases z5u h2 with ⟨rfl,rfl⟩|⟨n2,h2⟩
    ·exact h.ab _ _ _ _ h1 he
    ·exact h.ab _ _ _ _ h1 h2
   ·rcases z5u hc with ⟨rfl,rfl⟩|⟨_,h2⟩
    ·exact h.bF _ _ he
    ·exact h.bF _ _ h2
  ·cases hp
theorem zul (σ:St) (x:PV) (p:Place):(σ.set x p).A=σ.A:=by
 cases p<;>simp only [St.set]<;>split<;>rfl
theorem z7f.zzy {w:World} {O:Nat→Prop} {T m:Nat} {v:Value} {l:List (List D)} (h:z7f w O T m v l):v.oneCell'=true:=by
 obtain ⟨p,c,rfl⟩:=h.len
 rfl
theorem z3x:∀ (hs:List (Place × Nat × Nat × Nat)) {σ σ':St} {α:Nat→Value},Rl z σ V w O φ α→σ.home hs=some σ'→∃ α',Rl z σ' V w O φ α'
 | [],σ,σ',α,h,e=>by
  simp only [St.home,Option.some.injEq] at e
  subst e
  exact ⟨α,h⟩
 | (p,a,T,m)::hs,σ,σ',α,h,e=>by
  unfold St.home at e
  split at e
  ·rename_i hp
   split at e
   ·rename_i hf
    have h1:=h.reA hf (.slice none 0 0)
    have h2:Rl z (σ.set (.ref a) p) V w O φ (zex α a (.slice none 0 0)):=z6a h1 hp fun u hu=>by
     simp only [VR] at hu ⊢
     subst hu
     exact ⟨by simp [zex],rfl⟩
    have h3:Rl z ({ (σ.set (.ref a) p) with A:=(a,⟨true,T,m,[]⟩)::σ.A }:St) V w O φ (zex α a (.slice none 0 0)):=by
     have e1:zex α a (.slice none 0 0) a = .slice none 0 0:=by simp [zex]
     have h4:=h2.zxj (a:=a) (e:=⟨true,T,m,[]⟩) (by rw [e1];exact z7f.nil w O T m) (fun c e' _ _ x _=>by rw [e1];simp [Value.ownBlock]) (fun b e' _=>by rw [e1];simp [Value.ownBlock]) (fun x hx=>by rw [e1] at hx;simp [Value.ownBlock] at hx)
     refine h4.mono (Le.refl _) (Le.refl _) ?_
     rw [zul]
     exact Le.cons
    exact z3x hs h3 e
   ·cases e
  ·rename_i x hp
   split at e
   ·exact z3x hs h e
   ·rename_i hxa
    split at e
    ·rename_i ar har hf
     have h1:=h.reA hf (α x)
     have hne:=Nat.ne_of_beq_eq_false hxa
     have ex:zex α a (α x) x=α x:=by simp [zex]
     have ea:zex α a (α x) a=α x:=by simp [zex]
     have h2:Rl z (σ.set (.ref a) p) V w O φ (zex α a (α x)):=z6a h1 hp fun u hu=>by
      simp only [VR] at hu ⊢
      rw [ea]
      rw [ex] at hu
      exact hu
     have h3:Rl z ({ (σ.set (.ref a) p) with A:=(a,ar)::z88 x σ.A }:St) V w O φ (zex α a (α x)):=by
      have h5:=h2.mono (Le.refl _) (Le.refl _) (fA':=del (lk σ.A) x) (by rw [zul];exact fun t v hv=>(z2d hv).2)
      have hax:=h1.arr x ar har
      have haa:=h1.aa
      have hab:=h2.ab
      rw [zul] at hab
      have haF:=h1.aF x ar har
      rw [ex] at hax haF
      have h4:=h5.zxj (a:=a) (e:=ar) (by rw [ea];exact hax) (fun c e' hc _ y hy=>by
       rw [ea]
       have:=haa c x e' ar (z2d hc).2 har (z2d hc).1 y hy
       rwa [ex] at this) (fun b e' hb=>by
       rw [ea]
       have:=hab x b ar e' har hb
       rwa [ex] at this) (fun y hy=>by rw [ea] at hy;exact haF y hy)
      refine h4.mono (Le.refl _) (Le.refl _) ?_
      intro t v hv
      rcases z0t hv with ⟨rfl,rfl⟩|⟨h7,h8⟩
      ·simp [upd]
      ·simp only [upd,if_neg h7]
       exact Le.z88 _ _ h8
     exact z3x hs h3 e
    ·cases e
  ·cases e
theorem z95:∀ (l:List (Place × Nat × Nat)) {σ σ':St},Rl z σ V w O φ α→σ.zvg l=some σ'→Rl z σ' V w O φ α
 | [],σ,σ',h,e=>by
  simp only [St.zvg,Option.some.injEq] at e
  subst e
  exact h
 | (p,T,m)::r,σ,σ',h,e=>by
  unfold St.zvg at e
  split at e
  ·rename_i hp
   exact z95 r (z6a h hp fun u hu=>by
    simp only [VR] at hu
    subst hu
    exact .inl ⟨⟨_,rfl⟩,rfl⟩) e
  ·exact z95 r h e
  ·cases e
theorem zl0 (h:Rl z σ V w O φ α) {c:Cut} (e:σ.zyk c=some σ'):∃ α',Rl z σ' V w O φ α':=by
 unfold St.zyk at e
 split at e
 ·rename_i s hs
  split at e
  ·rename_i s2 hs2
   cases e
   obtain ⟨α',h1⟩:=z3x c.H (σ:={ σ with L:=z5l c.L σ.L,B:=z5l c.B σ.B }) (h.mono (fun _ _=>z5c) (fun _ _=>z5c) (Le.refl _)) hs
   exact ⟨α',(z95 c.N h1 hs2).mono (Le.refl _) (Le.refl _) (fun _ _=>z5c)⟩
  ·cases e
 ·cases e
theorem zb7:∀ (l:List Nat) {σ:St},Rl z σ V w O φ α→Rl z (σ.itN l) V w O φ α
 | [],_,h=>h
 | b::r,σ,h=>by
  unfold St.itN
  split
  ·rename_i ky g cur rem hp
   refine zb7 r (z6a h hp fun u hu => ?_)
   obtain ⟨m,seen,clock,es,h1,h2,h3,_⟩:=hu
   exact ⟨m,seen,clock,es,h1,h2,h3,trivial⟩
  ·exact zb7 r h
theorem zfx (h:Rl z σ V w O φ α) (hs:∀ x,z.O x→O x) {c:Cut} (e:σ.cut c=some σ'):∃ O' α',Rl z σ' V w O' φ α'∧∀ x,z.O x→O' x:=by
 unfold St.cut at e
 split at e
 ·rename_i s h1
  obtain ⟨k1,k2,_⟩:=z19 _ h hs h1
  obtain ⟨α',k3⟩:=zl0 (zb7 c.I k1) e
  exact ⟨_,α',k3,k2⟩
 ·cases e
end
end Go.Pe
