import Derived.Test.YtmmgdladipbedaaGreatDoorLkH
set_option linter.all false
namespace Go.Pe
open _root_.Bool renaming and_eq_true → ya
open _root_.List renaming toArray → yb
open Go.RowKit Go.Lk
variable [Lb]

inductive PV where
 | int (k:IntKind) (n:Int)
 | bool (b:Bool)
 | str (s:List UInt8)
 | sl (T n:Nat) (l:List (List D))
 | fsl (T n:Nat) (l:List (List D))
 | slx (T n:Nat) (l:List (List D)) (u:Value)
 | nil
 | ref (a:Nat)
 | ptr (b off:Nat)
 | z09 (cs:List D) (off:Nat)
 | z9k (cs:List D) (off:Nat) (u:Value)
 | z8y (a m:Nat) (i:Int) (off:Nat)
 | agg (cs:List PV)
 | tup (vs:List PV)
 | iface (T:Nat) (v:PV)
 | zc7
 | fn (f:Nat) (as cs:List PV)
 | zfc
 | undef
 | gone
 | z0g (b:Nat)
 | err (b:Bool)
 | mp (b:Nat)
 | md (c:MC)

def VR (w:World) (O:Nat→Prop) (φ:Nat→Nat) (α:Nat→Value):PV→Value→Prop
 | .int k n,u=>u = .int k n
 | .bool b,u=>u = .bool b
 | .str s,u=>u = .string ⟨s.toArray⟩
 | .sl T n l,u=>RD w O (.sl T n l) u
 | .fsl T n l,u=>RD w O (.fsl T n l) u
 | .slx T n l v,u=>u=v∧RD w O (.sl T n l) u
 | .nil,u=>u = .slice none 0 0
 | .ref a,u=>u=α a∧u.oneCell'=true
 | .ptr b off,u=>u = .pointer (some ⟨φ b,off,none⟩)
 | .z09 cs off,u=>∃ b q,u = .pointer (some ⟨b,q+off,none⟩)∧z3m w O b q cs.length cs
 | .z9k cs off v,u=>u=v∧∃ b q,u = .pointer (some ⟨b,q+off,none⟩)∧z3m w O b q cs.length cs
 | .z8y a m i off,u=>∃ (b len cap j:Nat),α a = .slice (some ⟨b,0,none⟩) len cap∧i=(j:Nat)∧u = .pointer (some ⟨b,j*m+off,none⟩)
 | .agg cs,u=>∃ us,u = .agg (yb us)∧VRs cs us
 | .tup cs,u=>∃ us,u = .tuple (yb us)∧VRs cs us
 | .iface T v,u=>∃ x,u = .iface T x∧VR w O φ α v x
 | .zc7,u=>u = .nilIface
 | .fn f as cs,u=>∃ us vs,u = .func (.func f) (yb us) (yb vs)∧VRs as us∧VRs cs vs
 | .zfc,u=>u = .pointer none
 | .undef,_=>True
 | .gone,u=>u=Go.undef
 | .z0g b,u=>u = .pointer none∨u = .pointer (some ⟨φ b,0,none⟩)
 | .err b,u=>(b=true∧u = .nilIface)∨(b=false∧∃ T v,u = .iface T v)
 | .mp b,u=>u = .map (some (φ b))
 | .md c,u=>MR w O c u
where
 VRs:List PV→List Value→Prop
 | [],us=>us=[]
 | v::vs,us=>∃ u us',us=u::us'∧VR w O φ α v u∧VRs vs us'
abbrev VRs (w:World) (O:Nat→Prop) (φ:Nat→Nat) (α:Nat→Value) (vs:List PV) (us:List Value):Prop:=VR.VRs w O φ α vs us

theorem z3m.tr {w w':World} {O O':Nat→Prop} {b q n:Nat} {x:List D} (h:z3m w O b q n x) (t:Tr O w O' w'):z3m w' O' b q n x:=by
 obtain ⟨cs,h1,h2,h3⟩:=h
 exact ⟨cs,h1,h2.tr t,h3.tr t⟩
section
variable {w w':World} {O O':Nat→Prop} {φ φ':Nat→Nat} {α α':Nat→Value}
mutual
theorem VR.tr (t:Tr O w O' w'):∀ (v:PV) (u:Value),VR w O φ α v u→VR w' O' φ α v u
 | .int k n,u,h=>by simpa [VR] using h
 | .bool b,u,h=>by simpa [VR] using h
 | .str s,u,h=>by simpa [VR] using h
 | .sl T n l,u,h=>by simp only [VR] at h ⊢;exact h.tr t
 | .fsl T n l,u,h=>by simp only [VR] at h ⊢;exact h.tr t
 | .slx T n l v,u,h=>⟨h.1,h.2.tr t⟩
 | .nil,u,h=>by simpa [VR] using h
 | .ref a,u,h=>by simpa [VR] using h
 | .ptr b off,u,h=>by simpa [VR] using h
 | .z9k cs off v,u,h=>by
  obtain ⟨h0,b,q,h1,h2⟩:=h
  exact ⟨h0,b,q,h1,z3m.tr h2 t⟩
 | .z09 cs off,u,h=>by
  simp only [VR] at h ⊢
  obtain ⟨b,q,h1,h2⟩:=h
  exact ⟨b,q,h1,z3m.tr h2 t⟩
 | .z8y a m i off,u,h=>by simpa only [VR] using h
 | .agg cs,u,h=>by
  simp only [VR] at h ⊢
  obtain ⟨us,h1,h2⟩:=h
  exact ⟨us,h1,VRs.tr t cs us h2⟩
 | .tup cs,u,h=>by
  simp only [VR] at h ⊢
  obtain ⟨us,h1,h2⟩:=h
  exact ⟨us,h1,VRs.tr t cs us h2⟩
 | .iface T v,u,h=>by
  simp only [VR] at h ⊢
  obtain ⟨x,h1,h2⟩:=h
  exact ⟨x,h1,VR.tr t v x h2⟩
 | .zc7,u,h=>by simpa [VR] using h
 | .fn f as cs,u,h=>by
  simp only [VR] at h ⊢
  obtain ⟨us,vs,h1,h2,h3⟩:=h
  exact ⟨us,vs,h1,VRs.tr t as us h2,VRs.tr t cs vs h3⟩
 | .zfc,u,h=>by simpa [VR] using h
 | .undef,u,h=>by simp only [VR]
 | .gone,u,h=>h
 | .z0g _,u,h=>h
 | .err _,u,h=>h
 | .mp _,u,h=>h
 | .md c,u,h=>by simp only [VR] at h ⊢;exact h.tr t
theorem VRs.tr (t:Tr O w O' w'):∀ (vs:List PV) (us:List Value),VRs w O φ α vs us→VRs w' O' φ α vs us
 | [],us,h=>h
 | v::vs,us,h=>by
  obtain ⟨u,us',h1,h2,h3⟩:=h
  exact ⟨u,us',h1,VR.tr t v u h2,VRs.tr t vs us' h3⟩
end

mutual
def noK (b a:Option Nat):PV→Bool
 | .ref x => !(a==some x)
 | .z8y x _ _ _ => !(a==some x)
 | .ptr x _ => !(b==some x)
 | .z0g x => !(b==some x)
 | .mp x => !(b==some x)
 | .agg cs=>z96 b a cs
 | .tup cs=>z96 b a cs
 | .iface _ v=>noK b a v
 | .fn _ as cs=>z96 b a as&&z96 b a cs
 | _=>true
def z96 (b a:Option Nat):List PV→Bool
 | []=>true
 | v::vs=>noK b a v&&z96 b a vs
end
def z2r (kb ka:Nat→Prop):PV→Prop
 | .ref x=>ka x
 | .z8y x _ _ _=>ka x
 | .ptr x _=>kb x
 | .z0g x=>kb x
 | .mp x=>kb x
 | .agg cs=>go cs
 | .tup cs=>go cs
 | .iface _ v=>z2r kb ka v
 | .fn _ as cs=>go as∧go cs
 | _=>True
where
 go:List PV→Prop
  | []=>True
  | v::vs=>z2r kb ka v∧go vs
mutual
theorem noK.b {b x:Nat}:∀ {v:PV},noK (some b) none v=true→z2r (fun x=>x≠b) (fun _=>True) v
 | .int _ _,_=>trivial
 | .bool _,_=>trivial
 | .str _,_=>trivial
 | .sl _ _ _,_=>trivial
 | .fsl _ _ _,_=>trivial
 | .slx _ _ _ _,_=>trivial
 | .nil,_=>trivial
 | .zc7,_=>trivial
 | .zfc,_=>trivial
 | .undef,_=>trivial
 | .gone,_=>trivial
 | .z0g y,h=>by simp [noK] at h;exact fun e=>h e.symm
 | .mp y,h=>by simp [noK] at h;exact fun e=>h e.symm
 | .md _,_=>trivial
 | .err _,_=>trivial
 | .z09 _ _,_=>trivial
 | .z9k _ _ _,_=>trivial
 | .ref x,_=>trivial
 | .z8y x _ _ _,_=>trivial
 | .ptr y _,h=>by simp [noK] at h;exact fun e=>h e.symm
 | .agg cs,h=>z96.b (vs:=cs) (by simpa only [noK] using h)
 | .tup cs,h=>z96.b (vs:=cs) (by simpa only [noK] using h)
 | .iface _ v,h=>noK.b (x:=x) (v:=v) (by simpa only [noK] using h)
 | .fn _ as cs,h=>by simp only [noK,ya] at h;exact ⟨z96.b h.1,z96.b h.2⟩
theorem z96.b {b:Nat}:∀ {vs:List PV},z96 (some b) none vs=true→z2r.go (fun x=>x≠b) (fun _=>True) vs
 | [],_=>trivial
 | v::vs,h=>by simp only [z96,ya] at h;exact ⟨noK.b (x:=0) h.1,z96.b h.2⟩
end
mutual
theorem noK.a {b x:Nat}:∀ {v:PV},noK none (some b) v=true→z2r (fun _=>True) (fun x=>x≠b) v
 | .int _ _,_=>trivial
 | .bool _,_=>trivial
 | .str _,_=>trivial
 | .sl _ _ _,_=>trivial
 | .fsl _ _ _,_=>trivial
 | .slx _ _ _ _,_=>trivial
 | .nil,_=>trivial
 | .zc7,_=>trivial
 | .zfc,_=>trivial
 | .undef,_=>trivial
 | .gone,_=>trivial
 | .z0g _,_=>trivial
 | .mp _,_=>trivial
 | .md _,_=>trivial
 | .err _,_=>trivial
 | .z09 _ _,_=>trivial
 | .z9k _ _ _,_=>trivial
 | .ptr y _,_=>trivial
 | .ref y,h=>by simp [noK] at h;exact fun e=>h e.symm
 | .z8y y _ _ _,h=>by simp [noK] at h;exact fun e=>h e.symm
 | .agg cs,h=>z96.a (vs:=cs) (by simpa only [noK] using h)
 | .tup cs,h=>z96.a (vs:=cs) (by simpa only [noK] using h)
 | .iface _ v,h=>noK.a (x:=x) (v:=v) (by simpa only [noK] using h)
 | .fn _ as cs,h=>by simp only [noK,ya] at h;exact ⟨z96.a h.1,z96.a h.2⟩
theorem z96.a {b:Nat}:∀ {vs:List PV},z96 none (some b) vs=true→z2r.go (fun _=>True) (fun x=>x≠b) vs
 | [],_=>trivial
 | v::vs,h=>by simp only [z96,ya] at h;exact ⟨noK.a (x:=0) h.1,z96.a h.2⟩
end
mutual
theorem z2r.and {kb ka kb' ka' kb2 ka2:Nat→Prop} (hb:∀ x,kb x→kb' x→kb2 x) (ha:∀ x,ka x→ka' x→ka2 x):∀ {v:PV},z2r kb ka v→z2r kb' ka' v→z2r kb2 ka2 v
 | .int _ _,_,_=>trivial
 | .bool _,_,_=>trivial
 | .str _,_,_=>trivial
 | .sl _ _ _,_,_=>trivial
 | .fsl _ _ _,_,_=>trivial
 | .slx _ _ _ _,_,_=>trivial
 | .nil,_,_=>trivial
 | .zc7,_,_=>trivial
 | .zfc,_,_=>trivial
 | .undef,_,_=>trivial
 | .gone,_,_=>trivial
 | .z0g y,h,k=>hb y h k
 | .mp y,h,k=>hb y h k
 | .md _,_,_=>trivial
 | .err _,_,_=>trivial
 | .z09 _ _,_,_=>trivial
 | .z9k _ _ _,_,_=>trivial
 | .ptr y _,h,k=>hb y h k
 | .ref y,h,k=>ha y h k
 | .z8y y _ _ _,h,k=>ha y h k
 | .agg cs,h,k=>z2r.zs1 hb ha (vs:=cs) h k
 | .tup cs,h,k=>z2r.zs1 hb ha (vs:=cs) h k
 | .iface _ v,h,k=>z2r.and hb ha (v:=v) h k
 | .fn _ as cs,h,k=>⟨z2r.zs1 hb ha h.1 k.1,z2r.zs1 hb ha h.2 k.2⟩
theorem z2r.zs1 {kb ka kb' ka' kb2 ka2:Nat→Prop} (hb:∀ x,kb x→kb' x→kb2 x) (ha:∀ x,ka x→ka' x→ka2 x):∀ {vs:List PV},z2r.go kb ka vs→z2r.go kb' ka' vs→z2r.go kb2 ka2 vs
 | [],_,_=>trivial
 | _::_,h,k=>⟨z2r.and hb ha h.1 k.1,z2r.zs1 hb ha h.2 k.2⟩
end
mutual
theorem z2r.all {kb ka:Nat→Prop} (hb:∀ x,kb x) (ha:∀ x,ka x):∀ {v:PV},z2r kb ka v
 | .int _ _=>trivial
 | .bool _=>trivial
 | .str _=>trivial
 | .sl _ _ _=>trivial
 | .fsl _ _ _=>trivial
 | .slx _ _ _ _=>trivial
 | .nil=>trivial
 | .zc7=>trivial
 | .zfc=>trivial
 | .undef=>trivial
 | .gone=>trivial
 | .z0g y=>hb y
 | .mp y=>hb y
 | .md _=>trivial
 | .err _=>trivial
 | .z09 _ _=>trivial
 | .z9k _ _ _=>trivial
 | .ptr y _=>hb y
 | .ref y=>ha y
 | .z8y y _ _ _=>ha y
 | .agg cs=>z2r.zt4 hb ha (vs:=cs)
 | .tup cs=>z2r.zt4 hb ha (vs:=cs)
 | .iface _ v=>z2r.all hb ha (v:=v)
 | .fn _ as cs=>⟨z2r.zt4 hb ha,z2r.zt4 hb ha⟩
theorem z2r.zt4 {kb ka:Nat→Prop} (hb:∀ x,kb x) (ha:∀ x,ka x):∀ {vs:List PV},z2r.go kb ka vs
 | []=>trivial
 | _::_=>⟨z2r.all hb ha,z2r.zt4 hb ha⟩
end
mutual
theorem VR.re {kb ka:Nat→Prop} (hφ:∀ x,kb x→φ' x=φ x) (hα:∀ x,ka x→α' x=α x):∀ (v:PV) (u:Value),z2r kb ka v→VR w O φ α v u→VR w O φ' α' v u
 | .int k n,u,_,h=>by simpa [VR] using h
 | .bool b,u,_,h=>by simpa [VR] using h
 | .str s,u,_,h=>by simpa [VR] using h
 | .sl T n l,u,_,h=>by simpa only [VR] using h
 | .fsl T n l,u,_,h=>by simpa only [VR] using h
 | .slx T n l v,u,_,h=>h
 | .nil,u,_,h=>by simpa [VR] using h
 | .ref x,u,k,h=>by
  simp only [VR] at h ⊢
  rw [hα x k]
  exact h
 | .ptr x off,u,k,h=>by
  simp only [VR] at h ⊢
  rw [hφ x k]
  exact h
 | .z09 cs off,u,_,h=>by simpa only [VR] using h
 | .z9k cs off v,u,_,h=>h
 | .z8y x m i off,u,k,h=>by
  simp only [VR] at h ⊢
  rw [hα x k]
  exact h
 | .agg cs,u,k,h=>by
  simp only [VR] at h ⊢
  obtain ⟨us,h1,h2⟩:=h
  exact ⟨us,h1,VRs.re hφ hα cs us k h2⟩
 | .tup cs,u,k,h=>by
  simp only [VR] at h ⊢
  obtain ⟨us,h1,h2⟩:=h
  exact ⟨us,h1,VRs.re hφ hα cs us k h2⟩
 | .iface T v,u,k,h=>by
  simp only [VR] at h ⊢
  obtain ⟨x,h1,h2⟩:=h
  exact ⟨x,h1,VR.re hφ hα v x k h2⟩
 | .zc7,u,_,h=>by simpa [VR] using h
 | .fn f as cs,u,k,h=>by
  simp only [VR] at h ⊢
  obtain ⟨us,vs,h1,h2,h3⟩:=h
  exact ⟨us,vs,h1,VRs.re hφ hα as us k.1 h2,VRs.re hφ hα cs vs k.2 h3⟩
 | .zfc,u,_,h=>by simpa [VR] using h
 | .undef,u,_,h=>by simp only [VR]
 | .gone,u,_,h=>h
 | .z0g x,u,k,h=>by
  simp only [VR] at h ⊢
  rw [hφ x k]
  exact h
 | .err _,u,_,h=>h
 | .mp x,u,k,h=>by
  simp only [VR] at h ⊢
  rw [hφ x k]
  exact h
 | .md _,u,_,h=>h
theorem VRs.re {kb ka:Nat→Prop} (hφ:∀ x,kb x→φ' x=φ x) (hα:∀ x,ka x→α' x=α x):∀ (vs:List PV) (us:List Value),z2r.go kb ka vs→VRs w O φ α vs us→VRs w O φ' α' vs us
 | [],us,_,h=>h
 | v::vs,us,k,h=>by
  obtain ⟨u,us',h1,h2,h3⟩:=h
  exact ⟨u,us',h1,VR.re hφ hα v u k.1 h2,VRs.re hφ hα vs us' k.2 h3⟩
end
theorem VRs.len:∀ {vs:List PV} {us:List Value},VRs w O φ α vs us→us.length=vs.length
 | [],us,h=>by cases h;rfl
 | v::vs,us,h=>by
  obtain ⟨u,us',rfl,_,h3⟩:=h
  simp [VRs.len h3]
theorem VRs.get:∀ {vs:List PV} {us:List Value} {i:Nat} {v:PV},VRs w O φ α vs us→vs[i]? = some v→∃ u,us[i]? = some u∧VR w O φ α v u
 | v::vs,us,0,x,h,e=>by
  obtain ⟨u,us',rfl,h2,_⟩:=h
  simp at e
  subst e
  exact ⟨u,rfl,h2⟩
 | v::vs,us,i+1,x,h,e=>by
  obtain ⟨u,us',rfl,_,h3⟩:=h
  simpa using VRs.get h3 (by simpa using e)
 | [],us,i,x,h,e=>by simp at e
theorem VRs.drop:∀ {vs:List PV} {us:List Value} (i:Nat),VRs w O φ α vs us→VRs w O φ α (vs.drop i) (us.drop i)
 | vs,us,0,h=>by simpa using h
 | [],us,i+1,h=>by cases h;exact rfl
 | v::vs,us,i+1,h=>by
  obtain ⟨u,us',rfl,_,h3⟩:=h
  simpa using VRs.drop i h3
theorem VRs.take:∀ {vs:List PV} {us:List Value} (i:Nat),VRs w O φ α vs us→VRs w O φ α (vs.take i) (us.take i)
 | vs,us,0,h=>by simp;exact rfl
 | [],us,i+1,h=>by cases h;exact rfl
 | v::vs,us,i+1,h=>by
  obtain ⟨u,us',rfl,h2,h3⟩:=h
  exact ⟨u,us'.take i,by simp,h2,VRs.take i h3⟩
theorem VRs.append:∀ {vs vs2:List PV} {us us2:List Value},VRs w O φ α vs us→VRs w O φ α vs2 us2→VRs w O φ α (vs++vs2) (us++us2)
 | [],vs2,us,us2,h,h2=>by cases h;exact h2
 | v::vs,vs2,us,us2,h,k=>by
  obtain ⟨u,us',rfl,h2,h3⟩:=h
  exact ⟨u,us'++us2,by simp,h2,VRs.append h3 k⟩
end
end Go.Pe
