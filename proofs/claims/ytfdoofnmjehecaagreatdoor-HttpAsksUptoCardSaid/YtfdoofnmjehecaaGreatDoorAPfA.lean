import Derived.Test.YtfdoofnmjehecaaGreatDoorALmA
import Derived.ChangeKeysEq
import Derived.Shelf.SlIter.Sorted
set_option linter.all false
namespace Go.Pe
open _root_.Option renaming bind_eq_bind → ya, bind_eq_some_iff → yb, map_eq_some_iff → yc
open _root_.Bool renaming and_eq_true → yd, eq_iff_iff → ye, false_eq_true → yf
open _root_.List renaming all_eq_true → yg, append_toArray → yh, cons_append → yi, drop_drop → yj, eq_nil_of_length_eq_zero → yk, getElem?_drop → yl, getElem?_take → ym, getElem?_toArray → yn, length_cons → yo, length_nil → yp, mapM_cons → yq, map_cons → yr, mem_cons → yt, nil_append → yu, push_toArray → yv, size_toArray → yw, toArray → yx, zip_cons_cons → yy
open _root_.Nat renaming beq → yz, ble → yaa, blt → yab, blt_eq → yac, eq_of_beq_eq_true → yad, le_of_ble_eq_true → yae, le_refl → yaf, mul_le_mul_right → yag, mul_one → yah, ne_of_beq_eq_false → yai, reduceAdd → yaj, reduceSub → yak
open _root_.Array renaming getElem?_eq_some_iff → yal, replicate_succ → yam, replicate_zero → yan, toList_inj → yao
section
open Go.RowKit Go.Lk
inductive PV where
 | int (k:IntKind) (n:Int)
 | bool (b:Bool)
 | str (s:List UInt8)
 | sl (T n:Nat) (l:List (List D))
 | nil
 | ref (a:Nat)
 | ptr (b off:Nat)
 | zbc (cs:List D) (off:Nat)
 | zbx (a m:Nat) (i:Int) (off:Nat)
 | agg (cs:List PV)
 | tup (vs:List PV)
 | iface (T:Nat) (v:PV)
 | ze6
 | fn (f:Nat) (as_ cs:List PV)
 | zei
 | undef
 | gone
 | z1l (b:Nat)
 | err (b:Bool)
 | mp (b:Nat)
 | md (c:MC)

def VR (w:World) (O:Nat→Prop) (φ:Nat→Nat) (α:Nat→Value):PV→Value→Prop
 | .int k n,u=>u = .int k n
 | .bool b,u=>u = .bool b
 | .str s,u=>u = .string ⟨s.toArray⟩
 | .sl T n l,u=>RD w O (.sl T n l) u
 | .nil,u=>u = .slice none 0 0
 | .ref a,u=>u=α a∧u.oneCell'=true
 | .ptr b off,u=>u = .pointer (some ⟨φ b,off,none⟩)
 | .zbc cs off,u=>∃ b q,u = .pointer (some ⟨b,q+off,none⟩)∧zdo w O b q cs.length cs
 | .zbx a m i off,u=>∃ (b len cap j:Nat),α a = .slice (some ⟨b,0,none⟩) len cap∧i=(j:Nat)∧u = .pointer (some ⟨b,j*m+off,none⟩)
 | .agg cs,u=>∃ us,u = .agg (yx us)∧VRs cs us
 | .tup cs,u=>∃ us,u = .tuple (yx us)∧VRs cs us
 | .iface T v,u=>∃ x,u = .iface T x∧VR w O φ α v x
 | .ze6,u=>u = .nilIface
 | .fn f as_ cs,u=>∃ us vs,u=fnV f us vs∧VRs as_ us∧VRs cs vs
 | .zei,u=>u = .pointer none
 | .undef,_=>True
 | .gone,u=>u=Go.undef
 | .z1l b,u=>u = .pointer none∨u = .pointer (some ⟨φ b,0,none⟩)
 | .err b,u=>(b=true∧u = .nilIface)∨(b=false∧∃ T v,u = .iface T v)
 | .mp b,u=>u = .map (some (φ b))
 | .md c,u=>MR w O c u
where
 VRs:List PV→List Value→Prop
 | [],us=>us=[]
 | v::vs,us=>∃ u us',us=u::us'∧VR w O φ α v u∧VRs vs us'
abbrev VRs (w:World) (O:Nat→Prop) (φ:Nat→Nat) (α:Nat→Value) (vs:List PV) (us:List Value):Prop:=VR.VRs w O φ α vs us

theorem zdo.tr {w w':World} {O O':Nat→Prop} {b q n:Nat} {x:List D} (h:zdo w O b q n x) (t:Tr O w O' w'):zdo w' O' b q n x:=by
 obtain ⟨cs,h1,h2,h3⟩:=h
 exact ⟨cs,h1,h2.tr t,h3.tr t⟩
section
variable {w w':World} {O O':Nat→Prop} {φ φ':Nat→Nat} {α α':Nat→Value}
mutual
theorem VR.tr (t:Tr O w O' w'):∀ (v:PV) (u:Value),VR w O φ α v u→VR w' O' φ α v u
 | .int k n,u,h=>by grind [VR]
 | .bool b,u,h=>by grind [VR]
 | .str s,u,h=>by grind [VR]
 | .sl T n l,u,h=>by simp only [VR] at h ⊢;exact h.tr t
 | .nil,u,h=>by grind [VR]
 | .ref a,u,h=>by grind [VR]
 | .ptr b off,u,h=>by grind [VR]
 | .zbc cs off,u,h=>by
  grind [VR,zdo.tr]
 | .zbx a m i off,u,h=>by grind [VR]
 | .agg cs,u,h=>by
  simp only [VR] at h ⊢
  obtain ⟨us,h1,h2⟩:=h
  exact ⟨us,h1,VRs.tr t cs us h2⟩
 | .tup cs,u,h=>by
  simp only [VR] at h ⊢
  obtain ⟨us,h1,h2⟩:=h
  exact ⟨us,h1,VRs.tr t cs us h2⟩
 | .iface T v,u,h=>by
  simp only [VR] at h ⊢
  obtain ⟨x,h1,h2⟩:=h
  exact ⟨x,h1,VR.tr t v x h2⟩
 | .ze6,u,h=>by grind [VR]
 | .fn f as_ cs,u,h=>by
  simp only [VR] at h ⊢
  obtain ⟨us,vs,h1,h2,h3⟩:=h
  exact ⟨us,vs,h1,VRs.tr t as_ us h2,VRs.tr t cs vs h3⟩
 | .zei,u,h=>by grind [VR]
 | .undef,u,h=>by simp only [VR]
 | .gone,u,h=>h
 | .z1l _,u,h=>h
 | .err _,u,h=>h
 | .mp _,u,h=>h
 | .md c,u,h=>by simp only [VR] at h ⊢;exact h.tr t
theorem VRs.tr (t:Tr O w O' w'):∀ (vs:List PV) (us:List Value),VRs w O φ α vs us→VRs w' O' φ α vs us
 | [],us,h=>h
 | v::vs,us,h=>by
  obtain ⟨u,us',h1,h2,h3⟩:=h
  exact ⟨u,us',h1,VR.tr t v u h2,VRs.tr t vs us' h3⟩
end

mutual
def noK (b a:Option Nat):PV→Bool
 | .ref x => !(a==some x)
 | .zbx x _ _ _ => !(a==some x)
 | .ptr x _ => !(b==some x)
 | .z1l x => !(b==some x)
 | .mp x => !(b==some x)
 | .agg cs=>zd1 b a cs
 | .tup cs=>zd1 b a cs
 | .iface _ v=>noK b a v
 | .fn _ as_ cs=>zd1 b a as_&&zd1 b a cs
 | _=>true
def zd1 (b a:Option Nat):List PV→Bool
 | []=>true
 | v::vs=>noK b a v&&zd1 b a vs
end
def z56 (kb ka:Nat→Prop):PV→Prop
 | .ref x=>ka x
 | .zbx x _ _ _=>ka x
 | .ptr x _=>kb x
 | .z1l x=>kb x
 | .mp x=>kb x
 | .agg cs=>go cs
 | .tup cs=>go cs
 | .iface _ v=>z56 kb ka v
 | .fn _ as_ cs=>go as_∧go cs
 | _=>True
where
 go:List PV→Prop
  | []=>True
  | v::vs=>z56 kb ka v∧go vs
mutual
theorem noK.b {b x:Nat}:∀ {v:PV},noK (some b) none v=true→z56 (fun x=>x≠b) (fun _=>True) v
 | .int _ _,_=>trivial
 | .bool _,_=>trivial
 | .str _,_=>trivial
 | .sl _ _ _,_=>trivial
 | .nil,_=>trivial
 | .ze6,_=>trivial
 | .zei,_=>trivial
 | .undef,_=>trivial
 | .gone,_=>trivial
 | .z1l y,h=>by simp [noK] at h;exact fun e=>h e.symm
 | .mp y,h=>by simp [noK] at h;exact fun e=>h e.symm
 | .md _,_=>trivial
 | .err _,_=>trivial
 | .zbc _ _,_=>trivial
 | .ref x,_=>trivial
 | .zbx x _ _ _,_=>trivial
 | .ptr y _,h=>by simp [noK] at h;exact fun e=>h e.symm
 | .agg cs,h=>zd1.b (vs:=cs) (by grind [noK])
 | .tup cs,h=>zd1.b (vs:=cs) (by grind [noK])
 | .iface _ v,h=>noK.b (x:=x) (v:=v) (by grind [noK])
 | .fn _ as_ cs,h=>by simp only [noK,yd] at h;exact ⟨zd1.b h.1,zd1.b h.2⟩
theorem zd1.b {b:Nat}:∀ {vs:List PV},zd1 (some b) none vs=true→z56.go (fun x=>x≠b) (fun _=>True) vs
 | [],_=>trivial
 | v::vs,h=>by simp only [zd1,yd] at h;exact ⟨noK.b (x:=0) h.1,zd1.b h.2⟩
end
mutual
theorem noK.a {b x:Nat}:∀ {v:PV},noK none (some b) v=true→z56 (fun _=>True) (fun x=>x≠b) v
 | .int _ _,_=>trivial
 | .bool _,_=>trivial
 | .str _,_=>trivial
 | .sl _ _ _,_=>trivial
 | .nil,_=>trivial
 | .ze6,_=>trivial
 | .zei,_=>trivial
 | .undef,_=>trivial
 | .gone,_=>trivial
 | .z1l _,_=>trivial
 | .mp _,_=>trivial
 | .md _,_=>trivial
 | .err _,_=>trivial
 | .zbc _ _,_=>trivial
 | .ptr y _,_=>trivial
 | .ref y,h=>by simp [noK] at h;exact fun e=>h e.symm
 | .zbx y _ _ _,h=>by simp [noK] at h;exact fun e=>h e.symm
 | .agg cs,h=>zd1.a (vs:=cs) (by grind [noK])
 | .tup cs,h=>zd1.a (vs:=cs) (by grind [noK])
 | .iface _ v,h=>noK.a (x:=x) (v:=v) (by grind [noK])
 | .fn _ as_ cs,h=>by simp only [noK,yd] at h;exact ⟨zd1.a h.1,zd1.a h.2⟩
theorem zd1.a {b:Nat}:∀ {vs:List PV},zd1 none (some b) vs=true→z56.go (fun _=>True) (fun x=>x≠b) vs
 | [],_=>trivial
 | v::vs,h=>by simp only [zd1,yd] at h;exact ⟨noK.a (x:=0) h.1,zd1.a h.2⟩
end
mutual
theorem z56.and {kb ka kb' ka' kb2 ka2:Nat→Prop} (hb:∀ x,kb x→kb' x→kb2 x) (ha:∀ x,ka x→ka' x→ka2 x):∀ {v:PV},z56 kb ka v→z56 kb' ka' v→z56 kb2 ka2 v
 | .int _ _,_,_=>trivial
 | .bool _,_,_=>trivial
 | .str _,_,_=>trivial
 | .sl _ _ _,_,_=>trivial
 | .nil,_,_=>trivial
 | .ze6,_,_=>trivial
 | .zei,_,_=>trivial
 | .undef,_,_=>trivial
 | .gone,_,_=>trivial
 | .z1l y,h,k=>hb y h k
 | .mp y,h,k=>hb y h k
 | .md _,_,_=>trivial
 | .err _,_,_=>trivial
 | .zbc _ _,_,_=>trivial
 | .ptr y _,h,k=>hb y h k
 | .ref y,h,k=>ha y h k
 | .zbx y _ _ _,h,k=>ha y h k
 | .agg cs,h,k=>z56.ands hb ha (vs:=cs) h k
 | .tup cs,h,k=>z56.ands hb ha (vs:=cs) h k
 | .iface _ v,h,k=>z56.and hb ha (v:=v) h k
 | .fn _ as_ cs,h,k=>⟨z56.ands hb ha h.1 k.1,z56.ands hb ha h.2 k.2⟩
theorem z56.ands {kb ka kb' ka' kb2 ka2:Nat→Prop} (hb:∀ x,kb x→kb' x→kb2 x) (ha:∀ x,ka x→ka' x→ka2 x):∀ {vs:List PV},z56.go kb ka vs→z56.go kb' ka' vs→z56.go kb2 ka2 vs
 | [],_,_=>trivial
 | _::_,h,k=>⟨z56.and hb ha h.1 k.1,z56.ands hb ha h.2 k.2⟩
end
mutual
theorem z56.all {kb ka:Nat→Prop} (hb:∀ x,kb x) (ha:∀ x,ka x):∀ {v:PV},z56 kb ka v
 | .int _ _=>trivial
 | .bool _=>trivial
 | .str _=>trivial
 | .sl _ _ _=>trivial
 | .nil=>trivial
 | .ze6=>trivial
 | .zei=>trivial
 | .undef=>trivial
 | .gone=>trivial
 | .z1l y=>hb y
 | .mp y=>hb y
 | .md _=>trivial
 | .err _=>trivial
 | .zbc _ _=>trivial
 | .ptr y _=>hb y
 | .ref y=>ha y
 | .zbx y _ _ _=>ha y
 | .agg cs=>z56.alls hb ha (vs:=cs)
 | .tup cs=>z56.alls hb ha (vs:=cs)
 | .iface _ v=>z56.all hb ha (v:=v)
 | .fn _ as_ cs=>⟨z56.alls hb ha,z56.alls hb ha⟩
theorem z56.alls {kb ka:Nat→Prop} (hb:∀ x,kb x) (ha:∀ x,ka x):∀ {vs:List PV},z56.go kb ka vs
 | []=>trivial
 | _::_=>⟨z56.all hb ha,z56.alls hb ha⟩
end
mutual
theorem VR.re {kb ka:Nat→Prop} (hφ:∀ x,kb x→φ' x=φ x) (hα:∀ x,ka x→α' x=α x):∀ (v:PV) (u:Value),z56 kb ka v→VR w O φ α v u→VR w O φ' α' v u
 | .int k n,u,_,h=>by grind [VR]
 | .bool b,u,_,h=>by grind [VR]
 | .str s,u,_,h=>by grind [VR]
 | .sl T n l,u,_,h=>by grind [VR]
 | .nil,u,_,h=>by grind [VR]
 | .ref x,u,k,h=>by
  simp only [VR] at h ⊢
  rw [hα x k]
  exact h
 | .ptr x off,u,k,h=>by
  simp only [VR] at h ⊢
  rw [hφ x k]
  exact h
 | .zbc cs off,u,_,h=>by grind [VR]
 | .zbx x m i off,u,k,h=>by
  simp only [VR] at h ⊢
  rw [hα x k]
  exact h
 | .agg cs,u,k,h=>by
  simp only [VR] at h ⊢
  obtain ⟨us,h1,h2⟩:=h
  exact ⟨us,h1,VRs.re hφ hα cs us k h2⟩
 | .tup cs,u,k,h=>by
  simp only [VR] at h ⊢
  obtain ⟨us,h1,h2⟩:=h
  exact ⟨us,h1,VRs.re hφ hα cs us k h2⟩
 | .iface T v,u,k,h=>by
  simp only [VR] at h ⊢
  obtain ⟨x,h1,h2⟩:=h
  exact ⟨x,h1,VR.re hφ hα v x k h2⟩
 | .ze6,u,_,h=>by grind [VR]
 | .fn f as_ cs,u,k,h=>by
  simp only [VR] at h ⊢
  obtain ⟨us,vs,h1,h2,h3⟩:=h
  exact ⟨us,vs,h1,VRs.re hφ hα as_ us k.1 h2,VRs.re hφ hα cs vs k.2 h3⟩
 | .zei,u,_,h=>by grind [VR]
 | .undef,u,_,h=>by simp only [VR]
 | .gone,u,_,h=>h
 | .z1l x,u,k,h=>by
  simp only [VR] at h ⊢
  rw [hφ x k]
  exact h
 | .err _,u,_,h=>h
 | .mp x,u,k,h=>by
  simp only [VR] at h ⊢
  rw [hφ x k]
  exact h
 | .md _,u,_,h=>h
theorem VRs.re {kb ka:Nat→Prop} (hφ:∀ x,kb x→φ' x=φ x) (hα:∀ x,ka x→α' x=α x):∀ (vs:List PV) (us:List Value),z56.go kb ka vs→VRs w O φ α vs us→VRs w O φ' α' vs us
 | [],us,_,h=>h
 | v::vs,us,k,h=>by
  obtain ⟨u,us',h1,h2,h3⟩:=h
  exact ⟨u,us',h1,VR.re hφ hα v u k.1 h2,VRs.re hφ hα vs us' k.2 h3⟩
end
theorem VRs.len:∀ {vs:List PV} {us:List Value},VRs w O φ α vs us→us.length=vs.length
 | [],us,h=>by cases h;rfl
 | v::vs,us,h=>by
  obtain ⟨u,us',rfl,_,h3⟩:=h
  simp [VRs.len h3]
theorem VRs.get:∀ {vs:List PV} {us:List Value} {i:Nat} {v:PV},VRs w O φ α vs us→vs[i]? = some v→∃ u,us[i]? = some u∧VR w O φ α v u
 | v::vs,us,0,x,h,e=>by
  obtain ⟨u,us',rfl,h2,_⟩:=h
  simp at e
  subst e
  exact ⟨u,rfl,h2⟩
 | v::vs,us,i+1,x,h,e=>by
  obtain ⟨u,us',rfl,_,h3⟩:=h
  simpa using VRs.get h3 (by simpa using e)
 | [],us,i,x,h,e=>by simp at e
theorem VRs.drop:∀ {vs:List PV} {us:List Value} (i:Nat),VRs w O φ α vs us→VRs w O φ α (vs.drop i) (us.drop i)
 | vs,us,0,h=>by simpa using h
 | [],us,i+1,h=>by cases h;exact rfl
 | v::vs,us,i+1,h=>by
  obtain ⟨u,us',rfl,_,h3⟩:=h
  simpa using VRs.drop i h3
theorem VRs.take:∀ {vs:List PV} {us:List Value} (i:Nat),VRs w O φ α vs us→VRs w O φ α (vs.take i) (us.take i)
 | vs,us,0,h=>by rfl
 | [],us,i+1,h=>by cases h;exact rfl
 | v::vs,us,i+1,h=>by
  obtain ⟨u,us',rfl,h2,h3⟩:=h
  exact ⟨u,us'.take i,by simp,h2,VRs.take i h3⟩
theorem VRs.append:∀ {vs vs2:List PV} {us us2:List Value},VRs w O φ α vs us→VRs w O φ α vs2 us2→VRs w O φ α (vs++vs2) (us++us2)
 | [],vs2,us,us2,h,h2=>by cases h;exact h2
 | v::vs,vs2,us,us2,h,k=>by
  obtain ⟨u,us',rfl,h2,h3⟩:=h
  exact ⟨u,us'++us2,by simp,h2,VRs.append h3 k⟩
end
end
section
open Go.RowKit Go.Lk
def lk {β:Type}:List (Nat × β)→Nat→Option β
 | [],_=>none
 | (s,v)::r,t=>match yz s t with
  | true=>some v
  | false=>lk r t
def wt {α:Type}:Option α→(α→Prop)→Prop
 | some a,k=>k a
 | none,_=>False
def Ex {α:Type} (z:Option α) (k:α→Prop):Prop := ∃ a,z=some a∧k a

structure Arr where
 mine:Bool
 T:Nat
 n:Nat
 l:List (List D)
structure Bx where
 T:Nat
 cs:List PV
structure St where
 L:List (Nat × PV)
 B:List (Nat × Bx)
 A:List (Nat × Arr)
 D:Option (Nat × Nat × Nat):=none
def Bx.wc (e:Bx) (cs:List PV):Bx:=match e with|⟨T,_⟩=>⟨T,cs⟩
def Arr.wl (e:Arr) (l:List (List D)):Arr:=match e with|⟨m,T,n,_⟩=>⟨m,T,n,l⟩
def Arr.sl (e:Arr):PV:=match e with|⟨_,T,n,l⟩ => .sl T n l
def zsc:PV→(PV→Prop)→Prop
 | .agg cs,k=>go cs fun cs=>k (.agg cs)
 | .tup cs,k=>go cs fun cs=>k (.tup cs)
 | .iface T v,k=>zsc v fun v=>k (.iface T v)
 | .fn f as_ cs,k=>go as_ fun as_=>go cs fun cs=>k (.fn f as_ cs)
 | .int a n,k=>k (.int a n)
 | .bool b,k=>k (.bool b)
 | .str s,k=>k (.str s)
 | .sl T n l,k=>k (.sl T n l)
 | .nil,k=>k .nil
 | .ref a,k=>k (.ref a)
 | .ptr b i,k=>k (.ptr b i)
 | .zbc cs i,k=>k (.zbc cs i)
 | .zbx a m i j,k=>k (.zbx a m i j)
 | .ze6,k=>k .ze6
 | .zei,k=>k .zei
 | .undef,k=>k .undef
 | .gone,k=>k .gone
 | .z1l b,k=>k (.z1l b)
 | .err b,k=>k (.err b)
 | .mp b,k=>k (.mp b)
 | .md c,k=>k (.md c)
where
 go:List PV→(List PV→Prop)→Prop
  | [],k=>k []
  | v::vs,k=>zsc v fun v=>go vs fun vs=>k (v::vs)
mutual
theorem zfn:∀ (v:PV) (k:PV→Prop),zsc v k=k v
 | .agg cs,k=>by rw [zsc,zag cs]
 | .tup cs,k=>by rw [zsc,zag cs]
 | .iface T v,k=>by rw [zsc,zfn v]
 | .fn f as_ cs,k=>by rw [zsc,zag as_,zag cs]
 | .int _ _,_ | .bool _,_ | .str _,_ | .sl _ _ _,_ | .nil,_ | .ref _,_ | .ptr _ _,_ | .zbc _ _,_ | .zbx _ _ _ _,_ | .ze6,_ | .zei,_ | .undef,_ | .gone,_ | .z1l _,_ | .err _,_ | .mp _,_ | .md _,_=>rfl
theorem zag:∀ (l:List PV) (k:List PV→Prop),zsc.go l k=k l
 | [],_=>rfl
 | v::vs,k=>by rw [zsc.go,zfn v,zag vs]
end
def frL:List (Nat × PV)→(List (Nat × PV)→Prop)→Prop
 | [],k=>k []
 | (d,v)::r,k=>zsc v fun v=>frL r fun r=>k ((d,v)::r)
def frB:List (Nat × Bx)→(List (Nat × Bx)→Prop)→Prop
 | [],k=>k []
 | (b,⟨T,cs⟩)::r,k=>zsc.go cs fun cs=>frB r fun r=>k ((b,⟨T,cs⟩)::r)
def frA:List (Nat × Arr)→(List (Nat × Arr)→Prop)→Prop
 | [],k=>k []
 | (a,⟨true,T,n,l⟩)::r,k=>frA r fun r=>k ((a,⟨true,T,n,l⟩)::r)
 | (a,⟨false,T,n,l⟩)::r,k=>frA r fun r=>k ((a,⟨false,T,n,l⟩)::r)
theorem zz01r:∀ (l:List (Nat × PV)) (k:List (Nat × PV)→Prop),frL l k=k l
 | [],_=>rfl
 | (d,v)::r,k=>by rw [frL,zfn,zz01r r]
theorem zz01q:∀ (l:List (Nat × Bx)) (k:List (Nat × Bx)→Prop),frB l k=k l
 | [],_=>rfl
 | (d,⟨T,cs⟩)::r,k=>by rw [frB,zag,zz01q r]
theorem zqo:∀ (l:List (Nat × Arr)) (k:List (Nat × Arr)→Prop),frA l k=k l
 | [],_=>rfl
 | (d,⟨true,T,n,l⟩)::r,k=>by rw [frA,zqo r]
 | (d,⟨false,T,n,l⟩)::r,k=>by rw [frA,zqo r]
def St.frc (σ:St) (k:St→Prop):Prop:=match σ with
 | ⟨L,B,A,none⟩=>frL L fun L=>frB B fun B=>frA A fun A=>k ⟨L,B,A,none⟩
 | ⟨L,B,A,some (a,b,c)⟩=>frL L fun L=>frB B fun B=>frA A fun A=>k ⟨L,B,A,some (a,b,c)⟩
theorem St.z5u {σ:St} {k:St→Prop}:σ.frc k=k σ:=by
 obtain ⟨L,B,A,_|⟨a,b,c⟩⟩:=σ<;>simp only [St.frc,zz01r,zz01q,zqo]
structure CIn where
 vs:List PV
 B:List Bx
 A:List (Nat × Nat × List (List D))
inductive z3x where
 | ok (vs:List PV) (B:List Bx) (A:List (Option (Nat × Nat × List (List D))))
 | okI (vs:List PV) (B:List Bx) (A:List (Option (Nat × Nat × List (List D))))      -- the arrays stay where they were
 | pan (v:PV)
 | zhg (v:PV) (B:List Bx)         -- a panic,and what the boxes hold then
inductive Place where
 | slot (t:Nat) (leaf:Option Nat)
 | cell (b j:Nat)
structure Cut where
 L:List Nat:=[]
 B:List Nat:=[]
 A:List Nat:=[]
 H:List (Place × Nat × Nat × Nat):=[]
 N:List (Place × Nat × Nat):=[]      -- nil slices that are data
 I:List Nat:=[]                      -- iterators whose last entry is forgotten
structure Drw where
 anc:List Nat
 E:List Nat
 qs:List Nat
 g:Gt
 c:Option Cut:=none
 cs:List (Nat × Cut):=[]           -- cuts behind acting operations
 lin:Option (List (Nat × Nat × Cut)):=none   -- a chain of acting operations: as_ one row,with cuts within
structure Ann where
 drw:List (Nat × Drw):=[]
 seq:List (Nat × Cut):=[]          -- by the first region of what follows
 loop:List (Nat × Cut):=[]         -- by the loop's first region
 reg:List (Nat × List (Nat × Nat × Cut)):=[]   -- cuts within a region: so many operations,then so many under a cut
 own:List Nat:=[]                  -- slots of literals that are owned
 ro:List Nat:=[]                   -- slots of boxes that are only read: data
 fin:List (Place × Nat × Nat × Nat):=[]
 nb:Nat:=0                         -- boxes handed in
 finB:List Place:=[]               -- where the pointers to new boxes that are handed out lie
structure Tb where
 und:List (Nat × TypeDesc):=[]
 shp:List (Nat × Bool × Nat):=[]
 fld:List (Nat × List (Nat × Bool × Nat)):=[]
 zer:List (Nat × Value):=[]
 inf:List (Nat × Value × Nat × Nat):=[]
 nif:List Nat:=[]                  -- types that are no interfaces
 ifc:List Nat:=[]                  -- interface types
 bld:List (Nat × Nat):=[]          -- strings.Builder,its bytes' type
 ars:List (Nat × Nat):=[]          -- arrays of strings,how many
 sts:List (Nat × Nat):=[]          -- structs of strings,how many
 glb:List (Nat × Nat × Nat × List (List D)):=[]   -- variables that hold tables: cells an element,how many,what they hold

def Tb.eqn (tb:Tb) (t:Nat):Option Nat:=match lk tb.ars t with
 | some n=>some n
 | none=>lk tb.sts t
def isNil:Value→Bool
 | .slice none 0 0=>true
 | _=>false
def ztq:Value→PV
 | .int k n => .int k n
 | .bool b => .bool b
 | .string s => .str s.data.toList
 | .slice none 0 0 => .nil
 | .nilIface => .ze6
 | .pointer none => .zei
 | .nilFunc => .fn NF [] []
 | _ => .undef
def ofV:Value→PV
 | .agg cs => .agg (cs.toList.map ztq)
 | v=>ztq v
@[reducible] def dfn (n:Nat):D:=.fn n
def ofD:D→PV
 | .int k n => .int k n
 | .bool b => .bool b
 | .str s => .str s
 | .sl T n l => .sl T n l
 | .fn n => .fn n [] []
 | .val _ => .undef
def ofDs (l:List D):List PV:=l.map ofD
def cellsOf:PV→List PV
 | .agg cs=>cs
 | v=>[v]
def z73 (g:Bool) (n:Nat) (cs:List PV):Option PV:=match g,cs with
 | true,cs=>match yz cs.length n with
  | true=>some (.agg cs)
  | false=>none
 | false,[v]=>some v
 | false,_=>none
def ztr:PV→Bool
 | .agg _=>false
 | .tup _=>false
 | .undef=>false
 | .gone=>false
 | .md _=>false
 | _=>true
def z5c:PV→Bool
 | .undef=>true
 | .gone=>true
 | .md _=>true
 | _=>false
def St.ev (σ:St):Operand→Option PV
 | .tmp t=>lk σ.L t
 | .const v=>some (ofV v)
 | .func f=>match yz f NF with
  | true=>none
  | false=>some (.fn f [] [])
 | .global _=>none
def St.evs (σ:St):List Operand→Option (List PV)
 | []=>some []
 | x::xs=>match σ.ev x,σ.evs xs with
  | some v,some vs=>some (v::vs)
  | _,_=>none
def zzm (a b:IntKind):Bool:=yz a.ctorIdx b.ctorIdx

def bop (td:TypeDesc) (op:BinOp) (u v:PV) (k:PV→Prop):Prop :=
 match u,v with
 | .int a p,.int b q=>match op with
  | .shl=>Ex (chk (decide (0≤q))) fun _=>k (.int a (z6p a p q))
  | .shr=>Ex (chk (decide (0≤q))) fun _=>k (.int a (zdm a p q))
  | .quo=>match zzm a b with
   | true=>Ex (chk (decide (q≠0))) fun _=>k (.int a (a.wrap (p.tdiv q)))
   | false=>False
  | .rem=>match zzm a b with
   | true=>Ex (chk (decide (q≠0))) fun _=>k (.int a (p.tmod q))
   | false=>False
  | op=>match zzm a b with
   | true=>wt (ibin op a p q) fun x=>k (ztq x)
   | false=>False
 | .str p,.str q=>match op with
  | .add=>Ex (cat p q) fun s=>k (.str s)
  | op=>wt (sbin op p q) fun x=>k (ztq x)
 | .bool p,.bool q=>match td,op with
  | .bool,.eql=>k (.bool (p==q))
  | .bool,.neq=>k (.bool (!(p==q)))
  | _,_=>False
 | .ptr _ _,.zei=>match td,op with
  | .pointer _,.eql=>k (.bool false)
  | .pointer _,.neq=>k (.bool true)
  | _,_=>False
 | .zei,.zei=>match td,op with
  | .pointer _,.eql=>k (.bool true)
  | .pointer _,.neq=>k (.bool false)
  | _,_=>False
 | _,_=>False
def eqSs:List PV→List PV→Option Bool
 | [],[]=>some true
 | .str a::r,.str b::s=>match eqSs r s with
  | some c=>some (decide (a=b)&&c)
  | none=>none
 | _,_=>none
def arrW (n:Nat) (op:BinOp) (u v:PV) (k:PV→Prop):Prop:=match u,v with
 | .agg us,.agg vs=>wt (eqSs us vs) fun b=>match yz us.length n,op with
  | true,.eql=>k (.bool b)
  | true,.neq=>k (.bool (!b))
  | _,_=>False
 | _,_=>False
def strP:PV→Bool
 | .str _=>true
 | _=>false
def zbr:Nat→List Nat→Bool
 | _,[]=>true
 | i,j::r=>yz i j&&zbr (i+1) r
def zz01v:Operand→Bool
 | .const .nilFunc=>true
 | _=>false
def nilF (td:TypeDesc) (op:BinOp) (u:PV) (k:PV→Prop):Prop:=match td,u with
 | .func _ _ _,.fn f _ _=>match op with
  | .eql=>k (.bool (yz f NF))
  | .neq=>k (.bool (!yz f NF))
  | _=>False
 | _,_=>False
def uop (op:UnOp) (u:PV) (k:PV→Prop):Prop :=
 match op,u with
 | .not,.bool b=>k (.bool (!b))
 | op,.int a p=>wt (iun op a p) fun x=>k (ztq x)
 | _,_=>False
def lkU (A:List (Nat × Arr)) (a:Nat):Option Arr:=match lk A a with
 | some e=>match yab e.T 1000000 with
  | true=>some e
  | false=>none
 | none=>none
theorem zr0 {A:List (Nat × Arr)} {a:Nat} {e:Arr} (h:lkU A a=some e):lk A a=some e∧e.T<1000000:=by
 grind [lkU,yac]
def lkO (A:List (Nat × Arr)) (a:Nat):Option Arr:=match lk A a with
 | some e=>match yab e.T 1000000||yaa 2000000 e.T with
  | true=>some e
  | false=>none
 | none=>none
theorem z7g {A:List (Nat × Arr)} {a:Nat} {e:Arr} (h:lkO A a=some e):lk A a=some e∧(e.T<1000000∨2000000≤e.T):=by
 unfold lkO at h
 split at h
 ·rename_i e' he
  split at h
  ·simp_all
  ·cases h
 ·cases h
def lkM (A:List (Nat × Arr)) (a:Nat):Option Arr:=match lk A a with
 | some e=>match yaa 2000000 e.T with
  | true=>some e
  | false=>none
 | none=>none
theorem zqz {A:List (Nat × Arr)} {a:Nat} {e:Arr} (h:lkM A a=some e):lk A a=some e∧2000000≤e.T:=by
 unfold lkM at h
 split at h
 ·rename_i e' he
  split at h
  ·simp_all
  ·cases h
 ·cases h
def lkB (B:List (Nat × Bx)) (b:Nat):Option Bx:=match lk B b with
 | some e=>match yab e.T 1000000 with
  | true=>some e
  | false=>none
 | none=>none
theorem z8w {B:List (Nat × Bx)} {b:Nat} {e:Bx} (h:lkB B b=some e):lk B b=some e∧e.T<1000000:=by
 grind [lkB,yac]
def kyOf:TypeDesc→Option (Option IntKind)
 | .int k=>some (some k)
 | .string=>some none
 | _=>none
def toKey:Option IntKind→PV→Option D
 | some k,.int k' n=>match zzm k k' with
  | true=>some (.int k' n)
  | false=>none
 | none,.str s=>some (.str s)
 | _,_=>none
def kyEq:Option IntKind→Option IntKind→Bool
 | some k,some k'=>zzm k k'
 | none,none=>true
 | _,_=>false
def bq:Bool→Bool→Bool
 | true,b=>b
 | false,b => !b
def zcs (σ:St) (ky:Option IntKind) (g:Bool):PV→Option (Nat × List (List D))
 | .mp b=>match lk σ.B b with
  | some e=>match e.cs with
   | [.md (.cont ky' g' l)]=>match yz e.T 1000000&&kyEq ky ky'&&bq g g' with
    | true=>some (b,l)
    | false=>none
   | _=>none
  | none=>none
 | _=>none
def aggQ (g:Bool) (v:PV):Bool:=match g,v with
 | true,.agg _=>true
 | false,v=>ztr v
 | true,_=>false
structure NxW (rem:List (List D)) (k0:Prop) (k1:List D→List (List D)→Prop):Prop where
 stop:rem=[]→k0
 more:∀ (i:Nat) (x:List D),rem[i]? = some x→k1 x (rem.eraseIdx i)
def encS (n:Int):List UInt8:=(Utf8.encode n).data.toList
def zzy (l:List (List D)):Option Int:=some (l.length:Int)
def lenM (σ:St) (u:PV) (k:Int→Prop):Prop:=match u with
 | .mp b=>match lk σ.B b with
  | some e=>match e.cs with
   | [.md (.cont _ _ l)]=>match yz e.T 1000000 with
    | true=>Ex (zzy l) k
    | false=>False
   | _=>False
  | none=>False
 | _=>False
def zy7 (td:TypeDesc) (σ:St) (u:PV) (k:Int→Prop):Prop:=match td,u with
 | .string,.str s=>k (s.length:Int)
 | .slice _,.sl _ _ l=>Ex (zzy l) k
 | .slice _,.nil=>k 0
 | .slice _,.ref a=>wt (lkO σ.A a) fun e=>Ex (zzy e.l) k
 | .map _ _,.mp b=>lenM σ (.mp b) k
 | _,_=>False
def loW (σ:St) (x:Option Operand) (k:Int→Prop):Prop:=match x with
 | none=>k 0
 | some y=>match σ.ev y with
  | some (.int _ n)=>k n
  | _=>False
def hiW (td:TypeDesc) (σ:St) (u:PV) (x:Option Operand) (k:Int→Prop):Prop:=match x with
 | none=>zy7 td σ u k
 | some y=>match σ.ev y with
  | some (.int _ n)=>k n
  | _=>False
def loadP (σ:St) (g:Bool) (n:Nat):PV→Option PV
 | .ptr b off=>match lkB σ.B b with
  | some e=>z73 g n ((e.cs.drop off).take n)
  | none=>none
 | .zbc cs off=>z73 g n (((ofDs cs).drop off).take n)
 | _=>none
def zm1 (σ:St) (g:Bool) (n:Nat) (u:PV) (k:PV→Prop):Prop:=match u with
 | .zbx a m i off=>wt (lkO σ.A a) fun e=>match yz e.n m with
  | true=>Ex (ix e.l i) fun cs=>wt (z73 g n (((ofDs cs).drop off).take n)) k
  | false=>False
 | u=>wt (loadP σ g n u) k
def nilQ:PV→Option Bool
 | .ze6=>some true
 | .iface _ _=>some false
 | .err b=>some b
 | _=>none
def frcL:List PV→(List PV→Bool)→Bool
 | [],k=>k []
 | x::xs,k=>frcL xs fun ys=>k (x::ys)
def frcW:List PV→(List PV→Prop)→Prop
 | [],k=>k []
 | x::xs,k=>frcW xs fun ys=>k (x::ys)
theorem zjc:∀ (l:List PV) (k:List PV→Prop),frcW l k=k l
 | [],_=>rfl
 | x::xs,k=>by rw [frcW,zjc xs]
theorem zv8:∀ (l:List PV) (k:List PV→Bool),frcL l k=k l
 | [],_=>rfl
 | x::xs,k=>by rw [frcL,zv8 xs]
def zqj (fs:List (Nat × Bool × Nat)):List Nat→List PV→List PV→Bool
 | i::is,u::us,cs=>match fs[i]? with
  | some f=>yz (cellsOf u).length f.2.2&&yaa (f.1+f.2.2) cs.length && !(z5c u)&&frcL (cs.take f.1++cellsOf u++cs.drop (f.1+f.2.2)) (zqj fs is us)
  | none=>false
 | _,_,_=>true
def zld (fs:List (Nat × Bool × Nat)) (cs:List PV):List Nat→List PV→List PV
 | i::is,u::us=>match fs[i]? with
  | some f=>zld fs (cs.take f.1++cellsOf u++cs.drop (f.1+f.2.2)) is us
  | none=>[]
 | _,_=>cs
def zz2 (fs:List (Nat × Bool × Nat)) (k:List PV→Prop):List Nat→List PV→List PV→Prop
 | i::is,u::us,cs=>match fs[i]? with
  | some f=>frcW (cs.take f.1++cellsOf u++cs.drop (f.1+f.2.2)) (zz2 fs k is us)
  | none=>k []
 | _,_,cs=>k cs
theorem zj8 {fs:List (Nat × Bool × Nat)} {k:List PV→Prop}:∀ (is:List Nat) (us cs:List PV),zz2 fs k is us cs=k (zld fs cs is us)
 | [],us,cs=>by cases us<;>rfl
 | i::is,[],cs=>rfl
 | i::is,u::us,cs=>by
  unfold zz2 zld
  split
  ·rename_i f hf
   rw [zjc,zj8 is us]
  ·rfl
def maxI (p q:Int):Int:=if q>p then q else p
def minI (p q:Int):Int:=if q<p then q else p
def mmW (b:Bool) (u v:PV) (k:PV→Prop):Prop:=match u,v with
 | .int a p,.int c q=>match zzm a c,b with
  | true,true=>k (.int a (maxI p q))
  | true,false=>k (.int a (minI p q))
  | false,_=>False
 | _,_=>False
def qop (tb:Tb) (σ:St) (op:Op) (k:PV→Prop):Prop :=
 match op with
 | .move x=>wt (σ.ev x) k
 | .assign x=>wt (σ.ev x) k
 | .pick c x y=>match σ.ev c with
  | some (.bool c)=>wt (σ.ev x) fun u=>wt (σ.ev y) fun v=>cond c (k u) (k v)
  | _=>False
 | .binOp op t x y _=>match tb.ifc.any (yz t) with
  | true=>match y with
   | .const .nilIface=>wt ((σ.ev x).bind nilQ) fun b=>match op with
    | .eql=>k (.bool b)
    | .neq=>k (.bool (!b))
    | _=>False
   | _=>False
  | false=>match tb.eqn t with
   | some n=>wt (σ.ev x) fun u=>wt (σ.ev y) fun v=>arrW n op u v k
   | none=>wt (lk tb.und t) fun td=>wt (σ.ev x) fun u=>match zz01v y with
    | true=>nilF td op u k
    | false=>wt (σ.ev y) fun v=>bop td op u v k
 | .unOp op _ x=>wt (σ.ev x) fun u=>uop op u k
 | .convert s t x=>wt (σ.ev x) fun u=>match u,lk tb.und s,lk tb.und t with
  | .int _ n,some (.int _),some (.int kk)=>k (.int kk (kk.wrap n))
  | .str s,some .string,some .string=>k (.str s)
  | .int _ n,some (.int _),some .string=>k (.str (encS n))
  | _,_,_=>False
 | .makeInterface t x=>wt (σ.ev x) fun u=>match tb.nif.any (yz t) with
  | true=>k (.iface t u)
  | false=>False
 | .makeFunc (.func f) as_ cs=>match yz f NF with
  | true=>False
  | false=>wt (σ.evs as_.toList) fun us=>wt (σ.evs cs.toList) fun vs=>k (.fn f us vs)
 | .extract x i=>match σ.ev x with
  | some (.tup vs)=>wt vs[i]? k
  | _=>False
 | .nilCheck x=>wt (σ.ev x) fun u=>match u with
  | .ptr _ _=>k u
  | .zbc _ _=>k u
  | .zbx _ _ _ _=>k u
  | _=>False
 | .fieldAddr t x i=>wt ((lk tb.fld t).bind (·[i]?)) fun f=>wt (σ.ev x) fun u=>match u with
  | .ptr b off=>k (.ptr b (off+f.1))
  | .zbc cs off=>k (.zbc cs (off+f.1))
  | .zbx a m j off=>k (.zbx a m j (off+f.1))
  | _=>False
 | .field t x i=>wt ((lk tb.fld t).bind (·[i]?)) fun f=>match σ.ev x with
  | some (.agg cs)=>wt (z73 f.2.1 f.2.2 ((cs.drop f.1).take f.2.2)) k
  | _=>False
 | .load t x=>wt (lk tb.shp t) fun s=>wt (σ.ev x) fun u=>zm1 σ s.1 s.2 u k
 | .index t x y=>match lk tb.und t,σ.ev x,σ.ev y with
  | some .string,some (.str s),some (.int _ i)=>Ex (ix s i) fun c=>k (.int .u8 (c.toNat:Int))
  | _,_,_=>False
 | .indexAddr t x y=>match x with
  | .global g=>wt (lk tb.glb g) fun e=>match lk tb.und t,σ.ev y with
   | some (.array len T),some (.int _ i)=>wt (lk tb.shp T) fun s=>match yz s.2 e.1&&yz len e.2.1 with
    | true=>Ex (ix e.2.2 i) fun cs=>k (.zbc cs 0)
    | false=>False
   | _,_=>False
  | x=>wt (σ.ev x) fun u=>match lk tb.und t with
   | some (.slice T)=>wt (lk tb.shp T) fun s=>match u,σ.ev y with
    | .sl _ n l,some (.int _ i)=>match yz s.2 n with
     | true=>Ex (ix l i) fun cs=>k (.zbc cs 0)
     | false=>False
    | .ref a,some (.int _ i)=>wt (lkO σ.A a) fun e=>match yz s.2 e.n with
     | true=>Ex (ix e.l i) fun _=>k (.zbx a e.n i 0)
     | false=>False
    | _,_=>False
   | _=>False
 | .slice t x lo hi none=>wt (σ.ev x) fun u=>wt (lk tb.und t) fun td=>loW σ lo fun a=>hiW td σ u hi fun b=>match td,u with
  | .string,.str s=>Ex (sub s a b) fun r=>k (.str r)
  | .slice e,.sl T m l=>wt (lk tb.shp e) fun s=>match yz e T&&yz s.2 m with
   | true=>Ex (sub l a b) fun r=>k (.sl T m r)
   | false=>False
  | _,_=>False
 | .call c=>match c.callee,c.args.toList,c.argTypes.toList with
  | .builtin .len,[x],[t]=>wt (lk tb.und t) fun td=>wt (σ.ev x) fun u=>zy7 td σ u fun n=>k (.int .i64 n)
  | .builtin .max,[x,y],_=>wt (σ.ev x) fun u=>wt (σ.ev y) fun v=>mmW true u v k
  | .builtin .min,[x,y],_=>wt (σ.ev x) fun u=>wt (σ.ev y) fun v=>mmW false u v k
  | _,_,_=>False
 | .typeAssert x _ t true=>wt (lk tb.zer t) fun z=>match σ.ev x,tb.nif.any (yz t) with
  | some (.iface T u),true=>match yz T t with
   | true=>k (.tup [u,.bool true])
   | false=>k (.tup [ofV z,.bool false])
  | some .ze6,true=>k (.tup [ofV z,.bool false])
  | _,_=>False
 | .build t parts=>wt (σ.evs (parts.toList.map (·.2))) fun us=>match lk tb.ars t with
  | some n=>match yz us.length n&&zbr 0 (parts.toList.map (·.1))&&us.all strP with
   | true=>k (.agg us)
   | false=>False
  | none=>wt (lk tb.zer t) fun z=>wt (lk tb.fld t) fun fs=>frcW (cellsOf (ofV z)) fun cs =>
   match zqj fs (parts.toList.map (·.1)) us cs with
   | true=>zz2 fs (fun ds=>k (.agg ds)) (parts.toList.map (·.1)) us cs
   | false=>False
 | .slice t x none (some hi) (some mx)=>wt (σ.ev x) fun u=>match lk tb.und t,u,σ.ev hi,σ.ev mx with
  | some (.slice e),.sl T m l,some (.int _ b),some (.int _ c)=>wt (lk tb.shp e) fun s=>match yz e T&&yz s.2 m with
   | true=>Ex (zzy l) fun n=>Ex (chk (decide (b≤c)&&decide (c≤n))) fun _=>Ex (sub l 0 b) fun r=>k (.sl T m r)
   | false=>False
  | _,_,_,_=>False
 | _=>False

def St.zz9 (σ:St) (k:St→Prop):List Nat→List Nat→List Nat→Prop
 | [],[],[]=>k σ
 | _,_,_=>σ.frc k
theorem St.zaf {σ:St} {k:St→Prop} {a b c:List Nat}:σ.zz9 k a b c=k σ:=by
 grind [St.zz9,St.z5u]
def spn {β:Type}:List β→(List β→Prop)→Prop
 | [],k=>k []
 | x::r,k=>spn r fun r=>k (x::r)
theorem zxr {β:Type}:∀ (l:List β) (k:List β→Prop),spn l k=k l
 | [],_=>rfl
 | x::r,k=>by rw [spn,zxr r]
def spB:List (Nat × Bx)→(List (Nat × Bx)→Prop)→Prop
 | [],k=>k []
 | (b,⟨T,cs⟩)::r,k=>spn cs fun cs=>spB r fun r=>k ((b,⟨T,cs⟩)::r)
theorem zz02l:∀ (l:List (Nat × Bx)) (k:List (Nat × Bx)→Prop),spB l k=k l
 | [],_=>rfl
 | (d,⟨T,cs⟩)::r,k=>by rw [spB,zxr,zz02l r]
def spD (D:Option (Nat × Nat × Nat)) (k:Option (Nat × Nat × Nat)→Prop):Prop:=match D with
 | none=>k none
 | some (a,b,c)=>k (some (a,b,c))
theorem zz08w {D:Option (Nat × Nat × Nat)} {k:Option (Nat × Nat × Nat)→Prop}:spD D k=k D:=by
 obtain _|⟨a,b,c⟩:=D<;>rfl
def St.frs (σ:St) (k:St→Prop):Prop:=match σ with
 | ⟨[],B,A,D⟩=>spB B fun B=>frA A fun A=>spD D fun D=>k ⟨[],B,A,D⟩
 | ⟨(d,v)::r,B,A,D⟩=>zsc v fun v=>spn r fun r=>spB B fun B=>frA A fun A=>spD D fun D=>k ⟨(d,v)::r,B,A,D⟩
theorem St.zz01s {σ:St} {k:St→Prop}:σ.frs k=k σ:=by
 obtain ⟨_|⟨⟨d,v⟩,r⟩,B,A,D⟩:=σ<;>simp only [St.frs,zfn,zxr,zz02l,zqo,zz08w]
def St.go (σ:St) (k:St→Prop):Prop:=match σ with
 | ⟨[],B,A,D⟩=>k ⟨[],B,A,D⟩
 | ⟨(d,v)::r,B,A,D⟩=>zsc v fun v=>k ⟨(d,v)::r,B,A,D⟩
theorem St.go_eq {σ:St} {k:St→Prop}:σ.go k=k σ:=by
 unfold St.go
 grind [zfn]
def nthO {β:Type}:List β→Nat→Option β
 | [],_=>none
 | x::_,0=>some x
 | _::r,n+1=>nthO r n
theorem zgb {β:Type}:∀ (l:List β) (n:Nat),nthO l n=l[n]?
 | [],n=>by simp [nthO]
 | x::r,0=>rfl
 | x::r,n+1=>by simp [nthO,zgb r n]
def zwm (ops:Array Oper) (q:Nat):Option Oper:=nthO ops.toList q
theorem z9y {ops:Array Oper} {q:Nat}:zwm ops q=ops[q]?:=by simp [zwm,zgb]
def zb6 (bs as_:List Nat):PV→PV
 | .ref a=>match as_[a]? with
  | some x => .ref x
  | none => .undef
 | .ptr b off=>match bs[b]? with
  | some x => .ptr x off
  | none => .undef
 | .z1l b=>match bs[b]? with
  | some x => .z1l x
  | none => .undef
 | .mp b=>match bs[b]? with
  | some x => .mp x
  | none => .undef
 | .agg cs => .agg (go cs)
 | .tup cs => .tup (go cs)
 | .iface T v => .iface T (zb6 bs as_ v)
 | .fn f a c => .fn f (go a) (go c)
 | .zbx _ _ _ _ => .undef
 | v=>v
where
 go:List PV→List PV
  | []=>[]
  | v::vs=>zb6 bs as_ v::go vs
def nrm (σ:St):PV→PV→PV
 | .sl _ _ _,.ref a=>match lkU σ.A a with
  | some e=>e.sl
  | none => .undef
 | .sl T n _,.nil => .sl T n []
 | .err _,.ze6 => .err true
 | .err _,.iface _ _ => .err false
 | .agg ws,.agg vs => .agg (go ws vs)
 | .tup ws,.tup vs => .tup (go ws vs)
 | _,v=>v
where
 go:List PV→List PV→List PV
  | w::ws,v::vs=>nrm σ w v::go ws vs
  | _,vs=>vs
def z9e:PV→PV→List Nat
 | .sl _ _ _,.ref a=>[a]
 | .agg ws,.agg vs=>go ws vs
 | .tup ws,.tup vs=>go ws vs
 | _,_=>[]
where
 go:List PV→List PV→List Nat
  | w::ws,v::vs=>z9e w v++go ws vs
  | _,_=>[]
def zbm:PV→Bool
 | .sl _ _ _=>true
 | .zbc _ _=>true
 | .md _=>true
 | .agg cs=>go cs
 | .tup cs=>go cs
 | .iface _ v=>zbm v
 | .fn _ a c=>go a||go c
 | _=>false
where
 go:List PV→Bool
  | []=>false
  | v::vs=>zbm v||go vs
def zbz (a:Nat) (e:Arr):PV→PV
 | .ref x=>match yz x a with
  | true=>e.sl
  | false => .ref x
 | .zbx x m i off=>match yz x a with
  | true => .undef
  | false => .zbx x m i off
 | .agg cs => .agg (go cs)
 | .tup cs => .tup (go cs)
 | .iface T v => .iface T (zbz a e v)
 | .fn f s c => .fn f (go s) (go c)
 | v=>v
where
 go:List PV→List PV
  | []=>[]
  | v::vs=>zbz a e v::go vs
def z9d {β:Type} (a:Nat):List (Nat × β)→List (Nat × β)
 | []=>[]
 | (s,v)::r=>match yz s a with
  | true=>z9d a r
  | false=>(s,v)::z9d a r
def zet {β:Type} (a:Nat) (x:β):List (Nat × β)→List (Nat × β)
 | []=>[]
 | (s,v)::r=>match yz s a with
  | true=>(s,x)::r
  | false=>(s,v)::zet a x r
def St.mapV (σ:St) (f:PV→PV):St:=match σ with
 | ⟨L,B,A,D⟩=>⟨L.map fun p=>match p with|(d,v)=>(d,f v),B.map fun p=>match p with|(b,⟨T,cs⟩)=>(b,⟨T,cs.map f⟩),A,D⟩
def St.freeze (σ:St):List Nat→Option St
 | []=>some σ
 | a::as_=>match lk σ.A a with
  | some e=>match e.mine&&yab e.T 1000000 with
   | true=>({ (σ.mapV (zbz a e)) with A:=z9d a σ.A }:St).freeze as_
   | false=>none
  | none=>σ.freeze as_
def St.z97 (σ:St) (b:Nat):Bool:=yaa 1000 b&&(lk σ.B b).isNone&&σ.L.all (fun p=>noK (some b) none p.2)&&σ.B.all (fun p=>zd1 (some b) none p.2.cs)
def St.z6u (σ:St) (a:Nat):Bool:=(lk σ.A a).isNone&&σ.L.all (fun p=>noK none (some a) p.2)&&σ.B.all (fun p=>zd1 none (some a) p.2.cs)
def St.pu (σ:St) (d:Nat) (v:PV):St:=match σ with
 | ⟨L,B,A,D⟩=>⟨(d,v)::L,B,A,D⟩
def St.put (σ:St) (d:Option Nat) (v:PV):St:=match d with
 | some d=>σ.pu d v
 | none=>σ
def toD (T:Option (Nat × Nat)):PV→Option D
 | .int k n=>some (.int k n)
 | .bool b=>some (.bool b)
 | .str s=>some (.str s)
 | .sl T n l=>some (.sl T n l)
 | .nil=>match T with
  | some (T,n)=>some (.sl T n [])
  | none=>none
 | .fn f [] []=>some (dfn f)
 | _=>none
def toDs (ct:List (Option (Nat × Nat))) (cs:List PV):Option (List D):=match cs,ct with
 | [],_=>some []
 | v::vs,c::ct=>match toD c v,toDs ct vs with
  | some d,some ds=>some (d::ds)
  | _,_=>none
 | v::vs,[]=>match toD none v,toDs [] vs with
  | some d,some ds=>some (d::ds)
  | _,_=>none
def elsD (ct:List (Option (Nat × Nat))):List PV→Option (List (List D))
 | []=>some []
 | v::vs=>match toDs ct (cellsOf v),elsD ct vs with
  | some d,some ds=>some (d::ds)
  | _,_=>none
def zcx:PV→List Nat
 | .ref a=>[a]
 | .agg cs=>go cs
 | .tup cs=>go cs
 | .iface _ v=>zcx v
 | _=>[]
where
 go:List PV→List Nat
  | []=>[]
  | v::vs=>zcx v++go vs
def dby:List (List D)→Option (List UInt8)
 | []=>some []
 | [.int .u8 n]::r=>match dby r with
  | some s=>some (UInt8.ofNat n.toNat::s)
  | none=>none
 | _=>none
def ztj (s:List UInt8):List (List D):=(unb s).map (eI .u8)
def z9s {β:Type} (ks:List Nat) (l:List (Nat × β)):List (Nat × β):=match ks with
 | []=>[]
 | x::r=>match lk l x with
  | some v=>(x,v)::z9s r l
  | none=>z9s r l
def zw3:Option Nat→PV→Option PV
 | none,v=>some v
 | some j,.agg cs=>cs[j]?
 | _,_=>none
def zz05h:Option Nat→PV→PV→PV
 | none,_,x=>x
 | some j,.agg cs,x => .agg (cs.set j x)
 | _,v,_=>v
def St.at (σ:St):Place→Option PV
 | .slot t j=>match lk σ.L t with
  | some v=>zw3 j v
  | none=>none
 | .cell b j=>match lk σ.B b with
  | some e=>e.cs[j]?
  | none=>none
def St.set (σ:St) (x:PV):Place→St
 | .slot t j=>match lk σ.L t with
  | some v => { σ with L:=zet t (zz05h j v x) σ.L }
  | none=>σ
 | .cell b j=>match lk σ.B b with
  | some e => { σ with B:=zet b (e.wc (e.cs.set j x)) σ.B }
  | none=>σ
def St.home (σ:St):List (Place × Nat × Nat × Nat)→Option St
 | []=>some σ
 | (p,a,T,n)::r=>match σ.at p with
  | some .nil=>match σ.z6u a with
   | true=>({ (σ.set (.ref a) p) with A:=(a,⟨true,T,n,[]⟩)::σ.A }:St).home r
   | false=>none
  | some (.ref x)=>match yz x a with
   | true=>σ.home r
   | false=>match lk σ.A x,σ.z6u a with
    | some e,true=>({ (σ.set (.ref a) p) with A:=(a,e)::z9d x σ.A }:St).home r
    | _,_=>none
  | _=>none
def St.nilD (σ:St):List (Place × Nat × Nat)→Option St
 | []=>some σ
 | (p,T,n)::r=>match σ.at p with
  | some .nil=>(σ.set (.sl T n []) p).nilD r
  | some (.sl _ _ _)=>σ.nilD r
  | _=>none
def St.zx1 (σ:St):List (Place × Nat × Nat)→List Nat
 | []=>[]
 | (p,_,_)::r=>match σ.at p with
  | some (.ref a)=>a::σ.zx1 r
  | _=>σ.zx1 r
def St.cut0 (σ:St) (c:Cut):Option St:=match ({ σ with L:=z9s c.L σ.L,B:=z9s c.B σ.B }:St).home c.H with
 | some s=>match s.nilD c.N with
  | some s=>some { s with A:=z9s c.A s.A }
  | none=>none
 | none=>none
def St.itN (σ:St):List Nat→St
 | []=>σ
 | b::r=>match σ.at (.cell b 0) with
  | some (.md (.it ky g _ rem))=>(σ.set (.md (.it ky g none rem)) (.cell b 0)).itN r
  | _=>σ.itN r
def St.cut (σ:St) (c:Cut):Option St:=match σ.freeze (σ.zx1 c.N) with
 | some s=>(s.itN c.I).cut0 c
 | none=>none

def St.zat (σ:St) (c:Cut) (k:St→Prop):Prop:=wt (σ.cut c) fun s=>s.frc k
theorem z81 {σ:St} {c:Cut} {k:St→Prop} (h:σ.zat c k):∃ s,σ.cut c=some s∧k s:=by
 unfold St.zat at h
 cases e:σ.cut c with
 | none=>rw [e] at h;exact h.elim
 | some s=>rw [e] at h;exact ⟨s,rfl,St.z5u.mp h⟩
structure Ov where
 L:List (Nat × PV)
 B:List (Nat × Bx)
 A:List (Nat × Arr)
def ovk {β:Type} (n o:List (Nat × β)):List Nat→List (Nat × β)
 | []=>[]
 | x::r=>match lk n x with
  | some v=>(x,v)::ovk n o r
  | none=>match lk o x with
   | some v=>(x,v)::ovk n o r
   | none=>ovk n o r
def ovS (σ:St) (c:Cut) (v:Ov):St:=⟨ovk v.L σ.L c.L,ovk v.B σ.B c.B,ovk v.A σ.A c.A,σ.D⟩
def St.ub (σ:St) (t:Nat) (x:Bool):St:={ σ with L:=zet t (.bool x) σ.L }

def apL (tb:Tb) (t t2:Nat) (inf:Value × Nat × Nat) (v:PV):Option (List (List D)):=match v with
 | .sl _ n l=>match yz t t2&&yz n inf.2.1 with
  | true=>some l
  | false=>none
 | .nil=>match yz t t2 with
  | true=>some []
  | false=>none
 | .str s=>match lk tb.und t2,inf with
  | some .string,(.int .u8 0,1,1)=>some (ztj s)
  | _,_=>none
 | _=>none
section
variable (tb:Tb) (cty:List (Nat × List (Option (Nat × Nat)))) (ann:Ann) (con:Nat→CIn→z3x→Prop)
def z9f (σ:St) (bs as_:List Nat):List Nat→List Bx→Prop
 | b::ks,e::es=>(match lk σ.B b with
  | some x=>x.T=e.T∧nrm.go { σ with A:=[] } e.cs x.cs=zb6.go bs as_ e.cs
  | none=>False)∧z9f σ bs as_ ks es
 | _,[]=>True
 | [],_::_=>False
def zey (σ:St):List Nat→List (Nat × Nat × List (List D))→Prop
 | a::ks,e::es=>(match lk σ.A a with
  | some x=>x.T=e.1∧x.n=e.2.1∧x.l=e.2.2
  | none=>False)∧zey σ ks es
 | _,[]=>True
 | [],_::_=>False
def z99:List Nat→Bool
 | []=>true
 | x::r => !(r.any (yz x))&&z99 r
def inR (nb na:Nat):PV→Bool
 | .ref a=>yab a na
 | .ptr b _=>yab b nb
 | .z1l b=>yab b nb
 | .mp b=>yab b nb
 | .zbx _ _ _ _=>false
 | .agg cs=>go cs
 | .tup cs=>go cs
 | .iface _ v=>inR nb na v
 | .fn _ a c=>go a&&go c
 | _=>true
where
 go:List PV→Bool
  | []=>true
  | v::vs=>inR nb na v&&go vs
def z5a {β:Type}:List Nat→List (Nat × β)→List (Nat × β)
 | [],l=>l
 | a::as_,l=>z5a as_ (z9d a l)
def zipA (m:Bool):List Nat→List (Option (Nat × Nat × List (List D)))→List (Nat × Arr)
 | a::ks,some (T,n,l)::es=>(a,⟨m,T,n,l⟩)::zipA m ks es
 | _::ks,none::es=>zipA m ks es
 | _,_=>[]
def zipB (bs as_:List Nat):List Nat→List Bx→List (Nat × Bx)
 | b::ks,e::es=>(b,e.wc (zb6.go bs as_ e.cs))::zipB bs as_ ks es
 | _,_=>[]
def retV:List PV→PV
 | [v]=>v
 | vs => .tup vs
def z8e (σ:St):List Nat→Bool
 | []=>true
 | a::as_=>(match lk σ.A a with
  | some e=>e.mine
  | none=>false)&&z8e σ as_
def zht (σ:St) (bs as_ ls:List Nat) (i:CIn):Bool :=
 z99 bs&&z99 as_&&yaa i.B.length bs.length&&yz i.A.length as_.length&&inR.go i.B.length i.A.length i.vs&&i.B.all (fun e=>inR.go i.B.length i.A.length e.cs) &&
  ls.all fun a=>(lk σ.A a).isSome && !(as_.any (yz a))
def zma (σ:St) (bs as_':List Nat) (nb:Nat) (vs:List PV) (B:List Bx) (A:List (Option (Nat × Nat × List (List D)))):Bool :=
 z99 as_'&&yz B.length bs.length&&yz A.length as_'.length&&inR.go B.length A.length vs&&B.all (fun e=>inR.go B.length A.length e.cs)&&as_'.all σ.z6u&&(bs.drop nb).all σ.z97
def zcr (vs:List PV) (B:List Bx) (A:List (Option (Nat × Nat × List (List D)))):Bool:=zbm.go vs||B.any (fun e=>zbm.go e.cs)||A.any (fun e=>e.isSome)
def frz (b:Bool) (σ:St) (ls:List Nat):Option St:=match b with
 | true=>σ.freeze ls
 | false=>some σ
def left (m:Bool) (bs as_ as_':List Nat) (B:List Bx) (A:List (Option (Nat × Nat × List (List D)))) (σ:St):St:={ σ with B:=zipB bs as_' bs B++z5a bs σ.B,A:=zipA m as_' A++z5a as_ σ.A }
def St.lost (σ:St) (bs as_:List Nat):St:={ σ with B:=z5a bs σ.B,A:=z5a as_ σ.A }
def zeb:List Nat→List Nat→List (Nat × Arr)→List (Nat × Arr)
 | a::as_,a'::as_',A=>match lk A a' with
  | some e=>zeb as_ as_' ((a,e)::z9d a' A)
  | none=>zeb as_ as_' A
 | _,_,A=>A
def disj (as_ as_':List Nat):Bool:=as_.all fun a => !(as_'.any (yz a))
def St.zeb (σ:St) (as_ as_':List Nat):St:={ σ with A:=Go.Pe.zeb as_ as_' σ.A }
def znk (bs as_ as_':List Nat) (i:CIn) (args:List PV) (σ:St) (k:PV→St→Prop) (kp:PV→St→Prop):z3x→Prop
 | .ok vs B A=>wt (frz (zcr vs B A) σ (z9e.go i.vs args)) fun s =>
   zma { s with B:=z5a bs s.B,A:=z5a as_ s.A } bs as_' i.B.length vs B A=true∧(left (z8e σ as_) bs as_ as_' B A s).zz9 (fun s=>k (retV (zb6.go bs as_' vs)) s) bs as_' (z9e.go i.vs args)
 | .okI vs B A=>wt (frz (zcr vs B A) σ (z9e.go i.vs args)) fun s =>
   (zma { s with B:=z5a bs s.B,A:=z5a as_ s.A } bs as_' i.B.length vs B A&&disj as_ as_')=true∧((left (z8e σ as_) bs as_ as_' B A s).zeb as_ as_').zz9 (fun s=>k (retV (zb6.go bs as_' vs)) s) bs as_' (z9e.go i.vs args)
 | .pan v=>zbm v=false∧kp v (σ.lost bs (as_++z9e.go i.vs args))
 | .zhg v B=>wt (frz (zcr [] B []) σ (z9e.go i.vs args)) fun s =>
   (zma { s with B:=z5a bs s.B,A:=z5a as_ s.A } bs as_' i.B.length [] B [] && !(zbm v))=true∧(left (z8e σ as_) bs as_ as_' B [] s).frc (kp v)
def ziv (σ:St) (f:Nat) (args:List PV) (k:PV→St→Prop) (kp:PV→St→Prop):Prop :=
 ∃ (bs as_ as_':List Nat) (i:CIn) (o:z3x),con f i o∧nrm.go σ i.vs args=zb6.go bs as_ i.vs∧z9f σ bs as_ bs i.B∧zey σ as_ i.A∧zht σ bs as_ (z9e.go i.vs args) i=true∧znk bs as_ as_' i args σ k kp o
def quiet:Op→Bool
 | .alloc _ | .box _ _ | .store _ _ _ | .buildSlice _ _ _ | .panic _ | .makeSlice _ _ _ | .defer _ | .makeMap _ _ | .mapUpdate _ _ _ _ | .insert _ _ _ _ | .lookup _ _ _ _ | .range _ _ | .next _ _ | .entry _=>false
 | .call c=>match c.callee with
  | .builtin .len=>true
  | .builtin .max=>true
  | .builtin .min=>true
  | _=>false
 | .convert _ _ _=>true
 | _=>true
def St.born (σ:St) (key E:Nat) (k:St→Prop):Prop:=wt (σ.home [(.cell key 1,key,E,1)]) fun s=>match s.at (.cell key 0) with
 | some .zei=>k (s.set (.z1l key) (.cell key 0))
 | _=>False
def actM (σ:St) (o:Oper) (k:St→Prop):Prop :=
 match o.op with
 | .makeMap t none=>wt o.dst fun d=>match lk tb.und t with
  | some (.map kt et)=>wt ((lk tb.und kt).bind kyOf) fun ky=>wt (lk tb.shp et) fun s=>match σ.z97 (d+1000) with
   | true=>k { σ with B:=(d+1000,⟨1000000,[.md (.cont ky s.1 [])]⟩)::σ.B,L:=(d,.mp (d+1000))::σ.L }
   | false=>False
  | _=>False
 | .mapUpdate t x y v=>match o.dst with
  | none=>match lk tb.und t with
   | some (.map kt et)=>wt ((lk tb.und kt).bind kyOf) fun ky=>wt (lk tb.shp et) fun s=>wt (σ.ev v) fun v0=>wt (σ.freeze (zcx v0)) fun σ=>wt (σ.ev x) fun u=>wt (σ.ev y) fun kv=>wt (σ.ev v) fun v =>
    wt (toKey ky kv) fun kd=>wt (toDs (match lk cty et with|some c=>c|none=>[]) (cellsOf v)) fun vd=>wt (zcs σ ky s.1 u) fun m=>match aggQ s.1 v with
    | true=>Ex (some (z9w m.2 kd vd)) fun l=>k { σ with B:=zet m.1 ⟨1000000,[.md (.cont ky s.1 l)]⟩ σ.B }
    | false=>False
   | _=>False
  | some _=>False
 | .insert t x y v=>match o.dst with
  | none=>match lk tb.und t with
   | some (.map kt et)=>wt ((lk tb.und kt).bind kyOf) fun ky=>wt (lk tb.shp et) fun s=>wt (σ.ev v) fun v0=>wt (σ.freeze (zcx v0)) fun σ=>wt (σ.ev x) fun u=>wt (σ.ev y) fun kv=>wt (σ.ev v) fun v =>
    wt (toKey ky kv) fun kd=>wt (toDs (match lk cty et with|some c=>c|none=>[]) (cellsOf v)) fun vd=>wt (zcs σ ky s.1 u) fun m=>match aggQ s.1 v with
    | true=>Ex (some (z9w m.2 kd vd)) fun l=>k { σ with B:=zet m.1 ⟨1000000,[.md (.cont ky s.1 l)]⟩ σ.B }
    | false=>False
   | _=>False
  | some _=>False
 | .lookup t x y c=>wt o.dst fun d=>match lk tb.und t with
  | some (.map kt et)=>wt ((lk tb.und kt).bind kyOf) fun ky=>wt (lk tb.shp et) fun s=>wt (lk tb.zer et) fun z=>wt (σ.ev x) fun u=>wt (σ.ev y) fun kv=>wt (toKey ky kv) fun kd =>
   wt (toDs (match lk cty et with|some c=>c|none=>[]) (cellsOf (ofV z))) fun zd=>wt (zcs σ ky s.1 u) fun m=>match aggQ s.1 (ofV z) with
   | true=>Ex (some (zju m.2 kd zd)) fun ds=>wt (z73 s.1 s.2 (ofDs ds)) fun r=>match c with
    | false=>k { σ with L:=(d,r)::σ.L }
    | true=>Ex (some (zm2 m.2 kd)) fun b=>k { σ with L:=(d,.tup [r,.bool b])::σ.L }
   | false=>False
  | _=>False
 | .range t x=>wt o.dst fun d=>match lk tb.und t with
  | some (.map kt et)=>wt ((lk tb.und kt).bind kyOf) fun ky=>wt (lk tb.shp et) fun s=>wt (σ.ev x) fun u=>wt (zcs σ ky s.1 u) fun m=>match yaa 1000 m.1&&({ σ with B:=z9d m.1 σ.B }:St).z97 (d+1000) with
   | true=>k { σ with B:=(d+1000,⟨2000000,[.md (.it ky s.1 none m.2)]⟩)::z9d m.1 σ.B,L:=(d,.ptr (d+1000) 0)::σ.L }
   | false=>False
  | _=>False
 | .next x false=>wt o.dst fun d=>wt (σ.ev x) fun u=>match u with
  | .ptr b off=>wt (lk σ.B b) fun e=>match e.cs with
   | [.md (.it ky g _ rem)]=>match yz off 0&&yz e.T 2000000 with
    | true=>NxW rem (k { σ with L:=(d,.tup [.bool false])::σ.L }) fun x r=>k { σ with B:=zet b ⟨2000000,[.md (.it ky g (some x) r)]⟩ σ.B,L:=(d,.tup [.bool true,.undef,.undef])::σ.L }
    | false=>False
   | _=>False
  | _=>False
 | .entry x=>wt o.dst fun d=>wt (σ.ev x) fun u=>match u with
  | .ptr b off=>wt (lk σ.B b) fun e=>match e.cs with
   | [.md (.it _ g (some (kd::ds)) _)]=>match yz off 0&&yz e.T 2000000 with
    | true=>wt (z73 g ds.length (ofDs ds)) fun r=>k { σ with L:=(d,.tup [ofD kd,r])::σ.L }
    | false=>False
   | _=>False
  | _=>False
 | .call c=>match c.callee,c.args.toList,c.argTypes.toList with
  | .builtin .delete,[x,y],t::_=>match o.dst with
   | none=>match lk tb.und t with
    | some (.map kt et)=>wt ((lk tb.und kt).bind kyOf) fun ky=>wt (lk tb.shp et) fun s=>wt (σ.ev x) fun u=>wt (σ.ev y) fun kv=>wt (toKey ky kv) fun kd=>wt (zcs σ ky s.1 u) fun m =>
     Ex (some (zhf m.2 kd)) fun l=>k { σ with B:=zet m.1 ⟨1000000,[.md (.cont ky s.1 l)]⟩ σ.B }
    | _=>False
   | some _=>False
  | _,_,_=>False
 | _=>False
def roSt:Operand→Option Nat
 | .tmp d=>match ann.ro.any (yz d) with
  | true=>some d
  | false=>none
 | _=>none
def St.freeB (σ:St) (d b:Nat):Bool:=σ.L.all (fun p=>yz p.1 d||noK (some b) none p.2)&&(z9d b σ.B).all (fun p=>zd1 (some b) none p.2.cs)
def stR (σ:St) (n T d:Nat) (y:Operand) (k:St→Prop):Prop:=wt (σ.ev y) fun v0=>wt (σ.freeze (zcx v0)) fun σ=>wt (lk σ.L d) fun u=>wt (σ.ev y) fun v=>match u with
 | .ptr b off=>wt (lkB σ.B b) fun e=>wt (toDs (match lk cty T with|some c=>c|none=>[]) (cellsOf v)) fun ds=>match yz off 0&&yaa 1000 b&&yz e.cs.length n&&yz (cellsOf v).length n&&(cellsOf v).all ztr&&σ.freeB d b with
  | true=>k { σ with B:=z9d b σ.B,L:=(d,.zbc ds 0)::σ.L }
  | false=>False
 | _=>False
def stC (cs:List PV) (off n:Nat) (vs:List PV):Option (List PV):=match yz vs.length n&&yaa (off+n) cs.length&&vs.all ztr with
 | true=>some (cs.take off++vs++cs.drop (off+n))
 | false=>none
def act (σ:St) (o:Oper) (k:St→Prop) (kp:PV→St→Prop):Prop :=
 match o.op with
 | .alloc T=>wt o.dst fun d=>wt (lk tb.zer T) fun z=>match σ.z97 (d+1000)&&yab T 1000000 with
  | true=>match lk tb.bld T with
   | none=>k { σ with B:=(d+1000,⟨T,cellsOf (ofV z)⟩)::σ.B,L:=(d,.ptr (d+1000) 0)::σ.L }
   | some E=>({ σ with B:=(d+1000,⟨T,cellsOf (ofV z)⟩)::σ.B,L:=(d,.ptr (d+1000) 0)::σ.L }:St).born (d+1000) E k
  | false=>False
 | .box T x=>wt o.dst fun d=>wt (σ.ev x) fun v=>match ann.ro.any (yz d) with
  | true=>wt (toDs (match lk cty T with|some c=>c|none=>[]) (cellsOf v)) fun ds=>match !(z5c v) with
   | true=>k { σ with L:=(d,.zbc ds 0)::σ.L }
   | false=>False
  | false=>match σ.z97 (d+1000) && !(z5c v)&&yab T 1000000 with
   | true=>k { σ with B:=(d+1000,⟨T,cellsOf v⟩)::σ.B,L:=(d,.ptr (d+1000) 0)::σ.L }
   | false=>False
 | .store T x y=>match o.dst with
  | none=>wt (lk tb.shp T) fun s=>(match roSt ann x with
  | some d=>stR cty σ s.2 T d y k
  | none=>wt (σ.ev x) fun u=>wt (σ.ev y) fun v=>(match u with
  | .ptr b off=>wt (lkB σ.B b) fun e=>wt (stC e.cs off s.2 (cellsOf v)) fun cs=>k { σ with B:=zet b (e.wc cs) σ.B }
  | .zbx a m i 0=>wt (σ.freeze (zcx v)) fun σ=>wt (lkO σ.A a) fun e=>wt (σ.ev y) fun v=>wt (toDs (match lk cty e.T with|some c=>c|none=>[]) (cellsOf v)) fun ds=>match yz ds.length e.n&&yz s.2 e.n&&yz e.n m&&(cellsOf v).all ztr with
   | true=>Ex (setx e.l i ds) fun l=>k { σ with A:=zet a (e.wl l) σ.A }
   | false=>False
  | _=>False))
  | some _=>False
 | .buildSlice t n parts=>wt o.dst fun d=>match lk tb.und t with
  | some (.slice e)=>wt (σ.evs (parts.toList.map (·.2))) fun us=>wt (σ.freeze (zcx.go us)) fun σ=>wt (σ.evs (parts.toList.map (·.2))) fun us=>wt (lk tb.shp e) fun s=>wt (lk tb.zer e) fun z =>
   wt (elsD (match lk cty e with|some c=>c|none=>[]) us) fun ds=>match zbr 0 (parts.toList.map (·.1))&&yz us.length n&&yz z.cells.size s.2&&yaa (n*s.2) 16777216&&yaa n 16777216&&us.all (fun x => !(z5c x))&&ds.all (fun x=>yz x.length s.2) with
   | true=>match ann.own.any (yz d) with
    | true=>match σ.z6u (d+1000)&&yab e 1000000 with
     | true=>k { σ with A:=(d+1000,⟨true,e,s.2,ds⟩)::σ.A,L:=(d,.ref (d+1000))::σ.L }
     | false=>False
    | false=>k { σ with L:=(d,.sl e s.2 ds)::σ.L }
   | false=>False
  | _=>False
 | .panic x=>wt (σ.ev x) fun v=>match v with
  | .iface _ _=>kp v σ
  | _=>False
 | .convert s t x=>wt o.dst fun d=>wt (σ.ev x) fun u=>match u,lk tb.und s,lk tb.und t with
  | .str s,some .string,some (.slice e)=>match lk tb.und e with
   | some (.int .u8)=>Ex (chk (decide (s.length≤9223372036854775807))) fun _=>match ann.own.any (yz d) with
    | true=>match σ.z6u (d+1000) with
     | true=>k { σ with A:=(d+1000,⟨true,e+2000000,1,ztj s⟩)::σ.A,L:=(d,.ref (d+1000))::σ.L }
     | false=>False
    | false=>k { σ with L:=(d,.sl e 1 (ztj s))::σ.L }
   | _=>False
  | .sl _ 1 l,some (.slice e),some .string=>match lk tb.und e with
   | some (.int .u8)=>Ex (dby l) fun s=>k { σ with L:=(d,.str s)::σ.L }
   | _=>False
  | .ref a,some (.slice e),some .string=>wt (lkO σ.A a) fun x=>match lk tb.und e,yz x.n 1 with
   | some (.int .u8),true=>Ex (dby x.l) fun s=>k { σ with L:=(d,.str s)::σ.L }
   | _,_=>False
  | _,_,_=>False
 | .call c=>match c.callee,c.args.toList with
  | .builtin .append,[x,y]=>wt o.dst fun d=>wt (σ.ev x) fun u=>wt (σ.ev y) fun v=>match c.argTypes.toList with
   | [t,t2]=>match lk tb.und t with
    | some (.slice e)=>wt (lk tb.inf e) fun inf=>wt (σ.freeze (zcx v)) fun σ=>wt (σ.ev y) fun v=>wt (apL tb t t2 inf v) fun l2=>match yz inf.1.cells.size inf.2.1&&yab 0 inf.2.1&&yab 0 inf.2.2 with
     | true=>match u with
      | .nil=>match σ.z6u (d+1000)&&yab e 1000000 with
       | true=>Ex (app inf.2.2 [] l2) fun r=>k { σ with A:=(d+1000,⟨true,e,inf.2.1,r⟩)::σ.A,L:=(d,.ref (d+1000))::σ.L }
       | false=>False
      | .ref a=>match lkM σ.A a with
       | some x=>match ({ σ with A:=z9d a σ.A }:St).z6u (d+1000)&&yz x.T (e+2000000)&&yz x.n 1&&strP v with
        | true=>Ex (app inf.2.2 x.l l2) fun r=>k { σ with A:=(d+1000,x.wl r)::z9d a σ.A,L:=(d,.ref (d+1000))::σ.L }
        | false=>False
       | none=>wt (lkU σ.A a) fun x=>match ({ σ with A:=z9d a σ.A }:St).z6u (d+1000)&&yz x.T e&&yz x.n inf.2.1 with
        | true=>Ex (app inf.2.2 x.l l2) fun r=>k { σ with A:=(d+1000,x.wl r)::z9d a σ.A,L:=(d,.ref (d+1000))::σ.L }
        | false=>False
      | _=>False
     | false=>False
    | _=>False
   | _=>False
  | .value x,args=>wt (σ.evs args) fun vs=>match σ.ev x with
   | some (.fn f as_ cs)=>ziv con σ f (as_++vs++cs) (fun v σ=>k (σ.put o.dst v)) kp
   | _=>False
  | _,_=>actM tb cty σ o k
 | _=>actM tb cty σ o k
def actsC (s t:Option TypeDesc):Bool:=match s,t with
 | some .string,some (.slice _)=>true
 | some (.slice _),some .string=>true
 | _,_=>false
def run (σ:St) (o:Oper) (k:St→Prop) (kp:PV→St→Prop):Prop :=
 match (match o.op with
  | .convert s t _ => !actsC (lk tb.und s) (lk tb.und t)
  | op=>quiet op) with
 | true=>qop tb σ o.op fun v=>(σ.put o.dst v).go k
 | false=>act tb cty ann con σ o (fun σ=>σ.frs k) kp
def St.zmu (σ:St) (s:Nat) (b:Bool):St:=σ.pu s (.bool b)
def exo (ops:Array Oper) (σ:St) (o:Oper) (k:St→Prop) (kp:PV→St→Prop):Prop :=
 match o.guard with
 | none=>run tb cty ann con σ o k kp
 | some (j,b)=>match (zwm ops j).bind (·.dst) with
  | none=>False
  | some s=>match lk σ.L s with
   | some (.bool c)=>match b with
    | true=>cond c ((σ.zmu s true).go fun σ=>run tb cty ann con σ o k kp) (((σ.zmu s false).put o.dst .gone).go k)
    | false=>cond c (((σ.zmu s true).put o.dst .gone).go k) ((σ.zmu s false).go fun σ=>run tb cty ann con σ o k kp)
   | some .gone=>(σ.put o.dst .gone).go k
   | _=>False
def zfg (ops:Array Oper) (kp:PV→St→Prop) (k:St→Prop):List Oper→St→Prop
 | [],σ=>k σ
 | o::os,σ=>exo tb cty ann con ops σ o (fun σ=>zfg ops kp k os σ) kp
def zlc (ops:Array Oper) (kp:PV→St→Prop) (k:St→Prop):List (Nat × Nat × Cut)→List Oper→St→Prop
 | [],os,σ=>zfg tb cty ann con ops kp k os σ
 | (n0,m,c)::r,os,σ=>zfg tb cty ann con ops kp (fun σ=>∃ J:St→Prop,zfg tb cty ann con ops kp (fun s=>s.zat c J) ((os.drop n0).take m) σ∧∀ s,J s→s.frc fun s=>zlc ops kp k r ((os.drop n0).drop m) s) (os.take n0) σ

def zz040 (o:Oper):Bool:=match o.op with
 | .convert s t _ => !actsC (lk tb.und s) (lk tb.und t)
 | op=>quiet op
def z9j (ops:Array Oper) (d:Nat):List Nat→Bool
 | []=>true
 | q::r=>(match ops[q]? with
  | some o=>(match o.dst with
   | some e => !(yz e d)
   | none=>true) && !((o.looksAt ops).any (yz d))
  | none=>true)&&z9j ops d r
def znm (ops:Array Oper):List Nat→List Nat→Bool
 | [],_=>true
 | q::r,dn=>(match ops[q]? with
  | some o=>match o.dst with
   | some d=>z9j ops d dn && !((o.looksAt ops).any (yz d))
   | none=>true
  | none=>true)&&znm ops r (q::dn)
def z9t (kp dn:List Nat):List Nat:=dn.filter fun p=>kp.any (yz p)
def clrN (ops:Array Oper) (e:Nat) (kpl qs2 dn1:List Nat):Bool:=(match ops[e]? with
  | some o=>match o.dst with
   | some d=>z9j ops d (z9t kpl dn1)
   | none=>true
  | none=>true)&&znm ops qs2 (z9t kpl dn1)
def zyr (ops:Array Oper):Gt→List Nat→Bool
 | .fin,_=>true
 | .one e kpl qs2 sub,dn1=>clrN ops e kpl qs2 dn1&&zyr ops sub (qs2.reverse++z9t kpl dn1)
 | .alt e kpl qs2 sub r,dn1=>clrN ops e kpl qs2 dn1&&zyr ops sub (qs2.reverse++z9t kpl dn1)&&zyr ops r dn1
def clrG (ops:Array Oper) (g:Gt) (qs:List Nat):Bool:=znm ops qs []&&zyr ops g qs.reverse
def St.only (σ:St) (ops:Array Oper) (o:Oper):St:={ σ with L:=z9s (o.looksAt ops) σ.L }
def stb (σ:St) (op:Op):Bool:=match op with
 | .load _ x=>match σ.ev x with
  | some (.zbc _ _)=>true
  | _=>false
 | .call c=>match c.args.toList with
  | [x]=>match σ.ev x with
   | some (.mp _)=>false
   | _=>true
  | _=>true
 | _=>true
def exq (ops:Array Oper) (σ:St) (dn:List (Nat × Bool)) (q:Nat) (k:St→List (Nat × Bool)→Prop):Prop:=match zwm ops q with
 | none=>False
 | some o=>match o.dst,zz040 tb o with
  | some d,true=>match o.guard with
   | none=>qop tb σ o.op fun v=>(σ.put (some d) v).go fun s'=>k s' ((q,stb σ o.op)::dn)
   | some (j,b)=>match (zwm ops j).bind (·.dst) with
    | none=>False
    | some s=>match lk σ.L s with
     | some (.bool c)=>match b with
      | true=>cond c ((σ.zmu s true).go fun σ=>qop tb σ o.op fun v=>(σ.put (some d) v).go fun s'=>k s' ((q,stb σ o.op)::dn)) (((σ.zmu s false).put (some d) .gone).go fun s'=>k s' ((q,true)::dn))
      | false=>cond c (((σ.zmu s true).put (some d) .gone).go fun s'=>k s' ((q,true)::dn)) ((σ.zmu s false).go fun σ=>qop tb σ o.op fun v=>(σ.put (some d) v).go fun s'=>k s' ((q,stb σ o.op)::dn))
     | some .gone=>(σ.put (some d) .gone).go fun s'=>k s' ((q,true)::dn)
     | _=>False
  | _,_=>False
def zqi (ops:Array Oper):List Nat→St→List (Nat × Bool)→(St→List (Nat × Bool)→Prop)→Prop
 | [],σ,dn,k=>k σ dn
 | q::r,σ,dn,k=>exq tb ops σ dn q fun σ dn=>zqi ops r σ dn k
def detP:PV→Bool
 | .int _ _=>true
 | .bool _=>true
 | .str _=>true
 | .nil=>true
 | .ref _=>true
 | .ptr _ _=>true
 | .ze6=>true
 | .zei=>true
 | .agg cs=>go cs
 | .tup cs=>go cs
 | .iface _ v=>detP v
 | _=>false
where
 go:List PV→Bool
  | []=>true
  | v::vs=>detP v&&go vs
def zcw (ops:Array Oper) (σ:St):List (Nat × Bool)→Prop
 | []=>True
 | (_,true)::r=>zcw ops σ r
 | (q,false)::r=>(match ops[q]? with
  | some o=>match o.dst with
   | some d=>match lk σ.L d with
    | some v=>detP v=true∧qop tb σ o.op fun v'=>v'=v
    | none=>False
   | none=>False
  | none=>False)∧zcw ops σ r
def z3z (kp:List Nat) (dn:List (Nat × Bool)):List (Nat × Bool):=dn.filter fun p=>kp.any (yz p.1)
def rst (cs:List (Nat × Cut)) (e:Nat) (σ:St) (k:St→Prop):Prop:=match lk cs e with
 | some c=>∃ J:St→Prop,σ.zat c J∧∀ s,J s→s.frc k
 | none=>k σ
def zc9 (ops:Array Oper) (cs:List (Nat × Cut)) (kp:PV→St→Prop) (k:St→Prop):Gt→List (Nat × Bool)→St→Prop
 | .fin,_,σ=>k σ
 | .one e kpl qs2 g,dn1,σ1=>match zwm ops e with
  | some o=>exo tb cty ann con ops σ1 o (fun σ2=>rst cs e σ2 fun σ2=>zqi tb ops qs2 σ2 (z3z kpl dn1) fun σ3 dn3=>zcw tb ops σ3 (z3z kpl dn1)∧zc9 ops cs kp k g dn3 σ3) kp
  | none=>False
 | .alt e kpl qs2 g r,dn1,σ1=>(match zwm ops e with
  | some o=>exo tb cty ann con ops σ1 o (fun σ2=>rst cs e σ2 fun σ2=>zqi tb ops qs2 σ2 (z3z kpl dn1) fun σ3 dn3=>zcw tb ops σ3 (z3z kpl dn1)∧zc9 ops cs kp k g dn3 σ3) kp
  | none=>False)∧zc9 ops cs kp k r dn1 σ1
def zds (ops:Array Oper) (cs:List (Nat × Cut)) (kp:PV→St→Prop) (k:St→Prop) (g:Gt) (qs:List Nat) (σ:St):Prop :=
 zqi tb ops qs σ [] fun σ1 dn1=>zcw tb ops σ1 []∧zc9 tb cty ann con ops cs kp k g dn1 σ1
inductive It where
 | q (q:Nat)
 | a (e:Nat) (kpl:List Nat)
def qsIt:List Nat→List It→List It
 | [],r=>r
 | q::qs,r => .q q::qsIt qs r
def zsl:Gt→List It
 | .fin=>[]
 | .one e kpl qs sub => .a e kpl::qsIt qs (zsl sub)
 | .alt _ _ _ _ _=>[]
def zkw:Gt→Bool
 | .fin=>true
 | .one _ _ _ sub=>zkw sub
 | .alt _ _ _ _ _=>false
def dnI:It→List Nat→List Nat
 | .q q,dn=>q::dn
 | .a _ kpl,dn=>z9t kpl dn
def ziy (ops:Array Oper):List It→List Nat→Bool
 | [],_=>true
 | .q q::r,dn=>znm ops [q] dn&&ziy ops r (dnI (.q q) dn)
 | .a e kpl::r,dn=>(match ops[e]? with
  | some o=>match o.dst with
   | some d=>z9j ops d (z9t kpl dn)
   | none=>true
  | none=>true)&&kpl.all (fun q=>dn.any (yz q))&&ziy ops r (dnI (.a e kpl) dn)
def allT:List (Nat × Bool)→Bool
 | []=>true
 | (_,b)::r=>b&&allT r
def synQ:Op→Bool
 | .load _ _=>false
 | .call _=>false
 | _=>true
def synO (ops:Array Oper) (q:Nat):Bool:=match zwm ops q with
 | some o=>synQ o.op
 | none=>true
def frDn:List (Nat × Bool)→(List (Nat × Bool)→Prop)→Prop
 | [],k=>k []
 | (q,true)::r,k=>frDn r fun r=>k ((q,true)::r)
 | (q,false)::r,k=>frDn r fun r=>k ((q,false)::r)
theorem zjb:∀ (l:List (Nat × Bool)) (k:List (Nat × Bool)→Prop),frDn l k=k l
 | [],_=>rfl
 | (q,true)::r,k=>by rw [frDn,zjb r]
 | (q,false)::r,k=>by rw [frDn,zjb r]
def ex1 (ops:Array Oper) (kp:PV→St→Prop):It→St→List (Nat × Bool)→(St→List (Nat × Bool)→Prop)→Prop
 | .q q,σ,dn,k=>exq tb ops σ dn q k
 | .a e kpl,σ,dn,k=>frDn (z3z kpl dn) fun dn=>match allT dn with
  | true=>match zwm ops e with
   | some o=>exo tb cty ann con ops σ o (fun s=>k s dn) kp
   | none=>False
  | false=>False
def zh8 (ops:Array Oper) (kp:PV→St→Prop) (k:St→List (Nat × Bool)→Prop):List It→St→List (Nat × Bool)→Prop
 | [],σ,dn=>k σ dn
 | i::r,σ,dn=>ex1 tb cty ann con ops kp i σ dn fun σ dn=>zh8 ops kp k r σ dn
def dnIs:List It→List Nat→List Nat
 | [],dn=>dn
 | i::r,dn=>dnIs r (dnI i dn)
def dnA (ops:Array Oper) (l:List It) (dn:List (Nat × Bool)):List (Nat × Bool):=(dnIs l (dn.map (·.1))).map fun q=>(q,synO ops q)
def zuu (ops:Array Oper) (kp:PV→St→Prop) (k:St→Prop):List (Nat × Nat × Cut)→List It→St→List (Nat × Bool)→Prop
 | [],its,σ,dn=>zh8 tb cty ann con ops kp (fun s _=>k s) its σ dn
 | (n0,m,c)::r,its,σ,dn=>zh8 tb cty ann con ops kp (fun σ dn=>∃ J:St→Prop,zh8 tb cty ann con ops kp (fun s _=>s.zat c J) ((its.drop n0).take m) σ dn∧∀ s,J s→s.frc fun s=>zuu ops kp k r ((its.drop n0).drop m) s (dnA ops ((its.drop n0).take m) dn)) (its.take n0) σ dn
def znu (ops:Array Oper) (kp:PV→St→Prop) (k:St→Prop) (d:Drw) (σ:St):Prop:=match d.lin with
 | some l=>zuu tb cty ann con ops kp k l (qsIt d.qs (zsl d.g)) σ []
 | none=>match d.c with
  | none=>zds tb cty ann con ops d.cs kp k d.g d.qs σ
  | some c=>∃ J:St→Prop,zds tb cty ann con ops d.cs kp (fun s=>s.zat c J) d.g d.qs σ∧∀ s,J s→s.frc k

inductive z8d where
 | normal
 | exit (i:Nat)
 | ret
 | pan (v:PV)
def zkh (f:St→Prop) (k:z8d→St→Prop):z8d→St→Prop
 | .normal,s=>f s
 | .exit i,s=>k (.exit i) s
 | .ret,s=>k .ret s
 | .pan v,s=>k (.pan v) s
def kBlk (i:Nat) (k:z8d→St→Prop):z8d→St→Prop
 | .normal,s=>k .normal s
 | .exit j,s=>match yz i j with
  | true=>k .normal s
  | false=>k (.exit j) s
 | .ret,s=>k .ret s
 | .pan v,s=>k (.pan v) s
def zdv:Code→Option Nat
 | .region i _ _=>some i
 | .seq a b=>match zdv a with
  | some i=>some i
  | none=>zdv b
 | .cond _ a b=>match zdv a with
  | some i=>some i
  | none=>zdv b
 | .block _ a=>zdv a
 | .loop a=>zdv a
 | .scope a=>zdv a
 | .exit i=>some (1000000+i)
 | _=>none
def cutOf (l:List (Nat × Cut)) (c:Code):Option Cut:=match zdv c with
 | some i=>lk l i
 | none=>none
def LW (step:(St→Prop)→St→Prop) (σ:St):Prop := ∀ I:St→Prop,(∀ s,step I s→I s)→I σ
def ex:Code→St→(z8d→St→Prop)→Prop
 | .skip,σ,k=>k .normal σ
 | .label _,σ,k=>k .normal σ
 | .region id ops dr,σ,k=>match dr with
  | false=>zlc tb cty ann con ops (fun v s=>k (.pan v) s) (fun s=>k .normal s) (match lk ann.reg id with|some l=>l|none=>[]) ops.toList σ
  | true=>wt (lk ann.drw id) fun d=>znu tb cty ann con ops (fun v s=>k (.pan v) s) (fun s=>k .normal s) d σ
 | .seq a b,σ,k=>match cutOf ann.seq b with
  | some c=>∃ J:St→Prop,ex a σ (zkh (fun s=>s.zat c J) k)∧∀ s,J s→s.frc fun s=>ex b s k
  | none=>ex a σ (zkh (fun s=>ex b s k) k)
 | .cond c a b,σ,k=>match σ.ev c with
  | some (.bool x)=>cond x (ex a σ k) (ex b σ k)
  | _=>False
 | .block i a,σ,k=>ex a σ (kBlk i k)
 | .exit i,σ,k=>k (.exit i) σ
 | .ret,σ,k=>k .ret σ
 | .loop a,σ,k=>wt (cutOf ann.loop a) fun c=>σ.zat c fun σ=>LW (fun I s=>s.frc fun s=>ex a s (zkh (fun s=>s.zat c I) k)) σ
 | _,_,_=>False
end
end
section
open Go.RowKit Go.Lk
def en {β:Type}:Nat→List β→List (Nat × β)
 | _,[]=>[]
 | i,x::r=>(i,x)::en (i+1) r
def entry (i:CIn):St:={ L:=en 0 i.vs,B:=en 0 i.B,A:=en 0 (i.A.map fun e=>(⟨false,e.1,e.2.1,e.2.2⟩:Arr)) }
def resV (tb:Tb) (σ:St):List ResultVar→Option (List PV)
 | []=>some []
 | .tmp t::r=>match lk σ.L t,resV tb σ r with
  | some v,some vs=>some (v::vs)
  | _,_=>none
 | .cell t T::r=>match lk σ.L t with
  | some (.ptr b 0)=>match lkB σ.B b,lk tb.shp T with
   | some e,some s=>match yz e.cs.length s.2,z73 s.1 s.2 e.cs,resV tb σ r with
    | true,some v,some vs=>some (v::vs)
    | _,_,_=>none
   | _,_=>none
  | _=>none
def zrp:List ResultVar→List Nat
 | []=>[]
 | .tmp t::r=>t::zrp r
 | .cell t _::r=>t::zrp r
def St.zz01z (σ:St):List Place→Option (List Nat)
 | []=>some []
 | p::r=>match σ.at p,σ.zz01z r with
  | some (.ptr b 0),some l=>some (b::l)
  | _,_=>none
def rng:Nat→Nat→List Nat
 | 0,_=>[]
 | n+1,i=>i::rng n (i+1)
def zir (σ:St):Nat→List (Option (Nat × Nat × List (List D)))→Prop
 | _,[]=>True
 | i,none::r=>zir σ (i+1) r
 | i,some e::r=>(match lk σ.A i with
  | some x=>x.T=e.1∧x.n=e.2.1∧x.l=e.2.2
  | none=>False)∧zir σ (i+1) r
def zz3 (tb:Tb) (ann:Ann) (res:List ResultVar) (σ:St) (vs:List PV) (B:List Bx) (A:List (Option (Nat × Nat × List (List D)))):Prop :=
 wt (({ σ with L:=z9s (zrp res) σ.L }:St).home ann.fin) fun σ=>wt (resV tb σ res) fun rs=>wt (σ.freeze (z9e.go vs rs)) fun σ'=>wt (σ.zz01z ann.finB) fun nk =>
  nrm.go σ vs rs=zb6.go (rng ann.nb 0++nk) (rng A.length 0) vs∧z9f σ' (rng ann.nb 0++nk) (rng A.length 0) (rng ann.nb 0++nk) B∧zir σ' 0 A ∧
  (inR.go B.length A.length vs&&B.all (fun e=>inR.go B.length A.length e.cs)&&z99 nk&&nk.all (yaa 1000)&&yz B.length (ann.nb+nk.length))=true
def fin (tb:Tb) (ann:Ann) (res:List ResultVar) (out:z3x):z8d→St→Prop
 | .ret,σ=>match out with
  | .ok vs B A=>zz3 tb ann res σ vs B A
  | _=>False
 | .normal,σ=>match out with
  | .ok vs B A=>zz3 tb ann res σ vs B A
  | _=>False
 | .pan v,σ=>match out with
  | .zhg v' B=>v'=v∧zbm v'=false∧zz3 tb { nb:=ann.nb } [] σ [] B []
  | o=>o = .pan v
 | .exit _,_=>False
def z2q (f:Func):Code:=match f.body with
 | some c=>c
 | none => .refuse ""

def S {R:Type} (y:Option R) (W:R→Prop):Prop := ∀ r,y=some r→W r
section
variable {R A:Type} {W W1 W2:R→Prop} {y y1 y2:Option R}
theorem S.cb {b:Bool} (h1:S y1 W1) (h2:S y2 W2):S (if b=true then y1 else y2) (fun r=>cond b (W1 r) (W2 r)):=by
 intro r h
 cases b with
 | true=>exact h1 r h
 | false=>exact h2 r h
theorem S.e {z:Option A} {F:R→A→Prop} {g:A→Option R} (h:∀ a,S (g a) (fun r=>F r a)):S (z >>= g) (fun r=>Ex z (F r)):=by
 intro r hm
 obtain ⟨a,h1,h2⟩:=bnd hm
 exact ⟨a,h1,h a r h2⟩
theorem S.eq {z:Option A} {F:R→A→Prop} {a:A} (hz:z=some a) (h:S y (fun r=>F r a)):S y (fun r=>Ex z (F r)):=fun r hm=>⟨a,hz,h r hm⟩
theorem S.z {a:R} (h:W a):S (some a) W:=fun r e=>by grind
theorem S.ix {X:Type} {f c:X→List D} {l:List (List D)} {xs:List X} {i:Int} {F:R→List D→Prop} {g:X→Option R} (hl:l=xs.map f) (hc:∀ x,f x=c x) (h:∀ x,S (g x) (fun r=>F r (c x))):S (Go.Lk.ix xs i >>= g) (fun r=>Ex (Go.Lk.ix l i) (F r)):=by
 intro r hm
 obtain ⟨a,h1,h2⟩:=bnd hm
 obtain ⟨j,rfl,h3⟩:=zvq h1
 exact ⟨f a,by grind [Go.Lk.ix],by rw [hc];exact h a r h2⟩
theorem S.sub {X:Type} {f:X→List D} {l:List (List D)} {xs:List X} {i j:Int} {F:R→List (List D)→Prop} {g:List X→Option R} (hl:l=xs.map f) (h:∀ x,S (g x) (fun r=>F r (x.map f))):S (Go.Lk.sub xs i j >>= g) (fun r=>Ex (Go.Lk.sub l i j) (F r)):=by
 intro r hm
 obtain ⟨a,h1,h2⟩:=bnd hm
 refine ⟨a.map f,?_,h a r h2⟩
 subst hl
 unfold Go.Lk.sub at h1 ⊢
 split at h1
 ·rename_i hc
  cases h1
  simp_all
 ·cases h1
theorem S.app {X:Type} {f:X→List D} {l l2:List (List D)} {xs ys:List X} {n:Nat} {F:R→List (List D)→Prop} {g:List X→Option R} (hl:l=xs.map f) (hl2:l2=ys.map f) (h:∀ x,S (g x) (fun r=>F r (x.map f))):S (Go.Lk.app n xs ys >>= g) (fun r=>Ex (Go.Lk.app n l l2) (F r)):=by
 intro r hm
 obtain ⟨a,h1,h2⟩:=bnd hm
 refine ⟨a.map f,?_,h a r h2⟩
 subst hl hl2
 unfold Go.Lk.app at h1 ⊢
 grind
theorem zz078 (xs:List Int):Go.Pe.dby (xs.map (eI .u8))=some (byt xs):=by
 induction xs with
 | nil=>rfl
 | cons x xs ih =>
  simp only [yr,eI,Go.Pe.dby]
  rw [ih]
  rfl
theorem S.dby {l:List (List D)} {xs:List Int} {F:R→List UInt8→Prop} (hl:l=xs.map (eI .u8)) (h:S y (fun r=>F r (byt xs))):S y (fun r=>Ex (Go.Pe.dby l) (F r)):=fun r hm=>⟨byt xs,by grind [zz078],h r hm⟩
theorem S.j {B:R→St→Prop} {A':R→(St→Prop)→Prop} {z:Option A} {g:A→Option R} (sh:A→St) (hA:∀ r,S z fun a=>A' r fun s=>s=sh a) (hB:∀ a,S (g a) (fun r=>B r (sh a))):S (z >>= g) (fun r=>∃ J:St→Prop,A' r J∧∀ s,J s→B r s):=by
 intro r hm
 obtain ⟨a,h1,h2⟩:=bnd hm
 exact ⟨_,hA r a h1,fun s hs=>by subst hs;exact hB a r h2⟩
theorem cnd {b:Bool} {p q:Prop} (h1:b=true→p) (h2:b=false→q):cond b p q:=by
 grind
theorem S.k {con:Nat→CIn→z3x→Prop} {σ:St} {f:Nat} {args:List PV} {k:R→PV→St→Prop} {kp:R→PV→St→Prop} {z:Option A} {g:A→Option R} {i:CIn} {o:A→z3x} (bs as_ as_':List Nat) (hc:∀ a,z=some a→con f i (o a))
  (h1:nrm.go σ i.vs args=zb6.go bs as_ i.vs) (h2:z9f σ bs as_ bs i.B) (h3:zey σ as_ i.A) (h4:zht σ bs as_ (z9e.go i.vs args) i=true)
  (h:∀ a,S (g a) (fun r=>znk bs as_ as_' i args σ (k r) (kp r) (o a))):S (z >>= g) (fun r=>ziv con σ f args (k r) (kp r)):=by
 intro r hm
 obtain ⟨a,h5,h6⟩:=bnd hm
 exact ⟨bs,as_,as_',i,o a,hc a h5,h1,h2,h3,h4,h a r h6⟩
theorem ze {α:Type} {z:Option α} {k k':α→Prop} (h:∀ a,k a→k' a) (hw:wt z k):wt z k':=by
 cases z with
 | none=>exact hw
 | some a=>exact h a hw
theorem z2x {α:Type} {z:Option α} {k k':α→Prop} (h:∀ a,k a→k' a) (hw:Ex z k):Ex z k':=by
 obtain ⟨a,h1,h2⟩:=hw
 exact ⟨a,h1,h a h2⟩
theorem z7z {b:Bool} {p q p' q':Prop} (h1:p→p') (h2:q→q') (h:cond b p q):cond b p' q':=by
 grind
end
end
section
open Go.RowKit Go.Lk
theorem zyo {td:TypeDesc} {op:BinOp} {u v:PV} {k k':PV→Prop} (h:∀ a,k a→k' a) (hw:bop td op u v k):bop td op u v k':=by
 revert hw
 unfold bop
 repeat' split
 all_goals first
  | exact fun hw=>z2x (fun _=>h _) hw
  | exact fun hw=>ze (fun _=>h _) hw
  | exact fun hw=>h _ hw
  | exact fun hw=>hw
theorem zz016 {op:UnOp} {u:PV} {k k':PV→Prop} (h:∀ a,k a→k' a) (hw:uop op u k):uop op u k':=by
 revert hw
 unfold uop
 grind [ze]
theorem zsp {σ:St} {g:Bool} {n:Nat} {u:PV} {k k':PV→Prop} (h:∀ a,k a→k' a) (hw:zm1 σ g n u k):zm1 σ g n u k':=by
 revert hw
 unfold zm1
 split
 ·grind [ze,z2x]
 grind [ze]
theorem zw5 {σ:St} {u:PV} {k k':Int→Prop} (h:∀ a,k a→k' a):lenM σ u k→lenM σ u k':=by
 unfold lenM
 split
 ·split
  ·grind [z2x]
  ·exact id
 ·exact id
theorem zm0 {td:TypeDesc} {σ:St} {u:PV} {k k':Int→Prop} (h:∀ a,k a→k' a):zy7 td σ u k→zy7 td σ u k':=by
 unfold zy7
 grind [z2x,ze,zw5]
theorem zr1 {σ:St} {x:Option Operand} {k k':Int→Prop} (h:∀ a,k a→k' a):loW σ x k→loW σ x k':=by
 unfold loW
 grind
theorem zzl {td:TypeDesc} {σ:St} {u:PV} {x:Option Operand} {k k':Int→Prop} (h:∀ a,k a→k' a):hiW td σ u x k→hiW td σ u x k':=by
 unfold hiW
 grind [zm0]
theorem zz005 {b:Bool} {u v:PV} {k k':PV→Prop} (h:∀ x,k x→k' x):mmW b u v k→mmW b u v k':=by
 unfold mmW
 grind
theorem zwh {td:TypeDesc} {op:BinOp} {u:PV} {k k':PV→Prop} (h:∀ a,k a→k' a) (hw:nilF td op u k):nilF td op u k':=by
 revert hw
 unfold nilF
 grind
theorem zu3 {n:Nat} {op:BinOp} {u v:PV} {k k':PV→Prop} (h:∀ a,k a→k' a) (hw:arrW n op u v k):arrW n op u v k':=by
 revert hw
 unfold arrW
 split
 ·refine ze fun _ => ?_
  grind
 ·exact id
theorem zes {tb:Tb} {σ:St} {op:Op} {k k':PV→Prop} (h:∀ a,k a→k' a) (hw:qop tb σ op k):qop tb σ op k':=by
 revert hw
 unfold qop
 split
 case h_1=>exact ze h
 case h_2=>exact ze h
 case h_3=>split<;>first|exact ze (fun _=>ze fun _=>z7z (h _) (h _))|exact id
 case h_4 =>
  split
  ·split
   ·refine ze fun _ => ?_
    grind
   ·exact id
  ·split
   ·exact ze fun _=>ze fun _=>zu3 h
   ·refine ze fun _=>ze fun _ => ?_
    grind [zwh,ze,zyo]
 case h_5=>grind [ze,zz016]
 case h_6=>grind [ze]
 case h_7=>grind [ze]
 case h_8 =>
  split
  ·exact id
  grind [ze]
 case h_9=>grind [ze]
 case h_10=>refine ze fun _ => ?_;grind
 case h_11=>refine ze fun _=>ze fun _ => ?_;grind
 case h_12=>refine ze fun _ => ?_;grind [ze]
 case h_13=>exact ze fun _=>ze fun _=>zsp h
 case h_14=>grind [z2x]
 case h_15 =>
  split
  ·refine ze fun _ => ?_
   grind [ze,z2x]
  refine ze fun _ => ?_
  split
  ·refine ze fun _ => ?_
   split
   ·grind [z2x]
   ·grind [ze,z2x]
   ·exact id
  ·exact id
 case h_16 =>
  refine ze fun _=>ze fun _=>zr1 fun _=>zzl fun _ => ?_
  split
  ·grind [z2x]
  ·grind [ze,z2x]
  ·exact id
 case h_17=>split<;>first|exact ze fun _=>ze fun _=>zm0 fun _=>h _|exact ze fun _=>ze fun _=>zz005 fun _=>h _|exact id
 case h_19 =>
  refine ze fun _ => ?_
  split
  ·grind
  ·exact ze fun _=>ze fun _=>by grind [zjc,zj8]
 case h_18 =>
  refine ze fun _ => ?_
  grind
 case h_20 =>
  refine ze fun _ => ?_
  split
  ·grind [ze,z2x]
  ·exact id
 simp
section
variable {tb:Tb} {cty:List (Nat × List (Option (Nat × Nat)))} {ann:Ann} {con:Nat→CIn→z3x→Prop}
theorem zry {bs as_ as_':List Nat} {i:CIn} {args:List PV} {σ:St} {k k':PV→St→Prop} {kp kp':PV→St→Prop} (h:∀ a s,k a s→k' a s) (hp:∀ v s,kp v s→kp' v s):∀ {o:z3x},znk bs as_ as_' i args σ k kp o→znk bs as_ as_' i args σ k' kp' o
 | .ok _ _ _,hw=>ze (fun _ hw=>⟨hw.1,St.zaf.mpr (h _ _ (St.zaf.mp hw.2))⟩) hw
 | .okI _ _ _,hw=>ze (fun _ hw=>⟨hw.1,St.zaf.mpr (h _ _ (St.zaf.mp hw.2))⟩) hw
 | .pan _,hw=>⟨hw.1,hp _ _ hw.2⟩
 | .zhg _ _,hw=>ze (fun _ h=>⟨h.1,St.z5u.mpr (hp _ _ (St.z5u.mp h.2))⟩) hw
theorem zrz {σ:St} {f:Nat} {args:List PV} {k k':PV→St→Prop} {kp kp':PV→St→Prop} (h:∀ a s,k a s→k' a s) (hp:∀ v s,kp v s→kp' v s) (hw:ziv con σ f args k kp):ziv con σ f args k' kp':=by
 obtain ⟨bs,as_,as_',i,o,h1,h2,h3,h4,h5,h6⟩:=hw
 exact ⟨bs,as_,as_',i,o,h1,h2,h3,h4,h5,zry h hp h6⟩
theorem zu8 {σ:St} {key E:Nat} {k k':St→Prop} (h:∀ s,k s→k' s):σ.born key E k→σ.born key E k':=by
 grind [St.born,ze]
theorem zye {rem:List (List D)} {k0 k0':Prop} {k1 k1':List D→List (List D)→Prop} (h0:k0→k0') (h1:∀ x r,k1 x r→k1' x r):NxW rem k0 k1→NxW rem k0' k1' :=
 fun h=>⟨fun e=>h0 (h.1 e),fun i x e=>h1 _ _ (h.2 i x e)⟩
theorem zkk {σ:St} {o:Oper} {k k':St→Prop} (h:∀ s,k s→k' s) (hw:actM tb cty σ o k):actM tb cty σ o k':=by
 revert hw
 unfold actM
 split
 case h_1 =>
  refine ze fun _ => ?_
  split
  ·refine ze fun _=>ze fun _ => ?_;grind
  ·exact id
 case h_2 =>
  split
  ·split
   ·refine ze fun _=>ze fun _=>ze fun _=>ze fun _=>ze fun _=>ze fun _=>ze fun _=>ze fun _=>ze fun _=>ze fun _ => ?_
    grind [z2x]
   ·exact id
  ·exact id
 case h_3 =>
  split
  ·split
   ·refine ze fun _=>ze fun _=>ze fun _=>ze fun _=>ze fun _=>ze fun _=>ze fun _=>ze fun _=>ze fun _=>ze fun _ => ?_
    grind [z2x]
   ·exact id
  ·exact id
 case h_4 =>
  refine ze fun _ => ?_
  split
  ·refine ze fun _=>ze fun _=>ze fun _=>ze fun _=>ze fun _=>ze fun _=>ze fun _=>ze fun _ => ?_
   split
   ·refine z2x fun _=>ze fun _ => ?_
    grind [z2x]
   ·exact id
  ·exact id
 case h_5 =>
  refine ze fun _ => ?_
  split
  ·refine ze fun _=>ze fun _=>ze fun _=>ze fun _ => ?_;grind
  ·exact id
 case h_6 =>
  refine ze fun _=>ze fun _ => ?_
  split
  ·refine ze fun _ => ?_
   grind [zye]
  ·exact id
 case h_7 =>
  refine ze fun _=>ze fun _ => ?_
  split
  ·refine ze fun _ => ?_
   grind [ze]
  ·exact id
 case h_8 =>
  split
  ·split
   ·split
    ·exact ze fun _=>ze fun _=>ze fun _=>ze fun _=>ze fun _=>ze fun _=>z2x fun _=>h _
    ·exact id
   ·exact id
  ·exact id
 simp
set_option maxRecDepth 100000 in
theorem zz00y {σ:St} {n T d:Nat} {y:Operand} {k k':St→Prop} (h:∀ s,k s→k' s) (hw:stR cty σ n T d y k):stR cty σ n T d y k':=by
 revert hw
 unfold stR
 refine ze fun _=>ze fun _=>ze fun _=>ze fun _ => ?_
 split
 ·refine ze fun _=>ze fun _ => ?_;grind
 ·exact id
set_option maxRecDepth 100000 in
theorem zyf {σ:St} {o:Oper} {k k':St→Prop} {kp kp':PV→St→Prop} (h:∀ s,k s→k' s) (hp:∀ v s,kp v s→kp' v s) (hw:act tb cty ann con σ o k kp):act tb cty ann con σ o k' kp':=by
 revert hw
 unfold act
 split
 case h_1 =>
  refine ze fun _=>ze fun _ => ?_
  grind [zu8]
 case h_2 =>
  refine ze fun _=>ze fun _ => ?_
  split
  ·grind [ze]
  grind
 case h_3 =>
  split
  ·refine ze fun _ => ?_
   split
   ·exact zz00y h
   refine ze fun _=>ze fun _ => ?_
   split
   ·grind [ze]
   ·refine ze fun _=>ze fun _=>ze fun _=>ze fun _ => ?_;split<;>first|grind [z2x]|exact id
   ·exact id
  ·exact id
 case h_4 =>
  refine ze fun _ => ?_
  split
  ·refine ze fun _=>ze fun _=>ze fun _=>ze fun _=>ze fun _=>ze fun _ => ?_
   split
   ·split
    ·grind
    ·exact h _
   ·exact id
  ·exact id
 case h_5=>grind [ze]
 case h_6 =>
  refine ze fun _=>ze fun _ => ?_
  split
  ·grind [z2x]
  ·grind [z2x]
  ·grind [ze,z2x]
  ·exact id
 case h_7 =>
  split
  ·refine ze fun _=>ze fun _=>ze fun _ => ?_
   split
   ·split
    ·refine ze fun _=>ze fun _=>ze fun _=>ze fun _ => ?_
     split
     ·split
      ·grind [z2x]
      ·split
       ·grind [z2x]
       grind [ze,z2x]
      ·exact id
     ·exact id
    ·exact id
   ·exact id
  ·refine ze fun _ => ?_
   grind [zrz]
  ·exact zkk h
 grind [zkk]
theorem z5l {σ:St} {k k':St→Prop} (h:∀ s,k s→k' s):σ.go k→σ.go k':=by
 grind [St.go_eq]
theorem z6j {σ:St} {k k':St→Prop} (h:∀ s,k s→k' s):σ.frc k→σ.frc k':=by
 grind [St.z5u]
theorem zug {σ:St} {c:Cut} {k k':St→Prop} (h:∀ s,k s→k' s):σ.zat c k→σ.zat c k':=ze fun _=>z6j h
theorem zza {σ:St} {k k':St→Prop} (h:∀ s,k s→k' s):σ.frs k→σ.frs k':=by
 grind [St.zz01s]
theorem zk4 {σ:St} {o:Oper} {k k':St→Prop} {kp kp':PV→St→Prop} (h:∀ s,k s→k' s) (hp:∀ v s,kp v s→kp' v s) (hw:run tb cty ann con σ o k kp):run tb cty ann con σ o k' kp':=by
 revert hw
 unfold run
 grind [zes,z5l,zyf,zza]
theorem zep {ops:Array Oper} {σ:St} {o:Oper} {k k':St→Prop} {kp kp':PV→St→Prop} (h:∀ s,k s→k' s) (hp:∀ v s,kp v s→kp' v s) (hw:exo tb cty ann con ops σ o k kp):exo tb cty ann con ops σ o k' kp':=by
 revert hw
 unfold exo
 split
 ·exact zk4 h hp
 ·split
  ·exact id
  ·split
   ·split
    ·exact z7z (z5l fun _=>zk4 h hp) (z5l h)
    ·exact z7z (z5l h) (z5l fun _=>zk4 h hp)
   ·exact z5l h
   ·exact id
theorem zad {ops:Array Oper} {k k':St→Prop} {kp kp':PV→St→Prop} (h:∀ s,k s→k' s) (hp:∀ v s,kp v s→kp' v s):∀ (os:List Oper) (σ:St),zfg tb cty ann con ops kp k os σ→zfg tb cty ann con ops kp' k' os σ
 | [],σ,hw=>h _ hw
 | o::os,σ,hw=>zep (fun s=>zad h hp os s) hp hw
theorem zfh {ops:Array Oper} {k k':St→Prop} {kp kp':PV→St→Prop} (h:∀ s,k s→k' s) (hp:∀ v s,kp v s→kp' v s):∀ (l:List (Nat × Nat × Cut)) (os:List Oper) (σ:St),zlc tb cty ann con ops kp k l os σ→zlc tb cty ann con ops kp' k' l os σ
 | [],os,σ,hw=>zad h hp os σ hw
 | (n0,m,c)::r,os,σ,hw=>zad (fun _ ⟨J,h1,h2⟩=>⟨J,zad (fun _=>id) hp _ _ h1,fun s hs=>z6j (fun s=>zfh h hp r _ s) (h2 s hs)⟩) hp _ σ hw
theorem zqh {ops:Array Oper} {σ:St} {dn:List (Nat × Bool)} {q:Nat} {k k':St→List (Nat × Bool)→Prop} (h:∀ s d,k s d→k' s d) (hw:exq tb ops σ dn q k):exq tb ops σ dn q k':=by
 revert hw
 unfold exq
 split
 ·exact id
 ·split
  ·split
   ·grind [zes,z5l]
   ·split
    ·exact id
    ·split
     ·split
      ·exact z7z (z5l fun _=>zes fun _=>z5l fun _=>h _ _) (z5l fun _=>h _ _)
      ·exact z7z (z5l fun _=>h _ _) (z5l fun _=>zes fun _=>z5l fun _=>h _ _)
     ·grind [z5l]
     ·exact id
  ·exact id
theorem zcb {ops:Array Oper} {k k':St→List (Nat × Bool)→Prop} (h:∀ s d,k s d→k' s d):∀ (qs:List Nat) (σ:St) (dn:List (Nat × Bool)),zqi tb ops qs σ dn k→zqi tb ops qs σ dn k'
 | [],σ,dn,hw=>h _ _ hw
 | _::r,σ,dn,hw=>zqh (fun s d=>zcb h r s d) hw
theorem zrq {cs:List (Nat × Cut)} {e:Nat} {σ:St} {k k':St→Prop} (h:∀ s,k s→k' s):rst cs e σ k→rst cs e σ k':=by
 grind [rst,z6j]
theorem zab {ops:Array Oper} {cs:List (Nat × Cut)} {k k':St→Prop} {kp kp':PV→St→Prop} (h:∀ s,k s→k' s) (hp:∀ v s,kp v s→kp' v s):∀ (g:Gt) (dn:List (Nat × Bool)) (σ:St),zc9 tb cty ann con ops cs kp k g dn σ→zc9 tb cty ann con ops cs kp' k' g dn σ
 | .fin,dn,σ,hw=>h _ hw
 | .one e kpl qs2 g,dn,σ,hw=>by
  revert hw
  unfold zc9
  split
  ·exact zep (fun s=>zrq fun s=>zcb (fun s d hw=>⟨hw.1,zab h hp g d s hw.2⟩) _ _ _) hp
  ·exact id
 | .alt e kpl qs2 g r,dn,σ,hw=>by
  revert hw
  unfold zc9
  refine fun hw=>⟨?_,zab h hp r dn σ hw.2⟩
  have h1:=hw.1
  revert h1
  split
  ·exact zep (fun s=>zrq fun s=>zcb (fun s d hw=>⟨hw.1,zab h hp g d s hw.2⟩) _ _ _) hp
  ·exact id
theorem zfe {ops:Array Oper} {cs:List (Nat × Cut)} {k k':St→Prop} {kp kp':PV→St→Prop} (h:∀ s,k s→k' s) (hp:∀ v s,kp v s→kp' v s) (g:Gt) (qs:List Nat) (σ:St) (hw:zds tb cty ann con ops cs kp k g qs σ):zds tb cty ann con ops cs kp' k' g qs σ :=
 zcb (fun s d hw=>⟨hw.1,zab h hp g d s hw.2⟩) qs σ [] hw
theorem zyx {ops:Array Oper} {k k':St→List (Nat × Bool)→Prop} {kp kp':PV→St→Prop} (h:∀ s d,k s d→k' s d) (hp:∀ v s,kp v s→kp' v s):∀ (i:It) (σ:St) (dn:List (Nat × Bool)),ex1 tb cty ann con ops kp i σ dn k→ex1 tb cty ann con ops kp' i σ dn k'
 | .q q,σ,dn,hw=>zqh h hw
 | .a e kpl,σ,dn,hw=>by
  simp only [ex1,zjb] at hw ⊢
  grind [zep]
theorem zac {ops:Array Oper} {k k':St→List (Nat × Bool)→Prop} {kp kp':PV→St→Prop} (h:∀ s d,k s d→k' s d) (hp:∀ v s,kp v s→kp' v s):∀ (l:List It) (σ:St) (dn:List (Nat × Bool)),zh8 tb cty ann con ops kp k l σ dn→zh8 tb cty ann con ops kp' k' l σ dn
 | [],σ,dn,hw=>h _ _ hw
 | i::r,σ,dn,hw=>zyx (fun s d=>zac h hp r s d) hp i σ dn hw
theorem zi1 {ops:Array Oper} {k k':St→Prop} {kp kp':PV→St→Prop} (h:∀ s,k s→k' s) (hp:∀ v s,kp v s→kp' v s):∀ (l:List (Nat × Nat × Cut)) (its:List It) (σ:St) (dn:List (Nat × Bool)),zuu tb cty ann con ops kp k l its σ dn→zuu tb cty ann con ops kp' k' l its σ dn
 | [],its,σ,dn,hw=>zac (fun s _=>h s) hp its σ dn hw
 | (_,_,_)::r,_,σ,dn,hw=>zac (fun _ _ ⟨J,h1,h2⟩=>⟨J,zac (fun _ _=>id) hp _ _ _ h1,fun s hs=>z6j (fun s=>zi1 h hp r _ s _) (h2 s hs)⟩) hp _ σ dn hw
theorem zsa {ops:Array Oper} {k k':St→Prop} {kp kp':PV→St→Prop} (h:∀ s,k s→k' s) (hp:∀ v s,kp v s→kp' v s) (d:Drw) (σ:St) (hw:znu tb cty ann con ops kp k d σ):znu tb cty ann con ops kp' k' d σ:=by
 revert hw
 unfold znu
 split
 ·grind [zi1]
 split
 ·grind [zfe]
 ·exact fun ⟨J,h1,h2⟩=>⟨J,zfe (fun _=>id) hp _ _ _ h1,fun s hs=>z6j h (h2 s hs)⟩
theorem z9r {f f':St→Prop} {k k':z8d→St→Prop} (hf:∀ s,f s→f' s) (hk:∀ fl s,k fl s→k' fl s):∀ fl s,zkh f k fl s→zkh f' k' fl s
 | .normal,s,h=>hf s h
 | .exit _,s,h=>hk _ s h
 | .ret,s,h=>hk _ s h
 | .pan _,s,h=>hk _ s h
theorem zvr {i:Nat} {k k':z8d→St→Prop} (hk:∀ fl s,k fl s→k' fl s):∀ fl s,kBlk i k fl s→kBlk i k' fl s
 | .normal,s,h=>hk _ s h
 | .exit j,s,h=>by
  grind [kBlk]
 | .ret,s,h=>hk _ s h
 | .pan _,s,h=>hk _ s h
theorem LW.mono {step step':(St→Prop)→St→Prop} (h:∀ I s,step I s→step' I s) {s:St} (hw:LW step s):LW step' s:=fun I hI=>hw I fun s hs=>hI s (h I s hs)
theorem z7j:∀ (c:Code) (σ:St) (k k':z8d→St→Prop),(∀ fl s,k fl s→k' fl s)→ex tb cty ann con c σ k→ex tb cty ann con c σ k'
 | .skip,σ,k,k',h,hw=>h _ _ hw
 | .label _,σ,k,k',h,hw=>h _ _ hw
 | .region id ops dr,σ,k,k',h,hw=>by
  cases dr with
  | false=>exact zfh (fun s=>h _ s) (fun v s=>h _ s) _ _ _ hw
  | true=>exact ze (fun _=>zsa (fun s=>h _ s) (fun v s=>h _ s) _ _) hw
 | .seq a b,σ,k,k',h,hw=>by
  unfold ex at hw ⊢
  split at hw
  ·obtain ⟨J,h1,h2⟩:=hw
   exact ⟨J,z7j a _ _ _ (z9r (fun _=>id) h) h1,fun s hs=>z6j (fun s=>z7j b _ _ _ h) (h2 s hs)⟩
  ·exact z7j a _ _ _ (z9r (fun s=>z7j b s _ _ h) h) hw
 | .cond c a b,σ,k,k',h,hw=>by
  unfold ex at hw ⊢
  split at hw
  ·exact z7z (z7j a _ _ _ h) (z7j b _ _ _ h) hw
  ·exact hw
 | .block i a,σ,k,k',h,hw=>z7j a _ _ _ (zvr h) hw
 | .exit i,σ,k,k',h,hw=>h _ _ hw
 | .ret,σ,k,k',h,hw=>h _ _ hw
 | .loop a,σ,k,k',h,hw=>by
  unfold ex at hw ⊢
  exact ze (fun _=>ze fun _=>z6j fun _=>LW.mono fun I s=>z6j fun s=>z7j a _ _ _ (z9r (fun _=>id) h)) hw
 | .rangeFunc ..,σ,k,k',h,hw=>hw
 | .scope _,σ,k,k',h,hw=>hw
 | .goto _,σ,k,k',h,hw=>hw
 | .refuse _,σ,k,k',h,hw=>hw
@[reducible] def Stp (tb:Tb) (cty:List (Nat × List (Option (Nat × Nat)))) (ann:Ann) (con:Nat→CIn→z3x→Prop) (a:Code) (c:Cut) (k:z8d→St→Prop) (I:St→Prop) (s:St):Prop:=s.frc fun s=>ex tb cty ann con a s (zkh (fun s=>s.zat c I) k)
theorem za6 (a:Code) (c:Cut) (k:z8d→St→Prop):∀ I I':St→Prop,(∀ s,I s→I' s)→∀ s,Stp tb cty ann con a c k I s→Stp tb cty ann con a c k I' s :=
 fun _ _ h _=>z6j fun s hw=>z7j a s _ _ (z9r (fun _=>zug h) fun _ _=>id) hw
theorem LW.fold {step:(St→Prop)→St→Prop} (hm:∀ I I':St→Prop,(∀ s,I s→I' s)→∀ s,step I s→step I' s) {s:St} (h:step (LW step) s):LW step s:=fun I hI=>hI s (hm _ _ (fun s' h'=>h' I hI) s h)
theorem S.lw {X R:Type} {a:Code} {c:Cut} {k:R→z8d→St→Prop} {σ:St} {L:X→Option R} {Bd:(X→Option R)→X→Option R} {x:X} (sh:X→Ov)
  (pc:∀ motive:X→R→Prop,(∀ f:X→Option R,(∀ x r,f x=some r→motive x r)→∀ x r,Bd f x=some r→motive x r)→∀ x r,L x=some r→motive x r)
  (h0:σ=ovS σ c (sh x)) (h:∀ (f:X→Option R) (I:R→St→Prop),(∀ x,S (f x) (fun r=>I r (ovS σ c (sh x))))→∀ x,S (Bd f x) (fun r=>Stp tb cty ann con a c (k r) (I r) (ovS σ c (sh x)))) :
  S (L x) (fun r=>LW (Stp tb cty ann con a c (k r)) σ):=by
 intro r hm
 rw [h0]
 exact pc (fun x r=>LW (Stp tb cty ann con a c (k r)) (ovS σ c (sh x))) (fun f ih x r hm=>LW.fold (za6 a c (k r)) (h f (fun r=>LW (Stp tb cty ann con a c (k r))) ih x r hm)) x r hm
theorem S.lw2 {X Y R:Type} {a:Code} {c:Cut} {k:R→z8d→St→Prop} {σ:St} {L:X→Y→Option R} {Bd:(X→Y→Option R)→X→Y→Option R} {x:X} {y:Y} (sh:X→Y→Ov)
  (pc:∀ motive:X→Y→R→Prop,(∀ f:X→Y→Option R,(∀ x y r,f x y=some r→motive x y r)→∀ x y r,Bd f x y=some r→motive x y r)→∀ x y r,L x y=some r→motive x y r)
  (h0:σ=ovS σ c (sh x y)) (h:∀ (f:X→Y→Option R) (I:R→St→Prop),(∀ x y,S (f x y) (fun r=>I r (ovS σ c (sh x y))))→∀ x y,S (Bd f x y) (fun r=>Stp tb cty ann con a c (k r) (I r) (ovS σ c (sh x y)))) :
  S (L x y) (fun r=>LW (Stp tb cty ann con a c (k r)) σ):=by
 intro r hm
 rw [h0]
 exact pc (fun x y r=>LW (Stp tb cty ann con a c (k r)) (ovS σ c (sh x y))) (fun f ih x y r hm=>LW.fold (za6 a c (k r)) (h f (fun r=>LW (Stp tb cty ann con a c (k r))) ih x y r hm)) x y r hm
end
end
section
open Go.RowKit Go.Lk
theorem zic {β γ:Type} (f:β→γ):∀ (l:List (Nat × β)) (t:Nat),lk (l.map fun p=>(p.1,f p.2)) t=(lk l t).map f
 | [],t=>rfl
 | (s,v)::r,t=>by
  simp only [yr,lk]
  cases yz s t with
  | true=>rfl
  | false=>exact zic f r t
theorem z4c {β:Type} {s t:Nat} {x v:β} {l:List (Nat × β)} (h:lk ((s,x)::l) t=some v):(t=s∧v=x)∨(t≠s∧lk l t=some v):=by
 unfold lk at h
 split at h
 ·simp_all
 grind [yai]
theorem z4d {β:Type} {a t:Nat} {v:β}:∀ {l:List (Nat × β)},lk (z9d a l) t=some v→t≠a∧lk l t=some v
 | [],h=>by cases h
 | (s,x)::r,h=>by
  unfold z9d at h
  split at h
  ·rename_i e
   have e:=yad e
   subst e
   obtain ⟨h1,h2⟩:=z4d h
   grind [lk,yad]
  ·rename_i e
   have e:=yai e
   rcases z4c h with ⟨rfl,rfl⟩|⟨h1,h2⟩
   ·simp_all [lk]
   ·obtain ⟨h3,h4⟩:=z4d h2
    grind [lk]
theorem z4x {β:Type} {t:Nat} {v:β}:∀ {as_:List Nat} {l:List (Nat × β)},lk (z5a as_ l) t=some v→t∉as_∧lk l t=some v
 | [],l,h=>⟨by simp,h⟩
 | a::as_,l,h=>by
  obtain ⟨h1,h2⟩:=z4x (as_:=as_) h
  grind [z4d]
theorem z9v {β:Type} {a t:Nat} {x v:β}:∀ {l:List (Nat × β)},lk (zet a x l) t=some v→(t=a∧v=x)∨(t≠a∧lk l t=some v)
 | [],h=>by cases h
 | (s,y)::r,h=>by
  unfold zet at h
  split at h
  ·rename_i e
   have e:=yad e
   subst e
   rcases z4c h with h|⟨h1,h2⟩
   ·exact .inl h
   grind [lk,yad]
  ·rename_i e
   have e:=yai e
   rcases z4c h with ⟨rfl,rfl⟩|⟨h1,h2⟩
   ·simp_all [lk]
   ·rcases z9v h2 with h3|⟨h3,h4⟩
    ·exact .inl h3
    grind [lk]
theorem z8x {β:Type} {t:Nat} {v:β}:∀ {ks:List Nat} {l:List (Nat × β)},lk (z9s ks l) t=some v→lk l t=some v
 | [],l,h=>by cases h
 | x::r,l,h=>by
  unfold z9s at h
  split at h
  ·rename_i y e
   rcases z4c h with ⟨rfl,rfl⟩|⟨_,h2⟩
   ·exact e
   ·exact z8x h2
  ·exact z8x h

abbrev FL:=Nat→Option PV
abbrev FB:=Nat→Option Bx
abbrev FA:=Nat→Option Arr
def upd {β:Type} (f:Nat→Option β) (a:Nat) (v:β):Nat→Option β:=fun x=>if x=a then some v else f x
def del {β:Type} (f:Nat→Option β) (a:Nat):Nat→Option β:=fun x=>if x=a then none else f x
def Le {β:Type} (f g:Nat→Option β):Prop := ∀ x v,f x=some v→g x=some v
theorem Le.refl {β:Type} (f:Nat→Option β):Le f f:=fun _ _ h=>h
theorem Le.cons {β:Type} {s:Nat} {x:β} {l:List (Nat × β)}:Le (lk ((s,x)::l)) (upd (lk l) s x):=fun t v h=>by
 unfold upd
 rcases z4c h with ⟨rfl,rfl⟩|⟨h1,h2⟩
 ·simp
 grind
theorem Le.z9d {β:Type} {a:Nat} {l:List (Nat × β)}:Le (lk (z9d a l)) (del (lk l) a):=fun t v h=>by
 unfold del
 obtain ⟨h1,h2⟩:=z4d h
 grind
theorem Le.zet {β:Type} {s:Nat} {x:β} {l:List (Nat × β)}:Le (lk (zet s x l)) (upd (del (lk l) s) s x):=fun t v h=>by
 unfold upd del
 rcases z9v h with ⟨rfl,rfl⟩|⟨h1,h2⟩
 ·simp
 grind
theorem z71 {β:Type} {f:Nat→Option β} {a t:Nat} {v x:β} (h:upd f a v t=some x):(t=a∧x=v)∨(t≠a∧f t=some x):=by
 unfold upd at h
 grind
theorem z4w {β:Type} {f:Nat→Option β} {a t:Nat} {x:β} (h:del f a t=some x):t≠a∧f t=some x:=by
 grind [del]
def ren (φ:Nat→Nat) (a b:Nat):Nat→Nat:=fun x=>if x=a then b else φ x
def zk0 (α:Nat→Value) (a:Nat) (v:Value):Nat→Value:=fun x=>if x=a then v else α x

structure W0 where
 w:World
 O:Nat→Prop
 F:Nat→Prop
 G:World→(Nat→Prop)→Prop
 hF:∀ x,F x→O x
 hB:Bd O w
 hG:∀ {O w O' w'},Tr O w O' w'→G w O→G w' O'
 φ0:Nat→Nat

def OwnZ (w:World) (O:Nat→Prop) (T m:Nat) (v:Value) (l:List (List D)):Prop :=
 ∃ xs,w.ownsRowF 0 T m v l.length xs∧RDl w O m l xs∧(∀ x∈xs,x.oneCell'=true)∧∀ b,v.ownBlock=some b→O b
def z95 (w:World) (O:Nat→Prop) (T m:Nat) (v:Value) (l:List (List D)):Prop :=
 (T<1000000∧Own w O T m v l)∨(1000000≤T∧T<2000000∧OwnZ w O (T - 1000000) m v l)∨(2000000≤T∧zd5 w O (T - 2000000) m v l)
theorem z95.un {w:World} {O:Nat→Prop} {T m:Nat} {v:Value} {l:List (List D)} (h:z95 w O T m v l) (ht:T<1000000):Own w O T m v l:=by
 rcases h with h|h|h
 ·exact h.2
 ·omega
 ·omega
theorem z95.mk_ {w:World} {O:Nat→Prop} {T m:Nat} {v:Value} {l:List (List D)} (h:z95 w O T m v l) (ht:2000000≤T):zd5 w O (T - 2000000) m v l:=by
 rcases h with h|h|h
 ·omega
 ·omega
 ·exact h.2
theorem OwnZ.keep {w w':World} {O O' F:Nat→Prop} {T m:Nat} {v:Value} {l:List (List D)} (h:OwnZ w O T m v l) (x:Ext F w w') (hf:∀ b,v.ownBlock=some b→¬F b) (t:Tr O w O' w') (ho:∀ b,O b→O' b):OwnZ w' O' T m v l:=by
 obtain ⟨xs,h1,h2,h3,h4⟩:=h
 refine ⟨xs,⟨h1.1,?_⟩,h2.tr t,h3,fun b hb=>ho b (h4 b hb)⟩
 rcases h1.2 with h5|⟨g,cap,cur,fz,rfl,h6,h7,h8⟩
 ·exact .inl h5
 ·exact .inr ⟨g,cap,cur,fz,rfl,h6,(x.block g (yal.1 h7).1 (hf g rfl)).trans h7,h8⟩
theorem z95.nil (w:World) (O:Nat→Prop) (T m:Nat):z95 w O T m (.slice none 0 0) []:=by
 rcases Nat.lt_or_ge T 1000000 with h|h
 ·exact .inl ⟨h,Own.nil w O T m⟩
 ·rcases Nat.lt_or_ge T 2000000 with h2|h2
  ·exact .inr (.inl ⟨h,h2,[],World.ownsRowF_of (World.ownsRow_nil w 0 _ m),trivial,by simp,by simp [Value.ownBlock]⟩)
  ·exact .inr (.inr ⟨h2,zd5.nil w O _ m⟩)
theorem z95.keep {w w':World} {O O' F:Nat→Prop} {T m:Nat} {v:Value} {l:List (List D)} (h:z95 w O T m v l) (x:Ext F w w') (hf:∀ b,v.ownBlock=some b→¬F b) (t:Tr O w O' w') (ho:∀ b,O b→O' b):z95 w' O' T m v l :=
 h.imp (fun h=>⟨h.1,h.2.keep x hf t ho⟩) fun h=>h.imp (fun h=>⟨h.1,h.2.1,h.2.2.keep x hf t ho⟩) fun h=>⟨h.1,h.2.keep x hf t ho⟩
theorem z95.mem {w:World} {O:Nat→Prop} {T m:Nat} {v:Value} {l:List (List D)} (h:z95 w O T m v l):∀ b,v.ownBlock=some b→O b:=by
 rcases h with ⟨_,h⟩|⟨_,_,xs,_,_,_,h⟩|⟨_,xs,_,_,_,h⟩
 ·exact h.mem
 ·exact h
 ·exact h
theorem z95.down {w:World} {O O':Nat→Prop} {T m:Nat} {v:Value} {l:List (List D)} (h:z95 w O T m v l) (ho:∀ x,O' x→O x) (hv:∀ b,v.ownBlock=some b→O' b):z95 w O' T m v l:=by
 rcases h with ⟨k,h⟩|⟨k,k',xs,h1,h2,h3,_⟩|⟨k,xs,h1,h2,h3,_⟩
 ·exact .inl ⟨k,h.down ho hv⟩
 ·exact .inr (.inl ⟨k,k',xs,h1,h2.tr (Tr.drop w ho),h3,hv⟩)
 ·exact .inr (.inr ⟨k,xs,h1,h2.tr (Tr.drop w ho),h3,hv⟩)
theorem z95.lt {w:World} {O:Nat→Prop} {T m:Nat} {v:Value} {l:List (List D)} (h:z95 w O T m v l):∀ b,v.ownBlock=some b→b<w.heap.size:=by
 rcases h with ⟨k,h⟩|⟨k,_,xs,h1,_⟩|⟨_,h⟩
 ·exact h.lt
 ·intro b hb
  rcases h1.2 with ⟨rfl,_⟩|⟨g,cap,cur,fz,rfl,_,h7,_⟩
  ·simp [Value.ownBlock] at hb
  grind [Value.ownBlock]
 ·exact h.lt
theorem z95.len {w:World} {O:Nat→Prop} {T m:Nat} {v:Value} {l:List (List D)} (h:z95 w O T m v l):∃ p c,v = .slice p l.length c:=by
 rcases h with ⟨k,h⟩|⟨k,_,xs,h1,_⟩|⟨_,h⟩
 ·exact h.len
 ·rcases h1.2 with ⟨rfl,h0⟩|⟨g,cap,cur,fz,rfl,_⟩
  ·grind
  simp
 ·exact h.len
theorem z95.data {w:World} {O:Nat→Prop} {T m:Nat} {v:Value} {l:List (List D)} (h:z95 w O T m v l) (hT:T<1000000∨2000000≤T):∃ U,RD w (Del O v) (.sl U m l) v:=by
 rcases h with ⟨_,h⟩|⟨_,_,_⟩|⟨_,h⟩
 ·exact ⟨_,h.data⟩
 ·omega
 ·exact ⟨_,h.data⟩
theorem z95.at_ {w:World} {O:Nat→Prop} {T m:Nat} {v:Value} {l:List (List D)} (h:z95 w O T m v l) (hT:T<1000000∨2000000≤T):(v = .slice none 0 0∧l.length=0)∨∃ b cap,v = .slice (some ⟨b,0,none⟩) l.length cap:=by
 rcases h with ⟨_,xs,h,_⟩|⟨_,_,_⟩|⟨_,xs,h,_⟩
 ·rcases h.2 with h|⟨b,cap,_,h,_⟩
  ·exact .inl h
  grind
 ·omega
 ·rcases h.2 with h|⟨b,cap,_,_,h,_⟩
  ·exact .inl h
  grind

structure Rel (z:W0) (fL:FL) (fB:FB) (fA:FA) (V:Env) (w:World) (O:Nat→Prop) (φ:Nat→Nat) (α:Nat→Value):Prop where
 env:∀ t v,fL t=some v→∃ u,Env.get V t=some u∧VR w O φ α v u
 box:∀ b e,fB b=some e→O (φ b)∧∃ us,zkf w (φ b) e.T us∧VRs w O φ α e.cs us
 arr:∀ a e,fA a=some e→z95 w O e.T e.n (α a) e.l
 bb:∀ a b e e',fB a=some e→fB b=some e'→a≠b→φ a≠φ b
 aa:∀ a b e e',fA a=some e→fA b=some e'→a≠b→∀ x,(α a).ownBlock=some x→(α b).ownBlock≠some x
 ab:∀ a b e e',fA a=some e→fB b=some e'→(α a).ownBlock≠some (φ b)
 bF:∀ b e,fB b=some e→(b<1000∧z.F (φ b))∨z.w.heap.size≤φ b
 aF:∀ a e,fA a=some e→∀ x,(α a).ownBlock=some x→(e.mine=false∧z.F x)∨z.w.heap.size≤x
 bd:Bd O w
 ext:Ext z.F z.w w
 only:∀ x,O x→z.O x∨z.w.heap.size≤x
 gl:z.G w O
 keep:∀ b,b<1000→φ b=z.φ0 b

section
variable {z:W0} {fL fL':FL} {fB fB':FB} {fA fA':FA} {V:Env} {w w':World} {O O':Nat→Prop} {φ φ':Nat→Nat} {α α':Nat→Value}
theorem Rel.mono (h:Rel z fL fB fA V w O φ α) (hL:Le fL' fL) (hB:Le fB' fB) (hA:Le fA' fA):Rel z fL' fB' fA' V w O φ α :=
 ⟨fun t v e=>h.env t v (hL _ _ e),fun b e k=>h.box b e (hB _ _ k),fun b e k=>h.arr b e (hA _ _ k),fun a b e e' k k'=>h.bb a b e e' (hB _ _ k) (hB _ _ k'),
  fun a b e e' k k'=>h.aa a b e e' (hA _ _ k) (hA _ _ k'),fun a b e e' k k'=>h.ab a b e e' (hA _ _ k) (hB _ _ k'),fun b e k=>h.bF b e (hB _ _ k),fun a e k=>h.aF a e (hA _ _ k),h.bd,h.ext,h.only,h.gl,h.keep⟩
theorem Rel.move {H:Nat→Prop} (h:Rel z fL fB fA V w O φ α) (x:Ext H w w') (t:Tr O w O' w') (more:∀ y,O y→O' y) (bd':Bd O' w') (hB:∀ b e,fB b=some e→¬H (φ b)) (hA:∀ a e,fA a=some e→∀ y,(α a).ownBlock=some y→¬H y)
  (hx:Ext z.F z.w w') (only':∀ x,O' x→z.O x∨z.w.heap.size≤x):Rel z fL fB fA V w' O' φ α:=by
 refine ⟨fun s v e => ?_,fun b e k => ?_,fun a e k=>(h.arr a e k).keep x (hA a e k) t more,h.bb,h.aa,h.ab,h.bF,h.aF,bd',hx,only',z.hG t h.gl,h.keep⟩
 ·obtain ⟨u,h1,h2⟩:=h.env s v e
  exact ⟨u,h1,h2.tr t⟩
 ·obtain ⟨h1,us,h2,h3⟩:=h.box b e k
  exact ⟨more _ h1,us,h2.keep x (hB b e k),VRs.tr t _ _ h3⟩
theorem Rel.re {kb ka:Nat→Prop} (h:Rel z fL fB fA V w O φ α) (hk:∀ x,x<1000→kb x) (hφ:∀ x,kb x→φ' x=φ x) (hα:∀ x,ka x→α' x=α x) (hL:∀ t v,fL t=some v→z56 kb ka v) (hB:∀ b e,fB b=some e→kb b∧z56.go kb ka e.cs) (hA:∀ a e,fA a=some e→ka a):Rel z fL fB fA V w O φ' α':=by
 have eb:∀ b e,fB b=some e→φ' b=φ b:=fun b e k=>hφ b (hB b e k).1
 have ea:∀ b e,fA b=some e→α' b=α b:=fun b e k=>hα b (hA b e k)
 refine ⟨fun s v e => ?_,fun b e k => ?_,fun a e k => ?_,fun a b e e' k k' hn => ?_,fun a b e e' k k' hn => ?_,fun a b e e' k k' => ?_,fun b e k => ?_,fun a e k => ?_,h.bd,h.ext,h.only,h.gl,fun b hb=>(hφ b (hk b hb)).trans (h.keep b hb)⟩
 ·obtain ⟨u,h1,h2⟩:=h.env s v e
  grind [VR.re]
 ·obtain ⟨h1,us,h2,h3⟩:=h.box b e k
  grind [VRs.re]
 ·rw [ea a e k];exact h.arr a e k
 ·rw [eb a e k,eb b e' k'];exact h.bb a b e e' k k' hn
 ·rw [ea a e k,ea b e' k'];exact h.aa a b e e' k k' hn
 ·rw [ea a e k,eb b e' k'];exact h.ab a b e e' k k'
 ·rw [eb b e k];exact h.bF b e k
 ·rw [ea a e k];exact h.aF a e k
theorem Rel.put (h:Rel z fL fB fA V w O φ α) {d:Nat} {v:PV} {u:Value} (hv:VR w O φ α v u):Rel z (upd fL d v) fB fA ((d,u)::V) w O φ α:=by
 refine ⟨fun t x e => ?_,h.box,h.arr,h.bb,h.aa,h.ab,h.bF,h.aF,h.bd,h.ext,h.only,h.gl,h.keep⟩
 rcases z71 e with ⟨rfl,rfl⟩|⟨h1,h2⟩
 ·simp_all [Env.get]
 ·obtain ⟨u',h3,h4⟩:=h.env t x h2
  grind [Env.get,yad]
theorem Rel.addB (h:Rel z fL fB fA V w O φ α) {b:Nat} {e:Bx} {us:List Value} (ho:O (φ b)) (hb:zkf w (φ b) e.T us) (hv:VRs w O φ α e.cs us) (h1:∀ c e',fB c=some e'→c≠b→φ c≠φ b) (h2:∀ a e',fA a=some e'→(α a).ownBlock≠some (φ b))
  (h3:(b<1000∧z.F (φ b))∨z.w.heap.size≤φ b):Rel z fL (upd fB b e) fA V w O φ α:=by
 refine ⟨h.env,fun c e' k => ?_,h.arr,fun c d e1 e2 k1 k2 hn => ?_,h.aa,fun a c e1 e2 k1 k2 => ?_,fun c e' k => ?_,h.aF,h.bd,h.ext,h.only,h.gl,h.keep⟩
 ·rcases z71 k with ⟨rfl,rfl⟩|⟨_,k⟩
  ·grind
  ·exact h.box c e' k
 ·rcases z71 k1 with ⟨rfl,rfl⟩|⟨n1,j1⟩<;>rcases z71 k2 with ⟨rfl,rfl⟩|⟨n2,j2⟩
  ·omega
  ·grind
  ·grind
  ·exact h.bb c d e1 e2 j1 j2 hn
 ·rcases z71 k2 with ⟨rfl,rfl⟩|⟨n2,k2⟩
  ·grind
  ·exact h.ab a c e1 e2 k1 k2
 ·rcases z71 k with ⟨rfl,rfl⟩|⟨_,k⟩
  ·exact h3
  ·exact h.bF c e' k
theorem Rel.addA (h:Rel z fL fB fA V w O φ α) {a:Nat} {e:Arr} (ho:z95 w O e.T e.n (α a) e.l) (h1:∀ c e',fA c=some e'→c≠a→∀ x,(α c).ownBlock=some x→(α a).ownBlock≠some x) (h2:∀ b e',fB b=some e'→(α a).ownBlock≠some (φ b))
  (h3:∀ x,(α a).ownBlock=some x→(e.mine=false∧z.F x)∨z.w.heap.size≤x):Rel z fL fB (upd fA a e) V w O φ α:=by
 refine ⟨h.env,h.box,fun c e' k => ?_,h.bb,fun c d e1 e2 k1 k2 hn => ?_,fun c b e1 e2 k1 k2 => ?_,h.bF,fun c e' k => ?_,h.bd,h.ext,h.only,h.gl,h.keep⟩
 ·rcases z71 k with ⟨rfl,rfl⟩|⟨_,k⟩
  ·exact ho
  ·exact h.arr c e' k
 ·rcases z71 k1 with ⟨rfl,rfl⟩|⟨n1,j1⟩<;>rcases z71 k2 with ⟨rfl,rfl⟩|⟨n2,j2⟩
  ·omega
  ·grind
  ·grind
  ·exact h.aa c d e1 e2 j1 j2 hn
 ·rcases z71 k1 with ⟨rfl,rfl⟩|⟨n1,k1⟩
  ·grind
  ·exact h.ab c b e1 e2 k1 k2
 ·rcases z71 k with ⟨rfl,rfl⟩|⟨_,k⟩
  ·exact h3
  ·exact h.aF c e' k
theorem Rel.boxLt (h:Rel z fL fB fA V w O φ α) {b:Nat} {e:Bx} (k:fB b=some e):φ b<w.heap.size:=h.bd _ (h.box b e k).1
theorem Rel.arrLt (h:Rel z fL fB fA V w O φ α) {a:Nat} {e:Arr} (k:fA a=some e) {x:Nat} (hx:(α a).ownBlock=some x):x<w.heap.size:=(h.arr a e k).lt x hx
theorem Rel.arrO (h:Rel z fL fB fA V w O φ α) {a:Nat} {e:Arr} (k:fA a=some e) {x:Nat} (hx:(α a).ownBlock=some x):O x:=(h.arr a e k).mem x hx
end
end
section
open Go.RowKit Go.Lk
def zj9 (P:Program) (T:TypeId):Option (List (Nat × Bool × Nat)) :=
 match P.underlying T with
 | some (.struct fs)=>fs.toList.mapM fun f=>match Lk.shp P f.type with
  | some (b,n)=>if n=0 then none else some (f.offset,b,n)
  | none=>none
 | _=>none
def nifc (P:Program) (T:TypeId):Bool:=match P.underlying T with
 | some td=>zct td
 | none=>false
theorem zol {P:Program} {T:TypeId} (h:nifc P T=true):∃ td,P.underlying T=some td∧zct td=true:=by
 grind [nifc]
def ifcT (P:Program) (T:TypeId):Bool:=match P.underlying T with
 | some (.interface _)=>true
 | _=>false
theorem zz03w {P:Program} {T:TypeId} (h:ifcT P T=true):∃ ms,P.underlying T=some (.interface ms):=by
 grind [ifcT]
def arsT (P:Program) (T:TypeId):Option Nat:=match P.underlying T,Lk.zer P T with
 | some (.array n e),some z=>match P.underlying e,P.info? e,P.eqGuardType P.depth T with
  | some .string,some i,false=>match yz i.size 1&&yz z.cells.size n with
   | true=>some n
   | false=>none
  | _,_,_=>none
 | _,_=>none
theorem zu4 {P:Program} {T n:Nat} (h:arsT P T=some n):∃ e z i,P.underlying T=some (.array n e)∧Lk.zer P T=some z∧P.underlying e=some .string∧P.info? e=some i∧P.eqGuardType P.depth T=false∧i.size=1∧z.cells.size=n:=by
 unfold arsT at h
 split at h
 ·split at h
  ·split at h
   ·simp_all
   ·cases h
  ·cases h
 ·cases h
def fldS (P:Program):List Field→Nat→Bool
 | [],_=>true
 | f::r,j=>yz f.offset j&&decide (f.name ≠ "_")&&(match P.underlying f.type with
  | some .string=>true
  | _=>false)&&fldS P r (j+1)
def stsT (P:Program) (T:TypeId):Option Nat:=match P.underlying T,P.stoodInHeld T,P.eqGuardType P.depth T with
 | some (.struct fs),false,false=>match fldS P fs.toList 0 with
  | true=>some fs.toList.length
  | false=>none
 | _,_,_=>none
theorem zz05l {P:Program} {T n:Nat} (h:stsT P T=some n):∃ fs,P.underlying T=some (.struct fs)∧P.stoodInHeld T=false∧P.eqGuardType P.depth T=false∧fldS P fs.toList 0=true∧fs.toList.length=n:=by
 unfold stsT at h
 grind
structure TbOk (P:Program) (tb:Tb):Prop where
 sts:∀ t n,lk tb.sts t=some n→stsT P t=some n
 ars:∀ t n,lk tb.ars t=some n→arsT P t=some n
 ifc:∀ t,tb.ifc.any (yz t)=true→ifcT P t=true
 mix:P.follows .mixedOrders=true
 nif:∀ t,tb.nif.any (yz t)=true→nifc P t=true
 und:∀ t td,lk tb.und t=some td→P.underlying t=some td
 shp:∀ t s,lk tb.shp t=some s→Lk.shp P t=some s
 fld:∀ t fs,lk tb.fld t=some fs→zj9 P t=some fs
 zer:∀ t z,lk tb.zer t=some z→Lk.zer P t=some z
 inf:∀ t i,lk tb.inf t=some i→Lk.inf P t=some i
def GtOk (tb:Tb) (w:World) (O:Nat→Prop):Prop := ∀ g e,lk tb.glb g=some e→e.2.2.length=e.2.1∧∀ (i:Nat) (x:List D),e.2.2[i]? = some x→zdo w O g (i*e.1) e.1 x
def zy5 {β:Type} (p:Nat→β→Prop):List (Nat × β)→Prop
 | []=>True
 | (t,x)::r=>p t x∧zy5 p r
theorem zy5.get {β:Type} {p:Nat→β→Prop}:∀ {l:List (Nat × β)} {t:Nat} {x:β},zy5 p l→lk l t=some x→p t x
 | (s,y)::r,t,x,h,e=>by
  rcases z4c e with ⟨rfl,rfl⟩|⟨_,e⟩
  ·exact h.1
  ·exact h.2.get e
def allN (p:Nat→Prop):List Nat→Prop
 | []=>True
 | t::r=>p t∧allN p r
theorem allN.get {p:Nat→Prop}:∀ {l:List Nat} {t:Nat},allN p l→l.any (yz t)=true→p t
 | s::r,t,h,e=>by
  simp only [List.any_cons,Bool.or_eq_true] at e
  rcases e with e|e
  ·rw [yad e];exact h.1
  ·exact h.2.get e
theorem TbOk.of {P:Program} {tb:Tb} (hm:P.follows .mixedOrders=true) (h00:allN (fun t=>ifcT P t=true) tb.ifc) (h0:allN (fun t=>nifc P t=true) tb.nif) (h1:zy5 (fun t td=>P.underlying t=some td) tb.und) (h2:zy5 (fun t s=>Lk.shp P t=some s) tb.shp) (h3:zy5 (fun t fs=>zj9 P t=some fs) tb.fld) (h4:zy5 (fun t z=>Lk.zer P t=some z) tb.zer)
  (h5:zy5 (fun t i=>Lk.inf P t=some i) tb.inf) (h6:zy5 (fun t n=>arsT P t=some n) tb.ars) (h7:zy5 (fun t n=>stsT P t=some n) tb.sts):TbOk P tb:=⟨fun _ _=>h7.get,fun _ _=>h6.get,fun _=>h00.get,hm,fun _=>h0.get,fun _ _=>h1.get,fun _ _=>h2.get,fun _ _=>h3.get,fun _ _=>h4.get,fun _ _=>h5.get⟩
theorem mapM_some {α β:Type} {f:α→Option β}:∀ {l:List α} {r:List β},l.mapM f=some r→∀ (i:Nat) (y:β),r[i]? = some y→∃ x,l[i]? = some x∧f x=some y
 | [],r,h,i,y,e=>by grind
 | a::l,r,h,i,y,e=>by
  simp only [yq,ya] at h
  obtain ⟨b,h1,h⟩:=yb.1 h
  obtain ⟨bs,h2,h⟩:=yb.1 h
  cases h
  cases i with
  | zero=>grind
  | succ i=>simpa using mapM_some h2 i y (by simpa using e)
theorem zi5 {P:Program} {T:TypeId} {fs:List (Nat × Bool × Nat)} (h:zj9 P T=some fs):∃ fds,P.underlying T=some (.struct fds)∧(fds.toList.mapM fun f=>match Lk.shp P f.type with
  | some (b,n)=>if n=0 then none else some (f.offset,b,n)
  | none=>none)=some fs:=by
 unfold zj9 at h
 split at h
 ·simp_all
 ·cases h
theorem zqn {P:Program} {T:TypeId} {fs:List (Nat × Bool × Nat)} (h:zj9 P T=some fs) {i:Nat} {f:Nat × Bool × Nat} (hf:fs[i]? = some f):Lk.fld P T i=some f:=by
 obtain ⟨fds,h1,h2⟩:=zi5 h
 obtain ⟨x,h3,h4⟩:=mapM_some h2 i f hf
 grind [Lk.fld]
theorem zfl {P:Program}:∀ {l:List Field} {fs:List (Nat × Bool × Nat)},(l.mapM fun f=>match Lk.shp P f.type with
  | some (b,n)=>if n=0 then none else some (f.offset,b,n)
  | none=>none)=some fs→(l.mapM fun f=>(P.info? f.type).map fun i=>(f.offset,i.size))=some (fs.map fun f=>(f.1,f.2.2))
 | [],fs,h=>by grind
 | a::l,fs,h=>by
  simp only [yq,ya] at h
  obtain ⟨b,h1,h⟩:=yb.1 h
  obtain ⟨bs,h2,h⟩:=yb.1 h
  have ih:=zfl h2
  grind [zz00v]

theorem zc {α:Type} {x:Option α} {k:α→Prop} (h:wt x k):∃ a,x=some a∧k a:=by
 cases x with
 | none=>exact h.elim
 | some a=>exact ⟨a,rfl,h⟩
theorem zno {b:Bool} {p q:Prop} (h:cond b p q):(b=true∧p)∨(b=false∧q):=by
 grind
section
variable {w:World} {O:Nat→Prop} {φ:Nat→Nat} {α:Nat→Value}
theorem zom (v:Value):VR w O φ α (ztq v) v:=by
 unfold ztq
 split
 ·rfl
 ·rfl
 ·simp [VR]
 ·rfl
 ·rfl
 ·rfl
 ·exact ⟨[],[],rfl,rfl,rfl⟩
 ·trivial
theorem zrc:∀ (l:List Value),VRs w O φ α (l.map ztq) l
 | []=>rfl
 | v::l=>⟨v,l,rfl,zom v,zrc l⟩
theorem zii (v:Value):VR w O φ α (ofV v) v:=by
 unfold ofV
 split
 ·rename_i cs
  exact ⟨cs.toList,by simp,zrc _⟩
 ·exact zom v
theorem zwj {d:D} {u:Value} (h:RD w O d u):VR w O φ α (ofD d) u:=by
 cases d with
 | int k n=>grind [VR,ofD,RD]
 | bool b=>grind [VR,ofD,RD]
 | str s=>grind [VR,ofD,RD]
 | sl T n l=>exact h
 | val x=>trivial
 | fn n=>exact ⟨[],[],h,rfl,rfl⟩
theorem zbp:∀ {l:List D} {us:List Value},RDs w O l us→VRs w O φ α (ofDs l) us
 | [],us,h=>h
 | d::l,us,h=>by
  obtain ⟨v,vs,h1,h2,h3⟩:=h
  exact ⟨v,vs,h1,zwj h2,zbp h3⟩
theorem VR.one {v:PV} {u:Value} (h:VR w O φ α v u) (h1:ztr v=true):u.oneCell'=true:=by
 cases v<;>simp only [ztr,yf] at h1
 case int=>subst h;rfl
 case bool=>subst h;rfl
 case str=>subst h;rfl
 case sl=>exact RD.one _ _ h
 case nil=>subst h;rfl
 case ref=>exact h.2
 case ptr=>subst h;rfl
 case zbc=>obtain ⟨b,q,h,_⟩:=h;subst h;rfl
 case zbx=>obtain ⟨b,l,c,j,_,_,h⟩:=h;subst h;rfl
 case iface=>obtain ⟨x,h,_⟩:=h;subst h;rfl
 case ze6=>subst h;rfl
 case fn=>grind [VR,zv5]
 case zei=>subst h;rfl
 case z1l=>rcases h with rfl|rfl<;>rfl
 case err=>rcases h with ⟨_,rfl⟩|⟨_,T,v,rfl⟩<;>rfl
 case mp=>subst h;rfl
theorem VRs.zst:∀ {vs:List PV} {us:List Value},VRs w O φ α vs us→vs.all ztr=true→us.all (·.oneCell')=true
 | [],us,h,_=>by cases h;rfl
 | v::vs,us,h,k=>by
  obtain ⟨u,us',rfl,h2,h3⟩:=h
  simp only [List.all_cons,yd] at k ⊢
  exact ⟨h2.one k.1,VRs.zst h3 k.2⟩
theorem VR.cells {v:PV} {u:Value} (h:VR w O φ α v u) (h1:z5c v=false):VRs w O φ α (cellsOf v) u.cells.toList:=by
 cases v with
 | agg cs =>
  simp only [VR] at h
  grind [cellsOf,Value.cells]
 | undef=>simp [z5c] at h1
 | gone=>simp [z5c] at h1
 | md c=>simp [z5c] at h1
 | tup cs =>
  have h':=h
  obtain ⟨us,rfl,h⟩:=h
  exact ⟨_,[],rfl,h',rfl⟩
 | _ =>
  have:=cells_one (h.one rfl)
  rw [this]
  exact ⟨u,[],rfl,h,rfl⟩
theorem zm9 (zz:Value):VRs w O φ α (cellsOf (ofV zz)) zz.cells.toList:=by
 by_cases hu:z5c (ofV zz)=false
 ·exact (zii zz).cells hu
 ·have hc:zz.cells = #[zz]:=by cases zz<;>first|rfl|grind [ofV,z5c]
  have hq:cellsOf (ofV zz)=[ofV zz]:=by
   revert hu
   cases ofV zz<;>simp [z5c,cellsOf]
  rw [hq,hc]
  exact ⟨zz,[],rfl,zii zz,rfl⟩
theorem zcl {β:Type} {l:List β} {i:Int} {x:β} (h:Lk.ix l i=some x):∃ j:Nat,i=(j:Nat)∧l[j]? = some x∧j<l.length:=by
 grind [zvq]
end
theorem RD.zz05m {P:Program} {w:World} {O:Nat→Prop} {T n t:Nat} {l:List (List D)} {v:Value} {a b:Nat} {lo hi:Option Value} {g:Bool} (ht:P.underlying t=some (.slice T)) (hT:shp P T=some (g,n)) (h:RD w O (.sl T n l) v)
  (hlo:LoV lo a 0) (hhi:LoV hi b l.length) (hab:a≤b) (hb:b≤l.length) :
  ∃ v',(∀ w',(Instr.sliceAt t v lo hi none).run P w' = .ok v' w')∧RD w O (.sl T n ((l.take b).drop a)) v':=by
 have key:∀ (p:Option Addr) (cap:Nat),l.length≤cap→∀ w,(Instr.sliceAt t (.slice p l.length cap) lo hi none).run P w = .ok (.slice (if cap=a then p else p.map (·.add (a*n))) (b - a) (cap - a)) w:=by
  intro p cap hc w
  have i3:(a:Int)≤(b:Int):=Int.ofNat_le.2 hab
  have i4:(b:Int)≤(cap:Int):=Int.ofNat_le.2 (by omega)
  simp only [Instr.sliceAt,Sem.run_bind,run_underlying ht,Result.andThen_ok,Instr.slice]
  cases lo with
  | none =>
   subst hlo
   cases hi with
   | none=>subst hhi;simp [Instr.sliceBounds,(z2a hT).2]
   | some y=>obtain ⟨kd,rfl⟩:=hhi;simp [Instr.sliceBounds,Instr.sliceBound,asIntOf,(z2a hT).2,show b≤cap by omega]
  | some z =>
   obtain ⟨kz,rfl⟩:=hlo
   cases hi with
   | none=>subst hhi;simp [Instr.sliceBounds,Instr.sliceBound,asIntOf,(z2a hT).2,hab]
   | some y=>obtain ⟨kd,rfl⟩:=hhi;simp [Instr.sliceBounds,Instr.sliceBound,asIntOf,(z2a hT).2,hab,show b≤cap by omega]
 rcases h with ⟨⟨p,rfl⟩,rfl⟩|⟨bb,q,cap,cs,fr,rfl,h2,h3,h4,h5,h6,h7⟩
 ·simp_all [RD]
 ·refine ⟨_,key _ cap h2,?_⟩
  right
  have hlen:((l.take b).drop a).length=b - a:=by simp;omega
  have h8:RDl w O n ((l.take b).drop a) ((cs.toList.drop q).drop (a*n)):=RDl.drop a (RDl.take b h7)
  by_cases hca:cap=a
  ·have:b=a:=by omega
   subst this
   have e0:(l.take b).drop b=[]:=yk (by omega)
   rw [if_pos hca,e0]
   exact ⟨bb,q,cap - b,cs,fr,by simp,by simp,by omega,h4,h5,by grind,trivial⟩
  ·refine ⟨bb,q+a*n,cap - a,cs,fr,by grind [Addr.add_lit],by omega,by omega,h4,h5,?_,by simp_all⟩
   rw [Nat.sub_mul]
   have:a*n≤cap*n:=yag n (by omega)
   omega

section
variable {z:W0} {σ:St} {V:Env} {w:World} {O:Nat→Prop} {φ:Nat→Nat} {α:Nat→Value} {C:Cx} {n:Nat} {o:Oper}
theorem Rel.ev {fB:FB} {fA:FA} (h:Rel z (lk σ.L) fB fA V w O φ α) {x:Operand} {v:PV} (e:σ.ev x=some v):∃ u,Lk.ev V x=some u∧VR w O φ α v u:=by
 cases x with
 | tmp t=>exact h.env t v e
 | const c=>simp only [St.ev,Option.some.injEq] at e;subst e;exact ⟨c,rfl,zii c⟩
 | global g=>cases e
 | func f =>
  simp only [St.ev] at e
  split at e
  ·cases e
  ·rename_i hf
   cases e
   exact ⟨_,rfl,[],[],(znw hf [] []).symm,rfl,rfl⟩
theorem Rel.evs {fB:FB} {fA:FA} (h:Rel z (lk σ.L) fB fA V w O φ α):∀ {xs:List Operand} {vs:List PV},σ.evs xs=some vs→∃ us,Lk.evs V xs=some us∧VRs w O φ α vs us
 | [],vs,e=>by simp only [St.evs,Option.some.injEq] at e;subst e;exact ⟨[],rfl,rfl⟩
 | x::xs,vs,e=>by
  unfold St.evs at e
  split at e
  ·rename_i v vs' h1 h2
   cases e
   obtain ⟨u,h3,h4⟩:=h.ev h1
   obtain ⟨us,h5,h6⟩:=h.evs h2
   exact ⟨u::us,by grind [Lk.evs],u,us,rfl,h4,h6⟩
  ·cases e
def znh (C:Cx) (n:Nat) (V:Env) (w:World) (O:Nat→Prop) (φ:Nat→Nat) (α:Nat→Value) (o:Oper) (st:Bool) (k:PV→Prop):Prop := ∃ v u,k v∧VR w O φ α v u∧EX C n V w o u∧(st=true→∀ w' O',Tr O w O' w'→EX C n V w' o u)
theorem znh.al {st:Bool} {k:PV→Prop} {v:PV} {u:Value} (hk:k v) (hv:VR w O φ α v u) (hx:∀ w',EX C n V w' o u):znh C n V w O φ α o st k:=⟨v,u,hk,hv,hx w,fun _ w' _ _=>hx w'⟩
theorem znh.val {st:Bool} {k:PV→Prop} {x:Value} (hk:k (ztq x)) (h:∀ w',EX C n V w' o x):znh C n V w O φ α o st k:=.al hk (zom x) h
theorem z8t {a b:IntKind} (h:zzm a b=true):a=b:=by
 have:=yad h
 cases a<;>cases b<;>first|rfl|(exact absurd this (by decide))
theorem zf4 {p:Prop} [Decidable p] {k:Unit→Prop} (h:Ex (chk (decide p)) k):p∧k ():=by
 obtain ⟨a,h1,h2⟩:=h
 simp_all [of_decide_eq_true,z6h]
theorem EX.ifNil {op:BinOp} {t r:TypeId} {x:Operand} {ms:Array (String × TypeId)} {u:Value} {b:Bool} (ho:o.op = .binOp op t x (.const .nilIface) r) (ht:C.P.underlying t=some (.interface ms)) (hx:Lk.ev V x=some u) (hu:(b=true∧u = .nilIface)∨(b=false∧∃ T v,u = .iface T v)) :
  (op = .eql→EX C n V w o (.bool b))∧(op = .neq→EX C n V w o (.bool (!b))):=by
 rcases hu with ⟨rfl,rfl⟩|⟨rfl,T,v,rfl⟩
 ·have h:∀ d:Nat,(Op.equalIn (d+1) t .nilIface .nilIface).run C.P w = .ok true w:=fun d=>by simp [Op.equalIn,run_underlying ht]
  constructor
  ·rintro rfl a ha
   have hc:a.eval (.const .nilIface) = .nilIface:=rfl
   simp [execOp,ho,ha.ev hx,hc,binOp,eqGuard,Op.equal,Op.maxDepth,h 9999]
  ·rintro rfl a ha
   have hc:a.eval (.const .nilIface) = .nilIface:=rfl
   simp [execOp,ho,ha.ev hx,hc,binOp,eqGuard,Op.equal,Op.maxDepth,h 9999]
 ·have h:∀ d:Nat,(Op.equalIn (d+1) t (.iface T v) .nilIface).run C.P w = .ok false w:=fun d=>by simp [Op.equalIn,run_underlying ht]
  constructor
  ·rintro rfl a ha
   have hc:a.eval (.const .nilIface) = .nilIface:=rfl
   simp [execOp,ho,ha.ev hx,hc,binOp,eqGuard,Op.equal,Op.maxDepth,h 9999]
  ·rintro rfl a ha
   have hc:a.eval (.const .nilIface) = .nilIface:=rfl
   simp [execOp,ho,ha.ev hx,hc,binOp,eqGuard,Op.equal,Op.maxDepth,h 9999]
theorem EX.zz07l {op:BinOp} {t r:TypeId} {x:Operand} {ps rs:Array TypeId} {vv:Bool} {f:Nat} {us vs:List Value} (ho:o.op = .binOp op t x (.const .nilFunc) r) (ht:C.P.underlying t=some (.func ps rs vv)) (hx:Lk.ev V x=some (fnV f us vs)) :
  (op = .eql→EX C n V w o (.bool (yz f NF)))∧(op = .neq→EX C n V w o (.bool (!yz f NF))):=by
 unfold fnV at hx
 split at hx
 ·rename_i hf
  rw [hf]
  have h:∀ d:Nat,(Op.equalIn (d+1) t .nilFunc .nilFunc).run C.P w = .ok true w:=fun d=>by simp [Op.equalIn,run_underlying ht]
  constructor
  ·rintro rfl a ha
   have hc:a.eval (.const .nilFunc) = .nilFunc:=rfl
   simp [execOp,ho,ha.ev hx,hc,binOp,eqGuard,Op.equal,Op.maxDepth,h 9999]
  ·rintro rfl a ha
   have hc:a.eval (.const .nilFunc) = .nilFunc:=rfl
   simp [execOp,ho,ha.ev hx,hc,binOp,eqGuard,Op.equal,Op.maxDepth,h 9999]
 ·rename_i hf
  rw [hf]
  have h:∀ d:Nat,(Op.equalIn (d+1) t (.func (.func f) (yx us) (yx vs)) .nilFunc).run C.P w = .ok false w:=fun d=>by simp [Op.equalIn,run_underlying ht]
  constructor
  ·rintro rfl a ha
   have hc:a.eval (.const .nilFunc) = .nilFunc:=rfl
   simp [execOp,ho,ha.ev hx,hc,binOp,eqGuard,Op.equal,Op.maxDepth,h 9999]
  ·rintro rfl a ha
   have hc:a.eval (.const .nilFunc) = .nilFunc:=rfl
   simp [execOp,ho,ha.ev hx,hc,binOp,eqGuard,Op.equal,Op.maxDepth,h 9999]
def EqS:List Value→List Value→Bool→Prop
 | [],[],b=>b=true
 | x::r,y::s,b=>∃ p q c,x = .string ⟨yx p⟩∧y = .string ⟨yx q⟩∧EqS r s c∧b=(decide (p=q)&&c)
 | _,_,_=>False
theorem zup:∀ {us vs:List PV} {b:Bool} {xs ys:List Value},eqSs us vs=some b→VRs w O φ α us xs→VRs w O φ α vs ys→EqS xs ys b∧xs.length=ys.length
 | [],[],b,xs,ys,e,h1,h2=>by
  obtain rfl:xs=[]:=h1
  obtain rfl:ys=[]:=h2
  cases e
  exact ⟨rfl,rfl⟩
 | .str p::us,.str q::vs,b,xs,ys,e,h1,h2=>by
  obtain ⟨x,r,rfl,h3,h4⟩:=h1
  obtain ⟨y,s,rfl,h5,h6⟩:=h2
  simp only [eqSs] at e
  split at e
  ·rename_i c hc
   cases e
   obtain ⟨k1,k2⟩:=zup hc h4 h6
   exact ⟨⟨p,q,c,h3,h5,k1,rfl⟩,by simp [k2]⟩
  ·cases e
theorem zl7 {P:Program} {w:World} {d e:Nat} {i:TypeInfo} (he:P.underlying e=some .string) (hi:P.info? e=some i) (h1:i.size=1):∀ (r s:List Value) (b:Bool) (xs ys:List Value) (j:Nat),EqS r s b→xs.drop j=r→ys.drop j=s →
  (Op.eqItems (d+1) e (P.cellsOf e) (yx xs) (yx ys) (List.range' j r.length)).run P w = .ok b w
 | [],[],b,xs,ys,j,h,_,_=>by
  obtain rfl:b=true:=h
  rfl
 | x::r,y::s,b,xs,ys,j,h,hx,hy=>by
  obtain ⟨p,q,c,rfl,rfl,h4,rfl⟩:=h
  have hc:P.cellsOf e=1:=by simp [Program.cellsOf,hi,h1]
  have ex:xs[j]? = some (.string ⟨yx p⟩):=by
   have:=congrArg (·[0]?) hx
   simpa using this
  have ey:ys[j]? = some (.string ⟨yx q⟩):=by
   have:=congrArg (·[0]?) hy
   simpa using this
  have hx':xs.drop (j+1)=r:=by rw [←yj,hx];rfl
  have hy':ys.drop (j+1)=s:=by rw [←yj,hy];rfl
  have ih:=zl7 (w:=w) (d:=d) he hi h1 r s c xs ys (j+1) h4 hx' hy'
  have eb:((⟨yx p⟩:ByteArray)==⟨yx q⟩)=decide (p=q):=by
   rw [beq_toListBytes,ByteArray.toList_eq,ByteArray.toList_eq,ye];simp
  rw [yo,List.range'_succ]
  simp only [Op.eqItems,hc,yah,Sem.run_bind,part,isAgg,run_underlying he,Result.andThen_ok,Sem.run_pure,yf,if_false,yn,ex,ey,Op.equalIn,eb]
  cases decide (p=q) with
  | false=>simp
  | true =>
   grind
theorem EX.eqA {op:BinOp} {t r:TypeId} {x y:Operand} {xs ys:List Value} {m:Nat} {b:Bool} (ho:o.op = .binOp op t x y r) (ht:arsT C.P t=some m) (hx:Lk.ev V x=some (.agg (yx xs))) (hy:Lk.ev V y=some (.agg (yx ys))) (hl:xs.length=m) (hb:EqS xs ys b) (hl2:xs.length=ys.length) :
  (op = .eql→EX C n V w o (.bool b))∧(op = .neq→EX C n V w o (.bool (!b))):=by
 obtain ⟨e,z,i,h1,h2,h3,h4,h5,h6,h7⟩:=zu4 ht
 have key:(Op.equalIn (9998+1+1) t (.agg (yx xs)) (.agg (yx ys))).run C.P w = .ok b w:=by
  rw [run_equalIn_array w _ _ _ h1 h4,←hl,List.range_eq_range']
  exact zl7 h3 h4 h6 xs ys b xs ys 0 hb rfl rfl
 constructor
 ·rintro rfl a ha
  simp [execOp,ho,ha.ev hx,ha.ev hy,binOp,eqGuard,Op.equal,Op.maxDepth,key,h5]
 ·rintro rfl a ha
  simp [execOp,ho,ha.ev hx,ha.ev hy,binOp,eqGuard,Op.equal,Op.maxDepth,key,h5]
theorem zi0 {P:Program} {w:World} {d:Nat}:∀ (fs:List Field) (r s:List Value) (b:Bool) (xs ys:List Value) (j:Nat),fldS P fs j=true→fs.length=r.length→EqS r s b→xs.drop j=r→ys.drop j=s →
  (Op.eqFields (d+1) (yx xs) (yx ys) fs).run P w = .ok b w
 | [],[],[],b,xs,ys,j,_,_,h,_,_=>by
  obtain rfl:b=true:=h
  rfl
 | f::fs,x::r,y::s,b,xs,ys,j,hf,hl,h,hx,hy=>by
  obtain ⟨p,q,c,rfl,rfl,h4,rfl⟩:=h
  simp only [fldS,yd,decide_eq_true_eq] at hf
  obtain ⟨⟨⟨f1,f2⟩,f3⟩,f4⟩:=hf
  have f1:=yad f1
  have f3:P.underlying f.type=some .string:=by
   split at f3
   ·assumption
   ·cases f3
  have ex:xs[j]? = some (.string ⟨yx p⟩):=by
   have:=congrArg (·[0]?) hx
   simpa using this
  have ey:ys[j]? = some (.string ⟨yx q⟩):=by
   have:=congrArg (·[0]?) hy
   simpa using this
  have hx':xs.drop (j+1)=r:=by rw [←yj,hx];rfl
  have hy':ys.drop (j+1)=s:=by rw [←yj,hy];rfl
  have ih:=zi0 (w:=w) (d:=d) fs r s c xs ys (j+1) f4 (by grind) h4 hx' hy'
  have eb:((⟨yx p⟩:ByteArray)==⟨yx q⟩)=decide (p=q):=by
   rw [beq_toListBytes,ByteArray.toList_eq,ByteArray.toList_eq,ye];simp
  simp only [Op.eqFields,f1,if_pos f2,Sem.run_bind,part,isAgg,run_underlying f3,Result.andThen_ok,Sem.run_pure,yf,if_false,yn,ex,ey,Op.equalIn,eb]
  cases decide (p=q) with
  | false=>simp
  | true =>
   grind
 | [],_::_,_,_,_,_,_,_,hl,_,_,_=>by simp at hl
 | _::_,[],_,_,_,_,_,_,hl,_,_,_=>by simp at hl
 | [],[],_::_,_,_,_,_,_,_,h,_,_=>h.elim
 | _::_,_::_,[],_,_,_,_,_,_,h,_,_=>h.elim
theorem EX.eqT {op:BinOp} {t r:TypeId} {x y:Operand} {xs ys:List Value} {m:Nat} {b:Bool} (ho:o.op = .binOp op t x y r) (ht:stsT C.P t=some m) (hx:Lk.ev V x=some (.agg (yx xs))) (hy:Lk.ev V y=some (.agg (yx ys))) (hl:xs.length=m) (hb:EqS xs ys b) :
  (op = .eql→EX C n V w o (.bool b))∧(op = .neq→EX C n V w o (.bool (!b))):=by
 obtain ⟨fs,h1,h2,h3,h4,h5⟩:=zz05l ht
 have hfs:C.P.fieldsOf t=fs:=by simp [Program.fieldsOf,h1]
 have key:(Op.equalIn (9998+1+1) t (.agg (yx xs)) (.agg (yx ys))).run C.P w = .ok b w:=by
  rw [run_equalIn_struct w _ _ _ _ (by grind) h2,hfs]
  exact zi0 fs.toList xs ys b xs ys 0 h4 (by omega) hb rfl rfl
 constructor
 ·rintro rfl a ha
  simp [execOp,ho,ha.ev hx,ha.ev hy,binOp,eqGuard,Op.equal,Op.maxDepth,key,h3]
 ·rintro rfl a ha
  simp [execOp,ho,ha.ev hx,ha.ev hy,binOp,eqGuard,Op.equal,Op.maxDepth,key,h3]
theorem zz01n {C:Cx} {n:Nat} {tb:Tb} {V:Env} {w:World} {o:Oper} (ht:TbOk C.P tb) {op:BinOp} {t r:TypeId} {x y:Operand} {xs ys:List Value} {m:Nat} {b:Bool} (hm:tb.eqn t=some m) (ho:o.op = .binOp op t x y r) (hx:Lk.ev V x=some (.agg (yx xs))) (hy:Lk.ev V y=some (.agg (yx ys))) (hl:xs.length=m) (hb:EqS xs ys b) (hl2:xs.length=ys.length) :
  (op = .eql→EX C n V w o (.bool b))∧(op = .neq→EX C n V w o (.bool (!b))):=by
 unfold Tb.eqn at hm
 split at hm
 ·rename_i m' hm'
  cases hm
  exact EX.eqA ho (ht.ars _ _ hm') hx hy hl hb hl2
 ·exact EX.eqT ho (ht.sts _ _ hm) hx hy hl hb
theorem zz01p:∀ (is:List Nat) (us:List PV) (xs:List Value) (j:Nat),zbr j is=true→us.all strP=true→VRs w O φ α us xs→is.length=us.length→flat 1 j (is.zip xs)=some xs
 | [],[],xs,j,_,_,h,_=>by obtain rfl:xs=[]:=h;rfl
 | i::is,.str p::us,xs,j,hr,hs,h,hl=>by
  obtain ⟨x,r,rfl,h3,h4⟩:=h
  simp only [zbr,yd] at hr
  simp only [List.all_cons,yd] at hs
  subst h3
  obtain rfl:=yad hr.1
  simp only [yy,flat]
  rw [zz01p is us r (j+1) hr.2 hs.2 h4 (by grind)]
  simp [Value.cells]
 | [],_::_,_,_,_,_,_,hl=>by simp at hl
 | _::_,[],_,_,_,_,_,hl=>by simp at hl
theorem EX.zz075 {T m:TypeId} {parts:Array (Nat × Operand)} {vs:List (Nat × Value)} {cs:List Value} (ho:o.op = .build T parts) (ht:arsT C.P T=some m) (hp:evp V parts.toList=some vs) (hb:flat 1 0 vs=some cs) (hl:vs.length=m):EX C n V w o (.agg (yx cs)) :=
 fun a ha=>by
  obtain ⟨e,z,i,h1,h2,h3,h4,h5,h6,h7⟩:=zu4 ht
  have ee:(parts.map fun (i,x)=>(i,a.eval x))=vs.toArray:=by apply yao.1;simpa using ha.evp hp
  obtain ⟨i',k5,k6⟩:=yb.1 h2
  have key:Instr.fill (fun i=>some (i,1)) z.cells vs=some (yx cs):=by
   have:=(zfk 1 m vs 0 z.cells cs hb (by omega)).1
   simp only [yah] at this
   rw [this]
   have e1:z.cells.toList.drop (0+vs.length)=[]:=List.drop_eq_nil_of_le (by simp;omega)
   rw [e1]
   simp
  simp only [execOp,ho,ee,Instr.build,Sem.run_bind,zeroValue,sizeOf,typeInfo,run_program,Result.andThen_ok,k5,Sem.run_pure,k6,run_underlying h1,h4,h6,yah,key]
theorem zz04r {v:PV} {u:Value} {b:Bool} (h:nilQ v=some b) (hv:VR w O φ α v u):(b=true∧u = .nilIface)∨(b=false∧∃ T v,u = .iface T v):=by
 unfold nilQ at h
 split at h
 ·cases h;exact .inl ⟨rfl,hv⟩
 ·cases h;obtain ⟨x,rfl,_⟩:=hv;simp
 ·cases h;exact hv
 ·cases h
theorem EX.binPN {op:BinOp} {t r e:TypeId} {x y:Operand} {p:Addr} (ho:o.op = .binOp op t x y r) (ht:C.P.underlying t=some (.pointer e)) (hx:Lk.ev V x=some (.pointer (some p))) (hy:Lk.ev V y=some (.pointer none)) :
  (op = .eql→EX C n V w o (.bool false))∧(op = .neq→EX C n V w o (.bool true)):=by
 have h:∀ d:Nat,(Op.equalIn (d+1) t (.pointer (some p)) (.pointer none)).run C.P w = .ok false w:=fun d=>by simp [Op.equalIn,run_underlying ht]
 constructor
 ·rintro rfl a ha
  simp [execOp,ho,ha.ev hx,ha.ev hy,binOp,eqGuard,Op.equal,Op.maxDepth,h 9999]
 ·rintro rfl a ha
  simp [execOp,ho,ha.ev hx,ha.ev hy,binOp,eqGuard,Op.equal,Op.maxDepth,h 9999]
theorem EX.binNN {op:BinOp} {t r e:TypeId} {x y:Operand} (ho:o.op = .binOp op t x y r) (ht:C.P.underlying t=some (.pointer e)) (hx:Lk.ev V x=some (.pointer none)) (hy:Lk.ev V y=some (.pointer none)) :
  (op = .eql→EX C n V w o (.bool true))∧(op = .neq→EX C n V w o (.bool false)):=by
 have h:∀ d:Nat,(Op.equalIn (d+1) t (.pointer none) (.pointer none)).run C.P w = .ok true w:=fun d=>by simp [Op.equalIn,run_underlying ht]
 constructor
 ·rintro rfl a ha
  simp [execOp,ho,ha.ev hx,ha.ev hy,binOp,eqGuard,Op.equal,Op.maxDepth,h 9999]
 ·rintro rfl a ha
  simp [execOp,ho,ha.ev hx,ha.ev hy,binOp,eqGuard,Op.equal,Op.maxDepth,h 9999]
theorem zu7 {op:BinOp} {t r:TypeId} {td:TypeDesc} {x y:Operand} {u v:PV} {a b:Value} {st:Bool} {k:PV→Prop} (ho:o.op = .binOp op t x y r) (ht:C.P.underlying t=some td) (hx:Lk.ev V x=some a) (hy:Lk.ev V y=some b)
  (ha:VR w O φ α u a) (hb:VR w O φ α v b) (hk:bop td op u v k):znh C n V w O φ α o st k:=by
 unfold bop at hk
 split at hk
 ·rename_i ka p kb q
  subst ha hb
  split at hk
  ·obtain ⟨h1,h2⟩:=zf4 hk
   exact .val (x:=.int ka (z6p ka p q)) h2 fun _=>EX.zz02j ho hx hy h1 rfl
  ·obtain ⟨h1,h2⟩:=zf4 hk
   exact .val (x:=.int ka (zdm ka p q)) h2 fun _=>EX.zz02j ho hx hy h1 rfl
  ·split at hk
   ·rename_i he
    obtain rfl:=z8t he
    obtain ⟨h1,h2⟩:=zf4 hk
    exact .al (v:=.int ka _) (u:=_) h2 rfl fun _=>EX.quoI ho hx hy h1 rfl
   grind
  ·split at hk
   ·rename_i he
    obtain rfl:=z8t he
    obtain ⟨h1,h2⟩:=zf4 hk
    exact .al (v:=.int ka _) (u:=_) h2 rfl fun _=>EX.quoI ho hx hy h1 rfl
   grind
  ·split at hk
   ·rename_i he
    obtain rfl:=z8t he
    obtain ⟨c,h1,h2⟩:=zc hk
    exact .val h2 fun _=>EX.binI ho hx hy h1
   grind
 ·subst ha hb
  split at hk
  ·obtain ⟨s,h1,h2⟩:=hk
   obtain ⟨h3,h4⟩:=zyq h1
   subst h3
   exact .al (v:=.str _) (u:=_) h2 rfl fun _=>EX.catS ho hx hy h4
  ·obtain ⟨c,h1,h2⟩:=zc hk
   exact .val h2 fun _=>EX.binS ho hx hy h1
 ·subst ha hb
  split at hk
  ·exact .al (v:=.bool _) (u:=_) hk rfl fun _=>EX.binB ho ht hx hy rfl
  ·exact .al (v:=.bool _) (u:=_) hk rfl fun _=>EX.binB ho ht hx hy rfl
  grind
 ·subst ha hb
  split at hk
  ·exact .al (v:=.bool _) (u:=_) hk rfl fun w'=>(EX.binPN (n:=n) (w:=w') ho ht hx hy).1 rfl
  ·exact .al (v:=.bool _) (u:=_) hk rfl fun w'=>(EX.binPN (n:=n) (w:=w') ho ht hx hy).2 rfl
  grind
 ·subst ha hb
  split at hk
  ·exact .al (v:=.bool _) (u:=_) hk rfl fun w'=>(EX.binNN (n:=n) (w:=w') ho ht hx hy).1 rfl
  ·exact .al (v:=.bool _) (u:=_) hk rfl fun w'=>(EX.binNN (n:=n) (w:=w') ho ht hx hy).2 rfl
  grind
 grind
theorem zy0 {op:UnOp} {t:TypeId} {x:Operand} {u:PV} {a:Value} {st:Bool} {k:PV→Prop} (ho:o.op = .unOp op t x) (hx:Lk.ev V x=some a) (ha:VR w O φ α u a) (hk:uop op u k):znh C n V w O φ α o st k:=by
 unfold uop at hk
 split at hk
 ·subst ha
  exact .al (v:=.bool _) (u:=_) hk rfl fun _=>EX.notB ho hx
 ·subst ha
  obtain ⟨c,h1,h2⟩:=zc hk
  exact .val h2 fun _=>EX.unI ho hx h1
 grind
theorem zdf {T:TypeId} {x:Operand} {g:Bool} {m b q off:Nat} {cs:List PV} {us:List Value} {v:PV} (ho:o.op = .load T x) (hT:Lk.shp C.P T=some (g,m)) (hx:Lk.ev V x=some (.pointer (some ⟨b,q+off,none⟩)))
  (hv:VRs w O φ α cs us) (ha:z73 g m ((cs.drop off).take m)=some v):∃ u,VR w O φ α v u∧∀ w',(∀ j u,us[j]? = some u→w'.cell? ⟨b,q+j,none⟩=some u)→EX C n V w' o u:=by
 have hv2:VRs w O φ α ((cs.drop off).take m) ((us.drop off).take m):=(hv.drop off).take m
 have hc2:∀ w':World,(∀ j u,us[j]? = some u→w'.cell? ⟨b,q+j,none⟩=some u)→∀ j u,((us.drop off).take m)[j]? = some u→w'.cell? ⟨b,q+off+j,none⟩=some u:=fun w' hc j u e=>by
  grind
 have hl:=hv2.len
 revert ha hv2 hl hc2
 generalize (cs.drop off).take m=c2
 generalize (us.drop off).take m=u2
 intro ha hv2 hc2 hl
 unfold z73 at ha
 split at ha
 ·split at ha
  ·rename_i he
   cases ha
   have he:=yad he
   exact ⟨_,⟨u2,rfl,hv2⟩,fun w' hc=>EX.zz07s ho hT hx (by rw [hl,he]) (hc2 w' hc)⟩
  ·cases ha
 ·cases ha
  obtain ⟨u,us',rfl,h1,h2⟩:=hv2
  exact ⟨u,h1,fun w' hc=>EX.loadC ho hT hx (by simpa using hc2 w' hc 0 u (by simp))⟩
 ·cases ha
theorem zd5.elem {w:World} {O:Nat→Prop} {T m:Nat} {v:Value} {l:List (List D)} {b len cap:Nat} (h:zd5 w O T m v l) (hv:v = .slice (some ⟨b,0,none⟩) len cap) {j:Nat} {x:List D} (hj:l[j]? = some x) :
  ∃ us,RDs w O x us∧(∀ i u,us[i]? = some u→w.cell? ⟨b,j*m+i,none⟩=some u):=by
 obtain ⟨xs,h1,h2,_,_⟩:=h
 refine ⟨(xs.drop (j*m)).take m,RDl.at h2 hj,fun i u e => ?_⟩
 rw [ym] at e
 split at e
 ·rw [yl] at e
  have:=h1.cells (g:=b) (by rw [hv];rfl) _ _ e
  grind [Addr.add_lit]
 ·cases e
theorem Own.elem {w:World} {O:Nat→Prop} {T m:Nat} {v:Value} {l:List (List D)} {b len cap:Nat} (h:Own w O T m v l) (hv:v = .slice (some ⟨b,0,none⟩) len cap) {j:Nat} {x:List D} (hj:l[j]? = some x) :
  ∃ us,RDs w O x us∧(∀ i u,us[i]? = some u→w.cell? ⟨b,j*m+i,none⟩=some u):=by
 obtain ⟨xs,h1,h2,_,_⟩:=h
 refine ⟨(xs.drop (j*m)).take m,RDl.at h2 hj,fun i u e => ?_⟩
 rw [ym] at e
 split at e
 ·rw [yl] at e
  have:=h1.cells (g:=b) (by rw [hv];rfl) _ _ e
  grind [Addr.add_lit]
 ·cases e
theorem z95.elem {w:World} {O:Nat→Prop} {T m:Nat} {v:Value} {l:List (List D)} {b len cap:Nat} (h:z95 w O T m v l) (hT:T<1000000∨2000000≤T) (hv:v = .slice (some ⟨b,0,none⟩) len cap) {j:Nat} {x:List D} (hj:l[j]? = some x) :
  ∃ us,RDs w O x us∧(∀ i u,us[i]? = some u→w.cell? ⟨b,j*m+i,none⟩=some u):=by
 rcases h with ⟨_,h⟩|⟨_,_,_⟩|⟨_,h⟩
 ·grind [Own.elem]
 ·omega
 grind [zd5.elem]
theorem EX.convR {C:Cx} {n:Nat} {L:Env} {w:World} {o:Oper} {s t:TypeId} {sd:TypeDesc} {x:Operand} {kd:IntKind} {p:Int} (ho:o.op = .convert s t x)
  (hs:C.P.underlying s=some sd) (ht:C.P.underlying t=some .string) (hx:Lk.ev L x=some (.int kd p)):EX C n L w o (.string ⟨(encS p).toArray⟩) :=
 fun a ha=>by
  simp only [execOp,ho,ha.ev hx,convert,Sem.run_bind,run_underlying hs,run_underlying ht,Result.andThen_ok,Conv.intToString,encS]
  rfl
theorem EX.lenM {C:Cx} {n:Nat} {L:Env} {w:World} {o:Oper} {t kt et:TypeId} {x:Operand} {m clock:Nat} {es:Array MapEntry} (ho:o.op = .call { callee:=.builtin .len,args := #[x],argTypes := #[t] })
  (ht:C.P.underlying t=some (.map kt et)) (hx:Lk.ev L x=some (.map (some m))) (hb:w.heap[m]? = some (.map es clock)):EX C n L w o (.int .i64 (es.size:Nat)) :=
 fun a ha=>by
  simp [execOp,ho,resolve,invoke,builtin,Builtin.len_,ha.ev hx,run_underlying ht,MapKept.run_getObj_map hb,goInt]
theorem Rel.zcs {fL:FL} {fA:FA} (h:Rel z fL (lk σ.B) fA V w O φ α) {b:Nat} {e:Bx} {ky:Option IntKind} {g:Bool} {l:List (List D)} (he:lk σ.B b=some e) (hc:e.cs=[.md (.cont ky g l)]) (hT:e.T=1000000) :
  ∃ es clock,w.heap[φ b]? = some (.map es clock)∧MapKept.Stamped es clock∧z57 w O ky g es.toList l:=by
 obtain ⟨_,us,h1,h2⟩:=h.box b e he
 obtain ⟨es,clock,h3,h4,rfl⟩:=h1.map (by omega) (by omega)
 rw [hc] at h2
 obtain ⟨u,us',h5,h6,h7⟩:=h2
 cases h5
 obtain ⟨es',h8,h9⟩:=h6
 exact ⟨es,clock,h3,h4,h9.enc h8.symm⟩
theorem zib {td:TypeDesc} {fL:FL} {u:PV} {a:Value} {k:Int→Prop} (h:Rel z fL (lk σ.B) (lk σ.A) V w O φ α) (ha:VR w O φ α u a) (hl:zy7 td σ u k) :
  (∃ s:List UInt8,td = .string∧u = .str s∧a = .string ⟨s.toArray⟩∧k s.length)∨((∃ e,td = .slice e)∧∃ l:Nat,k l∧(∃ p c,a = .slice p l c)∧∀ T n l',u = .sl T n l'→l=l'.length)∨(∃ kt et,td = .map kt et)∧(∃ b,u = .mp b)∧∃ m es clock,a = .map (some m)∧w.heap[m]? = some (.map es clock)∧k es.size:=by
 unfold zy7 at hl
 split at hl
 ·simp only [VR] at ha
  grind
 ·obtain ⟨n,h1,h2⟩:=hl
  cases h1
  exact .inr (.inl ⟨⟨_,rfl⟩,_,h2,RD.len ha,fun T n l' e=>by cases e;rfl⟩)
 ·simp only [VR] at ha
  grind
 ·obtain ⟨e,he,n,h1,h2⟩:=zc hl
  cases h1
  obtain ⟨p,c,h3⟩:=(h.arr _ e (z7g he).1).len
  exact .inr (.inl ⟨⟨_,rfl⟩,_,h2,⟨p,c,ha.1.trans h3⟩,fun T n l' e=>by cases e⟩)
 ·unfold lenM at hl
  simp only at hl
  split at hl
  ·rename_i e he
   split at hl
   ·rename_i hc
    split at hl
    ·rename_i hT
     obtain ⟨n,h1,h2⟩:=hl
     cases h1
     obtain ⟨es,clock,h3,_,h5⟩:=h.zcs he hc (yad hT)
     simp only [VR] at ha
     have h6:=h5.len
     grind
    grind
   grind
  grind
 grind
theorem zw8 {fB:FB} {fA:FA} (h:Rel z (lk σ.L) fB fA V w O φ α) {x:Option Operand} {k:Int→Prop} (hb:loW σ x k):∃ m,k m∧((x=none∧m=((0:Nat):Int))∨∃ y k,x=some y∧Lk.ev V y=some (.int k m)):=by
 unfold loW at hb
 split at hb
 ·grind
 ·split at hb
  ·rename_i kk n' hy
   obtain ⟨u,h1,h2⟩:=h.ev hy
   simp only [VR] at h2
   grind
  grind
theorem Lo.of {lo:Option Operand} {e:Nat} {m:Int} {p:Nat} (h:(lo=none∧m=(e:Nat))∨∃ y k,lo=some y∧Lk.ev V y=some (.int k m)) (hm:m=(p:Nat)):Lo V lo p e:=by
 rcases h with ⟨rfl,h⟩|⟨y,k,rfl,h⟩
 ·show p=e;omega
 ·exact ⟨k,m,h,hm⟩
theorem EX.zz08s {l:List (List D)} {T m:Nat} {t:TypeId} {gg:Bool} {x:Operand} {lo hi:Option Operand} {u:Value} {a b:Nat} (ho:o.op = .slice t x lo hi none)
  (ht:C.P.underlying t=some (.slice T)) (hT:Lk.shp C.P T=some (gg,m)) (hx:Lk.ev V x=some u) (hr:RD w O (.sl T m l) u)
  (hlo:Lo V lo a 0) (hhi:Lo V hi b l.length) (hab:a≤b) (hb:b≤l.length):∃ v',(∀ w',EX C n V w' o v')∧RD w O (.sl T m ((l.take b).drop a)) v':=by
 have key:∀ {q:Option Operand} {c e:Nat},Lo V q c e→LoV (q.bind (Lk.ev V)) c e∧∀ ac:Act,Has n V ac→q.map ac.eval=q.bind (Lk.ev V):=fun {q c e} hq=>by
  cases q with
  | none=>exact ⟨hq,fun _ _=>rfl⟩
  | some y =>
   obtain ⟨kd,i,h1,h2⟩:=hq
   refine ⟨?_,fun ac hac=>by simp [h1,hac.ev h1]⟩
   simp only [Option.bind_some,h1]
   exact ⟨kd,by rw [h2]⟩
 obtain ⟨k1,k2⟩:=key hlo
 obtain ⟨k3,k4⟩:=key hhi
 obtain ⟨v2,h7,h8⟩:=RD.zz05m (P:=C.P) (w:=w) ht hT hr k1 k3 hab hb
 exact ⟨v2,fun w' ac hac=>by
  simp only [execOp,ho,hac.ev hx,k2 ac hac,k4 ac hac,Option.map_none,Sem.run_bind,h7 w',Result.andThen_ok]
  rfl,h8⟩
theorem EX.taNo {x:Operand} {xt T U:TypeId} {td:TypeDesc} {u z:Value} (ho:o.op = .typeAssert x xt T true) (ht:C.P.underlying T=some td) (hi:zct td=true) (hz:Lk.zer C.P T=some z) (hne:U≠T) (hx:Lk.ev V x=some (.iface U u)):EX C n V w o (.tuple #[z,.bool false]):=fun a ha=>by
 obtain ⟨i,h5,h6⟩:=yb.1 hz
 simp only [execOp,ho,ha.ev hx,Instr.typeAssert]
 cases td<;>first|(simp [zct] at hi;done)|simp [run_underlying ht,zeroValue,typeInfo,h5,h6,hne]
theorem zf0 {fds:List (Nat × Nat)}:∀ (is:List Nat) (us:List PV) (xs:List Value) (cs:List PV) (A:Array Value) (fs:List (Nat × Bool × Nat)),(∀ (i:Nat) (f:Nat × Bool × Nat),fs[i]? = some f→fds[i]? = some (f.1,f.2.2))→VRs w O φ α us xs→VRs w O φ α cs A.toList →
  zqj fs is us cs=true→∃ out,Instr.fill (fds.toArray[·]?) A (is.zip xs)=some out∧VRs w O φ α (zld fs cs is us) out.toList
 | [],us,xs,cs,A,fs,_,_,hc,_=>by
  exact ⟨A,rfl,by grind [zld]⟩
 | i::is,[],xs,cs,A,fs,_,hu,hc,_=>by
  cases hu
  exact ⟨A,rfl,by grind [zld]⟩
 | i::is,u::us,xs,cs,A,fs,hf,hu,hc,hok=>by
  obtain ⟨x,xs',rfl,h1,h2⟩:=hu
  unfold zqj at hok
  split at hok
  ·rename_i f hfi
   rw [zv8] at hok
   simp only [yd] at hok
   obtain ⟨⟨⟨k1,k2⟩,k3⟩,k4⟩:=hok
   have k1:=yad k1
   have k2:=yae k2
   have hx:=h1.cells (by grind)
   have hlx:=VRs.len hx
   have hlc:=VRs.len hc
   have e1:fds.toArray[i]? = some (f.1,f.2.2):=by simpa using hf i f hfi
   have e2:(x.cells.zipIdx.foldl (fun cs (c,j)=>cs.setIfInBounds (f.1+j) c) A)=(A.toList.take f.1++x.cells.toList++A.toList.drop (f.1+f.2.2)).toArray:=by
    have:=zja x.cells.toList 0 f.1 A (by grind)
    simp only [Nat.add_zero] at this
    rw [←Array.foldl_toList,Array.toList_zipIdx,this]
    simp [hlx,k1]
   have e3:VRs w O φ α (cs.take f.1++cellsOf u++cs.drop (f.1+f.2.2)) (A.toList.take f.1++x.cells.toList++A.toList.drop (f.1+f.2.2)):=((hc.take f.1).append hx).append (hc.drop _)
   obtain ⟨out,h5,h6⟩:=zf0 is us xs' _ (A.toList.take f.1++x.cells.toList++A.toList.drop (f.1+f.2.2)).toArray fs hf h2 (by omega) k4
   simp_all [Instr.fill,zld]
  ·cases hok
theorem zur {σ:St}:∀ {xs:List Operand} {vs:List PV},σ.evs xs=some vs→xs.length=vs.length
 | [],vs,e=>by grind [St.evs]
 | x::xs,vs,e=>by
  simp only [St.evs] at e
  split at e
  ·rename_i v vs' h1 h2
   cases e
   simp [zur h2]
  ·cases e
theorem zke:∀ {parts:List (Nat × Operand)} {us:List Value},Lk.evs V (parts.map (·.2))=some us→Lk.evp V parts=some ((parts.map (·.1)).zip us)
 | [],us,h=>by rfl
 | (i,x)::parts,us,h=>by
  simp only [yr,Lk.evs] at h
  split at h
  ·rename_i v vs h1 h2
   cases h
   simp only [Lk.evp,h1,zke h2,yr,yy]
  ·cases h
theorem EX.zsj {C:Cx} {n:Nat} {L:Env} {w:World} {o:Oper} {t T m g len:Nat} {gg:Bool} {y:Operand} {kd:IntKind} {i:Int} {j:Nat} (ho:o.op = .indexAddr t (.global g) y) (ht:C.P.underlying t=some (.array len T)) (hT:Lk.shp C.P T=some (gg,m))
  (hy:Lk.ev L y=some (.int kd i)) (hi:i=(j:Nat)) (hj:j<len):EX C n L w o (.pointer (some ⟨g,j*m,none⟩)) :=
 fun a ha=>by
  subst hi
  have hx:Lk.ev L (.global g)=some (.pointer (some ⟨g,0,none⟩)):=rfl
  simp [execOp,ho,ha.ev hx,ha.ev hy,Instr.indexAt,Instr.sureAddr,asIntOf,run_underlying ht,(z2a hT).2,hj,Addr.add_lit]
theorem EX.zz08t {C:Cx} {n:Nat} {V:Env} {w:World} {O:Nat→Prop} {o:Oper} {l:List (List D)} {T m:Nat} {t:TypeId} {gg:Bool} {x hi mx:Operand} {u:Value} {b c:Nat} {kb kc:IntKind} (ho:o.op = .slice t x none (some hi) (some mx))
  (ht:C.P.underlying t=some (.slice T)) (hT:Lk.shp C.P T=some (gg,m)) (hx:Lk.ev V x=some u) (hr:RD w O (.sl T m l) u)
  (hh:Lk.ev V hi=some (.int kb (b:Nat))) (hm:Lk.ev V mx=some (.int kc (c:Nat))) (hbc:b≤c) (hc:c≤l.length):∃ v',(∀ w',EX C n V w' o v')∧RD w O (.sl T m (l.take b)) v':=by
 have key:∀ (p:Option Addr) (cap:Nat),u = .slice p l.length cap→c≤cap→∀ w',EX C n V w' o (.slice (if c=0 then p else p.map (·.add 0)) b c):=fun p cap hu hcap w' a ha=>by
  subst hu
  simp [execOp,ho,ha.ev hx,ha.ev hh,ha.ev hm,Instr.sliceAt,Instr.slice,run_underlying ht,Instr.sliceBounds,Instr.sliceBound,asIntOf,(z2a hT).2,hbc,hcap]
 rcases hr with ⟨⟨p,rfl⟩,rfl⟩|⟨bb,q,cap,cs,fr,rfl,h2,h3,h4,h5,h6,h7⟩
 ·have hc0:c=0:=by simpa using hc
  have hb0:b=0:=by omega
  subst hc0 hb0
  exact ⟨_,key p 0 rfl (yaf _),.inl ⟨⟨p,by simp⟩,by simp⟩⟩
 ·refine ⟨_,key _ cap rfl (by omega),?_⟩
  have hlen:(l.take b).length=b:=by simp;omega
  by_cases hc0:c=0
  ·have hb0:b=0:=by omega
   subst hc0 hb0
   exact .inl ⟨⟨_,rfl⟩,by simp⟩
  ·refine .inr ⟨bb,q,c,cs,fr,by grind [Addr.add_lit],by omega,by omega,h4,h5,?_,RDl.take b h7⟩
   have:c*m≤cap*m:=yag m (by omega)
   omega
theorem zr5 {b:Bool} {u v:PV} {k:PV→Prop} (h:mmW b u v k):∃ a p q,u = .int a p∧v = .int a q∧k (.int a (if b=true then maxI p q else minI p q)):=by
 unfold mmW at h
 split at h
 ·split at h
  ·rename_i he
   have he:=z8t he
   grind
  ·rename_i he
   have he:=z8t he
   grind
  grind
 grind
theorem EX.maxII {C:Cx} {n:Nat} {L:Env} {w:World} {o:Oper} {x y:Operand} {ts:Array TypeId} {a:IntKind} {p q:Int} (ho:o.op = .call { callee:=.builtin .max,args := #[x,y],argTypes:=ts }) (hx:Lk.ev L x=some (.int a p)) (hy:Lk.ev L y=some (.int a q)):EX C n L w o (.int a (maxI p q)):=fun _ ha=>by
 simp [execOp,ho,resolve,invoke,builtin,Builtin.max_,Builtin.max2,ha.ev hx,ha.ev hy,maxI]
theorem EX.minII {C:Cx} {n:Nat} {L:Env} {w:World} {o:Oper} {x y:Operand} {ts:Array TypeId} {a:IntKind} {p q:Int} (ho:o.op = .call { callee:=.builtin .min,args := #[x,y],argTypes:=ts }) (hx:Lk.ev L x=some (.int a p)) (hy:Lk.ev L y=some (.int a q)):EX C n L w o (.int a (minI p q)):=fun _ ha=>by
 simp [execOp,ho,resolve,invoke,builtin,Builtin.min_,Builtin.min2,ha.ev hx,ha.ev hy,minI]
theorem z9z {tb:Tb} (ht:TbOk C.P tb) (hgt:∀ w O,z.G w O→GtOk tb w O) (h:Rel z (lk σ.L) (lk σ.B) (lk σ.A) V w O φ α) {k:PV→Prop} (hq:qop tb σ o.op k):znh C n V w O φ α o (stb σ o.op) k:=by
 unfold qop at hq
 split at hq
 case h_1 =>
  rename_i x ho
  obtain ⟨v,h1,h2⟩:=zc hq
  obtain ⟨u,h3,h4⟩:=h.ev h1
  exact .al (v:=v) (u:=u) h2 h4 fun _=>EX.move ho h3
 case h_2 =>
  rename_i x ho
  obtain ⟨v,h1,h2⟩:=zc hq
  obtain ⟨u,h3,h4⟩:=h.ev h1
  exact .al (v:=v) (u:=u) h2 h4 fun _=>EX.assign ho h3
 case h_3 =>
  rename_i c x y ho
  split at hq
  ·rename_i b hc
   replace hq:=zc hq
   obtain ⟨v,h1,hq⟩:=hq
   replace hq:=zc hq
   obtain ⟨v',h2,hq⟩:=hq
   obtain ⟨u,h3,h4⟩:=h.ev h1
   obtain ⟨u',h5,h6⟩:=h.ev h2
   obtain ⟨uc,h7,h8⟩:=h.ev hc
   subst h8
   rcases zno hq with ⟨rfl,hq⟩|⟨rfl,hq⟩
   ·exact .al (v:=v) (u:=u) hq h4 fun _=>EX.zz088 ho h7 h3
   ·exact .al (v:=v') (u:=u') hq h6 fun _=>EX.zz087 ho h7 h5
  grind
 case h_4 =>
  rename_i op t x y r ho
  split at hq
  ·rename_i hif
   obtain ⟨ms,hms⟩:=zz03w (ht.ifc _ hif)
   split at hq
   ·replace hq:=zc hq
    obtain ⟨b,h1,hq⟩:=hq
    obtain ⟨v,h2,h3⟩:=yb.1 h1
    obtain ⟨u,h4,h5⟩:=h.ev h2
    have key:=fun w'=>EX.ifNil (n:=n) (w:=w') ho hms h4 (zz04r h3 h5)
    split at hq
    ·exact .al (v:=.bool b) (u:=.bool b) hq rfl fun w'=>(key w').1 rfl
    ·exact .al (v:=.bool (!b)) (u:=.bool (!b)) hq rfl fun w'=>(key w').2 rfl
    grind
   grind
  split at hq
  ·rename_i m hm
   replace hq:=zc hq
   obtain ⟨v,h2,hq⟩:=hq
   obtain ⟨u,h4,h5⟩:=h.ev h2
   replace hq:=zc hq
   obtain ⟨v',h3,hq⟩:=hq
   obtain ⟨u',h6,h7⟩:=h.ev h3
   unfold arrW at hq
   split at hq
   ·replace hq:=zc hq
    obtain ⟨b,h8,hq⟩:=hq
    obtain ⟨us,rfl,h9⟩:=h5
    obtain ⟨vs,rfl,h10⟩:=h7
    obtain ⟨k1,k2⟩:=zup h8 h9 h10
    split at hq
    ·rename_i hb
     have hb:=yad hb
     exact .al (v:=.bool b) (u:=.bool b) hq rfl fun w'=>(zz01n (n:=n) (w:=w') ht hm ho h4 h6 (by grind [VRs.len]) k1 k2).1 rfl
    ·rename_i hb
     have hb:=yad hb
     exact .al (v:=.bool (!b)) (u:=.bool (!b)) hq rfl fun w'=>(zz01n (n:=n) (w:=w') ht hm ho h4 h6 (by grind [VRs.len]) k1 k2).2 rfl
    grind
   grind
  replace hq:=zc hq
  obtain ⟨td,h1,hq⟩:=hq
  replace hq:=zc hq
  obtain ⟨v,h2,hq⟩:=hq
  obtain ⟨u,h4,h5⟩:=h.ev h2
  split at hq
  ·obtain rfl:y = .const .nilFunc:=by
    grind [zz01v]
   unfold nilF at hq
   split at hq
   ·obtain ⟨us,vs,rfl,_,_⟩:=h5
    have key:=fun w'=>EX.zz07l (n:=n) (w:=w') ho (ht.und _ _ h1) h4
    split at hq
    ·exact .al (v:=.bool _) (u:=.bool _) hq rfl fun w'=>(key w').1 rfl
    ·exact .al (v:=.bool _) (u:=.bool _) hq rfl fun w'=>(key w').2 rfl
    grind
   grind
  replace hq:=zc hq
  obtain ⟨v',h3,hq⟩:=hq
  obtain ⟨u',h6,h7⟩:=h.ev h3
  exact zu7 ho (ht.und _ _ h1) h4 h6 h5 h7 hq
 case h_5 =>
  replace hq:=zc hq
  obtain ⟨v,h2,hq⟩:=hq
  obtain ⟨u,h4,h5⟩:=h.ev h2
  grind [zy0]
 case h_6 =>
  rename_i s t x ho
  replace hq:=zc hq
  obtain ⟨v,h2,hq⟩:=hq
  obtain ⟨u,h4,h5⟩:=h.ev h2
  split at hq
  ·rename_i k1 n1 k2 k3 e1 e2
   subst h5
   exact .al (v:=_) (u:=_) hq rfl fun _=>EX.convI ho (ht.und _ _ e1) (ht.und _ _ e2) h4
  ·rename_i s1 e1 e2
   subst h5
   exact .al (v:=_) (u:=_) hq rfl fun _=>EX.convS ho (ht.und _ _ e1) (ht.und _ _ e2) h4
  ·rename_i k1 n1 k2 e1 e2
   subst h5
   exact .al (v:=_) (u:=_) hq rfl fun _=>EX.convR ho (ht.und _ _ e1) (ht.und _ _ e2) h4
  grind
 case h_7 =>
  rename_i t x ho
  replace hq:=zc hq
  obtain ⟨v,h2,hq⟩:=hq
  obtain ⟨u,h4,h5⟩:=h.ev h2
  split at hq
  ·rename_i hn
   obtain ⟨td,h6,h7⟩:=zol (ht.nif _ hn)
   refine .al (v:=_) (u:=_) hq ⟨u,rfl,h5⟩ fun _=>EX.zz04n ho h6 ?_ h4
   revert h7
   cases td<;>simp [zct]
  grind
 case h_8 =>
  rename_i f as_ cs ho
  split at hq
  ·exact hq.elim
  rename_i hf
  replace hq:=zc hq
  obtain ⟨vs,h1,hq⟩:=hq
  replace hq:=zc hq
  obtain ⟨ws,h2,hq⟩:=hq
  obtain ⟨us,h3,h4⟩:=h.evs h1
  obtain ⟨xs,h5,h6⟩:=h.evs h2
  exact .al (v:=_) (u:=_) hq ⟨us,xs,(znw hf us xs).symm,h4,h6⟩ fun _=>EX.zz07w ho h3 h5
 case h_9 =>
  rename_i x i ho
  split at hq
  ·rename_i vs hx
   replace hq:=zc hq
   obtain ⟨v,h1,hq⟩:=hq
   obtain ⟨u,h2,us,rfl,h3⟩:=h.ev hx
   obtain ⟨u,h4,h5⟩:=VRs.get h3 h1
   exact .al (v:=v) (u:=u) hq h5 fun _=>EX.extract ho h2 (by grind)
  grind
 case h_10 =>
  rename_i x ho
  replace hq:=zc hq
  obtain ⟨v,h2,hq⟩:=hq
  obtain ⟨u,h4,h5⟩:=h.ev h2
  split at hq
  ·have h6:=h5
   subst h6
   exact .al (v:=_) (u:=_) hq h5 fun _=>EX.nilCheck ho h4
  ·have h6:=h5
   obtain ⟨b,q,rfl,_⟩:=h6
   exact .al (v:=_) (u:=_) hq h5 fun _=>EX.nilCheck ho h4
  ·have h6:=h5
   obtain ⟨b,l,c,j,_,_,rfl⟩:=h6
   exact .al (v:=_) (u:=_) hq h5 fun _=>EX.nilCheck ho h4
  grind
 case h_11 =>
  rename_i t x i ho
  replace hq:=zc hq
  obtain ⟨f,h1,hq⟩:=hq
  obtain ⟨fs,h2,h3⟩:=yb.1 h1
  replace hq:=zc hq
  obtain ⟨v,h4,hq⟩:=hq
  obtain ⟨u,h5,h6⟩:=h.ev h4
  have hf:=zqn (ht.fld _ _ h2) h3
  split at hq
  ·subst h6
   exact .al (v:=_) (u:=_) hq rfl fun _=>EX.fieldAddr ho hf h5
  ·obtain ⟨b,q,rfl,h7⟩:=h6
   refine .al (v:=_) (u:=_) hq ⟨b,q,rfl,h7⟩ fun _ => ?_
   rw [←Nat.add_assoc]
   exact EX.fieldAddr ho hf h5
  ·obtain ⟨b,l,c,j,h7,h8,rfl⟩:=h6
   refine .al (v:=_) (u:=_) hq ⟨b,l,c,j,h7,h8,rfl⟩ fun _ => ?_
   rw [←Nat.add_assoc]
   exact EX.fieldAddr ho hf h5
  grind
 case h_12 =>
  rename_i t x i ho
  replace hq:=zc hq
  obtain ⟨f,h1,hq⟩:=hq
  obtain ⟨fs,h2,h3⟩:=yb.1 h1
  split at hq
  ·rename_i cs hx
   replace hq:=zc hq
   obtain ⟨v,h4,hq⟩:=hq
   obtain ⟨u,h5,us,rfl,h6⟩:=h.ev hx
   obtain ⟨fp,fg,fn⟩:=f
   have hf:=zqn (ht.fld _ _ h2) h3
   have h7:VRs w O φ α ((cs.drop fp).take fn) ((us.drop fp).take fn):=(VRs.drop fp h6).take fn
   have e8:(us.drop fp)[0]? = us[fp]?:=by simp
   revert h4 h7
   simp only
   generalize hc2:(cs.drop fp).take fn=c2
   intro h4 h7
   unfold z73 at h4
   split at h4
   ·split at h4
    ·cases h4
     exact .al (v:=_) (u:=_) hq ⟨_,rfl,h7⟩ fun _=>EX.zz07d ho hf h5
    ·cases h4
   ·cases h4
    obtain ⟨u,us',h9,h10,h11⟩:=h7
    refine .al (v:=_) (u:=u) hq h10 fun _=>EX.field ho hf h5 ?_
    have e9:((us.drop fp).take fn)[0]? = some u:=by rw [h9];rfl
    grind
   ·cases h4
  grind
 case h_13 =>
  rename_i t x ho
  replace hq:=zc hq
  obtain ⟨⟨g,m⟩,h1,hq⟩:=hq
  replace hq:=zc hq
  obtain ⟨v,h2,hq⟩:=hq
  obtain ⟨u,h3,h4⟩:=h.ev h2
  have hT:=ht.shp _ _ h1
  unfold zm1 at hq
  split at hq
  ·replace hq:=zc hq
   obtain ⟨e,h5,hq⟩:=hq
   split at hq
   ·rename_i hn
    have hn:=yad hn
    obtain ⟨cs,h6,hq⟩:=hq
    replace hq:=zc hq
    obtain ⟨v',h7,hq⟩:=hq
    obtain ⟨b,len,cap,j,h8,h9,rfl⟩:=h4
    obtain ⟨j',h10,h11,_⟩:=zcl h6
    have:j'=j:=by omega
    subst this
    obtain ⟨us,h12,h13⟩:=(h.arr _ _ (z7g h5).1).elem (z7g h5).2 h8 h11
    subst hn
    obtain ⟨u',k1,k2⟩:=zdf (n:=n) ho hT h3 (zbp h12) h7
    exact ⟨v',u',hq,k1,k2 w h13,fun hh=>by grind [stb]⟩
   grind
  ·replace hq:=zc hq
   obtain ⟨v',h7,hq⟩:=hq
   unfold loadP at h7
   split at h7
   ·split at h7
    ·rename_i e he
     obtain ⟨_,us,h8,h9⟩:=h.box _ _ (z8w he).1
     have h8:=h8.un (z8w he).2
     subst h4
     obtain ⟨u',k1,k2⟩:=zdf (n:=n) (q:=0) ho hT (by simpa using h3) h9 h7
     exact ⟨v',u',hq,k1,k2 w (fun j u e=>by rw [Nat.zero_add,h8.cell];exact e),fun hh=>by grind [stb]⟩
    ·cases h7
   ·obtain ⟨b,q,rfl,us,_,h10,h11⟩:=h4
    obtain ⟨u',k1,k2⟩:=zdf (n:=n) ho hT h3 (zbp h11) h7
    exact ⟨v',u',hq,k1,k2 w h10.at_,fun _ w' O' t=>k2 w' (h10.tr t).at_⟩
   ·cases h7
 case h_14 =>
  rename_i t x y ho
  split at hq
  ·rename_i s ki i e1 e2 e3
   obtain ⟨c,h1,hq⟩:=hq
   obtain ⟨j,h2,h3,_⟩:=zcl h1
   obtain ⟨u,h4,h5⟩:=h.ev e2
   obtain ⟨u',h6,h7⟩:=h.ev e3
   subst h5 h7
   exact .al (v:=_) (u:=_) hq rfl fun _=>EX.zz07m ho (ht.und _ _ e1) h4 h6 h2 h3
  grind
 case h_15 =>
  rename_i t x y ho
  split at hq
  ·rename_i g
   obtain ⟨e,h1,hq⟩:=zc hq
   split at hq
   ·rename_i len T ki i e1 e2
    obtain ⟨⟨gg,m⟩,h4,hq⟩:=zc hq
    split at hq
    ·rename_i hm
     simp only [yd] at hm
     have hm1:=yad hm.1
     have hm2:=yad hm.2
     subst hm1
     obtain ⟨cs,h5,hq⟩:=hq
     obtain ⟨j,h6,h7,h8⟩:=zcl h5
     obtain ⟨u',h9,h10⟩:=h.ev e2
     subst h10
     obtain ⟨hl,hel⟩:=hgt w O h.gl g e h1
     have hel:=hel j cs h7
     refine .al (v:=_) (u:=_) hq ⟨g,j*e.1,rfl,?_⟩ fun _=>EX.zsj ho (ht.und _ _ e1) (ht.shp _ _ h4) h9 h6 (by omega)
     obtain ⟨us,k1,k2,k3⟩:=hel
     exact ⟨us,VRs.len (φ:=φ) (α:=α) (zbp k3) |>.trans (by simp [ofDs]),k2,k3⟩
    grind
   grind
  replace hq:=zc hq
  obtain ⟨v,h1,hq⟩:=hq
  obtain ⟨u,h2,h3⟩:=h.ev h1
  split at hq
  ·rename_i T e1
   replace hq:=zc hq
   obtain ⟨⟨g,m⟩,h4,hq⟩:=hq
   split at hq
   ·rename_i U m' l ki i e2
    split at hq
    ·rename_i hm
     have hm:=yad hm
     subst hm
     obtain ⟨cs,h5,hq⟩:=hq
     obtain ⟨j,h6,h7,h8⟩:=zcl h5
     obtain ⟨u',h9,h10⟩:=h.ev e2
     subst h10
     obtain ⟨b,q,cap,h11,h12,h13⟩:=RD.elem h3 h7
     refine .al (v:=_) (u:=_) hq ⟨b,q+j*m,rfl,?_⟩ fun _=>EX.zi7 ho (ht.und _ _ e1) (ht.shp _ _ h4) h2 h11 h9 h6 h8
     obtain ⟨us,k1,k2,k3⟩:=h13
     exact ⟨us,VRs.len (φ:=φ) (α:=α) (zbp k3) |>.trans (by simp [ofDs]),k2,k3⟩
    grind
   ·rename_i a ki i e2
    replace hq:=zc hq
    obtain ⟨e,h4',hq⟩:=hq
    split at hq
    ·rename_i hm
     have hm:=yad hm
     obtain ⟨cs,h5,hq⟩:=hq
     obtain ⟨j,h6,h7,h8⟩:=zcl h5
     obtain ⟨u',h9,h10⟩:=h.ev e2
     subst h10
     rcases (h.arr _ _ (z7g h4').1).at_ (z7g h4').2 with ⟨_,k2⟩|⟨b,cap,k2⟩
     ·omega
     ·exact .al hq ⟨b,_,cap,j,k2,h6,rfl⟩ fun w'=>by
       have:=EX.zi7 (n:=n) (w:=w') ho (ht.und _ _ e1) (ht.shp _ _ h4) h2 (h3.1.trans k2) h9 h6 h8
       grind
    grind
   grind
  grind
 case h_16 =>
  rename_i t x lo hi ho
  replace hq:=zc hq
  obtain ⟨v,h1,hq⟩:=hq
  replace hq:=zc hq
  obtain ⟨td,h2,hq⟩:=hq
  obtain ⟨u,h6,h7⟩:=h.ev h1
  replace hq:=zw8 h hq
  obtain ⟨p,hq,hp⟩:=hq
  have hhi:∃ q,(match td,v with
    | .string,.str s=>Ex (Go.Lk.sub s p q) fun r=>k (.str r)
    | .slice e,.sl T m l=>wt (lk tb.shp e) fun s=>match yz e T&&yz s.2 m with
     | true=>Ex (Go.Lk.sub l p q) fun r=>k (.sl T m r)
     | false=>False
    | _,_=>False)∧∀ N:Nat,((∃ s:List UInt8,v = .str s∧N=s.length)∨∃ T m l,v = .sl T m l∧N=l.length)→(hi=none∧q=(N:Int))∨∃ y k,hi=some y∧Lk.ev V y=some (.int k q):=by
   unfold hiW at hq
   split at hq
   ·rcases zib h h7 hq with ⟨s,_,e2,_,hk⟩|⟨⟨e0,e1⟩,l,hk,_,e3⟩|e1
    ·simp_all
    ·refine ⟨_,hk,fun N hN => .inl ⟨rfl,?_⟩⟩
     grind
    grind
   ·rename_i y
    split at hq
    ·rename_i kk n' hy
     obtain ⟨u',h8,h9⟩:=h.ev hy
     subst h9
     exact ⟨n',hq,fun N _ => .inr ⟨y,kk,rfl,h8⟩⟩
    grind
  clear hq
  obtain ⟨q,hq,hq'⟩:=hhi
  split at hq
  ·rename_i s
   obtain ⟨r,h8,hq⟩:=hq
   obtain ⟨a,b,h9,h10,h11,h12,h13⟩:=zk7 h8
   subst h7
   subst h13
   exact .al (v:=.str _) (u:=_) hq rfl fun _=>EX.zz08u ho (ht.und _ _ h2) h6 (Lo.of hp h9) (Lo.of (hq' _ (.inl ⟨s,rfl,rfl⟩)) h10) h11 h12
  ·replace hq:=zc hq
   obtain ⟨⟨g,mm⟩,h8,hq⟩:=hq
   split at hq
   ·rename_i hb
    simp only [yd] at hb
    have hb1:=yad hb.1
    have hb2:=yad hb.2
    subst hb1 hb2
    obtain ⟨r,h8',hq⟩:=hq
    obtain ⟨a,b,h9,h10,h11,h12,h13⟩:=zk7 h8'
    subst h13
    obtain ⟨v',k1,k2⟩:=EX.zz08s (n:=n) ho (ht.und _ _ h2) (ht.shp _ _ h8) h6 h7 (Lo.of hp h9) (Lo.of (hq' _ (.inr ⟨_,_,_,rfl,rfl⟩)) h10) h11 h12
    exact .al (v:=.sl _ _ _) (u:=v') hq k2 k1
   grind
  grind
 case h_17 =>
  rename_i c ho
  split at hq
  ·rename_i x t e1 e2 e3
   replace hq:=zc hq
   obtain ⟨td,h1,hq⟩:=hq
   replace hq:=zc hq
   obtain ⟨v,h2,hq⟩:=hq
   obtain ⟨u,h4,h5⟩:=h.ev h2
   obtain ⟨cal,cargs,cty⟩:=c
   simp only at e1 e2 e3
   have e2:cargs = #[x]:=by apply yao.1;simpa using e2
   have e3:cty = #[t]:=by apply yao.1;simpa using e3
   subst e1 e2 e3
   have hu:=ht.und _ _ h1
   rcases zib h h5 hq with ⟨s,rfl,rfl,rfl,hk⟩|⟨⟨e,rfl⟩,l,hk,h6,_⟩|⟨⟨kt,et,rfl⟩,⟨b,rfl⟩,m,es,clock,rfl,h6,hk⟩
   ·exact .al (v:=_) (u:=_) hk rfl fun _=>EX.lenS ho hu h4
   ·exact .al (v:=_) (u:=_) hk rfl fun _=>EX.lenV ho hu h4 h6
   ·refine ⟨.int .i64 _,_,hk,rfl,EX.lenM ho hu h4 h6,fun hst => ?_⟩
    grind [stb]
  ·rename_i x y e1 e2
   obtain ⟨v1,h2,hq⟩:=zc hq
   obtain ⟨v2,h3,hq⟩:=zc hq
   obtain ⟨a,p,q,rfl,rfl,hk⟩:=zr5 hq
   obtain ⟨u,h4,h5⟩:=h.ev h2
   obtain ⟨u',h6,h7⟩:=h.ev h3
   subst h5 h7
   obtain ⟨cal,cargs,cty⟩:=c
   simp only at e1 e2
   have e2:cargs = #[x,y]:=by apply yao.1;simpa using e2
   subst e1 e2
   exact .al (v:=_) (u:=_) hk rfl fun _=>EX.maxII ho h4 h6
  ·rename_i x y e1 e2
   obtain ⟨v1,h2,hq⟩:=zc hq
   obtain ⟨v2,h3,hq⟩:=zc hq
   obtain ⟨a,p,q,rfl,rfl,hk⟩:=zr5 hq
   obtain ⟨u,h4,h5⟩:=h.ev h2
   obtain ⟨u',h6,h7⟩:=h.ev h3
   subst h5 h7
   obtain ⟨cal,cargs,cty⟩:=c
   simp only at e1 e2
   have e2:cargs = #[x,y]:=by apply yao.1;simpa using e2
   subst e1 e2
   exact .al (v:=_) (u:=_) hk rfl fun _=>EX.minII ho h4 h6
  grind
 case h_18 =>
  rename_i x xt t ho
  replace hq:=zc hq
  obtain ⟨zz,h2,hq⟩:=hq
  split at hq
  ·rename_i T u e1 e0
   obtain ⟨td,hu,e2⟩:=zol (ht.nif _ e0)
   obtain ⟨u',h3,y,rfl,h5⟩:=h.ev e1
   split at hq
   ·rename_i hT
    have hT:=yad hT
    subst hT
    exact .al (v:=_) (u:=_) hq ⟨_,rfl,y,_,rfl,h5,_,_,rfl,rfl,rfl⟩ fun _=>EX.taYes ho hu e2 h3
   ·rename_i hT
    have hT:=yai hT
    exact .al (v:=_) (u:=_) hq ⟨_,rfl,zz,_,rfl,zii zz,_,_,rfl,rfl,rfl⟩ fun _=>EX.taNo ho hu e2 (ht.zer _ _ h2) hT h3
  ·rename_i e1 e0
   obtain ⟨td,hu,e2⟩:=zol (ht.nif _ e0)
   obtain ⟨u',h3,h4⟩:=h.ev e1
   subst h4
   exact .al (v:=_) (u:=_) hq ⟨_,rfl,zz,_,rfl,zii zz,_,_,rfl,rfl,rfl⟩ fun _=>EX.taNil ho hu e2 (ht.zer _ _ h2) h3
  grind
 case h_19 =>
  rename_i t parts ho
  replace hq:=zc hq
  obtain ⟨us,h1,hq⟩:=hq
  obtain ⟨xs,h4,h5⟩:=h.evs h1
  split at hq
  ·rename_i m hm
   split at hq
   ·rename_i hb
    simp only [yd] at hb
    have hl:=yad hb.1.1
    have hpl:(parts.toList.map (·.1)).length=us.length:=by
     have:=zur h1
     simpa using this
    have hxl:xs.length=us.length:=VRs.len h5
    exact .al (v:=.agg us) (u:=.agg (yx xs)) hq ⟨xs,rfl,h5⟩ fun _=>EX.zz075 ho (ht.ars _ _ hm) (zke h4) (zz01p _ us xs 0 hb.1.2 hb.2 h5 hpl) (by grind)
   grind
  replace hq:=zc hq
  obtain ⟨zz,h2,hq⟩:=hq
  replace hq:=zc hq
  obtain ⟨fs,h3,hq⟩:=hq
  rw [zjc] at hq
  split at hq
  ·rename_i hok
   rw [zj8] at hq
   obtain ⟨fds,h6,h7⟩:=zi5 (ht.fld _ _ h3)
   have h8:=zfl h7
   have hz:VRs w O φ α (cellsOf (ofV zz)) zz.cells.toList:=zm9 zz
   obtain ⟨out,h9,h10⟩:=zf0 (w:=w) (O:=O) (φ:=φ) (α:=α) (fds:=fs.map fun f=>(f.1,f.2.2)) _ us xs _ zz.cells fs (fun i f e=>by simp [e]) h5 hz hok
   refine .al (v:=_) (u:=_) hq ⟨out.toList,rfl,h10⟩ fun _=>EX.build ho (zke h4) ?_
   unfold built
   rw [h6,ht.zer _ _ h2]
   grind
  grind
 case h_20 =>
  rename_i t x hi mx ho
  obtain ⟨v,h1,hq⟩:=zc hq
  split at hq
  ·rename_i e T m l kb b kc c e1 e2 e3
   obtain ⟨⟨gg,mm⟩,h4,hq⟩:=zc hq
   split at hq
   ·rename_i hm
    simp only [yd] at hm
    have hm1:=yad hm.1
    have hm2:=yad hm.2
    subst hm1 hm2
    obtain ⟨N,hN,_,h5,r,h6,hq⟩:=hq
    simp only [zzy,Option.some.injEq] at hN
    have h5:=z6h h5
    simp only [yd,decide_eq_true_eq] at h5
    obtain ⟨a0,b0,h9,h10,h11,h12,h13⟩:=zk7 h6
    obtain ⟨u,h7,h8⟩:=h.ev h1
    obtain ⟨ub,k1,k2⟩:=h.ev e2
    obtain ⟨uc,k3,k4⟩:=h.ev e3
    subst k2 k4
    obtain ⟨cn,hcn⟩:∃ cn:Nat,c=(cn:Int):=⟨c.toNat,by omega⟩
    subst h10 hcn
    obtain rfl:a0=0:=by omega
    obtain ⟨v',g1,g2⟩:=EX.zz08t (n:=n) ho (ht.und _ _ e1) (ht.shp _ _ h4) h7 h8 k1 k3 (by omega) (by omega)
    subst h13
    exact .al (v:=_) (u:=_) hq g2 g1
   grind
  grind
 grind
end
end
section
open Go.RowKit Go.Lk
theorem zg8 {β:Type}:∀ {l:List (Nat × β)} {t:Nat} {v:β},lk l t=some v→(t,v)∈l
 | (s,x)::r,t,v,h=>by
  rcases z4c h with ⟨rfl,rfl⟩|⟨_,h⟩
  ·simp
  ·exact List.mem_cons_of_mem _ (zg8 h)
theorem zah {β:Type} {a t:Nat} (hn:t≠a):∀ {l:List (Nat × β)},lk (z9d a l) t=lk l t
 | []=>rfl
 | (s,x)::r=>by
  unfold z9d
  split
  ·rename_i e
   have e:=yad e
   subst e
   rw [zah hn]
   grind [lk,yad]
  ·simp only [lk]
   split
   ·rfl
   ·exact zah hn
section
variable {z:W0} {fL fL':FL} {fB fB':FB} {fA fA':FA} {V:Env} {w w':World} {O O':Nat→Prop} {φ φ':Nat→Nat} {α α':Nat→Value} {σ σ':St}
mutual
theorem zv9 {a:Nat} {e:Arr} (ho:Own w O e.T e.n (α a) e.l):∀ (v:PV) (u:Value),VR w O φ α v u→VR w (Del O (α a)) φ α (zbz a e v) u
 | .int k n,u,h=>by grind [VR,zbz]
 | .bool b,u,h=>by grind [VR,zbz]
 | .str s,u,h=>by grind [VR,zbz]
 | .sl T n l,u,h=>by simp only [VR,zbz] at h ⊢;exact h.tr (Tr.drop w fun x hx=>hx.1)
 | .nil,u,h=>by grind [VR,zbz]
 | .ref x,u,h=>by
  unfold zbz
  split
  ·rename_i hb
   have hb:=yad hb
   subst hb
   simp only [VR] at h ⊢
   rw [h.1]
   exact ho.data
  ·exact h
 | .ptr b off,u,h=>by grind [VR,zbz]
 | .zbc cs off,u,h=>by
  simp only [VR,zbz] at h ⊢
  obtain ⟨b,q,h1,h2⟩:=h
  exact ⟨b,q,h1,zdo.tr h2 (Tr.drop w fun x hx=>hx.1)⟩
 | .zbx x m i off,u,h=>by
  unfold zbz
  split
  ·trivial
  ·exact h
 | .agg cs,u,h=>by
  simp only [VR,zbz] at h ⊢
  obtain ⟨us,h1,h2⟩:=h
  exact ⟨us,h1,zdc ho cs us h2⟩
 | .tup cs,u,h=>by
  simp only [VR,zbz] at h ⊢
  obtain ⟨us,h1,h2⟩:=h
  exact ⟨us,h1,zdc ho cs us h2⟩
 | .iface T v,u,h=>by
  simp only [VR,zbz] at h ⊢
  obtain ⟨x,h1,h2⟩:=h
  exact ⟨x,h1,zv9 ho v x h2⟩
 | .ze6,u,h=>by grind [VR,zbz]
 | .fn f as_ cs,u,h=>by
  simp only [VR,zbz] at h ⊢
  obtain ⟨us,vs,h1,h2,h3⟩:=h
  exact ⟨us,vs,h1,zdc ho as_ us h2,zdc ho cs vs h3⟩
 | .zei,u,h=>by grind [VR,zbz]
 | .undef,u,h=>by simp only [VR,zbz]
 | .gone,u,h=>h
 | .z1l _,u,h=>h
 | .err _,u,h=>h
 | .mp _,u,h=>h
 | .md c,u,h=>by simp only [VR,zbz] at h ⊢;exact h.tr (Tr.drop w fun x hx=>hx.1)
theorem zdc {a:Nat} {e:Arr} (ho:Own w O e.T e.n (α a) e.l):∀ (vs:List PV) (us:List Value),VRs w O φ α vs us→VRs w (Del O (α a)) φ α (zbz.go a e vs) us
 | [],us,h=>h
 | v::vs,us,h=>by
  obtain ⟨u,us',h1,h2,h3⟩:=h
  exact ⟨u,us',h1,zv9 ho v u h2,zdc ho vs us' h3⟩
end
theorem zlh {a:Nat} {e:Arr}:∀ (vs:List PV),zbz.go a e vs=vs.map (zbz a e)
 | []=>rfl
 | v::vs=>by simp only [zbz.go,yr,zlh vs]
def zbw (O:Nat→Prop) (α:Nat→Value) (fA:FA) (ls:List Nat):Nat→Prop:=fun x=>O x∧∀ a∈ls,(fA a).isSome=true→(α a).ownBlock≠some x
theorem Rel.zz03p (h:Rel z fL fB fA V w O φ α) {a:Nat} {e:Arr} (k:fA a=some e) (hT:e.T<1000000):Rel z (fun t=>(fL t).map (zbz a e)) (fun b=>(fB b).map fun x => { x with cs:=x.cs.map (zbz a e) }) (del fA a) V w (Del O (α a)) φ α:=by
 have ho:=(h.arr a e k).un hT
 have td:Tr O w (Del O (α a)) w:=Tr.drop w fun x hx=>hx.1
 refine ⟨fun t v hv => ?_,fun b e' hb => ?_,fun b e' hb => ?_,fun b c e1 e2 h1 h2 hn => ?_,fun b c e1 e2 h1 h2 hn => ?_,fun b c e1 e2 h1 h2 => ?_,fun b e' hb => ?_,fun b e' hb => ?_,fun x hx=>h.bd x hx.1,h.ext,fun x hx=>h.only x hx.1,z.hG td h.gl,h.keep⟩
 ·obtain ⟨v',h1,rfl⟩:=yc.1 hv
  obtain ⟨u,h2,h3⟩:=h.env t v' h1
  grind [zv9]
 ·obtain ⟨x,h1,rfl⟩:=yc.1 hb
  obtain ⟨h2,us,h3,h4⟩:=h.box b x h1
  refine ⟨⟨h2,h.ab a b e x k h1⟩,us,h3,?_⟩
  rw [←zlh]
  grind [zdc]
 ·obtain ⟨h1,h2⟩:=z4w hb
  exact (h.arr b e' h2).down (fun x hx=>hx.1) fun x hx=>⟨h.arrO h2 hx,fun hh=>h.aa b a e' e h2 k h1 x hx hh⟩
 ·obtain ⟨x1,h3,rfl⟩:=yc.1 h1
  obtain ⟨x2,h4,rfl⟩:=yc.1 h2
  exact h.bb b c x1 x2 h3 h4 hn
 ·exact h.aa b c e1 e2 (z4w h1).2 (z4w h2).2 hn
 ·obtain ⟨x2,h4,rfl⟩:=yc.1 h2
  exact h.ab b c e1 x2 (z4w h1).2 h4
 ·obtain ⟨x,h1,rfl⟩:=yc.1 hb
  exact h.bF b x h1
 ·exact h.aF b e' (z4w hb).2
abbrev Rl (z:W0) (σ:St) (V:Env) (w:World) (O:Nat→Prop) (φ:Nat→Nat) (α:Nat→Value):Prop:=Rel z (lk σ.L) (lk σ.B) (lk σ.A) V w O φ α
theorem z1u:∀ (ls:List Nat) {σ σ':St} {O:Nat→Prop},Rl z σ V w O φ α→(∀ x,z.O x→O x)→σ.freeze ls=some σ'→Rl z σ' V w (zbw O α (lk σ.A) ls) φ α∧(∀ x,z.O x→zbw O α (lk σ.A) ls x)∧Le (lk σ'.A) (lk σ.A)∧(∀ a∈ls,lk σ'.A a=none)
 | [],σ,σ',O,h,hs,e=>by
  simp only [St.freeze,Option.some.injEq] at e
  subst e
  have:zbw O α (lk σ.A) []=O:=by funext x;simp [zbw]
  simp_all [Le.refl]
 | a::ls,σ,σ',O,h,hs,e=>by
  unfold St.freeze at e
  split at e
  ·rename_i ar ha
   split at e
   ·rename_i hm
    rw [yd] at hm
    have hT:ar.T<1000000:=by simpa [yac] using hm.2
    have hm:=hm.1
    have h1:=h.zz03p ha hT
    have h2:Rl z ({ (σ.mapV (zbz a ar)) with A:=z9d a σ.A }:St) V w (Del O (α a)) φ α:=h1.mono (fun t v hv=>by
     simp_all [St.mapV,zic]) (fun t v hv=>by
     simp only [St.mapV] at hv
     grind [zic]) Le.z9d
    obtain ⟨h3,h4,h5,h6⟩:=z1u ls h2 (fun x hx=>⟨hs x hx,fun hh=>by
     rcases h.aF a ar ha x hh with ⟨h5,_⟩|h5
     ·grind
     ·have:=z.hB x hx;omega⟩) e
    have heq:zbw (Del O (α a)) α (lk (z9d a σ.A)) ls=zbw O α (lk σ.A) (a::ls):=by
     funext x
     apply propext
     simp only [zbw,Del,yt,forall_eq_or_imp]
     constructor
     ·grind [zah]
     ·grind [Option.isSome_iff_exists,z4d]
    rw [←heq]
    refine ⟨h3,h4,fun t v hv=>(z4d (h5 t v hv)).2,fun b hb => ?_⟩
    rcases yt.1 hb with rfl|hb
    ·cases hq:lk σ'.A b with
     | none=>rfl
     | some y=>exact ((z4d (h5 b y hq)).1 rfl).elim
    grind
   ·cases e
  ·rename_i ha
   obtain ⟨h3,h4,h5,h6⟩:=z1u ls h hs e
   have heq:zbw O α (lk σ.A) ls=zbw O α (lk σ.A) (a::ls):=by
    funext x
    apply propext
    simp [zbw,ha]
   rw [←heq]
   refine ⟨h3,h4,h5,fun b hb => ?_⟩
   rcases yt.1 hb with rfl|hb
   ·cases hq:lk σ'.A b with
    | none=>rfl
    | some y=>rw [h5 b y hq] at ha;cases ha
   grind

theorem zbf {a:Nat} (h:σ.z6u a=true):lk σ.A a=none∧(∀ t v,lk σ.L t=some v→z56 (fun _=>True) (fun x=>x≠a) v)∧∀ b e,lk σ.B b=some e→z56.go (fun _=>True) (fun x=>x≠a) e.cs:=by
 simp only [St.z6u,yd,yg] at h
 obtain ⟨⟨h1,h2⟩,h3⟩:=h
 refine ⟨by simp_all,fun t v hv=>noK.a (x:=0) (h2 _ (zg8 hv)),fun b e he=>zd1.a (h3 _ (zg8 he))⟩
theorem zbg {a:Nat} (h:σ.z97 a=true):(1000≤a∧lk σ.B a=none)∧(∀ t v,lk σ.L t=some v→z56 (fun x=>x≠a) (fun _=>True) v)∧∀ b e,lk σ.B b=some e→z56.go (fun x=>x≠a) (fun _=>True) e.cs:=by
 simp only [St.z97,yd,yg] at h
 obtain ⟨⟨⟨h0,h1⟩,h2⟩,h3⟩:=h
 refine ⟨⟨yae h0,by simp_all⟩,fun t v hv=>noK.b (x:=0) (h2 _ (zg8 hv)),fun b e he=>zd1.b (h3 _ (zg8 he))⟩
theorem Rel.reA (h:Rl z σ V w O φ α) {a:Nat} (hf:σ.z6u a=true) (v:Value):Rl z σ V w O φ (zk0 α a v):=by
 obtain ⟨h1,h2,h3⟩:=zbf hf
 refine h.re (kb:=fun _=>True) (ka:=fun x=>x≠a) (fun _ _=>trivial) (fun _ _=>rfl) (fun x hx=>by simp [zk0,hx]) h2 (fun b e k=>⟨trivial,h3 b e k⟩) fun b e k hb => ?_
 grind
theorem Rel.reB (h:Rl z σ V w O φ α) {b:Nat} (hf:σ.z97 b=true) (g:Nat):Rl z σ V w O (ren φ b g) α:=by
 obtain ⟨⟨h0,h1⟩,h2,h3⟩:=zbg hf
 refine h.re (kb:=fun x=>x≠b) (ka:=fun _=>True) (fun x hx=>by omega) (fun x hx=>by simp [ren,hx]) (fun _ _=>rfl) h2 (fun c e k=>⟨fun hb => ?_,h3 c e k⟩) fun _ _ _=>trivial
 grind

theorem VRs.set:∀ {cs:List PV} {us:List Value} {j:Nat} {v x:PV},VRs w O φ α cs us→cs[j]? = some v→(∀ u,VR w O φ α v u→VR w O φ α x u)→VRs w O φ α (cs.set j x) us
 | c::cs,us,0,v,x,h,e,hx=>by
  obtain ⟨u,us',rfl,h2,h3⟩:=h
  simp at e
  subst e
  exact ⟨u,us',rfl,hx u h2,h3⟩
 | c::cs,us,j+1,v,x,h,e,hx=>by
  obtain ⟨u,us',rfl,h2,h3⟩:=h
  exact ⟨u,us',rfl,h2,VRs.set h3 (by simpa using e) hx⟩
theorem za5 (h:Rl z σ V w O φ α) {p:Place} {v x:PV} (hp:σ.at p=some v) (hx:∀ u,VR w O φ α v u→VR w O φ α x u):Rl z (σ.set x p) V w O φ α:=by
 cases p with
 | slot t leaf =>
  unfold St.at at hp
  unfold St.set
  simp only at hp ⊢
  split at hp
  ·rename_i v0 hv0
   refine ⟨fun s y hy => ?_,h.box,h.arr,h.bb,h.aa,h.ab,h.bF,h.aF,h.bd,h.ext,h.only,h.gl,h.keep⟩
   rcases z9v hy with ⟨rfl,rfl⟩|⟨_,h2⟩
   ·obtain ⟨u,h3,h4⟩:=h.env _ _ hv0
    refine ⟨u,h3,?_⟩
    cases leaf with
    | none =>
     simp only [zw3,Option.some.injEq] at hp
     subst hp
     exact hx u h4
    | some j =>
     cases v0<;>simp only [zw3,reduceCtorEq] at hp
     obtain ⟨us,h5,h6⟩:=h4
     exact ⟨us,h5,VRs.set h6 hp hx⟩
   ·exact h.env s y h2
  ·cases hp
 | cell b j =>
  unfold St.at at hp
  unfold St.set
  simp only at hp ⊢
  split at hp
  ·rename_i e he
   refine ⟨h.env,fun c e' hc => ?_,h.arr,fun c c' e1 e2 h1 h2 hn => ?_,h.aa,fun a c e1 e2 h1 h2 => ?_,fun c e' hc => ?_,h.aF,h.bd,h.ext,h.only,h.gl,h.keep⟩
   ·rcases z9v hc with ⟨rfl,rfl⟩|⟨_,h2⟩
    ·obtain ⟨h3,us,h4,h5⟩:=h.box _ _ he
     exact ⟨h3,us,h4,VRs.set h5 hp hx⟩
    ·exact h.box c e' h2
   ·rcases z9v h1 with ⟨rfl,rfl⟩|⟨n1,j1⟩<;>rcases z9v h2 with ⟨rfl,rfl⟩|⟨n2,j2⟩
    ·omega
    ·exact h.bb _ _ _ _ he j2 hn
    ·exact h.bb _ _ _ _ j1 he hn
    ·exact h.bb _ _ _ _ j1 j2 hn
   ·rcases z9v h2 with ⟨rfl,rfl⟩|⟨n2,h2⟩
    ·exact h.ab _ _ _ _ h1 he
    ·exact h.ab _ _ _ _ h1 h2
   ·rcases z9v hc with ⟨rfl,rfl⟩|⟨_,h2⟩
    ·exact h.bF _ _ he
    ·exact h.bF _ _ h2
  ·cases hp
theorem set_A (σ:St) (x:PV) (p:Place):(σ.set x p).A=σ.A:=by
 cases p<;>simp only [St.set]<;>split<;>rfl
theorem z95.one' {w:World} {O:Nat→Prop} {T m:Nat} {v:Value} {l:List (List D)} (h:z95 w O T m v l):v.oneCell'=true:=by
 obtain ⟨p,c,rfl⟩:=h.len
 rfl
theorem z6o:∀ (hs:List (Place × Nat × Nat × Nat)) {σ σ':St} {α:Nat→Value},Rl z σ V w O φ α→σ.home hs=some σ'→∃ α',Rl z σ' V w O φ α'
 | [],σ,σ',α,h,e=>by
  grind [St.home]
 | (p,a,T,m)::hs,σ,σ',α,h,e=>by
  unfold St.home at e
  split at e
  ·rename_i hp
   split at e
   ·rename_i hf
    have h1:=h.reA hf (.slice none 0 0)
    have h2:Rl z (σ.set (.ref a) p) V w O φ (zk0 α a (.slice none 0 0)):=za5 h1 hp fun u hu=>by
     simp only [VR] at hu ⊢
     subst hu
     exact ⟨by simp [zk0],rfl⟩
    have h3:Rl z ({ (σ.set (.ref a) p) with A:=(a,⟨true,T,m,[]⟩)::σ.A }:St) V w O φ (zk0 α a (.slice none 0 0)):=by
     have e1:zk0 α a (.slice none 0 0) a = .slice none 0 0:=by simp [zk0]
     have h4:=h2.addA (a:=a) (e:=⟨true,T,m,[]⟩) (by grind [z95.nil]) (fun c e' _ _ x _=>by grind [Value.ownBlock]) (fun b e' _=>by grind [Value.ownBlock]) (fun x hx=>by grind [Value.ownBlock])
     refine h4.mono (Le.refl _) (Le.refl _) ?_
     rw [set_A]
     exact Le.cons
    exact z6o hs h3 e
   ·cases e
  ·rename_i x hp
   split at e
   ·exact z6o hs h e
   ·rename_i hxa
    split at e
    ·rename_i ar har hf
     have h1:=h.reA hf (α x)
     have hne:=yai hxa
     have ex:zk0 α a (α x) x=α x:=by simp [zk0]
     have ea:zk0 α a (α x) a=α x:=by simp [zk0]
     have h2:Rl z (σ.set (.ref a) p) V w O φ (zk0 α a (α x)):=za5 h1 hp fun u hu=>by
      grind [VR]
     have h3:Rl z ({ (σ.set (.ref a) p) with A:=(a,ar)::z9d x σ.A }:St) V w O φ (zk0 α a (α x)):=by
      have h5:=h2.mono (Le.refl _) (Le.refl _) (fA':=del (lk σ.A) x) (by rw [set_A];exact fun t v hv=>(z4w hv).2)
      have hax:=h1.arr x ar har
      have haa:=h1.aa
      have hab:=h2.ab
      rw [set_A] at hab
      have haF:=h1.aF x ar har
      rw [ex] at hax haF
      have h4:=h5.addA (a:=a) (e:=ar) (by grind) (fun c e' hc _ y hy=>by
       grind [z4w]) (fun b e' hb=>by
       grind) (fun y hy=>by grind)
      refine h4.mono (Le.refl _) (Le.refl _) ?_
      intro t v hv
      rcases z4c hv with ⟨rfl,rfl⟩|⟨h7,h8⟩
      ·simp [upd]
      ·simp only [upd,if_neg h7]
       exact Le.z9d _ _ h8
     exact z6o hs h3 e
    ·cases e
  ·cases e
theorem zdg:∀ (l:List (Place × Nat × Nat)) {σ σ':St},Rl z σ V w O φ α→σ.nilD l=some σ'→Rl z σ' V w O φ α
 | [],σ,σ',h,e=>by
  grind [St.nilD]
 | (p,T,m)::r,σ,σ',h,e=>by
  unfold St.nilD at e
  split at e
  ·rename_i hp
   exact zdg r (za5 h hp fun u hu=>by
    simp only [VR] at hu
    subst hu
    exact .inl ⟨⟨_,rfl⟩,rfl⟩) e
  ·exact zdg r h e
  ·cases e
theorem zs6 (h:Rl z σ V w O φ α) {c:Cut} (e:σ.cut0 c=some σ'):∃ α',Rl z σ' V w O φ α':=by
 unfold St.cut0 at e
 split at e
 ·rename_i s hs
  split at e
  ·rename_i s2 hs2
   cases e
   obtain ⟨α',h1⟩:=z6o c.H (σ:={ σ with L:=z9s c.L σ.L,B:=z9s c.B σ.B }) (h.mono (fun _ _=>z8x) (fun _ _=>z8x) (Le.refl _)) hs
   exact ⟨α',(zdg c.N h1 hs2).mono (Le.refl _) (Le.refl _) (fun _ _=>z8x)⟩
  ·cases e
 ·cases e
theorem zfy:∀ (l:List Nat) {σ:St},Rl z σ V w O φ α→Rl z (σ.itN l) V w O φ α
 | [],_,h=>h
 | b::r,σ,h=>by
  unfold St.itN
  split
  ·rename_i ky g cur rem hp
   refine zfy r (za5 h hp fun u hu => ?_)
   obtain ⟨m,seen,clock,es,h1,h2,h3,_⟩:=hu
   exact ⟨m,seen,clock,es,h1,h2,h3,trivial⟩
  ·exact zfy r h
theorem zf7 (h:Rl z σ V w O φ α) (hs:∀ x,z.O x→O x) {c:Cut} (e:σ.cut c=some σ'):∃ O' α',Rl z σ' V w O' φ α'∧∀ x,z.O x→O' x:=by
 unfold St.cut at e
 split at e
 ·rename_i s h1
  obtain ⟨k1,k2,_⟩:=z1u _ h hs h1
  obtain ⟨α',k3⟩:=zs6 (zfy c.I k1) e
  grind
 ·cases e
end
end
section
open Go.Proofs Go.RowKit Go.Maps Go.Sort Go.Shelf
variable {P:Program} {ρ:Ren}
def SeqB (F:Fence) (n:Nat) (P:Program) (g:Nat) (lb:Array Value) (enc:List UInt8→Value) (zs:List (List UInt8)) (w:World):Prop :=
 ∀ (l:Nat) (J:List (List UInt8)→World→Prop) (W:World),Below w.heap.size w W→AbidesFrom W.heap.size J →
  (∀ pre x W1,J pre W1→pre.length<zs.length→YieldAt F (n - 1) P l #[enc x] W1 fun e W'=>e = .returned (.bool true)∧J (pre++[x]) W'∧KeepsWalks W1 W') →
  (∀ pre W1,J pre W1→Below w.heap.size w W1)→J [] W →
  CallsIn F n P g (#[.func (.yield l) #[] #[]]++lb) W fun e W'=>(∃ v,e = .returned v)∧∃ xs,xs=zs∧J xs W'
set_option maxRecDepth 100000 in
set_option maxHeartbeats 2000000 in
theorem zpd (L:SlLaysZ.n11 P ρ) (F:Fence) (n:Nat) (h11:F.fn (ρ.f 11)) (hro:F.round=none) (hn:2≤n) (g:Nat) (lb:Array Value) (hFg:F.fn g) (eg:∀ args w,(callFunc g args).run P w = .ok (.enter g args) w)
  (zs:List (List UInt8)) (hN:zs.length≤maxLen) (hNb:zs.length*16≤140737488355328) (w:World) (hseq:SeqB F (n - 1) P g lb encStr zs w) :
  CallsIn F n P (ρ.f 11) #[.slice none 0 0,.func (.func g) #[] lb] w fun e w'=>∃ (v:Value) (ss:List (List UInt8)),e = .returned v∧ss=zs∧w'.ownsRow w.heap.size (ρ.t 26) 1 v ss.length (ss.map encStr)∧(v = .slice none 0 0↔ss=[])∧Below w.heap.size w w':=by
 have h1:1≤n:=by omega
 have hne:ρ.t 24≠ρ.t 26:=fun e=>by have h:=L.t24;rw [e,L.t26] at h;cases h
 have mixed:=L.mixed;have t0:=L.t0;have a0:=L.a0;have z0:=L.z0;have v0:=L.v0;have t24:=L.t24;have a24:=L.a24;have z24:=L.z24;have v24:=L.v24;have t26:=L.t26;have a26:=L.a26;have z26:=L.z26;have v26:=L.v26;have t28:=L.t28;have a28:=L.a28;have z28:=L.z28;have v28:=L.v28
 have u0:=run_underlying L.t0;have u24:=run_underlying L.t24;have u26:=run_underlying L.t26;have u28:=run_underlying L.t28
 obtain ⟨_,_,FG⟩:=L.f11
 refine callsIn_of_wp_marks FG rfl h11 ?_ hro
 simp only [SlBodyZ.n11_ntmps ρ,yw,yo,yp,yaj,yak,yam,yan,yv,yh,yu,yi]
 gi_wp2
 refine wpIn_rangeFunc ?_
 intro fn hfn
 rw [hro]
 obtain ⟨W0,hW0⟩:∃ W0,w.alloc (.cells #[.slice none 0 0] (ρ.t 24))=W0:=⟨_,rfl⟩
 have hs0:W0.heap.size=w.heap.size+1:=by rw [←hW0];simp
 have hv0:W0.heap[w.heap.size]? = some (.cells #[.slice none 0 0] (ρ.t 24) (0,0)):=by rw [←hW0];exact World.alloc_heap_new w _
 have hb0:Below w.heap.size w W0:=by rw [←hW0];exact (Below.refl _ w).alloc (yaf _) _
 rw [hW0]
 obtain ⟨W1,hW1⟩:∃ W1,(W0.alloc (.deferred (some []))).alloc (.loop (AnyZ.apRec ρ fn (.func (.func g) #[] lb) w.heap.size W0.heap.size .ready none))=W1:=⟨_,rfl⟩
 have hold:∀ k,k<W0.heap.size→W1.heap[k]? = W0.heap[k]?:=fun k hk=>by
  rw [←hW1];exact (Below.heap_alloc _ _ k (by simp;omega)).trans (Below.heap_alloc _ _ k hk)
 have hb1:Below w.heap.size w W1:=by rw [←hW1];exact (hb0.alloc hb0.size _).alloc (by have:=hb0.size;simp;omega) _
 have hs1:W1.heap.size=W0.heap.size+2:=by rw [←hW1];simp
 have hM:AnyZ.ApAt ρ w fn (.func (.func g) #[] lb) w.heap.size (W0.heap.size+1) W0.heap.size [] W1 :=
  ⟨⟨_,(hold w.heap.size (by omega)).trans hv0,⟨rfl,.inl ⟨rfl,rfl⟩⟩,by simp⟩,
   by rw [←hW1];have:=World.alloc_heap_new (W0.alloc (.deferred (some []))) (.loop (AnyZ.apRec ρ fn (.func (.func g) #[] lb) w.heap.size W0.heap.size .ready none));rwa [World.size_alloc] at this,
   by rw [←hW1];exact (Below.heap_alloc _ _ _ (by simp)).trans (World.alloc_heap_new W0 _),hb1⟩
 refine ⟨W0.heap.size+1,[{ target:=.collected W0.heap.size,args := #[] }],W1,{ target:=.fn (.func g) lb,args := #[.func (.yield (W0.heap.size+1)) #[] #[]] },W1,g,
  #[.func (.yield (W0.heap.size+1)) #[] #[]]++lb,W1,?_,?_,?_,?_,fun _=>h1,?_⟩
 ·rw [←hW1];exact run_enterLoop_outer _ _ _ _ _
 ·simp [resolve,go_sem]
 ·intro f' hf';simp [Target.leads] at hf';subst hf';exact hFg
 ·simp [invoke,go_sem,eg]
 ·refine (hseq (W0.heap.size+1) (AnyZ.ApAt ρ w fn (.func (.func g) #[] lb) w.heap.size (W0.heap.size+1) W0.heap.size) W1 hb1 (AnyZ.ap_abides ρ _ _ _ _ _ _ _ hb1.size)
   (fun pre x W hJ hl=>AnyZ.apYield { L with } F (n - 1 - 1) w fn hfn _ w.heap.size (W0.heap.size+1) W0.heap.size (by omega) (by omega) (by omega) (yaf _) (by omega) zs.length hN hNb pre x W hJ hl) (fun _ _ h=>h.below) hM).mono ?_
  rintro e W2 ⟨⟨v0,rfl⟩,ss,hS,h2⟩
  obtain ⟨v,hv,hrow,hnil⟩:=h2.box
  have hend:=run_endLoop (P:=P) h2.L (by simp [AnyZ.apRec])
  obtain ⟨W3,hW3⟩:∃ W3,W2.putObj (W0.heap.size+1) (.loop { AnyZ.apRec ρ fn (.func (.func g) #[] lb) w.heap.size W0.heap.size .ready none with state:=.exhausted })=W3:=⟨_,rfl⟩
  rw [hW3] at hend
  have hg3:W2.grownBy W3 (some (W0.heap.size+1)):=by rw [←hW3];exact grownBy_putObj_a _ _ _
  have hv3:W3.heap[w.heap.size]? = some (.cells #[v] (ρ.t 24) (0,0)):=by rw [←hW3];exact (World.putObj_heap_other (by omega)).trans hv
  have hK3:W3.heap[W0.heap.size]? = some (.deferred (some [])):=by rw [←hW3];exact (World.putObj_heap_other (by omega)).trans h2.K
  have hrow3:=hrow.kept hg3 (ownsRow_ne_a hrow h2.L (fun cur e=>by first|cases e|exact hne (Obj.cells.inj e).2.1))
  have hb3:Below w.heap.size w W3:=h2.below.grown hg3 h2.below.size (fun k e=>by cases e;omega)
  obtain ⟨hc3,hf3⟩:=cell_of_box_a hv3
  clear hW3
  refine ⟨none,W3,hend,?_⟩
  gi_wp2
  rw [←hs0]
  refine ⟨by simp,.inl ⟨_,_,rfl,run_takeDeferred hK3,?_⟩⟩
  exact ⟨_,results_tmp rfl _ _ _,v,ss,rfl,hS,hrow3.kept (grownBy_putObj_a _ _ _) (ownsRow_ne_a hrow3 hK3 (fun cur e=>by first|cases e|exact hne (Obj.cells.inj e).2.1)),hnil,hb3.grown (grownBy_putObj_a _ _ _) hb3.size (fun k e=>by cases e;omega)⟩
set_option maxRecDepth 100000 in
set_option maxHeartbeats 2000000 in
theorem zmt (L:SlLaysZ.n8 P ρ) (F:Fence) (n:Nat) (h8:F.fn (ρ.f 8)) (h11:F.fn (ρ.f 11)) (hro:F.round=none) (hn:3≤n) (g:Nat) (lb:Array Value) (hFg:F.fn g) (eg:∀ args w,(callFunc g args).run P w = .ok (.enter g args) w)
  (zs:List (List UInt8)) (hN:zs.length≤maxLen) (hNb:zs.length*16≤140737488355328) (w:World) (hseq:SeqB F (n - 1 - 1) P g lb encStr zs w) :
  CallsIn F n P (ρ.f 8) #[.func (.func g) #[] lb] w fun e w'=>∃ (v:Value) (ss:List (List UInt8)),e = .returned v∧ss=zs∧w'.ownsRow w.heap.size (ρ.t 26) 1 v ss.length (ss.map encStr)∧(v = .slice none 0 0↔ss=[])∧Below w.heap.size w w':=by
 have h1:1≤n:=by omega
 have e11:∀ args w,(callFunc (ρ.f 11) args).run P w = .ok (.enter (ρ.f 11) args) w:=L.f11.enters rfl
 have mixed:=L.mixed;have t0:=L.t0;have a0:=L.a0;have z0:=L.z0;have v0:=L.v0;have t24:=L.t24;have a24:=L.a24;have z24:=L.z24;have v24:=L.v24;have t26:=L.t26;have a26:=L.a26;have z26:=L.z26;have v26:=L.v26;have t28:=L.t28;have a28:=L.a28;have z28:=L.z28;have v28:=L.v28
 have u0:=run_underlying L.t0;have u24:=run_underlying L.t24;have u26:=run_underlying L.t26;have u28:=run_underlying L.t28
 obtain ⟨_,_,FG⟩:=L.f8
 refine callsIn_of_wp FG rfl h8 ?_ hro
 simp only [SlBodyZ.n8_ntmps ρ,yw,yo,yp,yaj,yak,yam,yan,yv,yh,yu,yi]
 gi_wp2_with (gi_at_fn (ρ.f 11);refine (zpd { L with } F (n - 1) h11 hro (by omega) g lb hFg eg zs hN hNb _ hseq).mono ?_;rintro e w' ⟨v,ss,rfl,hS,hrow,hnil,hb⟩)
 go_ret
 exact ⟨v,ss,rfl,hS,hrow,hnil,hb⟩
set_option maxRecDepth 100000 in
set_option maxHeartbeats 2000000 in
theorem zpe (L:SlLaysZ.n6 P ρ) (F:Fence) (n:Nat) (h6:F.fn (ρ.f 6)) (h8:F.fn (ρ.f 8)) (h9:F.fn (ρ.f 9)) (h11:F.fn (ρ.f 11)) (hro:F.round=none) (hn:4≤n) (hsort:AnyZ.SortsIn P ρ F (n - 1)) (e9:∀ args w,(callFunc (ρ.f 9) args).run P w = .ok (.enter (ρ.f 9) args) w) (g:Nat) (lb:Array Value) (hFg:F.fn g) (eg:∀ args w,(callFunc g args).run P w = .ok (.enter g args) w)
  (zs:List (List UInt8)) (hN:zs.length≤maxLen) (hNb:zs.length*16≤140737488355328) (w:World) (hseq:SeqB F (n - 1 - 1 - 1) P g lb encStr zs w) :
  CallsIn F n P (ρ.f 6) #[.func (.func g) #[] lb] w fun e w'=>∃ (v:Value) (ss:List (List UInt8)),e = .returned v∧ss=zs ∧
   w'.ownsRow w.heap.size (ρ.t 26) 1 v ss.length ((ss.mergeSort (fun x y=>decide (x≤y))).map encStr)∧(v = .slice none 0 0↔ss=[])∧Below w.heap.size w w':=by
 have h1:1≤n:=by omega
 have e8:∀ args w,(callFunc (ρ.f 8) args).run P w = .ok (.enter (ρ.f 8) args) w:=L.f8.enters rfl
 have mixed:=L.mixed;have t0:=L.t0;have a0:=L.a0;have z0:=L.z0;have v0:=L.v0;have t24:=L.t24;have a24:=L.a24;have z24:=L.z24;have v24:=L.v24;have t26:=L.t26;have a26:=L.a26;have z26:=L.z26;have v26:=L.v26;have t28:=L.t28;have a28:=L.a28;have z28:=L.z28;have v28:=L.v28
 have u0:=run_underlying L.t0;have u24:=run_underlying L.t24;have u26:=run_underlying L.t26;have u28:=run_underlying L.t28
 obtain ⟨_,_,FG⟩:=L.f6
 refine callsIn_of_wp FG rfl h6 ?_ hro
 simp only [SlBodyZ.n6_ntmps ρ,yw,yo,yp,yaj,yak,yam,yan,yv,yh,yu,yi]
 gi_wp2_with (gi_at_fn (ρ.f 8);refine (zmt { L with } F (n - 1) h8 h11 hro (by omega) g lb hFg eg zs hN hNb _ hseq).mono ?_;rintro e W ⟨v,ss,rfl,rfl,hrow,hnil,hb⟩)
 rcases hrow.2 with ⟨rfl,hz⟩|⟨gb,cap,cur,rfl,hbase,hgb,r1,r2,r3,r4⟩
 ·-- nothing came: the nil slice is sorted and handed back
  have hss:ss=[]:=yk hz
  subst hss
  gi_wp2_with (gi_at_fn (ρ.f 9);refine (hsort.2 none 0 W).mono ?_;rintro e w' ⟨rfl,rfl⟩)
  go_ret
  exact ⟨.slice none 0 0,[],rfl,rfl,by simpa using hrow,by simp,hb⟩
 ·have hH:Holds encStr W gb 0 ss.toArray:=holds_of_block hgb (by simpa using r4)
  have hgl:gb<W.heap.size:=(yal.1 hgb).1
  have hsz:ss.length<4611686018427387904:=by omega
  have cS:=hsort.1 gb 0 cap ss W hH hgl hsz
  gi_wp2_with (gi_at_fn (ρ.f 9);refine cS.mono ?_;rintro e w' ⟨rfl,nn,os,rfl⟩)
  go_ret
  exact ⟨_,ss,rfl,rfl,ownsRow_sorted (by simp) hbase hgb r1 r2 r3,hnil,hb.grown (grownBy_sorted _) hb.size (fun j hj=>by cases hj;exact hbase)⟩
end
end Go.Pe
