import Derived.Test.YtfdoofnmjehecaaGreatDoorHLmA
import Derived.ChangeKeysEq
import Derived.Shelf.SlIter.Sorted
set_option linter.all false
namespace Go.Pe
open _root_.Option renaming bind_eq_bind → ya, bind_eq_some_iff → yb, map_eq_some_iff → yc
open _root_.Bool renaming and_eq_true → yd, eq_iff_iff → ye, false_eq_true → yf
open _root_.List renaming all_eq_true → yg, append_toArray → yh, cons_append → yi, drop_drop → yj, eq_nil_of_length_eq_zero → yk, getElem?_drop → yl, getElem?_take → ym, getElem?_toArray → yn, length_cons → yo, length_nil → yp, mapM_cons → yq, map_cons → yr, mem_cons → yt, nil_append → yu, push_toArray → yv, size_toArray → yw, toArray → yx, zip_cons_cons → yy
open _root_.Nat renaming beq → yz, ble → yaa, blt → yab, blt_eq → yac, eq_of_beq_eq_true → yad, le_of_ble_eq_true → yae, le_refl → yaf, mul_le_mul_right → yag, mul_one → yah, ne_of_beq_eq_false → yai, reduceAdd → yaj, reduceSub → yak
open _root_.Array renaming getElem?_eq_some_iff → yal, replicate_succ → yam, replicate_zero → yan, toList_inj → yao
section
open Go.RowKit Go.Lk
inductive PV where|int(k:IntKind)(n:Int)|bool(b:Bool)|str(s:List UInt8)|sl(T n:Nat)(l:List (List D))|nil|ref(a:Nat)|ptr(b off:Nat)|zai(cs:List D)(off:Nat)|zd7(a m:Nat)(i:Int)(off:Nat)|agg(cs:List PV)|tup(vs:List PV)|iface(T:Nat)(v:PV)|zfr|fn(f:Nat)(as_ cs:List PV)|zg7|undef|gone|z1e(b:Nat)|err(b:Bool)|mp(b:Nat)|md(c:MC)
def VR(w:World)(O:Nat→Prop)(φ:Nat→Nat)(α:Nat→Value):PV→Value→Prop|.int k n,u=>u=.int k n|.bool b,u=>u=.bool b|.str s,u=>u=.string ⟨s.toArray⟩|.sl T n l,u=>RD w O (.sl T n l) u|.nil,u=>u=.slice none 0 0|.ref a,u=>u=α a∧u.oneCell'=true|.ptr b off,u=>u=.pointer (some ⟨φ b,off,none⟩)|.zai cs off,u=>∃b q,u=.pointer (some ⟨b,q+off,none⟩)∧zf6 w O b q cs.length cs|.zd7 a m i off,u=>∃(b len cap j:Nat),α a=.slice (some ⟨b,0,none⟩) len cap∧i=(j:Nat)∧u=.pointer (some ⟨b,j*m+off,none⟩)|.agg cs,u=>∃us,u=.agg (yx us)∧VRs cs us|.tup cs,u=>∃us,u=.tuple (yx us)∧VRs cs us|.iface T v,u=>∃x,u=.iface T x∧VR w O φ α v x|.zfr,u=>u=.nilIface|.fn f as_ cs,u=>∃us vs,u=fnV f us vs∧VRs as_ us∧VRs cs vs|.zg7,u=>u=.pointer none|.undef,_=>True|.gone,u=>u=Go.undef|.z1e b,u=>u=.pointer none∨u=.pointer (some ⟨φ b,0,none⟩)|.err b,u=>b=true∧u=.nilIface∨b=false∧∃T v,u=.iface T v|.mp b,u=>u=.map (some (φ b))|.md c,u=>MR w O c u
where VRs:List PV→List Value→Prop|[],us=>us=[]|v::vs,us=>∃u d,us=u::d∧VR w O φ α v u∧VRs vs d
abbrev VRs(w:World)(O:Nat→Prop)(φ:Nat→Nat)(α:Nat→Value)(vs:List PV)(us:List Value):Prop:=VR.VRs w O φ α vs us
theorem zf6.tr{w w':World}{O O':Nat→Prop}{b q n:Nat}{x:List D}(h:zf6 w O b q n x)(t:Tr O w O' w'):zf6 w' O' b q n x:=by obtain⟨cs,a,h2,c⟩:=h;exact⟨cs,a,h2.tr t,c.tr t⟩
section
variable{w w':World}{O O':Nat→Prop}{φ φ':Nat→Nat}{α α':Nat→Value}
mutual
theorem VR.tr (t:Tr O w O' w'):∀ (v:PV) (u:Value),VR w O φ α v u→VR w' O' φ α v u
 | .int k n,u,h=>by grind [VR]
 | .bool b,u,h=>by grind [VR]
 | .str s,u,h=>by grind [VR]
 | .sl T n l,u,h=>by simp only [VR] at h ⊢;exact h.tr t
 | .nil,u,h=>by grind [VR]
 | .ref a,u,h=>by grind [VR]
 | .ptr b off,u,h=>by grind [VR]
 | .zai cs off,u,h=>by
  grind [VR,zf6.tr]
 | .zd7 a m i off,u,h=>by grind [VR]
 | .agg cs,u,h=>by
  simp only [VR] at h ⊢
  obtain ⟨us,d,h2⟩:=h
  exact ⟨us,d,VRs.tr t cs us h2⟩
 | .tup cs,u,h=>by
  simp only [VR] at h ⊢
  obtain ⟨us,d,h2⟩:=h
  exact ⟨us,d,VRs.tr t cs us h2⟩
 | .iface T v,u,h=>by
  simp only [VR] at h ⊢
  obtain ⟨x,d,h2⟩:=h
  exact ⟨x,d,VR.tr t v x h2⟩
 | .zfr,u,h=>by grind [VR]
 | .fn f as_ cs,u,h=>by
  simp only [VR] at h ⊢
  obtain ⟨us,vs,d,h2,g⟩:=h
  exact ⟨us,vs,d,VRs.tr t as_ us h2,VRs.tr t cs vs g⟩
 | .zg7,u,h=>by grind [VR]
 | .undef,u,h=>by simp only [VR]
 | .gone,u,h=>h
 | .z1e _,u,h=>h
 | .err _,u,h=>h
 | .mp _,u,h=>h
 | .md c,u,h=>by simp only [VR] at h ⊢;exact h.tr t
theorem VRs.tr (t:Tr O w O' w'):∀ (vs:List PV) (us:List Value),VRs w O φ α vs us→VRs w' O' φ α vs us
 | [],us,h=>h
 | v::vs,us,h=>by
  obtain ⟨u,e,d,h2,g⟩:=h
  exact ⟨u,e,d,VR.tr t v u h2,VRs.tr t vs e g⟩
end
mutual
def noK (b a:Option Nat):PV→Bool
 | .ref x => !(a==some x)
 | .zd7 x _ _ _ => !(a==some x)
 | .ptr x _ => !(b==some x)
 | .z1e x => !(b==some x)
 | .mp x => !(b==some x)
 | .agg cs=>zed b a cs
 | .tup cs=>zed b a cs
 | .iface _ v=>noK b a v
 | .fn _ as_ cs=>zed b a as_&&zed b a cs
 | _=>true
def zed (b a:Option Nat):List PV→Bool
 | []=>true
 | v::vs=>noK b a v&&zed b a vs
end
def z5k(kb ka:Nat→Prop):PV→Prop|.ref x=>ka x|.zd7 x _ _ _=>ka x|.ptr x _=>kb x|.z1e x=>kb x|.mp x=>kb x|.agg cs=>go cs|.tup cs=>go cs|.iface _ v=>z5k kb ka v|.fn _ as_ cs=>go as_∧go cs|_=>True
where go:List PV→Prop|[]=>True|v::vs=>z5k kb ka v∧go vs
mutual
theorem noK.b {b x:Nat}:∀ {v:PV},noK (some b) none v=true→z5k (fun x=>x≠b) (fun _=>True) v
 | .int _ _,_=>trivial
 | .bool _,_=>trivial
 | .str _,_=>trivial
 | .sl _ _ _,_=>trivial
 | .nil,_=>trivial
 | .zfr,_=>trivial
 | .zg7,_=>trivial
 | .undef,_=>trivial
 | .gone,_=>trivial
 | .z1e y,h=>by simp [noK] at h;exact fun e=>h e.symm
 | .mp y,h=>by simp [noK] at h;exact fun e=>h e.symm
 | .md _,_=>trivial
 | .err _,_=>trivial
 | .zai _ _,_=>trivial
 | .ref x,_=>trivial
 | .zd7 x _ _ _,_=>trivial
 | .ptr y _,h=>by simp [noK] at h;exact fun e=>h e.symm
 | .agg cs,h=>zed.b (vs:=cs) (by grind [noK])
 | .tup cs,h=>zed.b (vs:=cs) (by grind [noK])
 | .iface _ v,h=>noK.b (x:=x) (v:=v) (by grind [noK])
 | .fn _ as_ cs,h=>by simp only [noK,yd] at h;exact ⟨zed.b h.1,zed.b h.2⟩
theorem zed.b {b:Nat}:∀ {vs:List PV},zed (some b) none vs=true→z5k.go (fun x=>x≠b) (fun _=>True) vs
 | [],_=>trivial
 | v::vs,h=>by simp only [zed,yd] at h;exact ⟨noK.b (x:=0) h.1,zed.b h.2⟩
end
mutual
theorem noK.a {b x:Nat}:∀ {v:PV},noK none (some b) v=true→z5k (fun _=>True) (fun x=>x≠b) v
 | .int _ _,_=>trivial
 | .bool _,_=>trivial
 | .str _,_=>trivial
 | .sl _ _ _,_=>trivial
 | .nil,_=>trivial
 | .zfr,_=>trivial
 | .zg7,_=>trivial
 | .undef,_=>trivial
 | .gone,_=>trivial
 | .z1e _,_=>trivial
 | .mp _,_=>trivial
 | .md _,_=>trivial
 | .err _,_=>trivial
 | .zai _ _,_=>trivial
 | .ptr y _,_=>trivial
 | .ref y,h=>by simp [noK] at h;exact fun e=>h e.symm
 | .zd7 y _ _ _,h=>by simp [noK] at h;exact fun e=>h e.symm
 | .agg cs,h=>zed.a (vs:=cs) (by grind [noK])
 | .tup cs,h=>zed.a (vs:=cs) (by grind [noK])
 | .iface _ v,h=>noK.a (x:=x) (v:=v) (by grind [noK])
 | .fn _ as_ cs,h=>by simp only [noK,yd] at h;exact ⟨zed.a h.1,zed.a h.2⟩
theorem zed.a {b:Nat}:∀ {vs:List PV},zed none (some b) vs=true→z5k.go (fun _=>True) (fun x=>x≠b) vs
 | [],_=>trivial
 | v::vs,h=>by simp only [zed,yd] at h;exact ⟨noK.a (x:=0) h.1,zed.a h.2⟩
end
mutual
theorem z5k.and {kb ka d b e c:Nat→Prop} (a:∀ x,kb x→d x→e x) (f:∀ x,ka x→b x→c x):∀ {v:PV},z5k kb ka v→z5k d b v→z5k e c v
 | .int _ _,_,_=>trivial
 | .bool _,_,_=>trivial
 | .str _,_,_=>trivial
 | .sl _ _ _,_,_=>trivial
 | .nil,_,_=>trivial
 | .zfr,_,_=>trivial
 | .zg7,_,_=>trivial
 | .undef,_,_=>trivial
 | .gone,_,_=>trivial
 | .z1e y,h,k=>a y h k
 | .mp y,h,k=>a y h k
 | .md _,_,_=>trivial
 | .err _,_,_=>trivial
 | .zai _ _,_,_=>trivial
 | .ptr y _,h,k=>a y h k
 | .ref y,h,k=>f y h k
 | .zd7 y _ _ _,h,k=>f y h k
 | .agg cs,h,k=>z5k.ands a f (vs:=cs) h k
 | .tup cs,h,k=>z5k.ands a f (vs:=cs) h k
 | .iface _ v,h,k=>z5k.and a f (v:=v) h k
 | .fn _ as_ cs,h,k=>⟨z5k.ands a f h.1 k.1,z5k.ands a f h.2 k.2⟩
theorem z5k.ands {kb ka d b e c:Nat→Prop} (a:∀ x,kb x→d x→e x) (f:∀ x,ka x→b x→c x):∀ {vs:List PV},z5k.go kb ka vs→z5k.go d b vs→z5k.go e c vs
 | [],_,_=>trivial
 | _::_,h,k=>⟨z5k.and a f h.1 k.1,z5k.ands a f h.2 k.2⟩
end
mutual
theorem z5k.all {kb ka:Nat→Prop} (a:∀ x,kb x) (b:∀ x,ka x):∀ {v:PV},z5k kb ka v
 | .int _ _=>trivial
 | .bool _=>trivial
 | .str _=>trivial
 | .sl _ _ _=>trivial
 | .nil=>trivial
 | .zfr=>trivial
 | .zg7=>trivial
 | .undef=>trivial
 | .gone=>trivial
 | .z1e y=>a y
 | .mp y=>a y
 | .md _=>trivial
 | .err _=>trivial
 | .zai _ _=>trivial
 | .ptr y _=>a y
 | .ref y=>b y
 | .zd7 y _ _ _=>b y
 | .agg cs=>z5k.alls a b (vs:=cs)
 | .tup cs=>z5k.alls a b (vs:=cs)
 | .iface _ v=>z5k.all a b (v:=v)
 | .fn _ as_ cs=>⟨z5k.alls a b,z5k.alls a b⟩
theorem z5k.alls {kb ka:Nat→Prop} (a:∀ x,kb x) (b:∀ x,ka x):∀ {vs:List PV},z5k.go kb ka vs
 | []=>trivial
 | _::_=>⟨z5k.all a b,z5k.alls a b⟩
end
mutual
theorem VR.re {kb ka:Nat→Prop} (hφ:∀ x,kb x→φ' x=φ x) (hα:∀ x,ka x→α' x=α x):∀ (v:PV) (u:Value),z5k kb ka v→VR w O φ α v u→VR w O φ' α' v u
 | .int k n,u,_,h=>by grind [VR]
 | .bool b,u,_,h=>by grind [VR]
 | .str s,u,_,h=>by grind [VR]
 | .sl T n l,u,_,h=>by grind [VR]
 | .nil,u,_,h=>by grind [VR]
 | .ref x,u,k,h=>by
  simp only [VR] at h ⊢
  rw [hα x k]
  exact h
 | .ptr x off,u,k,h=>by
  simp only [VR] at h ⊢
  rw [hφ x k]
  exact h
 | .zai cs off,u,_,h=>by grind [VR]
 | .zd7 x m i off,u,k,h=>by
  simp only [VR] at h ⊢
  rw [hα x k]
  exact h
 | .agg cs,u,k,h=>by
  simp only [VR] at h ⊢
  obtain ⟨us,a,h2⟩:=h
  exact ⟨us,a,VRs.re hφ hα cs us k h2⟩
 | .tup cs,u,k,h=>by
  simp only [VR] at h ⊢
  obtain ⟨us,a,h2⟩:=h
  exact ⟨us,a,VRs.re hφ hα cs us k h2⟩
 | .iface T v,u,k,h=>by
  simp only [VR] at h ⊢
  obtain ⟨x,a,h2⟩:=h
  exact ⟨x,a,VR.re hφ hα v x k h2⟩
 | .zfr,u,_,h=>by grind [VR]
 | .fn f as_ cs,u,k,h=>by
  simp only [VR] at h ⊢
  obtain ⟨us,vs,a,h2,d⟩:=h
  exact ⟨us,vs,a,VRs.re hφ hα as_ us k.1 h2,VRs.re hφ hα cs vs k.2 d⟩
 | .zg7,u,_,h=>by grind [VR]
 | .undef,u,_,h=>by simp only [VR]
 | .gone,u,_,h=>h
 | .z1e x,u,k,h=>by
  simp only [VR] at h ⊢
  rw [hφ x k]
  exact h
 | .err _,u,_,h=>h
 | .mp x,u,k,h=>by
  simp only [VR] at h ⊢
  rw [hφ x k]
  exact h
 | .md _,u,_,h=>h
theorem VRs.re {kb ka:Nat→Prop} (hφ:∀ x,kb x→φ' x=φ x) (hα:∀ x,ka x→α' x=α x):∀ (vs:List PV) (us:List Value),z5k.go kb ka vs→VRs w O φ α vs us→VRs w O φ' α' vs us
 | [],us,_,h=>h
 | v::vs,us,k,h=>by
  obtain ⟨u,c,a,h2,d⟩:=h
  exact ⟨u,c,a,VR.re hφ hα v u k.1 h2,VRs.re hφ hα vs c k.2 d⟩
end
theorem VRs.len:∀{vs:List PV}{us:List Value},VRs w O φ α vs us→us.length=vs.length|[],us,h=>by cases h;rfl|v::vs,us,h=>by obtain⟨u,b,rfl,_,a⟩:=h;simp[VRs.len a]
theorem VRs.get:∀{vs:List PV}{us:List Value}{i:Nat}{v:PV},VRs w O φ α vs us→vs[i]?=some v→∃u,us[i]?=some u∧VR w O φ α v u|v::vs,us,0,x,h,e=>by obtain⟨u,a,rfl,h2,_⟩:=h;simp at e;subst e;exact⟨u,rfl,h2⟩|v::vs,us,i+1,x,h,e=>by obtain⟨u,a,rfl,_,b⟩:=h;simpa using VRs.get b (by simpa using e)|[],us,i,x,h,e=>by simp at e
theorem VRs.drop:∀{vs:List PV}{us:List Value}(i:Nat),VRs w O φ α vs us→VRs w O φ α (vs.drop i) (us.drop i)|vs,us,0,h=>by simpa using h|[],us,i+1,h=>by cases h;exact rfl|v::vs,us,i+1,h=>by obtain⟨u,b,rfl,_,a⟩:=h;simpa using VRs.drop i a
theorem VRs.take:∀{vs:List PV}{us:List Value}(i:Nat),VRs w O φ α vs us→VRs w O φ α (vs.take i) (us.take i)|vs,us,0,h=>by rfl|[],us,i+1,h=>by cases h;exact rfl|v::vs,us,i+1,h=>by obtain⟨u,a,rfl,h2,b⟩:=h;exact⟨u,a.take i,by simp,h2,VRs.take i b⟩
theorem VRs.append:∀{vs b:List PV}{us a:List Value},VRs w O φ α vs us→VRs w O φ α b a→VRs w O φ α (vs++b) (us++a)|[],b,us,a,h,h2=>by cases h;exact h2|v::vs,b,us,a,h,k=>by obtain⟨u,c,rfl,h2,d⟩:=h;exact⟨u,c++a,by simp,h2,VRs.append d k⟩
end
end
section
open Go.RowKit Go.Lk
def lk{β:Type}:List (Nat×β)→Nat→Option β|[],_=>none|(s,v)::r,t=>match yz s t with|true=>some v|false=>lk r t
def wt{α:Type}:Option α→(α→Prop)→Prop|some a,k=>k a|none,_=>False
def Ex{α:Type}(z:Option α)(k:α→Prop):Prop:=∃a,z=some a∧k a
structure Arr where
 mine:Bool
 T:Nat
 n:Nat
 l:List (List D)
structure Bx where
 T:Nat
 cs:List PV
structure St where L:List (Nat×PV)B:List (Nat×Bx)A:List (Nat×Arr)D:Option (Nat×Nat×Nat):=none
def Bx.wc(e:Bx)(cs:List PV):Bx:=match e with|⟨T,_⟩=>⟨T,cs⟩
def Arr.wl(e:Arr)(l:List (List D)):Arr:=match e with|⟨m,T,n,_⟩=>⟨m,T,n,l⟩
def Arr.sl(e:Arr):PV:=match e with|⟨_,T,n,l⟩=>.sl T n l
def zue:PV→(PV→Prop)→Prop|.agg cs,k=>go cs fun cs=>k (.agg cs)|.tup cs,k=>go cs fun cs=>k (.tup cs)|.iface T v,k=>zue v fun v=>k (.iface T v)|.fn f as_ cs,k=>go as_ fun as_=>go cs fun cs=>k (.fn f as_ cs)|.int a n,k=>k (.int a n)|.bool b,k=>k (.bool b)|.str s,k=>k (.str s)|.sl T n l,k=>k (.sl T n l)|.nil,k=>k .nil|.ref a,k=>k (.ref a)|.ptr b i,k=>k (.ptr b i)|.zai cs i,k=>k (.zai cs i)|.zd7 a m i j,k=>k (.zd7 a m i j)|.zfr,k=>k .zfr|.zg7,k=>k .zg7|.undef,k=>k .undef|.gone,k=>k .gone|.z1e b,k=>k (.z1e b)|.err b,k=>k (.err b)|.mp b,k=>k (.mp b)|.md c,k=>k (.md c)
where go:List PV→(List PV→Prop)→Prop|[],k=>k []|v::vs,k=>zue v fun v=>go vs fun vs=>k (v::vs)
mutual
theorem zhh:∀ (v:PV) (k:PV→Prop),zue v k=k v
 | .agg cs,k=>by rw [zue,zbs cs]
 | .tup cs,k=>by rw [zue,zbs cs]
 | .iface T v,k=>by rw [zue,zhh v]
 | .fn f as_ cs,k=>by rw [zue,zbs as_,zbs cs]
 | .int _ _,_ | .bool _,_ | .str _,_ | .sl _ _ _,_ | .nil,_ | .ref _,_ | .ptr _ _,_ | .zai _ _,_ | .zd7 _ _ _ _,_ | .zfr,_ | .zg7,_ | .undef,_ | .gone,_ | .z1e _,_ | .err _,_ | .mp _,_ | .md _,_=>rfl
theorem zbs:∀ (l:List PV) (k:List PV→Prop),zue.go l k=k l
 | [],_=>rfl
 | v::vs,k=>by rw [zue.go,zhh v,zbs vs]
end
def frL:List (Nat×PV)→(List (Nat×PV)→Prop)→Prop|[],k=>k []|(d,v)::r,k=>zue v fun v=>frL r fun r=>k ((d,v)::r)
def frB:List (Nat×Bx)→(List (Nat×Bx)→Prop)→Prop|[],k=>k []|(b,⟨T,cs⟩)::r,k=>zue.go cs fun cs=>frB r fun r=>k ((b,⟨T,cs⟩)::r)
def frA:List (Nat×Arr)→(List (Nat×Arr)→Prop)→Prop|[],k=>k []|(a,⟨true,T,n,l⟩)::r,k=>frA r fun r=>k ((a,⟨true,T,n,l⟩)::r)|(a,⟨false,T,n,l⟩)::r,k=>frA r fun r=>k ((a,⟨false,T,n,l⟩)::r)
theorem zz047:∀(l:List (Nat×PV))(k:List (Nat×PV)→Prop),frL l k=k l|[],_=>rfl|(d,v)::r,k=>by rw[frL,zhh,zz047 r]
theorem zz046:∀(l:List (Nat×Bx))(k:List (Nat×Bx)→Prop),frB l k=k l|[],_=>rfl|(d,⟨T,cs⟩)::r,k=>by rw[frB,zbs,zz046 r]
theorem zso:∀(l:List (Nat×Arr))(k:List (Nat×Arr)→Prop),frA l k=k l|[],_=>rfl|(d,⟨true,T,n,l⟩)::r,k=>by rw[frA,zso r]|(d,⟨false,T,n,l⟩)::r,k=>by rw[frA,zso r]
def St.frc(σ:St)(k:St→Prop):Prop:=match σ with|⟨L,B,A,none⟩=>frL L fun L=>frB B fun B=>frA A fun A=>k ⟨L,B,A,none⟩|⟨L,B,A,some (a,b,c)⟩=>frL L fun L=>frB B fun B=>frA A fun A=>k ⟨L,B,A,some (a,b,c)⟩
theorem St.z6k{σ:St}{k:St→Prop}:σ.frc k=k σ:=by obtain⟨L,B,A,_|⟨a,b,c⟩⟩:=σ<;>simp only[St.frc,zz047,zz046,zso]
structure CIn where
 vs:List PV
 B:List Bx
 A:List (Nat×Nat×List (List D))
inductive z3y where|ok(vs:List PV)(B:List Bx)(A:List (Option (Nat×Nat×List (List D))))|okI(vs:List PV)(B:List Bx)(A:List (Option (Nat×Nat×List (List D))))      --the arrays stay where they were
 |pan(v:PV)|zjk(v:PV)(B:List Bx)
inductive Place where|slot(t:Nat)(leaf:Option Nat)|cell(b j:Nat)
structure Cut where
 L:List Nat:=[]B:List Nat:=[]A:List Nat:=[]H:List (Place×Nat×Nat×Nat):=[]N:List (Place×Nat×Nat):=[]      --nil slices that are data
 I:List Nat:=[]
structure Drw where
 anc:List Nat
 E:List Nat
 qs:List Nat
 g:Gt
 c:Option Cut:=none
 cs:List (Nat×Cut):=[]           --cuts behind acting operations
 lin:Option (List (Nat×Nat×Cut)):=none
structure Ann where
 drw:List (Nat×Drw):=[]seq:List (Nat×Cut):=[]          --by the first region of what follows
 loop:List (Nat×Cut):=[]         --by the loop's first region
 reg:List (Nat×List (Nat×Nat×Cut)):=[]   --cuts within a region:so many operations,then so many under a cut
 own:List Nat:=[]                  --slots of literals that are owned
 ro:List Nat:=[]                   --slots of boxes that are only read:data
 fin:List (Place×Nat×Nat×Nat):=[]nb:Nat:=0                         --boxes handed in
 finB:List Place:=[]
structure Tb where
 und:List (Nat×TypeDesc):=[]shp:List (Nat×Bool×Nat):=[]fld:List (Nat×List (Nat×Bool×Nat)):=[]zer:List (Nat×Value):=[]inf:List (Nat×Value×Nat×Nat):=[]nif:List Nat:=[]                  --types that are no interfaces
 ifc:List Nat:=[]                  --interface types
 bld:List (Nat×Nat):=[]          --strings.Builder,its bytes' type
 ars:List (Nat×Nat):=[]          --arrays of strings,how many
 sts:List (Nat×Nat):=[]          --structs of strings,how many
 glb:List (Nat×Nat×Nat×List (List D)):=[]
def Tb.eqn(tb:Tb)(t:Nat):Option Nat:=match lk tb.ars t with|some n=>some n|none=>lk tb.sts t
def isNil:Value→Bool|.slice none 0 0=>true|_=>false
def zvv:Value→PV|.int k n=>.int k n|.bool b=>.bool b|.string s=>.str s.data.toList|.slice none 0 0=>.nil|.nilIface=>.zfr|.pointer none=>.zg7|.nilFunc=>.fn NF [] []|_=>.undef
def ofV:Value→PV|.agg cs=>.agg (cs.toList.map zvv)|v=>zvv v
@[reducible]def dfn(n:Nat):D:=.fn n
def ofD:D→PV|.int k n=>.int k n|.bool b=>.bool b|.str s=>.str s|.sl T n l=>.sl T n l|.fn n=>.fn n [] []|.val _=>.undef
def ofDs(l:List D):List PV:=l.map ofD
def cellsOf:PV→List PV|.agg cs=>cs|v=>[v]
def z8c(g:Bool)(n:Nat)(cs:List PV):Option PV:=match g,cs with
 |true,cs=>match yz cs.length n with|true=>some (.agg cs)|false=>none
 |false,[v]=>some v|false,_=>none
def zvw:PV→Bool|.agg _=>false|.tup _=>false|.undef=>false|.gone=>false|.md _=>false|_=>true
def z5t:PV→Bool|.undef=>true|.gone=>true|.md _=>true|_=>false
def St.ev(σ:St):Operand→Option PV
 |.tmp t=>lk σ.L t|.const v=>some (ofV v)|.func f=>match yz f NF with|true=>none|false=>some (.fn f [] [])
 |.global _=>none
def St.evs(σ:St):List Operand→Option (List PV)|[]=>some []|x::xs=>match σ.ev x,σ.evs xs with|some v,some vs=>some (v::vs)|_,_=>none
def ikEq(a b:IntKind):Bool:=yz a.ctorIdx b.ctorIdx
def bop(td:TypeDesc)(op:BinOp)(u v:PV)(k:PV→Prop):Prop:=match u,v with
 |.int a p,.int b q=>match op with
  |.shl=>Ex (chk (decide (0≤q))) fun _=>k (.int a (z7r a p q))|.shr=>Ex (chk (decide (0≤q))) fun _=>k (.int a (zir a p q))|.quo=>match ikEq a b with|true=>Ex (chk (decide (q≠0))) fun _=>k (.int a (a.wrap (p.tdiv q)))|false=>False
  |.rem=>match ikEq a b with|true=>Ex (chk (decide (q≠0))) fun _=>k (.int a (p.tmod q))|false=>False
  |op=>match ikEq a b with|true=>wt (ibin op a p q) fun x=>k (zvv x)|false=>False
 |.str p,.str q=>match op with|.add=>Ex (cat p q) fun s=>k (.str s)|op=>wt (sbin op p q) fun x=>k (zvv x)
 |.bool p,.bool q=>match td,op with|.bool,.eql=>k (.bool (p==q))|.bool,.neq=>k (.bool ! p==q)|_,_=>False
 |.ptr _ _,.zg7=>match td,op with|.pointer _,.eql=>k (.bool false)|.pointer _,.neq=>k (.bool true)|_,_=>False
 |.zg7,.zg7=>match td,op with|.pointer _,.eql=>k (.bool true)|.pointer _,.neq=>k (.bool false)|_,_=>False
 |_,_=>False
def eqSs:List PV→List PV→Option Bool
 |[],[]=>some true|.str a::r,.str b::s=>match eqSs r s with|some c=>some (decide (a=b)&&c)|none=>none
 |_,_=>none
def arrW(n:Nat)(op:BinOp)(u v:PV)(k:PV→Prop):Prop:=match u,v with
 |.agg us,.agg vs=>wt (eqSs us vs) fun b=>match yz us.length n,op with|true,.eql=>k (.bool b)|true,.neq=>k (.bool !b)|_,_=>False
 |_,_=>False
def strP:PV→Bool|.str _=>true|_=>false
def zd0:Nat→List Nat→Bool|_,[]=>true|i,j::r=>yz i j&&zd0 (i+1) r
def zz04b:Operand→Bool|.const .nilFunc=>true|_=>false
def nilF(td:TypeDesc)(op:BinOp)(u:PV)(k:PV→Prop):Prop:=match td,u with
 |.func _ _ _,.fn f _ _=>match op with|.eql=>k (.bool (yz f NF))|.neq=>k (.bool !yz f NF)|_=>False
 |_,_=>False
def uop(op:UnOp)(u:PV)(k:PV→Prop):Prop:=match op,u with|.not,.bool b=>k (.bool !b)|op,.int a p=>wt (iun op a p) fun x=>k (zvv x)|_,_=>False
def lkU(A:List (Nat×Arr))(a:Nat):Option Arr:=match lk A a with
 |some e=>match yab e.T 1000000 with|true=>some e|false=>none
 |none=>none
theorem zsy{A:List (Nat×Arr)}{a:Nat}{e:Arr}(h:lkU A a=some e):lk A a=some e∧e.T<1000000:=by grind[lkU,yac]
def lkO(A:List (Nat×Arr))(a:Nat):Option Arr:=match lk A a with
 |some e=>match yab e.T 1000000||yaa 2000000 e.T with|true=>some e|false=>none
 |none=>none
theorem z8i{A:List (Nat×Arr)}{a:Nat}{e:Arr}(h:lkO A a=some e):lk A a=some e∧(e.T<1000000∨2000000≤e.T):=by
 unfold lkO at h;split at h
 ·rename_i e' b;split at h;·simp_all
  ·cases h
 ·cases h
def lkM(A:List (Nat×Arr))(a:Nat):Option Arr:=match lk A a with
 |some e=>match yaa 2000000 e.T with|true=>some e|false=>none
 |none=>none
theorem zsx{A:List (Nat×Arr)}{a:Nat}{e:Arr}(h:lkM A a=some e):lk A a=some e∧2000000≤e.T:=by
 unfold lkM at h;split at h
 ·rename_i e' b;split at h;·simp_all
  ·cases h
 ·cases h
def lkB(B:List (Nat×Bx))(b:Nat):Option Bx:=match lk B b with
 |some e=>match yab e.T 1000000 with|true=>some e|false=>none
 |none=>none
theorem z9y{B:List (Nat×Bx)}{b:Nat}{e:Bx}(h:lkB B b=some e):lk B b=some e∧e.T<1000000:=by grind[lkB,yac]
def kyOf:TypeDesc→Option (Option IntKind)|.int k=>some (some k)|.string=>some none|_=>none
def toKey:Option IntKind→PV→Option D
 |some k,.int a n=>match ikEq k a with|true=>some (.int a n)|false=>none
 |none,.str s=>some (.str s)|_,_=>none
def kyEq:Option IntKind→Option IntKind→Bool|some k,some a=>ikEq k a|none,none=>true|_,_=>false
def bq:Bool→Bool→Bool|true,b=>b|false,b=>!b
def ze0(σ:St)(ky:Option IntKind)(g:Bool):PV→Option (Nat×List (List D))
 |.mp b=>match lk σ.B b with
  |some e=>match e.cs with
   |[.md (.cont a c l)]=>match yz e.T 1000000&&kyEq ky a&&bq g c with|true=>some (b,l)|false=>none
   |_=>none
  |none=>none
 |_=>none
def aggQ(g:Bool)(v:PV):Bool:=match g,v with|true,.agg _=>true|false,v=>zvw v|true,_=>false
structure NxW(rem:List (List D))(k0:Prop)(k1:List D→List (List D)→Prop):Prop where
 stop:rem=[]→k0
 more:∀(i:Nat)(x:List D),rem[i]?=some x→k1 x (rem.eraseIdx i)
def encS(n:Int):List UInt8:=(Utf8.encode n).data.toList
def lenD(l:List (List D)):Option Int:=some (l.length:Int)
def lenM(σ:St)(u:PV)(k:Int→Prop):Prop:=match u with
 |.mp b=>match lk σ.B b with
  |some e=>match e.cs with
   |[.md (.cont _ _ l)]=>match yz e.T 1000000 with|true=>Ex (lenD l) k|false=>False
   |_=>False
  |none=>False
 |_=>False
def lenW(td:TypeDesc)(σ:St)(u:PV)(k:Int→Prop):Prop:=match td,u with|.string,.str s=>k (s.length:Int)|.slice _,.sl _ _ l=>Ex (lenD l) k|.slice _,.nil=>k 0|.slice _,.ref a=>wt (lkO σ.A a) fun e=>Ex (lenD e.l) k|.map _ _,.mp b=>lenM σ (.mp b) k|_,_=>False
def loW(σ:St)(x:Option Operand)(k:Int→Prop):Prop:=match x with|none=>k 0|some y=>match σ.ev y with|some (.int _ n)=>k n|_=>False
def hiW(td:TypeDesc)(σ:St)(u:PV)(x:Option Operand)(k:Int→Prop):Prop:=match x with|none=>lenW td σ u k|some y=>match σ.ev y with|some (.int _ n)=>k n|_=>False
def loadP(σ:St)(g:Bool)(n:Nat):PV→Option PV
 |.ptr b off=>match lkB σ.B b with|some e=>z8c g n ((e.cs.drop off).take n)|none=>none
 |.zai cs off=>z8c g n (((ofDs cs).drop off).take n)|_=>none
def znv(σ:St)(g:Bool)(n:Nat)(u:PV)(k:PV→Prop):Prop:=match u with
 |.zd7 a m i off=>wt (lkO σ.A a) fun e=>match yz e.n m with|true=>Ex (ix e.l i) fun cs=>wt (z8c g n (((ofDs cs).drop off).take n)) k|false=>False
 |u=>wt (loadP σ g n u) k
def nilQ:PV→Option Bool|.zfr=>some true|.iface _ _=>some false|.err b=>some b|_=>none
def frcL:List PV→(List PV→Bool)→Bool|[],k=>k []|x::xs,k=>frcL xs fun ys=>k (x::ys)
def frcW:List PV→(List PV→Prop)→Prop|[],k=>k []|x::xs,k=>frcW xs fun ys=>k (x::ys)
theorem zla:∀(l:List PV)(k:List PV→Prop),frcW l k=k l|[],_=>rfl|x::xs,k=>by rw[frcW,zla xs]
theorem zx4:∀(l:List PV)(k:List PV→Bool),frcL l k=k l|[],_=>rfl|x::xs,k=>by rw[frcL,zx4 xs]
def zsk(fs:List (Nat×Bool×Nat)):List Nat→List PV→List PV→Bool
 |i::is,u::us,cs=>match fs[i]? with|some f=>yz (cellsOf u).length f.2.2&&yaa (f.1+f.2.2) cs.length&&! z5t u&&frcL (cs.take f.1++cellsOf u++cs.drop (f.1+f.2.2)) (zsk fs is us)|none=>false
 |_,_,_=>true
def zn9(fs:List (Nat×Bool×Nat))(cs:List PV):List Nat→List PV→List PV
 |i::is,u::us=>match fs[i]? with|some f=>zn9 fs (cs.take f.1++cellsOf u++cs.drop (f.1+f.2.2)) is us|none=>[]
 |_,_=>cs
def fillW(fs:List (Nat×Bool×Nat))(k:List PV→Prop):List Nat→List PV→List PV→Prop
 |i::is,u::us,cs=>match fs[i]? with|some f=>frcW (cs.take f.1++cellsOf u++cs.drop (f.1+f.2.2)) (fillW fs k is us)|none=>k []
 |_,_,cs=>k cs
theorem zl6{fs:List (Nat×Bool×Nat)}{k:List PV→Prop}:∀(is:List Nat)(us cs:List PV),fillW fs k is us cs=k (zn9 fs cs is us)
 |[],us,cs=>by cases us<;>rfl|i::is,[],cs=>rfl|i::is,u::us,cs=>by
  unfold fillW zn9;split;·rename_i f hf;rw[zla,zl6 is us]
  ·rfl
def maxI(p q:Int):Int:=if q>p then q else p
def minI(p q:Int):Int:=if q<p then q else p
def mmW(b:Bool)(u v:PV)(k:PV→Prop):Prop:=match u,v with
 |.int a p,.int c q=>match ikEq a c,b with|true,true=>k (.int a (maxI p q))|true,false=>k (.int a (minI p q))|false,_=>False
 |_,_=>False
def qop(tb:Tb)(σ:St)(op:Op)(k:PV→Prop):Prop:=match op with
 |.move x=>wt (σ.ev x) k|.assign x=>wt (σ.ev x) k|.pick c x y=>match σ.ev c with|some (.bool c)=>wt (σ.ev x) fun u=>wt (σ.ev y) fun v=>cond c (k u) (k v)|_=>False
 |.binOp op t x y _=>match tb.ifc.any (yz t)with
  |true=>match y with
   |.const .nilIface=>wt ((σ.ev x).bind nilQ) fun b=>match op with|.eql=>k (.bool b)|.neq=>k (.bool !b)|_=>False
   |_=>False
  |false=>match tb.eqn t with|some n=>wt (σ.ev x) fun u=>wt (σ.ev y) fun v=>arrW n op u v k|none=>wt (lk tb.und t) fun td=>wt (σ.ev x) fun u=>match zz04b y with|true=>nilF td op u k|false=>wt (σ.ev y) fun v=>bop td op u v k
 |.unOp op _ x=>wt (σ.ev x) fun u=>uop op u k|.convert s t x=>wt (σ.ev x) fun u=>match u,lk tb.und s,lk tb.und t with|.int _ n,some (.int _),some (.int kk)=>k (.int kk (kk.wrap n))|.str s,some .string,some .string=>k (.str s)|.int _ n,some (.int _),some .string=>k (.str (encS n))|_,_,_=>False
 |.makeInterface t x=>wt (σ.ev x) fun u=>match tb.nif.any (yz t)with|true=>k (.iface t u)|false=>False
 |.makeFunc (.func f) as_ cs=>match yz f NF with|true=>False|false=>wt (σ.evs as_.toList) fun us=>wt (σ.evs cs.toList) fun vs=>k (.fn f us vs)
 |.extract x i=>match σ.ev x with|some (.tup vs)=>wt vs[i]? k|_=>False
 |.nilCheck x=>wt (σ.ev x) fun u=>match u with|.ptr _ _=>k u|.zai _ _=>k u|.zd7 _ _ _ _=>k u|_=>False
 |.fieldAddr t x i=>wt ((lk tb.fld t).bind (·[i]?)) fun f=>wt (σ.ev x) fun u=>match u with|.ptr b off=>k (.ptr b (off+f.1))|.zai cs off=>k (.zai cs (off+f.1))|.zd7 a m j off=>k (.zd7 a m j (off+f.1))|_=>False
 |.field t x i=>wt ((lk tb.fld t).bind (·[i]?)) fun f=>match σ.ev x with|some (.agg cs)=>wt (z8c f.2.1 f.2.2 ((cs.drop f.1).take f.2.2)) k|_=>False
 |.load t x=>wt (lk tb.shp t) fun s=>wt (σ.ev x) fun u=>znv σ s.1 s.2 u k|.index t x y=>match lk tb.und t,σ.ev x,σ.ev y with|some .string,some (.str s),some (.int _ i)=>Ex (ix s i) fun c=>k (.int .u8 (c.toNat:Int))|_,_,_=>False
 |.indexAddr t x y=>match x with
  |.global g=>wt (lk tb.glb g) fun e=>match lk tb.und t,σ.ev y with
   |some (.array len T),some (.int _ i)=>wt (lk tb.shp T) fun s=>match yz s.2 e.1&&yz len e.2.1 with|true=>Ex (ix e.2.2 i) fun cs=>k (.zai cs 0)|false=>False
   |_,_=>False
  |x=>wt (σ.ev x) fun u=>match lk tb.und t with
   |some (.slice T)=>wt (lk tb.shp T) fun s=>match u,σ.ev y with
    |.sl _ n l,some (.int _ i)=>match yz s.2 n with|true=>Ex (ix l i) fun cs=>k (.zai cs 0)|false=>False
    |.ref a,some (.int _ i)=>wt (lkO σ.A a) fun e=>match yz s.2 e.n with|true=>Ex (ix e.l i) fun _=>k (.zd7 a e.n i 0)|false=>False
    |_,_=>False
   |_=>False
 |.slice t x h d none=>wt (σ.ev x) fun u=>wt (lk tb.und t) fun td=>loW σ h fun a=>hiW td σ u d fun b=>match td,u with
  |.string,.str s=>Ex (sub s a b) fun r=>k (.str r)|.slice e,.sl T m l=>wt (lk tb.shp e) fun s=>match yz e T&&yz s.2 m with|true=>Ex (sub l a b) fun r=>k (.sl T m r)|false=>False
  |_,_=>False
 |.call c=>match c.callee,c.args.toList,c.argTypes.toList with|.builtin .len,[x],[t]=>wt (lk tb.und t) fun td=>wt (σ.ev x) fun u=>lenW td σ u fun n=>k (.int .i64 n)|.builtin .max,[x,y],_=>wt (σ.ev x) fun u=>wt (σ.ev y) fun v=>mmW true u v k|.builtin .min,[x,y],_=>wt (σ.ev x) fun u=>wt (σ.ev y) fun v=>mmW false u v k|_,_,_=>False
 |.typeAssert x _ t true=>wt (lk tb.zer t) fun z=>match σ.ev x,tb.nif.any (yz t)with
  |some (.iface T u),true=>match yz T t with|true=>k (.tup [u,.bool true])|false=>k (.tup [ofV z,.bool false])
  |some .zfr,true=>k (.tup [ofV z,.bool false])|_,_=>False
 |.build t parts=>wt (σ.evs (parts.toList.map (·.2))) fun us=>match lk tb.ars t with
  |some n=>match yz us.length n&&zd0 0 (parts.toList.map (·.1))&&us.all strP with|true=>k (.agg us)|false=>False
  |none=>wt (lk tb.zer t) fun z=>wt (lk tb.fld t) fun fs=>frcW (cellsOf (ofV z)) fun cs=>match zsk fs (parts.toList.map (·.1)) us cs with|true=>fillW fs (fun ds=>k (.agg ds)) (parts.toList.map (·.1)) us cs|false=>False
 |.slice t x none (some d) (some o)=>wt (σ.ev x) fun u=>match lk tb.und t,u,σ.ev d,σ.ev o with
  |some (.slice e),.sl T m l,some (.int _ b),some (.int _ c)=>wt (lk tb.shp e) fun s=>match yz e T&&yz s.2 m with|true=>Ex (lenD l) fun n=>Ex (chk (decide (b≤c)&&decide (c≤n))) fun _=>Ex (sub l 0 b) fun r=>k (.sl T m r)|false=>False
  |_,_,_,_=>False
 |_=>False
def St.frcIf(σ:St)(k:St→Prop):List Nat→List Nat→List Nat→Prop|[],[],[]=>k σ|_,_,_=>σ.frc k
theorem St.zbr{σ:St}{k:St→Prop}{a b c:List Nat}:σ.frcIf k a b c=k σ:=by grind[St.frcIf,St.z6k]
def spn{β:Type}:List β→(List β→Prop)→Prop|[],k=>k []|x::r,k=>spn r fun r=>k (x::r)
theorem zzv{β:Type}:∀(l:List β)(k:List β→Prop),spn l k=k l|[],_=>rfl|x::r,k=>by rw[spn,zzv r]
def spB:List (Nat×Bx)→(List (Nat×Bx)→Prop)→Prop|[],k=>k []|(b,⟨T,cs⟩)::r,k=>spn cs fun cs=>spB r fun r=>k ((b,⟨T,cs⟩)::r)
theorem zz052:∀(l:List (Nat×Bx))(k:List (Nat×Bx)→Prop),spB l k=k l|[],_=>rfl|(d,⟨T,cs⟩)::r,k=>by rw[spB,zzv,zz052 r]
def spD(D:Option (Nat×Nat×Nat))(k:Option (Nat×Nat×Nat)→Prop):Prop:=match D with|none=>k none|some (a,b,c)=>k (some (a,b,c))
theorem zz0bc{D:Option (Nat×Nat×Nat)}{k:Option (Nat×Nat×Nat)→Prop}:spD D k=k D:=by obtain _|⟨a,b,c⟩:=D<;>rfl
def St.frs(σ:St)(k:St→Prop):Prop:=match σ with|⟨[],B,A,D⟩=>spB B fun B=>frA A fun A=>spD D fun D=>k ⟨[],B,A,D⟩|⟨(d,v)::r,B,A,D⟩=>zue v fun v=>spn r fun r=>spB B fun B=>frA A fun A=>spD D fun D=>k ⟨(d,v)::r,B,A,D⟩
theorem St.zz048{σ:St}{k:St→Prop}:σ.frs k=k σ:=by obtain⟨_|⟨⟨d,v⟩,r⟩,B,A,D⟩:=σ<;>simp only[St.frs,zhh,zzv,zz052,zso,zz0bc]
def St.go(σ:St)(k:St→Prop):Prop:=match σ with|⟨[],B,A,D⟩=>k ⟨[],B,A,D⟩|⟨(d,v)::r,B,A,D⟩=>zue v fun v=>k ⟨(d,v)::r,B,A,D⟩
theorem St.go_eq{σ:St}{k:St→Prop}:σ.go k=k σ:=by unfold St.go;grind[zhh]
def nthO{β:Type}:List β→Nat→Option β|[],_=>none|x::_,0=>some x|_::r,n+1=>nthO r n
theorem zia{β:Type}:∀(l:List β)(n:Nat),nthO l n=l[n]?|[],n=>by simp[nthO]|x::r,0=>rfl|x::r,n+1=>by simp[nthO,zia r n]
def zyp(ops:Array Oper)(q:Nat):Option Oper:=nthO ops.toList q
theorem zb9{ops:Array Oper}{q:Nat}:zyp ops q=ops[q]?:=by simp[zyp,zia]
def zci(bs as_:List Nat):PV→PV
 |.ref a=>match as_[a]? with|some x=>.ref x|none=>.undef
 |.ptr b off=>match bs[b]? with|some x=>.ptr x off|none=>.undef
 |.z1e b=>match bs[b]? with|some x=>.z1e x|none=>.undef
 |.mp b=>match bs[b]? with|some x=>.mp x|none=>.undef
 |.agg cs=>.agg (go cs)|.tup cs=>.tup (go cs)|.iface T v=>.iface T (zci bs as_ v)|.fn f a c=>.fn f (go a) (go c)|.zd7 _ _ _ _=>.undef|v=>v
where go:List PV→List PV|[]=>[]|v::vs=>zci bs as_ v::go vs
def nrm(σ:St):PV→PV→PV
 |.sl _ _ _,.ref a=>match lkU σ.A a with|some e=>e.sl|none=>.undef
 |.sl T n _,.nil=>.sl T n []|.err _,.zfr=>.err true|.err _,.iface _ _=>.err false|.agg b,.agg vs=>.agg (go b vs)|.tup b,.tup vs=>.tup (go b vs)|_,v=>v
where go:List PV→List PV→List PV|w::b,v::vs=>nrm σ w v::go b vs|_,vs=>vs
def zao:PV→PV→List Nat|.sl _ _ _,.ref a=>[a]|.agg b,.agg vs=>go b vs|.tup b,.tup vs=>go b vs|_,_=>[]
where go:List PV→List PV→List Nat|w::b,v::vs=>zao w v++go b vs|_,_=>[]
def zct:PV→Bool|.sl _ _ _=>true|.zai _ _=>true|.md _=>true|.agg cs=>go cs|.tup cs=>go cs|.iface _ v=>zct v|.fn _ a c=>go a||go c|_=>false
where go:List PV→Bool|[]=>false|v::vs=>zct v||go vs
def zd8(a:Nat)(e:Arr):PV→PV
 |.ref x=>match yz x a with|true=>e.sl|false=>.ref x
 |.zd7 x m i off=>match yz x a with|true=>.undef|false=>.zd7 x m i off
 |.agg cs=>.agg (go cs)|.tup cs=>.tup (go cs)|.iface T v=>.iface T (zd8 a e v)|.fn f s c=>.fn f (go s) (go c)|v=>v
where go:List PV→List PV|[]=>[]|v::vs=>zd8 a e v::go vs
def zan{β:Type}(a:Nat):List (Nat×β)→List (Nat×β)|[]=>[]|(s,v)::r=>match yz s a with|true=>zan a r|false=>(s,v)::zan a r
def zgn{β:Type}(a:Nat)(x:β):List (Nat×β)→List (Nat×β)|[]=>[]|(s,v)::r=>match yz s a with|true=>(s,x)::r|false=>(s,v)::zgn a x r
def St.mapV(σ:St)(f:PV→PV):St:=match σ with|⟨L,B,A,D⟩=>⟨L.map fun p=>match p with|(d,v)=>(d,f v),B.map fun p=>match p with|(b,⟨T,cs⟩)=>(b,⟨T,cs.map f⟩),A,D⟩
def St.freeze(σ:St):List Nat→Option St|[]=>some σ|a::as_=>match lk σ.A a with
  |some e=>match e.mine&&yab e.T 1000000 with|true=>({σ.mapV (zd8 a e)with A:=zan a σ.A}:St).freeze as_|false=>none
  |none=>σ.freeze as_
def St.zaa(σ:St)(b:Nat):Bool:=yaa 1000 b&&(lk σ.B b).isNone&&σ.L.all (fun p=>noK (some b) none p.2)&&σ.B.all fun p=>zed (some b) none p.2.cs
def St.z7y(σ:St)(a:Nat):Bool:=(lk σ.A a).isNone&&σ.L.all (fun p=>noK none (some a) p.2)&&σ.B.all fun p=>zed none (some a) p.2.cs
def St.pu(σ:St)(d:Nat)(v:PV):St:=match σ with|⟨L,B,A,D⟩=>⟨(d,v)::L,B,A,D⟩
def St.put(σ:St)(d:Option Nat)(v:PV):St:=match d with|some d=>σ.pu d v|none=>σ
def toD(T:Option (Nat×Nat)):PV→Option D
 |.int k n=>some (.int k n)|.bool b=>some (.bool b)|.str s=>some (.str s)|.sl T n l=>some (.sl T n l)|.nil=>match T with|some (T,n)=>some (.sl T n [])|none=>none
 |.fn f [] []=>some (dfn f)|_=>none
def toDs(a:List (Option (Nat×Nat)))(cs:List PV):Option (List D):=match cs,a with
 |[],_=>some []|v::vs,c::a=>match toD c v,toDs a vs with|some d,some ds=>some (d::ds)|_,_=>none
 |v::vs,[]=>match toD none v,toDs [] vs with|some d,some ds=>some (d::ds)|_,_=>none
def elsD(a:List (Option (Nat×Nat))):List PV→Option (List (List D))|[]=>some []|v::vs=>match toDs a (cellsOf v),elsD a vs with|some d,some ds=>some (d::ds)|_,_=>none
def ze6:PV→List Nat|.ref a=>[a]|.agg cs=>go cs|.tup cs=>go cs|.iface _ v=>ze6 v|_=>[]
where go:List PV→List Nat|[]=>[]|v::vs=>ze6 v++go vs
def dby:List (List D)→Option (List UInt8)
 |[]=>some []|[.int .u8 n]::r=>match dby r with|some s=>some (UInt8.ofNat n.toNat::s)|none=>none
 |_=>none
def zvq(s:List UInt8):List (List D):=(unb s).map (eI .u8)
def zb2{β:Type}(ks:List Nat)(l:List (Nat×β)):List (Nat×β):=match ks with|[]=>[]|x::r=>match lk l x with|some v=>(x,v)::zb2 r l|none=>zb2 r l
def zy3:Option Nat→PV→Option PV|none,v=>some v|some j,.agg cs=>cs[j]?|_,_=>none
def zz07y:Option Nat→PV→PV→PV|none,_,x=>x|some j,.agg cs,x=>.agg (cs.set j x)|_,v,_=>v
def St.at(σ:St):Place→Option PV
 |.slot t j=>match lk σ.L t with|some v=>zy3 j v|none=>none
 |.cell b j=>match lk σ.B b with|some e=>e.cs[j]?|none=>none
def St.set(σ:St)(x:PV):Place→St
 |.slot t j=>match lk σ.L t with|some v=>{σ with L:=zgn t (zz07y j v x) σ.L}|none=>σ
 |.cell b j=>match lk σ.B b with|some e=>{σ with B:=zgn b (e.wc (e.cs.set j x)) σ.B}|none=>σ
def St.home(σ:St):List (Place×Nat×Nat×Nat)→Option St|[]=>some σ|(p,a,T,n)::r=>match σ.at p with
  |some .nil=>match σ.z7y a with|true=>({σ.set (.ref a) p with A:=(a,⟨true,T,n,[]⟩)::σ.A}:St).home r|false=>none
  |some (.ref x)=>match yz x a with|true=>σ.home r|false=>match lk σ.A x,σ.z7y a with|some e,true=>({σ.set (.ref a) p with A:=(a,e)::zan x σ.A}:St).home r|_,_=>none
  |_=>none
def St.nilD(σ:St):List (Place×Nat×Nat)→Option St|[]=>some σ|(p,T,n)::r=>match σ.at p with|some .nil=>(σ.set (.sl T n []) p).nilD r|some (.sl _ _ _)=>σ.nilD r|_=>none
def St.zz6(σ:St):List (Place×Nat×Nat)→List Nat|[]=>[]|(p,_,_)::r=>match σ.at p with|some (.ref a)=>a::σ.zz6 r|_=>σ.zz6 r
def St.cut0(σ:St)(c:Cut):Option St:=match({σ with L:=zb2 c.L σ.L,B:=zb2 c.B σ.B}:St).home c.H with
 |some s=>match s.nilD c.N with|some s=>some {s with A:=zb2 c.A s.A}|none=>none
 |none=>none
def St.itN(σ:St):List Nat→St|[]=>σ|b::r=>match σ.at (.cell b 0)with|some (.md (.it ky g _ rem))=>(σ.set (.md (.it ky g none rem)) (.cell b 0)).itN r|_=>σ.itN r
def St.cut(σ:St)(c:Cut):Option St:=match σ.freeze (σ.zz6 c.N)with|some s=>(s.itN c.I).cut0 c|none=>none
def St.zc8(σ:St)(c:Cut)(k:St→Prop):Prop:=wt (σ.cut c) fun s=>s.frc k
theorem z8y{σ:St}{c:Cut}{k:St→Prop}(h:σ.zc8 c k):∃s,σ.cut c=some s∧k s:=by unfold St.zc8 at h;cases e:σ.cut c with|none=>rw[e]at h;exact h.elim|some s=>rw[e]at h;exact⟨s,rfl,St.z6k.mp h⟩
structure Ov where L:List (Nat×PV)B:List (Nat×Bx)A:List (Nat×Arr)
def ovk{β:Type}(n o:List (Nat×β)):List Nat→List (Nat×β)|[]=>[]|x::r=>match lk n x with|some v=>(x,v)::ovk n o r|none=>match lk o x with|some v=>(x,v)::ovk n o r|none=>ovk n o r
def ovS(σ:St)(c:Cut)(v:Ov):St:=⟨ovk v.L σ.L c.L,ovk v.B σ.B c.B,ovk v.A σ.A c.A,σ.D⟩
def St.ub(σ:St)(t:Nat)(x:Bool):St:={σ with L:=zgn t (.bool x) σ.L}
def apL(tb:Tb)(t a:Nat)(inf:Value×Nat×Nat)(v:PV):Option (List (List D)):=match v with
 |.sl _ n l=>match yz t a&&yz n inf.2.1 with|true=>some l|false=>none
 |.nil=>match yz t a with|true=>some []|false=>none
 |.str s=>match lk tb.und a,inf with|some .string,(.int .u8 0,1,1)=>some (zvq s)|_,_=>none
 |_=>none
section
variable(tb:Tb)(cty:List (Nat×List (Option (Nat×Nat))))(ann:Ann)(con:Nat→CIn→z3y→Prop)
def zaq(σ:St)(bs as_:List Nat):List Nat→List Bx→Prop|b::ks,e::a=>(match lk σ.B b with|some x=>x.T=e.T∧nrm.go {σ with A:=[]} e.cs x.cs=zci.go bs as_ e.cs|none=>False)∧zaq σ bs as_ ks a|_,[]=>True|[],_::_=>False
def zgt(σ:St):List Nat→List (Nat×Nat×List (List D))→Prop|a::ks,e::b=>(match lk σ.A a with|some x=>x.T=e.1∧x.n=e.2.1∧x.l=e.2.2|none=>False)∧zgt σ ks b|_,[]=>True|[],_::_=>False
def zae:List Nat→Bool|[]=>true|x::r=>! r.any (yz x)&&zae r
def inR(nb d:Nat):PV→Bool|.ref a=>yab a d|.ptr b _=>yab b nb|.z1e b=>yab b nb|.mp b=>yab b nb|.zd7 _ _ _ _=>false|.agg cs=>go cs|.tup cs=>go cs|.iface _ v=>inR nb d v|.fn _ a c=>go a&&go c|_=>true
where go:List PV→Bool|[]=>true|v::vs=>inR nb d v&&go vs
def z5n{β:Type}:List Nat→List (Nat×β)→List (Nat×β)|[],l=>l|a::as_,l=>z5n as_ (zan a l)
def zipA(m:Bool):List Nat→List (Option (Nat×Nat×List (List D)))→List (Nat×Arr)|a::ks,some (T,n,l)::b=>(a,⟨m,T,n,l⟩)::zipA m ks b|_::ks,none::b=>zipA m ks b|_,_=>[]
def zipB(bs as_:List Nat):List Nat→List Bx→List (Nat×Bx)|b::ks,e::a=>(b,e.wc (zci.go bs as_ e.cs))::zipB bs as_ ks a|_,_=>[]
def retV:List PV→PV|[v]=>v|vs=>.tup vs
def z9f(σ:St):List Nat→Bool|[]=>true|a::as_=>(match lk σ.A a with|some e=>e.mine|none=>false)&&z9f σ as_
def zjw(σ:St)(bs as_ b:List Nat)(i:CIn):Bool:=zae bs&&zae as_&&yaa i.B.length bs.length&&yz i.A.length as_.length&&inR.go i.B.length i.A.length i.vs&&i.B.all (fun e=>inR.go i.B.length i.A.length e.cs)&&b.all fun a=>(lk σ.A a).isSome&&! as_.any (yz a)
def zo4(σ:St)(bs as_':List Nat)(nb:Nat)(vs:List PV)(B:List Bx)(A:List (Option (Nat×Nat×List (List D)))):Bool:=zae as_'&&yz B.length bs.length&&yz A.length as_'.length&&inR.go B.length A.length vs&&B.all (fun e=>inR.go B.length A.length e.cs)&&as_'.all σ.z7y&&(bs.drop nb).all σ.zaa
def zdz(vs:List PV)(B:List Bx)(A:List (Option (Nat×Nat×List (List D)))):Bool:=zct.go vs||B.any (fun e=>zct.go e.cs)||A.any fun e=>e.isSome
def frz(b:Bool)(σ:St)(a:List Nat):Option St:=match b with|true=>σ.freeze a|false=>some σ
def left(m:Bool)(bs as_ as_':List Nat)(B:List Bx)(A:List (Option (Nat×Nat×List (List D))))(σ:St):St:={σ with B:=zipB bs as_' bs B++z5n bs σ.B,A:=zipA m as_' A++z5n as_ σ.A}
def St.lost(σ:St)(bs as_:List Nat):St:={σ with B:=z5n bs σ.B,A:=z5n as_ σ.A}
def zg0:List Nat→List Nat→List (Nat×Arr)→List (Nat×Arr)
 |a::as_,b::as_',A=>match lk A b with|some e=>zg0 as_ as_' ((a,e)::zan b A)|none=>zg0 as_ as_' A
 |_,_,A=>A
def disj(as_ as_':List Nat):Bool:=as_.all fun a=>! as_'.any (yz a)
def St.zg0(σ:St)(as_ as_':List Nat):St:={σ with A:=Go.Pe.zg0 as_ as_' σ.A}
def zpi(bs as_ as_':List Nat)(i:CIn)(args:List PV)(σ:St)(k:PV→St→Prop)(kp:PV→St→Prop):z3y→Prop|.ok vs B A=>wt (frz (zdz vs B A) σ (zao.go i.vs args)) fun s=>zo4 {s with B:=z5n bs s.B,A:=z5n as_ s.A} bs as_' i.B.length vs B A=true∧(left (z9f σ as_) bs as_ as_' B A s).frcIf (fun s=>k (retV (zci.go bs as_' vs)) s) bs as_' (zao.go i.vs args)|.okI vs B A=>wt (frz (zdz vs B A) σ (zao.go i.vs args)) fun s=>(zo4 {s with B:=z5n bs s.B,A:=z5n as_ s.A} bs as_' i.B.length vs B A&&disj as_ as_')=true∧((left (z9f σ as_) bs as_ as_' B A s).zg0 as_ as_').frcIf (fun s=>k (retV (zci.go bs as_' vs)) s) bs as_' (zao.go i.vs args)|.pan v=>zct v=false∧kp v (σ.lost bs (as_++zao.go i.vs args))|.zjk v B=>wt (frz (zdz [] B []) σ (zao.go i.vs args)) fun s=>(zo4 {s with B:=z5n bs s.B,A:=z5n as_ s.A} bs as_' i.B.length [] B []&&! zct v)=true∧(left (z9f σ as_) bs as_ as_' B [] s).frc (kp v)
def zky(σ:St)(f:Nat)(args:List PV)(k:PV→St→Prop)(kp:PV→St→Prop):Prop:=∃(bs as_ as_':List Nat)(i:CIn)(o:z3y),con f i o∧nrm.go σ i.vs args=zci.go bs as_ i.vs∧zaq σ bs as_ bs i.B∧zgt σ as_ i.A∧zjw σ bs as_ (zao.go i.vs args) i=true∧zpi bs as_ as_' i args σ k kp o
def quiet:Op→Bool
 |.alloc _|.box _ _|.store _ _ _|.buildSlice _ _ _|.panic _|.makeSlice _ _ _|.defer _|.makeMap _ _|.mapUpdate _ _ _ _|.insert _ _ _ _|.lookup _ _ _ _|.range _ _|.next _ _|.entry _=>false|.call c=>match c.callee with|.builtin .len=>true|.builtin .max=>true|.builtin .min=>true|_=>false
 |.convert _ _ _=>true|_=>true
def St.born(σ:St)(key E:Nat)(k:St→Prop):Prop:=wt (σ.home [(.cell key 1,key,E,1)]) fun s=>match s.at (.cell key 0)with|some .zg7=>k (s.set (.z1e key) (.cell key 0))|_=>False
def actM(σ:St)(o:Oper)(k:St→Prop):Prop:=match o.op with
 |.makeMap t none=>wt o.dst fun d=>match lk tb.und t with
  |some (.map f a)=>wt ((lk tb.und f).bind kyOf) fun ky=>wt (lk tb.shp a) fun s=>match σ.zaa (d+1000)with|true=>k {σ with B:=(d+1000,⟨1000000,[.md (.cont ky s.1 [])]⟩)::σ.B,L:=(d,.mp (d+1000))::σ.L}|false=>False
  |_=>False
 |.mapUpdate t x y v=>match o.dst with
  |none=>match lk tb.und t with
   |some (.map f a)=>wt ((lk tb.und f).bind kyOf) fun ky=>wt (lk tb.shp a) fun s=>wt (σ.ev v) fun i=>wt (σ.freeze (ze6 i)) fun σ=>wt (σ.ev x) fun u=>wt (σ.ev y) fun h=>wt (σ.ev v) fun v=>wt (toKey ky h) fun kd=>wt (toDs (match lk cty a with|some c=>c|none=>[]) (cellsOf v)) fun j=>wt (ze0 σ ky s.1 u) fun m=>match aggQ s.1 v with|true=>Ex (some (zb6 m.2 kd j)) fun l=>k {σ with B:=zgn m.1 ⟨1000000,[.md (.cont ky s.1 l)]⟩ σ.B}|false=>False
   |_=>False
  |some _=>False
 |.insert t x y v=>match o.dst with
  |none=>match lk tb.und t with
   |some (.map f a)=>wt ((lk tb.und f).bind kyOf) fun ky=>wt (lk tb.shp a) fun s=>wt (σ.ev v) fun i=>wt (σ.freeze (ze6 i)) fun σ=>wt (σ.ev x) fun u=>wt (σ.ev y) fun h=>wt (σ.ev v) fun v=>wt (toKey ky h) fun kd=>wt (toDs (match lk cty a with|some c=>c|none=>[]) (cellsOf v)) fun j=>wt (ze0 σ ky s.1 u) fun m=>match aggQ s.1 v with|true=>Ex (some (zb6 m.2 kd j)) fun l=>k {σ with B:=zgn m.1 ⟨1000000,[.md (.cont ky s.1 l)]⟩ σ.B}|false=>False
   |_=>False
  |some _=>False
 |.lookup t x y c=>wt o.dst fun d=>match lk tb.und t with
  |some (.map f a)=>wt ((lk tb.und f).bind kyOf) fun ky=>wt (lk tb.shp a) fun s=>wt (lk tb.zer a) fun z=>wt (σ.ev x) fun u=>wt (σ.ev y) fun h=>wt (toKey ky h) fun kd=>wt (toDs (match lk cty a with|some c=>c|none=>[]) (cellsOf (ofV z))) fun n=>wt (ze0 σ ky s.1 u) fun m=>match aggQ s.1 (ofV z)with
   |true=>Ex (some (zlv m.2 kd n)) fun ds=>wt (z8c s.1 s.2 (ofDs ds)) fun r=>match c with|false=>k {σ with L:=(d,r)::σ.L}|true=>Ex (some (znw m.2 kd)) fun b=>k {σ with L:=(d,.tup [r,.bool b])::σ.L}
   |false=>False
  |_=>False
 |.range t x=>wt o.dst fun d=>match lk tb.und t with
  |some (.map f a)=>wt ((lk tb.und f).bind kyOf) fun ky=>wt (lk tb.shp a) fun s=>wt (σ.ev x) fun u=>wt (ze0 σ ky s.1 u) fun m=>match yaa 1000 m.1&&({σ with B:=zan m.1 σ.B}:St).zaa (d+1000)with|true=>k {σ with B:=(d+1000,⟨2000000,[.md (.it ky s.1 none m.2)]⟩)::zan m.1 σ.B,L:=(d,.ptr (d+1000) 0)::σ.L}|false=>False
  |_=>False
 |.next x false=>wt o.dst fun d=>wt (σ.ev x) fun u=>match u with
  |.ptr b off=>wt (lk σ.B b) fun e=>match e.cs with
   |[.md (.it ky g _ rem)]=>match yz off 0&&yz e.T 2000000 with|true=>NxW rem (k {σ with L:=(d,.tup [.bool false])::σ.L}) fun x r=>k {σ with B:=zgn b ⟨2000000,[.md (.it ky g (some x) r)]⟩ σ.B,L:=(d,.tup [.bool true,.undef,.undef])::σ.L}|false=>False
   |_=>False
  |_=>False
 |.entry x=>wt o.dst fun d=>wt (σ.ev x) fun u=>match u with
  |.ptr b off=>wt (lk σ.B b) fun e=>match e.cs with
   |[.md (.it _ g (some (kd::ds)) _)]=>match yz off 0&&yz e.T 2000000 with|true=>wt (z8c g ds.length (ofDs ds)) fun r=>k {σ with L:=(d,.tup [ofD kd,r])::σ.L}|false=>False
   |_=>False
  |_=>False
 |.call c=>match c.callee,c.args.toList,c.argTypes.toList with
  |.builtin .delete,[x,y],t::_=>match o.dst with
   |none=>match lk tb.und t with|some (.map f a)=>wt ((lk tb.und f).bind kyOf) fun ky=>wt (lk tb.shp a) fun s=>wt (σ.ev x) fun u=>wt (σ.ev y) fun h=>wt (toKey ky h) fun kd=>wt (ze0 σ ky s.1 u) fun m=>Ex (some (zjj m.2 kd)) fun l=>k {σ with B:=zgn m.1 ⟨1000000,[.md (.cont ky s.1 l)]⟩ σ.B}|_=>False
   |some _=>False
  |_,_,_=>False
 |_=>False
def roSt:Operand→Option Nat
 |.tmp d=>match ann.ro.any (yz d)with|true=>some d|false=>none
 |_=>none
def St.freeB(σ:St)(d b:Nat):Bool:=σ.L.all (fun p=>yz p.1 d||noK (some b) none p.2)&&(zan b σ.B).all fun p=>zed (some b) none p.2.cs
def stR(σ:St)(n T d:Nat)(y:Operand)(k:St→Prop):Prop:=wt (σ.ev y) fun a=>wt (σ.freeze (ze6 a)) fun σ=>wt (lk σ.L d) fun u=>wt (σ.ev y) fun v=>match u with
 |.ptr b off=>wt (lkB σ.B b) fun e=>wt (toDs (match lk cty T with|some c=>c|none=>[]) (cellsOf v)) fun ds=>match yz off 0&&yaa 1000 b&&yz e.cs.length n&&yz (cellsOf v).length n&&(cellsOf v).all zvw&&σ.freeB d b with|true=>k {σ with B:=zan b σ.B,L:=(d,.zai ds 0)::σ.L}|false=>False
 |_=>False
def stC(cs:List PV)(off n:Nat)(vs:List PV):Option (List PV):=match yz vs.length n&&yaa (off+n) cs.length&&vs.all zvw with|true=>some (cs.take off++vs++cs.drop (off+n))|false=>none
def act(σ:St)(o:Oper)(k:St→Prop)(kp:PV→St→Prop):Prop:=match o.op with
 |.alloc T=>wt o.dst fun d=>wt (lk tb.zer T) fun z=>match σ.zaa (d+1000)&&yab T 1000000 with
  |true=>match lk tb.bld T with|none=>k {σ with B:=(d+1000,⟨T,cellsOf (ofV z)⟩)::σ.B,L:=(d,.ptr (d+1000) 0)::σ.L}|some E=>({σ with B:=(d+1000,⟨T,cellsOf (ofV z)⟩)::σ.B,L:=(d,.ptr (d+1000) 0)::σ.L}:St).born (d+1000) E k
  |false=>False
 |.box T x=>wt o.dst fun d=>wt (σ.ev x) fun v=>match ann.ro.any (yz d)with
  |true=>wt (toDs (match lk cty T with|some c=>c|none=>[]) (cellsOf v)) fun ds=>match !z5t v with|true=>k {σ with L:=(d,.zai ds 0)::σ.L}|false=>False
  |false=>match σ.zaa (d+1000)&&! z5t v&&yab T 1000000 with|true=>k {σ with B:=(d+1000,⟨T,cellsOf v⟩)::σ.B,L:=(d,.ptr (d+1000) 0)::σ.L}|false=>False
 |.store T x y=>match o.dst with
  |none=>wt (lk tb.shp T) fun s=>(match roSt ann x with|some d=>stR cty σ s.2 T d y k|none=>wt (σ.ev x) fun u=>wt (σ.ev y) fun v=>match u with
  |.ptr b off=>wt (lkB σ.B b) fun e=>wt (stC e.cs off s.2 (cellsOf v)) fun cs=>k {σ with B:=zgn b (e.wc cs) σ.B}|.zd7 a m i 0=>wt (σ.freeze (ze6 v)) fun σ=>wt (lkO σ.A a) fun e=>wt (σ.ev y) fun v=>wt (toDs (match lk cty e.T with|some c=>c|none=>[]) (cellsOf v)) fun ds=>match yz ds.length e.n&&yz s.2 e.n&&yz e.n m&&(cellsOf v).all zvw with|true=>Ex (setx e.l i ds) fun l=>k {σ with A:=zgn a (e.wl l) σ.A}|false=>False
  |_=>False)|some _=>False
 |.buildSlice t n parts=>wt o.dst fun d=>match lk tb.und t with
  |some (.slice e)=>wt (σ.evs (parts.toList.map (·.2))) fun us=>wt (σ.freeze (ze6.go us)) fun σ=>wt (σ.evs (parts.toList.map (·.2))) fun us=>wt (lk tb.shp e) fun s=>wt (lk tb.zer e) fun z=>wt (elsD (match lk cty e with|some c=>c|none=>[]) us) fun ds=>match zd0 0 (parts.toList.map (·.1))&&yz us.length n&&yz z.cells.size s.2&&yaa (n*s.2) 16777216&&yaa n 16777216&&us.all (fun x=>! z5t x)&&ds.all fun x=>yz x.length s.2 with
   |true=>match ann.own.any (yz d)with
    |true=>match σ.z7y (d+1000)&&yab e 1000000 with|true=>k {σ with A:=(d+1000,⟨true,e,s.2,ds⟩)::σ.A,L:=(d,.ref (d+1000))::σ.L}|false=>False
    |false=>k {σ with L:=(d,.sl e s.2 ds)::σ.L}
   |false=>False
  |_=>False
 |.panic x=>wt (σ.ev x) fun v=>match v with|.iface _ _=>kp v σ|_=>False
 |.convert s t x=>wt o.dst fun d=>wt (σ.ev x) fun u=>match u,lk tb.und s,lk tb.und t with
  |.str s,some .string,some (.slice e)=>match lk tb.und e with
   |some (.int .u8)=>Ex (chk (decide (s.length≤9223372036854775807))) fun _=>match ann.own.any (yz d)with
    |true=>match σ.z7y (d+1000)with|true=>k {σ with A:=(d+1000,⟨true,e+2000000,1,zvq s⟩)::σ.A,L:=(d,.ref (d+1000))::σ.L}|false=>False
    |false=>k {σ with L:=(d,.sl e 1 (zvq s))::σ.L}
   |_=>False
  |.sl _ 1 l,some (.slice e),some .string=>match lk tb.und e with|some (.int .u8)=>Ex (dby l) fun s=>k {σ with L:=(d,.str s)::σ.L}|_=>False
  |.ref a,some (.slice e),some .string=>wt (lkO σ.A a) fun x=>match lk tb.und e,yz x.n 1 with|some (.int .u8),true=>Ex (dby x.l) fun s=>k {σ with L:=(d,.str s)::σ.L}|_,_=>False
  |_,_,_=>False
 |.call c=>match c.callee,c.args.toList with
  |.builtin .append,[x,y]=>wt o.dst fun d=>wt (σ.ev x) fun u=>wt (σ.ev y) fun v=>match c.argTypes.toList with
   |[t,g]=>match lk tb.und t with
    |some (.slice e)=>wt (lk tb.inf e) fun inf=>wt (σ.freeze (ze6 v)) fun σ=>wt (σ.ev y) fun v=>wt (apL tb t g inf v) fun l2=>match yz inf.1.cells.size inf.2.1&&yab 0 inf.2.1&&yab 0 inf.2.2 with
     |true=>match u with
      |.nil=>match σ.z7y (d+1000)&&yab e 1000000 with|true=>Ex (app inf.2.2 [] l2) fun r=>k {σ with A:=(d+1000,⟨true,e,inf.2.1,r⟩)::σ.A,L:=(d,.ref (d+1000))::σ.L}|false=>False
      |.ref a=>match lkM σ.A a with
       |some x=>match({σ with A:=zan a σ.A}:St).z7y (d+1000)&&yz x.T (e+2000000)&&yz x.n 1&&strP v with|true=>Ex (app inf.2.2 x.l l2) fun r=>k {σ with A:=(d+1000,x.wl r)::zan a σ.A,L:=(d,.ref (d+1000))::σ.L}|false=>False
       |none=>wt (lkU σ.A a) fun x=>match({σ with A:=zan a σ.A}:St).z7y (d+1000)&&yz x.T e&&yz x.n inf.2.1 with|true=>Ex (app inf.2.2 x.l l2) fun r=>k {σ with A:=(d+1000,x.wl r)::zan a σ.A,L:=(d,.ref (d+1000))::σ.L}|false=>False
      |_=>False
     |false=>False
    |_=>False
   |_=>False
  |.value x,args=>wt (σ.evs args) fun vs=>match σ.ev x with|some (.fn f as_ cs)=>zky con σ f (as_++vs++cs) (fun v σ=>k (σ.put o.dst v)) kp|_=>False
  |_,_=>actM tb cty σ o k
 |_=>actM tb cty σ o k
def actsC(s t:Option TypeDesc):Bool:=match s,t with|some .string,some (.slice _)=>true|some (.slice _),some .string=>true|_,_=>false
def run(σ:St)(o:Oper)(k:St→Prop)(kp:PV→St→Prop):Prop:=match match o.op with|.convert s t _=>!actsC (lk tb.und s) (lk tb.und t)|op=>quiet op with|true=>qop tb σ o.op fun v=>(σ.put o.dst v).go k|false=>act tb cty ann con σ o (fun σ=>σ.frs k) kp
def St.zor(σ:St)(s:Nat)(b:Bool):St:=σ.pu s (.bool b)
def exo(ops:Array Oper)(σ:St)(o:Oper)(k:St→Prop)(kp:PV→St→Prop):Prop:=match o.guard with|none=>run tb cty ann con σ o k kp|some (j,b)=>match(zyp ops j).bind (·.dst)with|none=>False|some s=>match lk σ.L s with
   |some (.bool c)=>match b with|true=>cond c ((σ.zor s true).go fun σ=>run tb cty ann con σ o k kp) (((σ.zor s false).put o.dst .gone).go k)|false=>cond c (((σ.zor s true).put o.dst .gone).go k) ((σ.zor s false).go fun σ=>run tb cty ann con σ o k kp)
   |some .gone=>(σ.put o.dst .gone).go k|_=>False
def zh9(ops:Array Oper)(kp:PV→St→Prop)(k:St→Prop):List Oper→St→Prop|[],σ=>k σ|o::os,σ=>exo tb cty ann con ops σ o (fun σ=>zh9 ops kp k os σ) kp
def zn8(ops:Array Oper)(kp:PV→St→Prop)(k:St→Prop):List (Nat×Nat×Cut)→List Oper→St→Prop|[],os,σ=>zh9 tb cty ann con ops kp k os σ|(a,m,c)::r,os,σ=>zh9 tb cty ann con ops kp (fun σ=>∃J:St→Prop,zh9 tb cty ann con ops kp (fun s=>s.zc8 c J) ((os.drop a).take m) σ∧∀s,J s→s.frc fun s=>zn8 ops kp k r ((os.drop a).drop m) s) (os.take a) σ
def zz06k(o:Oper):Bool:=match o.op with|.convert s t _=>!actsC (lk tb.und s) (lk tb.und t)|op=>quiet op
def zav(ops:Array Oper)(d:Nat):List Nat→Bool|[]=>true|q::r=>(match ops[q]? with|some o=>(match o.dst with|some e=>! yz e d|none=>true)&&!(o.looksAt ops).any (yz d)|none=>true)&&zav ops d r
def zpk(ops:Array Oper):List Nat→List Nat→Bool
 |[],_=>true|q::r,dn=>(match ops[q]? with
  |some o=>match o.dst with|some d=>zav ops d dn&&!(o.looksAt ops).any (yz d)|none=>true
  |none=>true)&&zpk ops r (q::dn)
def zb3(kp dn:List Nat):List Nat:=dn.filter fun p=>kp.any (yz p)
def clrN(ops:Array Oper)(e:Nat)(kpl b a:List Nat):Bool:=(match ops[e]? with
  |some o=>match o.dst with|some d=>zav ops d (zb3 kpl a)|none=>true
  |none=>true)&&zpk ops b (zb3 kpl a)
def clrA(ops:Array Oper):Gt→List Nat→Bool|.fin,_=>true|.one e kpl b sub,a=>clrN ops e kpl b a&&clrA ops sub (b.reverse++zb3 kpl a)|.alt e kpl b sub r,a=>clrN ops e kpl b a&&clrA ops sub (b.reverse++zb3 kpl a)&&clrA ops r a
def clrG(ops:Array Oper)(g:Gt)(qs:List Nat):Bool:=zpk ops qs []&&clrA ops g qs.reverse
def St.only(σ:St)(ops:Array Oper)(o:Oper):St:={σ with L:=zb2 (o.looksAt ops) σ.L}
def stb(σ:St)(op:Op):Bool:=match op with
 |.load _ x=>match σ.ev x with|some (.zai _ _)=>true|_=>false
 |.call c=>match c.args.toList with
  |[x]=>match σ.ev x with|some (.mp _)=>false|_=>true
  |_=>true
 |_=>true
def exq(ops:Array Oper)(σ:St)(dn:List (Nat×Bool))(q:Nat)(k:St→List (Nat×Bool)→Prop):Prop:=match zyp ops q with|none=>False|some o=>match o.dst,zz06k tb o with
  |some d,true=>match o.guard with|none=>qop tb σ o.op fun v=>(σ.put (some d) v).go fun a=>k a ((q,stb σ o.op)::dn)|some (j,b)=>match(zyp ops j).bind (·.dst)with|none=>False|some s=>match lk σ.L s with
     |some (.bool c)=>match b with|true=>cond c ((σ.zor s true).go fun σ=>qop tb σ o.op fun v=>(σ.put (some d) v).go fun a=>k a ((q,stb σ o.op)::dn)) (((σ.zor s false).put (some d) .gone).go fun a=>k a ((q,true)::dn))|false=>cond c (((σ.zor s true).put (some d) .gone).go fun a=>k a ((q,true)::dn)) ((σ.zor s false).go fun σ=>qop tb σ o.op fun v=>(σ.put (some d) v).go fun a=>k a ((q,stb σ o.op)::dn))
     |some .gone=>(σ.put (some d) .gone).go fun a=>k a ((q,true)::dn)|_=>False
  |_,_=>False
def zsj(ops:Array Oper):List Nat→St→List (Nat×Bool)→(St→List (Nat×Bool)→Prop)→Prop|[],σ,dn,k=>k σ dn|q::r,σ,dn,k=>exq tb ops σ dn q fun σ dn=>zsj ops r σ dn k
def detP:PV→Bool|.int _ _=>true|.bool _=>true|.str _=>true|.nil=>true|.ref _=>true|.ptr _ _=>true|.zfr=>true|.zg7=>true|.agg cs=>go cs|.tup cs=>go cs|.iface _ v=>detP v|_=>false
where go:List PV→Bool|[]=>true|v::vs=>detP v&&go vs
def ze5(ops:Array Oper)(σ:St):List (Nat×Bool)→Prop
 |[]=>True|(_,true)::r=>ze5 ops σ r|(q,false)::r=>(match ops[q]? with
  |some o=>match o.dst with
   |some d=>match lk σ.L d with|some v=>detP v=true∧qop tb σ o.op fun v'=>v'=v|none=>False
   |none=>False
  |none=>False)∧ze5 ops σ r
def z3z(kp:List Nat)(dn:List (Nat×Bool)):List (Nat×Bool):=dn.filter fun p=>kp.any (yz p.1)
def rst(cs:List (Nat×Cut))(e:Nat)(σ:St)(k:St→Prop):Prop:=match lk cs e with|some c=>∃J:St→Prop,σ.zc8 c J∧∀s,J s→s.frc k|none=>k σ
def zdh(ops:Array Oper)(cs:List (Nat×Cut))(kp:PV→St→Prop)(k:St→Prop):Gt→List (Nat×Bool)→St→Prop
 |.fin,_,σ=>k σ|.one e kpl h g,b,d=>match zyp ops e with|some o=>exo tb cty ann con ops d o (fun a=>rst cs e a fun a=>zsj tb ops h a (z3z kpl b) fun c f=>ze5 tb ops c (z3z kpl b)∧zdh ops cs kp k g f c) kp|none=>False
 |.alt e kpl h g r,b,d=>(match zyp ops e with|some o=>exo tb cty ann con ops d o (fun a=>rst cs e a fun a=>zsj tb ops h a (z3z kpl b) fun c f=>ze5 tb ops c (z3z kpl b)∧zdh ops cs kp k g f c) kp|none=>False)∧zdh ops cs kp k r b d
def zfa(ops:Array Oper)(cs:List (Nat×Cut))(kp:PV→St→Prop)(k:St→Prop)(g:Gt)(qs:List Nat)(σ:St):Prop:=zsj tb ops qs σ [] fun a b=>ze5 tb ops a []∧zdh tb cty ann con ops cs kp k g b a
inductive It where|q(q:Nat)|a(e:Nat)(kpl:List Nat)
def qsIt:List Nat→List It→List It|[],r=>r|q::qs,r=>.q q::qsIt qs r
def zun:Gt→List It|.fin=>[]|.one e kpl qs sub=>.a e kpl::qsIt qs (zun sub)|.alt _ _ _ _ _=>[]
def zmv:Gt→Bool|.fin=>true|.one _ _ _ sub=>zmv sub|.alt _ _ _ _ _=>false
def dnI:It→List Nat→List Nat|.q q,dn=>q::dn|.a _ kpl,dn=>zb3 kpl dn
def zl0(ops:Array Oper):List It→List Nat→Bool
 |[],_=>true|.q q::r,dn=>zpk ops [q] dn&&zl0 ops r (dnI (.q q) dn)|.a e kpl::r,dn=>(match ops[e]? with
  |some o=>match o.dst with|some d=>zav ops d (zb3 kpl dn)|none=>true
  |none=>true)&&kpl.all (fun q=>dn.any (yz q))&&zl0 ops r (dnI (.a e kpl) dn)
def allT:List (Nat×Bool)→Bool|[]=>true|(_,b)::r=>b&&allT r
def synQ:Op→Bool|.load _ _=>false|.call _=>false|_=>true
def synO(ops:Array Oper)(q:Nat):Bool:=match zyp ops q with|some o=>synQ o.op|none=>true
def frDn:List (Nat×Bool)→(List (Nat×Bool)→Prop)→Prop|[],k=>k []|(q,true)::r,k=>frDn r fun r=>k ((q,true)::r)|(q,false)::r,k=>frDn r fun r=>k ((q,false)::r)
theorem zl9:∀(l:List (Nat×Bool))(k:List (Nat×Bool)→Prop),frDn l k=k l|[],_=>rfl|(q,true)::r,k=>by rw[frDn,zl9 r]|(q,false)::r,k=>by rw[frDn,zl9 r]
def ex1(ops:Array Oper)(kp:PV→St→Prop):It→St→List (Nat×Bool)→(St→List (Nat×Bool)→Prop)→Prop|.q q,σ,dn,k=>exq tb ops σ dn q k|.a e kpl,σ,dn,k=>frDn (z3z kpl dn) fun dn=>match allT dn with
  |true=>match zyp ops e with|some o=>exo tb cty ann con ops σ o (fun s=>k s dn) kp|none=>False
  |false=>False
def zjb(ops:Array Oper)(kp:PV→St→Prop)(k:St→List (Nat×Bool)→Prop):List It→St→List (Nat×Bool)→Prop|[],σ,dn=>k σ dn|i::r,σ,dn=>ex1 tb cty ann con ops kp i σ dn fun σ dn=>zjb ops kp k r σ dn
def dnIs:List It→List Nat→List Nat|[],dn=>dn|i::r,dn=>dnIs r (dnI i dn)
def dnA(ops:Array Oper)(l:List It)(dn:List (Nat×Bool)):List (Nat×Bool):=(dnIs l (dn.map (·.1))).map fun q=>(q,synO ops q)
def zws(ops:Array Oper)(kp:PV→St→Prop)(k:St→Prop):List (Nat×Nat×Cut)→List It→St→List (Nat×Bool)→Prop|[],its,σ,dn=>zjb tb cty ann con ops kp (fun s _=>k s) its σ dn|(a,m,c)::r,its,σ,dn=>zjb tb cty ann con ops kp (fun σ dn=>∃J:St→Prop,zjb tb cty ann con ops kp (fun s _=>s.zc8 c J) ((its.drop a).take m) σ dn∧∀s,J s→s.frc fun s=>zws ops kp k r ((its.drop a).drop m) s (dnA ops ((its.drop a).take m) dn)) (its.take a) σ dn
def zpr(ops:Array Oper)(kp:PV→St→Prop)(k:St→Prop)(d:Drw)(σ:St):Prop:=match d.lin with|some l=>zws tb cty ann con ops kp k l (qsIt d.qs (zun d.g)) σ []|none=>match d.c with|none=>zfa tb cty ann con ops d.cs kp k d.g d.qs σ|some c=>∃J:St→Prop,zfa tb cty ann con ops d.cs kp (fun s=>s.zc8 c J) d.g d.qs σ∧∀s,J s→s.frc k
inductive z9e where|normal|exit(i:Nat)|ret|pan(v:PV)
def zmm(f:St→Prop)(k:z9e→St→Prop):z9e→St→Prop|.normal,s=>f s|.exit i,s=>k (.exit i) s|.ret,s=>k .ret s|.pan v,s=>k (.pan v) s
def kBlk(i:Nat)(k:z9e→St→Prop):z9e→St→Prop
 |.normal,s=>k .normal s|.exit j,s=>match yz i j with|true=>k .normal s|false=>k (.exit j) s
 |.ret,s=>k .ret s|.pan v,s=>k (.pan v) s
def zfd:Code→Option Nat
 |.region i _ _=>some i|.seq a b=>match zfd a with|some i=>some i|none=>zfd b
 |.cond _ a b=>match zfd a with|some i=>some i|none=>zfd b
 |.block _ a=>zfd a|.loop a=>zfd a|.scope a=>zfd a|.exit i=>some (1000000+i)|_=>none
def cutOf(l:List (Nat×Cut))(c:Code):Option Cut:=match zfd c with|some i=>lk l i|none=>none
def LW(step:(St→Prop)→St→Prop)(σ:St):Prop:=∀I:St→Prop,(∀s,step I s→I s)→I σ
def ex:Code→St→(z9e→St→Prop)→Prop
 |.skip,σ,k=>k .normal σ|.label _,σ,k=>k .normal σ|.region id ops e,σ,k=>match e with|false=>zn8 tb cty ann con ops (fun v s=>k (.pan v) s) (fun s=>k .normal s) (match lk ann.reg id with|some l=>l|none=>[]) ops.toList σ|true=>wt (lk ann.drw id) fun d=>zpr tb cty ann con ops (fun v s=>k (.pan v) s) (fun s=>k .normal s) d σ
 |.seq a b,σ,k=>match cutOf ann.seq b with|some c=>∃J:St→Prop,ex a σ (zmm (fun s=>s.zc8 c J) k)∧∀s,J s→s.frc fun s=>ex b s k|none=>ex a σ (zmm (fun s=>ex b s k) k)
 |.cond c a b,σ,k=>match σ.ev c with|some (.bool x)=>cond x (ex a σ k) (ex b σ k)|_=>False
 |.block i a,σ,k=>ex a σ (kBlk i k)|.exit i,σ,k=>k (.exit i) σ|.ret,σ,k=>k .ret σ|.loop a,σ,k=>wt (cutOf ann.loop a) fun c=>σ.zc8 c fun σ=>LW (fun I s=>s.frc fun s=>ex a s (zmm (fun s=>s.zc8 c I) k)) σ|_,_,_=>False
end
end
section
open Go.RowKit Go.Lk
def en{β:Type}:Nat→List β→List (Nat×β)|_,[]=>[]|i,x::r=>(i,x)::en (i+1) r
def entry(i:CIn):St:={L:=en 0 i.vs,B:=en 0 i.B,A:=en 0 (i.A.map fun e=>(⟨false,e.1,e.2.1,e.2.2⟩:Arr))}
def resV(tb:Tb)(σ:St):List ResultVar→Option (List PV)
 |[]=>some []|.tmp t::r=>match lk σ.L t,resV tb σ r with|some v,some vs=>some (v::vs)|_,_=>none
 |.cell t T::r=>match lk σ.L t with
  |some (.ptr b 0)=>match lkB σ.B b,lk tb.shp T with
   |some e,some s=>match yz e.cs.length s.2,z8c s.1 s.2 e.cs,resV tb σ r with|true,some v,some vs=>some (v::vs)|_,_,_=>none
   |_,_=>none
  |_=>none
def ztl:List ResultVar→List Nat|[]=>[]|.tmp t::r=>t::ztl r|.cell t _::r=>t::ztl r
def St.zz04i(σ:St):List Place→Option (List Nat)|[]=>some []|p::r=>match σ.at p,σ.zz04i r with|some (.ptr b 0),some l=>some (b::l)|_,_=>none
def rng:Nat→Nat→List Nat|0,_=>[]|n+1,i=>i::rng n (i+1)
def zkv(σ:St):Nat→List (Option (Nat×Nat×List (List D)))→Prop|_,[]=>True|i,none::r=>zkv σ (i+1) r|i,some e::r=>(match lk σ.A i with|some x=>x.T=e.1∧x.n=e.2.1∧x.l=e.2.2|none=>False)∧zkv σ (i+1) r
def finO(tb:Tb)(ann:Ann)(res:List ResultVar)(σ:St)(vs:List PV)(B:List Bx)(A:List (Option (Nat×Nat×List (List D)))):Prop:=wt (({σ with L:=zb2 (ztl res) σ.L}:St).home ann.fin) fun σ=>wt (resV tb σ res) fun rs=>wt (σ.freeze (zao.go vs rs)) fun σ'=>wt (σ.zz04i ann.finB) fun a=>nrm.go σ vs rs=zci.go (rng ann.nb 0++a) (rng A.length 0) vs∧zaq σ' (rng ann.nb 0++a) (rng A.length 0) (rng ann.nb 0++a) B∧zkv σ' 0 A∧(inR.go B.length A.length vs&&B.all (fun e=>inR.go B.length A.length e.cs)&&zae a&&a.all (yaa 1000)&&yz B.length (ann.nb+a.length))=true
def fin(tb:Tb)(ann:Ann)(res:List ResultVar)(out:z3y):z9e→St→Prop
 |.ret,σ=>match out with|.ok vs B A=>finO tb ann res σ vs B A|_=>False
 |.normal,σ=>match out with|.ok vs B A=>finO tb ann res σ vs B A|_=>False
 |.pan v,σ=>match out with|.zjk v' B=>v'=v∧zct v'=false∧finO tb {nb:=ann.nb} [] σ [] B []|o=>o=.pan v
 |.exit _,_=>False
def z2l(f:Func):Code:=match f.body with|some c=>c|none=>.refuse ""
def S{R:Type}(y:Option R)(W:R→Prop):Prop:=∀r,y=some r→W r
section
variable{R A:Type}{W W1 W2:R→Prop}{y y1 y2:Option R}
theorem S.cb{b:Bool}(a:S y1 W1)(h2:S y2 W2):S (if b=true then y1 else y2) fun r=>cond b (W1 r) (W2 r):=by intro r h;cases b with|true=>exact a r h|false=>exact h2 r h
theorem S.e{z:Option A}{F:R→A→Prop}{g:A→Option R}(h:∀a,S (g a) fun r=>F r a):S (z>>=g) fun r=>Ex z (F r):=by intro r c;obtain⟨a,b,h2⟩:=bnd c;exact⟨a,b,h a r h2⟩
theorem S.eq{z:Option A}{F:R→A→Prop}{a:A}(c:z=some a)(h:S y fun r=>F r a):S y fun r=>Ex z (F r):=fun r b=>⟨a,c,h r b⟩
theorem S.z{a:R}(h:W a):S (some a) W:=fun r e=>by grind
theorem S.ix{X:Type}{f c:X→List D}{l:List (List D)}{xs:List X}{i:Int}{F:R→List D→Prop}{g:X→Option R}(hl:l=xs.map f)(d:∀x,f x=c x)(h:∀x,S (g x) fun r=>F r (c x)):S (Go.Lk.ix xs i>>=g) fun r=>Ex (Go.Lk.ix l i) (F r):=by intro r e;obtain⟨a,b,h2⟩:=bnd e;obtain⟨j,rfl,k⟩:=zxs b;exact⟨f a,by grind[Go.Lk.ix],by rw[d];exact h a r h2⟩
theorem S.sub{X:Type}{f:X→List D}{l:List (List D)}{xs:List X}{i j:Int}{F:R→List (List D)→Prop}{g:List X→Option R}(hl:l=xs.map f)(h:∀x,S (g x) fun r=>F r (x.map f)):S (Go.Lk.sub xs i j>>=g) fun r=>Ex (Go.Lk.sub l i j) (F r):=by
 intro r c;obtain⟨a,b,h2⟩:=bnd c;refine⟨a.map f,?_,h a r h2⟩;subst hl;unfold Go.Lk.sub at b⊢;split at b;·rename_i d;cases b;simp_all
 ·cases b
theorem S.app{X:Type}{f:X→List D}{l l2:List (List D)}{xs ys:List X}{n:Nat}{F:R→List (List D)→Prop}{g:List X→Option R}(hl:l=xs.map f)(b:l2=ys.map f)(h:∀x,S (g x) fun r=>F r (x.map f)):S (Go.Lk.app n xs ys>>=g) fun r=>Ex (Go.Lk.app n l l2) (F r):=by intro r d;obtain⟨a,c,h2⟩:=bnd d;refine⟨a.map f,?_,h a r h2⟩;subst hl b;unfold Go.Lk.app at c⊢;grind
theorem zz09u(xs:List Int):Go.Pe.dby (xs.map (eI .u8))=some (byt xs):=by induction xs with|nil=>rfl|cons x xs a=>simp only[yr,eI,Go.Pe.dby];rw[a];rfl
theorem S.dby{l:List (List D)}{xs:List Int}{F:R→List UInt8→Prop}(hl:l=xs.map (eI .u8))(h:S y fun r=>F r (byt xs)):S y fun r=>Ex (Go.Pe.dby l) (F r):=fun r a=>⟨byt xs,by grind[zz09u],h r a⟩
theorem S.j{B:R→St→Prop}{A':R→(St→Prop)→Prop}{z:Option A}{g:A→Option R}(b:A→St)(d:∀r,S z fun a=>A' r fun s=>s=b a)(hB:∀a,S (g a) fun r=>B r (b a)):S (z>>=g) fun r=>∃J:St→Prop,A' r J∧∀s,J s→B r s:=by intro r e;obtain⟨a,c,h2⟩:=bnd e;exact⟨_,d r a c,fun s f=>by subst f;exact hB a r h2⟩
theorem cnd{b:Bool}{p q:Prop}(a:b=true→p)(h2:b=false→q):cond b p q:=by grind
theorem S.k{con:Nat→CIn→z3y→Prop}{σ:St}{f:Nat}{args:List PV}{k:R→PV→St→Prop}{kp:R→PV→St→Prop}{z:Option A}{g:A→Option R}{i:CIn}{o:A→z3y}(bs as_ as_':List Nat)(l:∀a,z=some a→con f i (o a))(b:nrm.go σ i.vs args=zci.go bs as_ i.vs)(h2:zaq σ bs as_ bs i.B)(c:zgt σ as_ i.A)(d:zjw σ bs as_ (zao.go i.vs args) i=true)(h:∀a,S (g a) fun r=>zpi bs as_ as_' i args σ (k r) (kp r) (o a)):S (z>>=g) fun r=>zky con σ f args (k r) (kp r):=by intro r m;obtain⟨a,e,j⟩:=bnd m;exact⟨bs,as_,as_',i,o a,l a e,b,h2,c,d,h a r j⟩
theorem ze{α:Type}{z:Option α}{k c:α→Prop}(h:∀a,k a→c a)(b:wt z k):wt z c:=by cases z with|none=>exact b|some a=>exact h a b
theorem z2v{α:Type}{z:Option α}{k b:α→Prop}(h:∀a,k a→b a)(d:Ex z k):Ex z b:=by obtain⟨a,c,h2⟩:=d;exact⟨a,c,h a h2⟩
theorem z8x{b:Bool}{p q a c:Prop}(d:p→a)(h2:q→c)(h:cond b p q):cond b a c:=by grind
end
end
section
open Go.RowKit Go.Lk
theorem zz012{td:TypeDesc}{op:BinOp}{u v:PV}{k c:PV→Prop}(h:∀a,k a→c a)(b:bop td op u v k):bop td op u v c:=by
 revert b;unfold bop;repeat' split
 all_goals first|exact fun b=>z2v (fun _=>h _) b|exact fun b=>ze (fun _=>h _) b|exact fun b=>h _ b|exact fun b=>b
theorem zz03m{op:UnOp}{u:PV}{k b:PV→Prop}(h:∀a,k a→b a)(c:uop op u k):uop op u b:=by revert c;unfold uop;grind[ze]
theorem zur{σ:St}{g:Bool}{n:Nat}{u:PV}{k b:PV→Prop}(h:∀a,k a→b a)(c:znv σ g n u k):znv σ g n u b:=by
 revert c;unfold znv;split;·grind[ze,z2v]
 grind[ze]
theorem zy5{σ:St}{u:PV}{k b:Int→Prop}(h:∀a,k a→b a):lenM σ u k→lenM σ u b:=by
 unfold lenM;split
 ·split;·grind[z2v]
  ·exact id
 ·exact id
theorem znu{td:TypeDesc}{σ:St}{u:PV}{k b:Int→Prop}(h:∀a,k a→b a):lenW td σ u k→lenW td σ u b:=by unfold lenW;grind[z2v,ze,zy5]
theorem zsz{σ:St}{x:Option Operand}{k b:Int→Prop}(h:∀a,k a→b a):loW σ x k→loW σ x b:=by unfold loW;grind
theorem zz021{td:TypeDesc}{σ:St}{u:PV}{x:Option Operand}{k b:Int→Prop}(h:∀a,k a→b a):hiW td σ u x k→hiW td σ u x b:=by unfold hiW;grind[znu]
theorem zz02n{b:Bool}{u v:PV}{k a:PV→Prop}(h:∀x,k x→a x):mmW b u v k→mmW b u v a:=by unfold mmW;grind
theorem zyi{td:TypeDesc}{op:BinOp}{u:PV}{k b:PV→Prop}(h:∀a,k a→b a)(c:nilF td op u k):nilF td op u b:=by revert c;unfold nilF;grind
theorem zw5{n:Nat}{op:BinOp}{u v:PV}{k b:PV→Prop}(h:∀a,k a→b a)(c:arrW n op u v k):arrW n op u v b:=by
 revert c;unfold arrW;split;·refine ze fun _=>?_;grind
 ·exact id
theorem zgm{tb:Tb}{σ:St}{op:Op}{k b:PV→Prop}(h:∀a,k a→b a)(c:qop tb σ op k):qop tb σ op b:=by
 revert c;unfold qop;split;case h_1=>exact ze h
 case h_2=>exact ze h
 case h_3=>split<;>first|exact ze fun _=>ze fun _=>z8x (h _) (h _)|exact id
 case h_4=>
  split
  ·split;·refine ze fun _=>?_;grind
   ·exact id
  ·split;·exact ze fun _=>ze fun _=>zw5 h
   ·refine ze fun _=>ze fun _=>?_;grind[zyi,ze,zz012]
 case h_5=>grind[ze,zz03m]
 case h_6=>grind[ze]
 case h_7=>grind[ze]
 case h_8=>
  split;·exact id
  grind[ze]
 case h_9=>grind[ze]
 case h_10=>refine ze fun _=>?_;grind
 case h_11=>refine ze fun _=>ze fun _=>?_;grind
 case h_12=>refine ze fun _=>?_;grind[ze]
 case h_13=>exact ze fun _=>ze fun _=>zur h
 case h_14=>grind[z2v]
 case h_15=>
  split;·refine ze fun _=>?_;grind[ze,z2v]
  refine ze fun _=>?_;split
  ·refine ze fun _=>?_;split;·grind[z2v]
   ·grind[ze,z2v]
   ·exact id
  ·exact id
 case h_16=>
  refine ze fun _=>ze fun _=>zsz fun _=>zz021 fun _=>?_;split;·grind[z2v]
  ·grind[ze,z2v]
  ·exact id
 case h_17=>split<;>first|exact ze fun _=>ze fun _=>znu fun _=>h _|exact ze fun _=>ze fun _=>zz02n fun _=>h _|exact id
 case h_19=>
  refine ze fun _=>?_;split;·grind
  ·exact ze fun _=>ze fun _=>by grind[zla,zl6]
 case h_18=>refine ze fun _=>?_;grind
 case h_20=>
  refine ze fun _=>?_;split;·grind[ze,z2v]
  ·exact id
 simp
section
variable{tb:Tb}{cty:List (Nat×List (Option (Nat×Nat)))}{ann:Ann}{con:Nat→CIn→z3y→Prop}
theorem zty{bs as_ as_':List Nat}{i:CIn}{args:List PV}{σ:St}{k e:PV→St→Prop}{kp c:PV→St→Prop}(h:∀a s,k a s→e a s)(d:∀v s,kp v s→c v s):∀{o:z3y},zpi bs as_ as_' i args σ k kp o→zpi bs as_ as_' i args σ e c o|.ok _ _ _,b=>ze (fun _ b=>⟨b.1,St.zbr.mpr (h _ _ (St.zbr.mp b.2))⟩) b|.okI _ _ _,b=>ze (fun _ b=>⟨b.1,St.zbr.mpr (h _ _ (St.zbr.mp b.2))⟩) b|.pan _,b=>⟨b.1,d _ _ b.2⟩|.zjk _ _,b=>ze (fun _ h=>⟨h.1,St.z6k.mpr (d _ _ (St.z6k.mp h.2))⟩) b
theorem ztz{σ:St}{f:Nat}{args:List PV}{k c:PV→St→Prop}{kp b:PV→St→Prop}(h:∀a s,k a s→c a s)(m:∀v s,kp v s→b v s)(n:zky con σ f args k kp):zky con σ f args c b:=by obtain⟨bs,as_,as_',i,o,d,h2,e,g,j,l⟩:=n;exact⟨bs,as_,as_',i,o,d,h2,e,g,j,zty h m l⟩
theorem zw8{σ:St}{key E:Nat}{k a:St→Prop}(h:∀s,k s→a s):σ.born key E k→σ.born key E a:=by grind[St.born,ze]
theorem zz00s{rem:List (List D)}{k0 a:Prop}{k1 b:List D→List (List D)→Prop}(c:k0→a)(d:∀x r,k1 x r→b x r):NxW rem k0 k1→NxW rem a b:=fun h=>⟨fun e=>c (h.1 e),fun i x e=>d _ _ (h.2 i x e)⟩
theorem zmq{σ:St}{o:Oper}{k a:St→Prop}(h:∀s,k s→a s)(b:actM tb cty σ o k):actM tb cty σ o a:=by
 revert b;unfold actM;split;case h_1=>
  refine ze fun _=>?_;split;·refine ze fun _=>ze fun _=>?_;grind
  ·exact id
 case h_2=>
  split
  ·split;·refine ze fun _=>ze fun _=>ze fun _=>ze fun _=>ze fun _=>ze fun _=>ze fun _=>ze fun _=>ze fun _=>ze fun _=>?_;grind[z2v]
   ·exact id
  ·exact id
 case h_3=>
  split
  ·split;·refine ze fun _=>ze fun _=>ze fun _=>ze fun _=>ze fun _=>ze fun _=>ze fun _=>ze fun _=>ze fun _=>ze fun _=>?_;grind[z2v]
   ·exact id
  ·exact id
 case h_4=>
  refine ze fun _=>?_;split
  ·refine ze fun _=>ze fun _=>ze fun _=>ze fun _=>ze fun _=>ze fun _=>ze fun _=>ze fun _=>?_;split;·refine z2v fun _=>ze fun _=>?_;grind[z2v]
   ·exact id
  ·exact id
 case h_5=>
  refine ze fun _=>?_;split;·refine ze fun _=>ze fun _=>ze fun _=>ze fun _=>?_;grind
  ·exact id
 case h_6=>
  refine ze fun _=>ze fun _=>?_;split;·refine ze fun _=>?_;grind[zz00s]
  ·exact id
 case h_7=>
  refine ze fun _=>ze fun _=>?_;split;·refine ze fun _=>?_;grind[ze]
  ·exact id
 case h_8=>
  split
  ·split
   ·split;·exact ze fun _=>ze fun _=>ze fun _=>ze fun _=>ze fun _=>ze fun _=>z2v fun _=>h _
    ·exact id
   ·exact id
  ·exact id
 simp
set_option maxRecDepth 100000 in
theorem zz03c{σ:St}{n T d:Nat}{y:Operand}{k a:St→Prop}(h:∀s,k s→a s)(b:stR cty σ n T d y k):stR cty σ n T d y a:=by
 revert b;unfold stR;refine ze fun _=>ze fun _=>ze fun _=>ze fun _=>?_;split;·refine ze fun _=>ze fun _=>?_;grind
 ·exact id
set_option maxRecDepth 100000 in
theorem zz00u{σ:St}{o:Oper}{k b:St→Prop}{kp a:PV→St→Prop}(h:∀s,k s→b s)(d:∀v s,kp v s→a v s)(c:act tb cty ann con σ o k kp):act tb cty ann con σ o b a:=by
 revert c;unfold act;split;case h_1=>refine ze fun _=>ze fun _=>?_;grind[zw8]
 case h_2=>
  refine ze fun _=>ze fun _=>?_;split;·grind[ze]
  grind
 case h_3=>
  split
  ·refine ze fun _=>?_;split;·exact zz03c h
   refine ze fun _=>ze fun _=>?_;split;·grind[ze]
   ·refine ze fun _=>ze fun _=>ze fun _=>ze fun _=>?_;split<;>first|grind[z2v]|exact id
   ·exact id
  ·exact id
 case h_4=>
  refine ze fun _=>?_;split
  ·refine ze fun _=>ze fun _=>ze fun _=>ze fun _=>ze fun _=>ze fun _=>?_;split
   ·split;·grind
    ·exact h _
   ·exact id
  ·exact id
 case h_5=>grind[ze]
 case h_6=>
  refine ze fun _=>ze fun _=>?_;split;·grind[z2v]
  ·grind[z2v]
  ·grind[ze,z2v]
  ·exact id
 case h_7=>
  split
  ·refine ze fun _=>ze fun _=>ze fun _=>?_;split
   ·split
    ·refine ze fun _=>ze fun _=>ze fun _=>ze fun _=>?_;split
     ·split;·grind[z2v]
      ·split;·grind[z2v]
       grind[ze,z2v]
      ·exact id
     ·exact id
    ·exact id
   ·exact id
  ·refine ze fun _=>?_;grind[ztz]
  ·exact zmq h
 grind[zmq]
theorem z6b{σ:St}{k k':St→Prop}(h:∀s,k s→k' s):σ.go k→σ.go k':=by grind[St.go_eq]
theorem z7i{σ:St}{k a:St→Prop}(h:∀s,k s→a s):σ.frc k→σ.frc a:=by grind[St.z6k]
theorem zwh{σ:St}{c:Cut}{k a:St→Prop}(h:∀s,k s→a s):σ.zc8 c k→σ.zc8 c a:=ze fun _=>z7i h
theorem zz01p{σ:St}{k a:St→Prop}(h:∀s,k s→a s):σ.frs k→σ.frs a:=by grind[St.zz048]
theorem zm8{σ:St}{o:Oper}{k b:St→Prop}{kp a:PV→St→Prop}(h:∀s,k s→b s)(d:∀v s,kp v s→a v s)(c:run tb cty ann con σ o k kp):run tb cty ann con σ o b a:=by revert c;unfold run;grind[zgm,z6b,zz00u,zz01p]
theorem zgf{ops:Array Oper}{σ:St}{o:Oper}{k c:St→Prop}{kp a:PV→St→Prop}(h:∀s,k s→c s)(b:∀v s,kp v s→a v s)(d:exo tb cty ann con ops σ o k kp):exo tb cty ann con ops σ o c a:=by
 revert d;unfold exo;split;·exact zm8 h b
 ·split;·exact id
  ·split
   ·split;·exact z8x (z6b fun _=>zm8 h b) (z6b h)
    ·exact z8x (z6b h) (z6b fun _=>zm8 h b)
   ·exact z6b h
   ·exact id
theorem zbp{ops:Array Oper}{k d:St→Prop}{kp a:PV→St→Prop}(h:∀s,k s→d s)(c:∀v s,kp v s→a v s):∀(os:List Oper)(σ:St),zh9 tb cty ann con ops kp k os σ→zh9 tb cty ann con ops a d os σ|[],σ,b=>h _ b|o::os,σ,b=>zgf (fun s=>zbp h c os s) c b
theorem zha{ops:Array Oper}{k e:St→Prop}{kp a:PV→St→Prop}(h:∀s,k s→e s)(b:∀v s,kp v s→a v s):∀(l:List (Nat×Nat×Cut))(os:List Oper)(σ:St),zn8 tb cty ann con ops kp k l os σ→zn8 tb cty ann con ops a e l os σ|[],os,σ,d=>zbp h b os σ d|(i,m,c)::r,os,σ,d=>zbp (fun _⟨J,f,h2⟩=>⟨J,zbp (fun _=>id) b _ _ f,fun s g=>z7i (fun s=>zha h b r _ s) (h2 s g)⟩) b _ σ d
theorem zsi{ops:Array Oper}{σ:St}{dn:List (Nat×Bool)}{q:Nat}{k a:St→List (Nat×Bool)→Prop}(h:∀s d,k s d→a s d)(b:exq tb ops σ dn q k):exq tb ops σ dn q a:=by
 revert b;unfold exq;split;·exact id
 ·split
  ·split;·grind[zgm,z6b]
   ·split;·exact id
    ·split
     ·split;·exact z8x (z6b fun _=>zgm fun _=>z6b fun _=>h _ _) (z6b fun _=>h _ _)
      ·exact z8x (z6b fun _=>h _ _) (z6b fun _=>zgm fun _=>z6b fun _=>h _ _)
     ·grind[z6b]
     ·exact id
  ·exact id
theorem zdj{ops:Array Oper}{k b:St→List (Nat×Bool)→Prop}(h:∀s d,k s d→b s d):∀(qs:List Nat)(σ:St)(dn:List (Nat×Bool)),zsj tb ops qs σ dn k→zsj tb ops qs σ dn b|[],σ,dn,a=>h _ _ a|_::r,σ,dn,a=>zsi (fun s d=>zdj h r s d) a
theorem ztm{cs:List (Nat×Cut)}{e:Nat}{σ:St}{k a:St→Prop}(h:∀s,k s→a s):rst cs e σ k→rst cs e σ a:=by grind[rst,z7i]
theorem zbn{ops:Array Oper}{cs:List (Nat×Cut)}{k i:St→Prop}{kp c:PV→St→Prop}(h:∀s,k s→i s)(b:∀v s,kp v s→c v s):∀(g:Gt)(dn:List (Nat×Bool))(σ:St),zdh tb cty ann con ops cs kp k g dn σ→zdh tb cty ann con ops cs c i g dn σ
 |.fin,dn,σ,a=>h _ a|.one e kpl f g,dn,σ,a=>by
  revert a;unfold zdh;split;·exact zgf (fun s=>ztm fun s=>zdj (fun s d a=>⟨a.1,zbn h b g d s a.2⟩) _ _ _) b
  ·exact id|.alt e kpl f g r,dn,σ,a=>by
  revert a;unfold zdh;refine fun a=>⟨?_,zbn h b r dn σ a.2⟩;have j:=a.1;revert j;split;·exact zgf (fun s=>ztm fun s=>zdj (fun s d a=>⟨a.1,zbn h b g d s a.2⟩) _ _ _) b
  ·exact id
theorem zh7{ops:Array Oper}{cs:List (Nat×Cut)}{k c:St→Prop}{kp a:PV→St→Prop}(h:∀s,k s→c s)(e:∀v s,kp v s→a v s)(g:Gt)(qs:List Nat)(σ:St)(b:zfa tb cty ann con ops cs kp k g qs σ):zfa tb cty ann con ops cs a c g qs σ:=zdj (fun s d b=>⟨b.1,zbn h e g d s b.2⟩) qs σ [] b
theorem zz01b{ops:Array Oper}{k f:St→List (Nat×Bool)→Prop}{kp b:PV→St→Prop}(h:∀s d,k s d→f s d)(g:∀v s,kp v s→b v s):∀(i:It)(σ:St)(dn:List (Nat×Bool)),ex1 tb cty ann con ops kp i σ dn k→ex1 tb cty ann con ops b i σ dn f|.q q,σ,dn,c=>zsi h c|.a e kpl,σ,dn,c=>by simp only[ex1,zl9]at c⊢;grind[zgf]
theorem zbo{ops:Array Oper}{k e:St→List (Nat×Bool)→Prop}{kp a:PV→St→Prop}(h:∀s d,k s d→e s d)(c:∀v s,kp v s→a v s):∀(l:List It)(σ:St)(dn:List (Nat×Bool)),zjb tb cty ann con ops kp k l σ dn→zjb tb cty ann con ops a e l σ dn|[],σ,dn,b=>h _ _ b|i::r,σ,dn,b=>zz01b (fun s d=>zbo h c r s d) c i σ dn b
theorem zk2{ops:Array Oper}{k d:St→Prop}{kp a:PV→St→Prop}(h:∀s,k s→d s)(b:∀v s,kp v s→a v s):∀(l:List (Nat×Nat×Cut))(its:List It)(σ:St)(dn:List (Nat×Bool)),zws tb cty ann con ops kp k l its σ dn→zws tb cty ann con ops a d l its σ dn|[],its,σ,dn,c=>zbo (fun s _=>h s) b its σ dn c|(_,_,_)::r,_,σ,dn,c=>zbo (fun _ _⟨J,e,h2⟩=>⟨J,zbo (fun _ _=>id) b _ _ _ e,fun s f=>z7i (fun s=>zk2 h b r _ s _) (h2 s f)⟩) b _ σ dn c
theorem zuc{ops:Array Oper}{k b:St→Prop}{kp a:PV→St→Prop}(h:∀s,k s→b s)(e:∀v s,kp v s→a v s)(d:Drw)(σ:St)(g:zpr tb cty ann con ops kp k d σ):zpr tb cty ann con ops a b d σ:=by
 revert g;unfold zpr;split;·grind[zk2]
 split;·grind[zh7]
 ·exact fun⟨J,c,h2⟩=>⟨J,zh7 (fun _=>id) e _ _ _ c,fun s f=>z7i h (h2 s f)⟩
theorem zb1{f c:St→Prop}{k d:z9e→St→Prop}(hf:∀s,f s→c s)(b:∀a s,k a s→d a s):∀a s,zmm f k a s→zmm c d a s|.normal,s,h=>hf s h|.exit _,s,h=>b _ s h|.ret,s,h=>b _ s h|.pan _,s,h=>b _ s h
theorem zxw{i:Nat}{k c:z9e→St→Prop}(b:∀a s,k a s→c a s):∀a s,kBlk i k a s→kBlk i c a s|.normal,s,h=>b _ s h|.exit j,s,h=>by grind[kBlk]|.ret,s,h=>b _ s h|.pan _,s,h=>b _ s h
theorem LW.mono{step step':(St→Prop)→St→Prop}(h:∀I s,step I s→step' I s){s:St}(c:LW step s):LW step' s:=fun I a=>c I fun s b=>a s (h I s b)
theorem z8n:∀(c:Code)(σ:St)(k e:z9e→St→Prop),(∀f s,k f s→e f s)→ex tb cty ann con c σ k→ex tb cty ann con c σ e
 |.skip,σ,k,e,h,d=>h _ _ d|.label _,σ,k,e,h,d=>h _ _ d|.region id ops g,σ,k,e,h,d=>by cases g with|false=>exact zha (fun s=>h _ s) (fun v s=>h _ s) _ _ _ d|true=>exact ze (fun _=>zuc (fun s=>h _ s) (fun v s=>h _ s) _ _) d
 |.seq a b,σ,k,e,h,d=>by
  unfold ex at d⊢;split at d;·obtain⟨J,j,h2⟩:=d;exact⟨J,z8n a _ _ _ (zb1 (fun _=>id) h) j,fun s l=>z7i (fun s=>z8n b _ _ _ h) (h2 s l)⟩
  ·exact z8n a _ _ _ (zb1 (fun s=>z8n b s _ _ h) h) d|.cond c a b,σ,k,e,h,d=>by
  unfold ex at d⊢;split at d;·exact z8x (z8n a _ _ _ h) (z8n b _ _ _ h) d
  ·exact d|.block i a,σ,k,e,h,d=>z8n a _ _ _ (zxw h) d|.exit i,σ,k,e,h,d=>h _ _ d|.ret,σ,k,e,h,d=>h _ _ d|.loop a,σ,k,e,h,d=>by unfold ex at d⊢;exact ze (fun _=>ze fun _=>z7i fun _=>LW.mono fun I s=>z7i fun s=>z8n a _ _ _ (zb1 (fun _=>id) h)) d|.rangeFunc ..,σ,k,e,h,d=>d|.scope _,σ,k,e,h,d=>d|.goto _,σ,k,e,h,d=>d|.refuse _,σ,k,e,h,d=>d
@[reducible]def Stp(tb:Tb)(cty:List (Nat×List (Option (Nat×Nat))))(ann:Ann)(con:Nat→CIn→z3y→Prop)(a:Code)(c:Cut)(k:z9e→St→Prop)(I:St→Prop)(s:St):Prop:=s.frc fun s=>ex tb cty ann con a s (zmm (fun s=>s.zc8 c I) k)
theorem zbi(a:Code)(c:Cut)(k:z9e→St→Prop):∀I b:St→Prop,(∀s,I s→b s)→∀s,Stp tb cty ann con a c k I s→Stp tb cty ann con a c k b s:=fun _ _ h _=>z7i fun s d=>z8n a s _ _ (zb1 (fun _=>zwh h) fun _ _=>id) d
theorem LW.fold{step:(St→Prop)→St→Prop}(d:∀I a:St→Prop,(∀s,I s→a s)→∀s,step I s→step a s){s:St}(h:step (LW step) s):LW step s:=fun I b=>b s (d _ _ (fun e c=>c I b) s h)
theorem S.lw{X R:Type}{a:Code}{c:Cut}{k:R→z9e→St→Prop}{σ:St}{L:X→Option R}{Bd:(X→Option R)→X→Option R}{x:X}(b:X→Ov)(i:∀motive:X→R→Prop,(∀f:X→Option R,(∀x r,f x=some r→motive x r)→∀x r,Bd f x=some r→motive x r)→∀x r,L x=some r→motive x r)(e:σ=ovS σ c (b x))(h:∀(f:X→Option R)(I:R→St→Prop),(∀x,S (f x) fun r=>I r (ovS σ c (b x)))→∀x,S (Bd f x) fun r=>Stp tb cty ann con a c (k r) (I r) (ovS σ c (b x))):S (L x) fun r=>LW (Stp tb cty ann con a c (k r)) σ:=by intro r d;rw[e];exact i (fun x r=>LW (Stp tb cty ann con a c (k r)) (ovS σ c (b x))) (fun f g x r d=>LW.fold (zbi a c (k r)) (h f (fun r=>LW (Stp tb cty ann con a c (k r))) g x r d)) x r d
theorem S.lw2{X Y R:Type}{a:Code}{c:Cut}{k:R→z9e→St→Prop}{σ:St}{L:X→Y→Option R}{Bd:(X→Y→Option R)→X→Y→Option R}{x:X}{y:Y}(b:X→Y→Ov)(i:∀motive:X→Y→R→Prop,(∀f:X→Y→Option R,(∀x y r,f x y=some r→motive x y r)→∀x y r,Bd f x y=some r→motive x y r)→∀x y r,L x y=some r→motive x y r)(e:σ=ovS σ c (b x y))(h:∀(f:X→Y→Option R)(I:R→St→Prop),(∀x y,S (f x y) fun r=>I r (ovS σ c (b x y)))→∀x y,S (Bd f x y) fun r=>Stp tb cty ann con a c (k r) (I r) (ovS σ c (b x y))):S (L x y) fun r=>LW (Stp tb cty ann con a c (k r)) σ:=by intro r d;rw[e];exact i (fun x y r=>LW (Stp tb cty ann con a c (k r)) (ovS σ c (b x y))) (fun f g x y r d=>LW.fold (zbi a c (k r)) (h f (fun r=>LW (Stp tb cty ann con a c (k r))) g x y r d)) x y r d
end
end
section
open Go.RowKit Go.Lk
theorem zkg{β γ:Type}(f:β→γ):∀(l:List (Nat×β))(t:Nat),lk (l.map fun p=>(p.1,f p.2)) t=(lk l t).map f|[],t=>rfl|(s,v)::r,t=>by simp only[yr,lk];cases yz s t with|true=>rfl|false=>exact zkg f r t
theorem z4h{β:Type}{s t:Nat}{x v:β}{l:List (Nat×β)}(h:lk ((s,x)::l) t=some v):t=s∧v=x∨t≠s∧lk l t=some v:=by
 unfold lk at h;split at h;·simp_all
 grind[yai]
theorem z4j{β:Type}{a t:Nat}{v:β}:∀{l:List (Nat×β)},lk (zan a l) t=some v→t≠a∧lk l t=some v
 |[],h=>by cases h|(s,x)::r,h=>by
  unfold zan at h;split at h;·rename_i e;have e:=yad e;subst e;obtain⟨b,h2⟩:=z4j h;grind[lk,yad]
  ·rename_i e;have e:=yai e;rcases z4h h with⟨rfl,rfl⟩|⟨b,h2⟩;·simp_all[lk]
   ·obtain⟨c,d⟩:=z4j h2;grind[lk]
theorem z5b{β:Type}{t:Nat}{v:β}:∀{as_:List Nat}{l:List (Nat×β)},lk (z5n as_ l) t=some v→t∉as_∧lk l t=some v|[],l,h=>⟨by simp,h⟩|a::as_,l,h=>by obtain⟨b,h2⟩:=z5b (as_:=as_) h;grind[z4j]
theorem zb5{β:Type}{a t:Nat}{x v:β}:∀{l:List (Nat×β)},lk (zgn a x l) t=some v→t=a∧v=x∨t≠a∧lk l t=some v
 |[],h=>by cases h|(s,y)::r,h=>by
  unfold zgn at h;split at h
  ·rename_i e;have e:=yad e;subst e;rcases z4h h with h|⟨c,h2⟩;·exact .inl h
   grind[lk,yad]
  ·rename_i e;have e:=yai e;rcases z4h h with⟨rfl,rfl⟩|⟨c,h2⟩;·simp_all[lk]
   ·rcases zb5 h2 with b|⟨b,d⟩;·exact .inl b
    grind[lk]
theorem z9z{β:Type}{t:Nat}{v:β}:∀{ks:List Nat}{l:List (Nat×β)},lk (zb2 ks l) t=some v→lk l t=some v
 |[],l,h=>by cases h|x::r,l,h=>by
  unfold zb2 at h;split at h
  ·rename_i y e;rcases z4h h with⟨rfl,rfl⟩|⟨_,h2⟩;·exact e
   ·exact z9z h2
  ·exact z9z h
abbrev FL:=Nat→Option PV
abbrev FB:=Nat→Option Bx
abbrev FA:=Nat→Option Arr
def upd{β:Type}(f:Nat→Option β)(a:Nat)(v:β):Nat→Option β:=fun x=>if x=a then some v else f x
def del{β:Type}(f:Nat→Option β)(a:Nat):Nat→Option β:=fun x=>if x=a then none else f x
def Le{β:Type}(f g:Nat→Option β):Prop:=∀x v,f x=some v→g x=some v
theorem Le.refl{β:Type}(f:Nat→Option β):Le f f:=fun _ _ h=>h
theorem Le.cons{β:Type}{s:Nat}{x:β}{l:List (Nat×β)}:Le (lk ((s,x)::l)) (upd (lk l) s x):=fun t v h=>by
 unfold upd;rcases z4h h with⟨rfl,rfl⟩|⟨a,h2⟩;·simp
 grind
theorem Le.zan{β:Type}{a:Nat}{l:List (Nat×β)}:Le (lk (zan a l)) (del (lk l) a):=fun t v h=>by unfold del;obtain⟨b,h2⟩:=z4j h;grind
theorem Le.zgn{β:Type}{s:Nat}{x:β}{l:List (Nat×β)}:Le (lk (zgn s x l)) (upd (del (lk l) s) s x):=fun t v h=>by
 unfold upd del;rcases zb5 h with⟨rfl,rfl⟩|⟨a,h2⟩;·simp
 grind
theorem z8b{β:Type}{f:Nat→Option β}{a t:Nat}{v x:β}(h:upd f a v t=some x):t=a∧x=v∨t≠a∧f t=some x:=by unfold upd at h;grind
theorem z57{β:Type}{f:Nat→Option β}{a t:Nat}{x:β}(h:del f a t=some x):t≠a∧f t=some x:=by grind[del]
def ren(φ:Nat→Nat)(a b:Nat):Nat→Nat:=fun x=>if x=a then b else φ x
def zm2(α:Nat→Value)(a:Nat)(v:Value):Nat→Value:=fun x=>if x=a then v else α x
structure W0 where
 w:World
 O:Nat→Prop
 F:Nat→Prop
 G:World→(Nat→Prop)→Prop
 hF:∀x,F x→O x
 hB:Bd O w
 hG:∀{O w O' w'},Tr O w O' w'→G w O→G w' O'
 φ0:Nat→Nat
def OwnZ(w:World)(O:Nat→Prop)(T m:Nat)(v:Value)(l:List (List D)):Prop:=∃xs,w.ownsRowF 0 T m v l.length xs∧RDl w O m l xs∧(∀x∈xs,x.oneCell'=true)∧∀b,v.ownBlock=some b→O b
def za8(w:World)(O:Nat→Prop)(T m:Nat)(v:Value)(l:List (List D)):Prop:=T<1000000∧Own w O T m v l∨1000000≤T∧T<2000000∧OwnZ w O (T-1000000) m v l∨2000000≤T∧zeh w O (T-2000000) m v l
theorem za8.un{w:World}{O:Nat→Prop}{T m:Nat}{v:Value}{l:List (List D)}(h:za8 w O T m v l)(a:T<1000000):Own w O T m v l:=by
 rcases h with h|h|h;·exact h.2
 ·omega
 ·omega
theorem za8.mk_{w:World}{O:Nat→Prop}{T m:Nat}{v:Value}{l:List (List D)}(h:za8 w O T m v l)(a:2000000≤T):zeh w O (T-2000000) m v l:=by
 rcases h with h|h|h;·omega
 ·omega
 ·exact h.2
theorem OwnZ.keep{w w':World}{O O' F:Nat→Prop}{T m:Nat}{v:Value}{l:List (List D)}(h:OwnZ w O T m v l)(x:Ext F w w')(hf:∀b,v.ownBlock=some b→¬F b)(t:Tr O w O' w')(ho:∀b,O b→O' b):OwnZ w' O' T m v l:=by
 obtain⟨xs,a,h2,e,f⟩:=h;refine⟨xs,⟨a.1,?_⟩,h2.tr t,e,fun b n=>ho b (f b n)⟩;rcases a.2 with i|⟨g,cap,cur,d,rfl,j,c,k⟩;·exact .inl i
 ·exact .inr ⟨g,cap,cur,d,rfl,j,(x.block g (yal.1 c).1 (hf g rfl)).trans c,k⟩
theorem za8.nil(w:World)(O:Nat→Prop)(T m:Nat):za8 w O T m (.slice none 0 0) []:=by
 rcases Nat.lt_or_ge T 1000000 with h|h;·exact .inl ⟨h,Own.nil w O T m⟩
 ·rcases Nat.lt_or_ge T 2000000 with h2|h2;·exact .inr (.inl ⟨h,h2,[],World.ownsRowF_of (World.ownsRow_nil w 0 _ m),trivial,by simp,by simp[Value.ownBlock]⟩)
  ·exact .inr (.inr ⟨h2,zeh.nil w O _ m⟩)
theorem za8.keep{w w':World}{O O' F:Nat→Prop}{T m:Nat}{v:Value}{l:List (List D)}(h:za8 w O T m v l)(x:Ext F w w')(hf:∀b,v.ownBlock=some b→¬F b)(t:Tr O w O' w')(ho:∀b,O b→O' b):za8 w' O' T m v l:=h.imp (fun h=>⟨h.1,h.2.keep x hf t ho⟩) fun h=>h.imp (fun h=>⟨h.1,h.2.1,h.2.2.keep x hf t ho⟩) fun h=>⟨h.1,h.2.keep x hf t ho⟩
theorem za8.mem{w:World}{O:Nat→Prop}{T m:Nat}{v:Value}{l:List (List D)}(h:za8 w O T m v l):∀b,v.ownBlock=some b→O b:=by
 rcases h with⟨_,h⟩|⟨_,_,xs,_,_,_,h⟩|⟨_,xs,_,_,_,h⟩;·exact h.mem
 ·exact h
 ·exact h
theorem za8.down{w:World}{O O':Nat→Prop}{T m:Nat}{v:Value}{l:List (List D)}(h:za8 w O T m v l)(ho:∀x,O' x→O x)(d:∀b,v.ownBlock=some b→O' b):za8 w O' T m v l:=by
 rcases h with⟨k,h⟩|⟨k,e,xs,a,h2,c,_⟩|⟨k,xs,a,h2,c,_⟩;·exact .inl ⟨k,h.down ho d⟩
 ·exact .inr (.inl ⟨k,e,xs,a,h2.tr (Tr.drop w ho),c,d⟩)
 ·exact .inr (.inr ⟨k,xs,a,h2.tr (Tr.drop w ho),c,d⟩)
theorem za8.lt{w:World}{O:Nat→Prop}{T m:Nat}{v:Value}{l:List (List D)}(h:za8 w O T m v l):∀b,v.ownBlock=some b→b<w.heap.size:=by
 rcases h with⟨k,h⟩|⟨k,_,xs,a,_⟩|⟨_,h⟩;·exact h.lt
 ·intro b c;rcases a.2 with⟨rfl,_⟩|⟨g,cap,cur,d,rfl,_,e,_⟩;·simp[Value.ownBlock]at c
  grind[Value.ownBlock]
 ·exact h.lt
theorem za8.len{w:World}{O:Nat→Prop}{T m:Nat}{v:Value}{l:List (List D)}(h:za8 w O T m v l):∃p c,v=.slice p l.length c:=by
 rcases h with⟨k,h⟩|⟨k,_,xs,a,_⟩|⟨_,h⟩;·exact h.len
 ·rcases a.2 with⟨rfl,d⟩|⟨g,cap,cur,b,rfl,_⟩;·grind
  simp
 ·exact h.len
theorem za8.data{w:World}{O:Nat→Prop}{T m:Nat}{v:Value}{l:List (List D)}(h:za8 w O T m v l)(a:T<1000000∨2000000≤T):∃U,RD w (Del O v) (.sl U m l) v:=by
 rcases h with⟨_,h⟩|⟨_,_,_⟩|⟨_,h⟩;·exact⟨_,h.data⟩
 ·omega
 ·exact⟨_,h.data⟩
theorem za8.at_{w:World}{O:Nat→Prop}{T m:Nat}{v:Value}{l:List (List D)}(h:za8 w O T m v l)(a:T<1000000∨2000000≤T):v=.slice none 0 0∧l.length=0∨∃b cap,v=.slice (some ⟨b,0,none⟩) l.length cap:=by
 rcases h with⟨_,xs,h,_⟩|⟨_,_,_⟩|⟨_,xs,h,_⟩
 ·rcases h.2 with h|⟨b,cap,_,h,_⟩;·exact .inl h
  grind
 ·omega
 ·rcases h.2 with h|⟨b,cap,_,_,h,_⟩;·exact .inl h
  grind
structure Rel(z:W0)(fL:FL)(fB:FB)(fA:FA)(V:Env)(w:World)(O:Nat→Prop)(φ:Nat→Nat)(α:Nat→Value):Prop where
 env:∀t v,fL t=some v→∃u,Env.get V t=some u∧VR w O φ α v u
 box:∀b e,fB b=some e→O (φ b)∧∃us,zmk w (φ b) e.T us∧VRs w O φ α e.cs us
 arr:∀a e,fA a=some e→za8 w O e.T e.n (α a) e.l
 bb:∀a b e e',fB a=some e→fB b=some e'→a≠b→φ a≠φ b
 aa:∀a b e e',fA a=some e→fA b=some e'→a≠b→∀x,(α a).ownBlock=some x→(α b).ownBlock≠some x
 ab:∀a b e e',fA a=some e→fB b=some e'→(α a).ownBlock≠some (φ b)bF:∀b e,fB b=some e→b<1000∧z.F (φ b)∨z.w.heap.size≤φ b
 aF:∀a e,fA a=some e→∀x,(α a).ownBlock=some x→e.mine=false∧z.F x∨z.w.heap.size≤x
 bd:Bd O w
 ext:Ext z.F z.w w
 only:∀x,O x→z.O x∨z.w.heap.size≤x
 gl:z.G w O
 keep:∀b,b<1000→φ b=z.φ0 b
section
variable{z:W0}{fL fL':FL}{fB fB':FB}{fA fA':FA}{V:Env}{w w':World}{O O':Nat→Prop}{φ φ':Nat→Nat}{α α':Nat→Value}
theorem Rel.mono(h:Rel z fL fB fA V w O φ α)(f:Le fL' fL)(hB:Le fB' fB)(c:Le fA' fA):Rel z fL' fB' fA' V w O φ α:=⟨fun t v e=>h.env t v (f _ _ e),fun b e k=>h.box b e (hB _ _ k),fun b e k=>h.arr b e (c _ _ k),fun a b e e' k d=>h.bb a b e e' (hB _ _ k) (hB _ _ d),fun a b e e' k d=>h.aa a b e e' (c _ _ k) (c _ _ d),fun a b e e' k d=>h.ab a b e e' (c _ _ k) (hB _ _ d),fun b e k=>h.bF b e (hB _ _ k),fun a e k=>h.aF a e (c _ _ k),h.bd,h.ext,h.only,h.gl,h.keep⟩
theorem Rel.move{H:Nat→Prop}(h:Rel z fL fB fA V w O φ α)(x:Ext H w w')(t:Tr O w O' w')(more:∀y,O y→O' y)(c:Bd O' w')(hB:∀b e,fB b=some e→¬H (φ b))(g:∀a e,fA a=some e→∀y,(α a).ownBlock=some y→¬H y)(i:Ext z.F z.w w')(only':∀x,O' x→z.O x∨z.w.heap.size≤x):Rel z fL fB fA V w' O' φ α:=by
 refine⟨fun s v e=>?_,fun b e k=>?_,fun a e k=>(h.arr a e k).keep x (g a e k) t more,h.bb,h.aa,h.ab,h.bF,h.aF,c,i,only',z.hG t h.gl,h.keep⟩;·obtain⟨u,d,h2⟩:=h.env s v e;exact⟨u,d,h2.tr t⟩
 ·obtain⟨d,us,h2,f⟩:=h.box b e k;exact⟨more _ d,us,h2.keep x (hB b e k),VRs.tr t _ _ f⟩
theorem Rel.re{kb ka:Nat→Prop}(h:Rel z fL fB fA V w O φ α)(j:∀x,x<1000→kb x)(hφ:∀x,kb x→φ' x=φ x)(hα:∀x,ka x→α' x=α x)(m:∀t v,fL t=some v→z5k kb ka v)(hB:∀b e,fB b=some e→kb b∧z5k.go kb ka e.cs)(i:∀a e,fA a=some e→ka a):Rel z fL fB fA V w O φ' α':=by
 have eb:∀b e,fB b=some e→φ' b=φ b:=fun b e k=>hφ b (hB b e k).1;have d:∀b e,fA b=some e→α' b=α b:=fun b e k=>hα b (i b e k);refine⟨fun s v e=>?_,fun b e k=>?_,fun a e k=>?_,fun a b e e' k c hn=>?_,fun a b e e' k c hn=>?_,fun a b e e' k c=>?_,fun b e k=>?_,fun a e k=>?_,h.bd,h.ext,h.only,h.gl,fun b f=>(hφ b (j b f)).trans (h.keep b f)⟩;·obtain⟨u,g,h2⟩:=h.env s v e;grind[VR.re]
 ·obtain⟨g,us,h2,l⟩:=h.box b e k;grind[VRs.re]
 ·rw[d a e k];exact h.arr a e k
 ·rw[eb a e k,eb b e' c];exact h.bb a b e e' k c hn
 ·rw[d a e k,d b e' c];exact h.aa a b e e' k c hn
 ·rw[d a e k,eb b e' c];exact h.ab a b e e' k c
 ·rw[eb b e k];exact h.bF b e k
 ·rw[d a e k];exact h.aF a e k
theorem Rel.put(h:Rel z fL fB fA V w O φ α){d:Nat}{v:PV}{u:Value}(f:VR w O φ α v u):Rel z (upd fL d v) fB fA ((d,u)::V) w O φ α:=by
 refine⟨fun t x e=>?_,h.box,h.arr,h.bb,h.aa,h.ab,h.bF,h.aF,h.bd,h.ext,h.only,h.gl,h.keep⟩;rcases z8b e with⟨rfl,rfl⟩|⟨a,h2⟩;·simp_all[Env.get]
 ·obtain⟨g,b,c⟩:=h.env t x h2;grind[Env.get,yad]
theorem Rel.addB(h:Rel z fL fB fA V w O φ α){b:Nat}{e:Bx}{us:List Value}(ho:O (φ b))(p:zmk w (φ b) e.T us)(q:VRs w O φ α e.cs us)(o:∀c e',fB c=some e'→c≠b→φ c≠φ b)(h2:∀a e',fA a=some e'→(α a).ownBlock≠some (φ b))(j:b<1000∧z.F (φ b)∨z.w.heap.size≤φ b):Rel z fL (upd fB b e) fA V w O φ α:=by
 refine⟨h.env,fun c e' k=>?_,h.arr,fun c d g i k1 f hn=>?_,h.aa,fun a c g i k1 f=>?_,fun c e' k=>?_,h.aF,h.bd,h.ext,h.only,h.gl,h.keep⟩
 ·rcases z8b k with⟨rfl,rfl⟩|⟨_,k⟩;·grind
  ·exact h.box c e' k
 ·rcases z8b k1 with⟨rfl,rfl⟩|⟨r,l⟩<;>rcases z8b f with⟨rfl,rfl⟩|⟨n,m⟩;·omega
  ·grind
  ·grind
  ·exact h.bb c d g i l m hn
 ·rcases z8b f with⟨rfl,rfl⟩|⟨n,f⟩;·grind
  ·exact h.ab a c g i k1 f
 ·rcases z8b k with⟨rfl,rfl⟩|⟨_,k⟩;·exact j
  ·exact h.bF c e' k
theorem Rel.addA(h:Rel z fL fB fA V w O φ α){a:Nat}{e:Arr}(ho:za8 w O e.T e.n (α a) e.l)(q:∀c e',fA c=some e'→c≠a→∀x,(α c).ownBlock=some x→(α a).ownBlock≠some x)(h2:∀b e',fB b=some e'→(α a).ownBlock≠some (φ b))(j:∀x,(α a).ownBlock=some x→e.mine=false∧z.F x∨z.w.heap.size≤x):Rel z fL fB (upd fA a e) V w O φ α:=by
 refine⟨h.env,h.box,fun c e' k=>?_,h.bb,fun c d f g k1 i hn=>?_,fun c b f g k1 i=>?_,h.bF,fun c e' k=>?_,h.bd,h.ext,h.only,h.gl,h.keep⟩
 ·rcases z8b k with⟨rfl,rfl⟩|⟨_,k⟩;·exact ho
  ·exact h.arr c e' k
 ·rcases z8b k1 with⟨rfl,rfl⟩|⟨p,m⟩<;>rcases z8b i with⟨rfl,rfl⟩|⟨r,o⟩;·omega
  ·grind
  ·grind
  ·exact h.aa c d f g m o hn
 ·rcases z8b k1 with⟨rfl,rfl⟩|⟨p,k1⟩;·grind
  ·exact h.ab c b f g k1 i
 ·rcases z8b k with⟨rfl,rfl⟩|⟨_,k⟩;·exact j
  ·exact h.aF c e' k
theorem Rel.boxLt(h:Rel z fL fB fA V w O φ α){b:Nat}{e:Bx}(k:fB b=some e):φ b<w.heap.size:=h.bd _ (h.box b e k).1
theorem Rel.arrLt(h:Rel z fL fB fA V w O φ α){a:Nat}{e:Arr}(k:fA a=some e){x:Nat}(b:(α a).ownBlock=some x):x<w.heap.size:=(h.arr a e k).lt x b
theorem Rel.arrO(h:Rel z fL fB fA V w O φ α){a:Nat}{e:Arr}(k:fA a=some e){x:Nat}(b:(α a).ownBlock=some x):O x:=(h.arr a e k).mem x b
end
end
section
open Go.RowKit Go.Lk
def zl7(P:Program)(T:TypeId):Option (List (Nat×Bool×Nat)):=match P.underlying T with
 |some (.struct fs)=>fs.toList.mapM fun f=>match Lk.shp P f.type with|some (b,n)=>if n=0 then none else some (f.offset,b,n)|none=>none
 |_=>none
def nifc(P:Program)(T:TypeId):Bool:=match P.underlying T with|some td=>ze1 td|none=>false
theorem zqk{P:Program}{T:TypeId}(h:nifc P T=true):∃td,P.underlying T=some td∧ze1 td=true:=by grind[nifc]
def ifcT(P:Program)(T:TypeId):Bool:=match P.underlying T with|some (.interface _)=>true|_=>false
theorem zz06g{P:Program}{T:TypeId}(h:ifcT P T=true):∃a,P.underlying T=some (.interface a):=by grind[ifcT]
def arsT(P:Program)(T:TypeId):Option Nat:=match P.underlying T,Lk.zer P T with
 |some (.array n e),some z=>match P.underlying e,P.info? e,P.eqGuardType P.depth T with
  |some .string,some i,false=>match yz i.size 1&&yz z.cells.size n with|true=>some n|false=>none
  |_,_,_=>none
 |_,_=>none
theorem zw6{P:Program}{T n:Nat}(h:arsT P T=some n):∃e z i,P.underlying T=some (.array n e)∧Lk.zer P T=some z∧P.underlying e=some .string∧P.info? e=some i∧P.eqGuardType P.depth T=false∧i.size=1∧z.cells.size=n:=by
 unfold arsT at h;split at h
 ·split at h
  ·split at h;·simp_all
   ·cases h
  ·cases h
 ·cases h
def fldS(P:Program):List Field→Nat→Bool|[],_=>true|f::r,j=>yz f.offset j&&decide (f.name≠ "_")&&(match P.underlying f.type with|some .string=>true|_=>false)&&fldS P r (j+1)
def stsT(P:Program)(T:TypeId):Option Nat:=match P.underlying T,P.stoodInHeld T,P.eqGuardType P.depth T with
 |some (.struct fs),false,false=>match fldS P fs.toList 0 with|true=>some fs.toList.length|false=>none
 |_,_,_=>none
theorem zz081{P:Program}{T n:Nat}(h:stsT P T=some n):∃fs,P.underlying T=some (.struct fs)∧P.stoodInHeld T=false∧P.eqGuardType P.depth T=false∧fldS P fs.toList 0=true∧fs.toList.length=n:=by unfold stsT at h;grind
structure TbOk(P:Program)(tb:Tb):Prop where
 sts:∀t n,lk tb.sts t=some n→stsT P t=some n
 ars:∀t n,lk tb.ars t=some n→arsT P t=some n
 ifc:∀t,tb.ifc.any (yz t)=true→ifcT P t=true
 mix:P.follows .mixedOrders=true
 nif:∀t,tb.nif.any (yz t)=true→nifc P t=true
 und:∀t td,lk tb.und t=some td→P.underlying t=some td
 shp:∀t s,lk tb.shp t=some s→Lk.shp P t=some s
 fld:∀t fs,lk tb.fld t=some fs→zl7 P t=some fs
 zer:∀t z,lk tb.zer t=some z→Lk.zer P t=some z
 inf:∀t i,lk tb.inf t=some i→Lk.inf P t=some i
def GtOk(tb:Tb)(w:World)(O:Nat→Prop):Prop:=∀g e,lk tb.glb g=some e→e.2.2.length=e.2.1∧∀(i:Nat)(x:List D),e.2.2[i]?=some x→zf6 w O g (i*e.1) e.1 x
def allK{β:Type}(p:Nat→β→Prop):List (Nat×β)→Prop|[]=>True|(t,x)::r=>p t x∧allK p r
theorem allK.get{β:Type}{p:Nat→β→Prop}:∀{l:List (Nat×β)}{t:Nat}{x:β},allK p l→lk l t=some x→p t x
 |(s,y)::r,t,x,h,e=>by
  rcases z4h e with⟨rfl,rfl⟩|⟨_,e⟩;·exact h.1
  ·exact h.2.get e
def allN(p:Nat→Prop):List Nat→Prop|[]=>True|t::r=>p t∧allN p r
theorem allN.get{p:Nat→Prop}:∀{l:List Nat}{t:Nat},allN p l→l.any (yz t)=true→p t
 |s::r,t,h,e=>by
  simp only[List.any_cons,Bool.or_eq_true]at e;rcases e with e|e;·rw[yad e];exact h.1
  ·exact h.2.get e
theorem TbOk.of{P:Program}{tb:Tb}(j:P.follows .mixedOrders=true)(a:allN (fun t=>ifcT P t=true) tb.ifc)(b:allN (fun t=>nifc P t=true) tb.nif)(c:allK (fun t td=>P.underlying t=some td) tb.und)(h2:allK (fun t s=>Lk.shp P t=some s) tb.shp)(d:allK (fun t fs=>zl7 P t=some fs) tb.fld)(e:allK (fun t z=>Lk.zer P t=some z) tb.zer)(f:allK (fun t i=>Lk.inf P t=some i) tb.inf)(g:allK (fun t n=>arsT P t=some n) tb.ars)(h:allK (fun t n=>stsT P t=some n) tb.sts):TbOk P tb:=⟨fun _ _=>h.get,fun _ _=>g.get,fun _=>a.get,j,fun _=>b.get,fun _ _=>c.get,fun _ _=>h2.get,fun _ _=>d.get,fun _ _=>e.get,fun _ _=>f.get⟩
theorem mapM_some{α β:Type}{f:α→Option β}:∀{l:List α}{r:List β},l.mapM f=some r→∀(i:Nat)(y:β),r[i]?=some y→∃x,l[i]?=some x∧f x=some y|[],r,h,i,y,e=>by grind|a::l,r,h,i,y,e=>by simp only[yq,ya]at h;obtain⟨b,c,h⟩:=yb.1 h;obtain⟨bs,h2,h⟩:=yb.1 h;cases h;cases i with|zero=>grind|succ i=>simpa using mapM_some h2 i y (by simpa using e)
theorem zk7{P:Program}{T:TypeId}{fs:List (Nat×Bool×Nat)}(h:zl7 P T=some fs):∃fds,P.underlying T=some (.struct fds)∧(fds.toList.mapM fun f=>match Lk.shp P f.type with|some (b,n)=>if n=0 then none else some (f.offset,b,n)|none=>none)=some fs:=by
 unfold zl7 at h;split at h;·simp_all
 ·cases h
theorem zsn{P:Program}{T:TypeId}{fs:List (Nat×Bool×Nat)}(h:zl7 P T=some fs){i:Nat}{f:Nat×Bool×Nat}(hf:fs[i]?=some f):Lk.fld P T i=some f:=by obtain⟨fds,a,h2⟩:=zk7 h;obtain⟨x,b,c⟩:=mapM_some h2 i f hf;grind[Lk.fld]
theorem zhf{P:Program}:∀{l:List Field}{fs:List (Nat×Bool×Nat)},(l.mapM fun f=>match Lk.shp P f.type with|some (b,n)=>if n=0 then none else some (f.offset,b,n)|none=>none)=some fs→(l.mapM fun f=>(P.info? f.type).map fun i=>(f.offset,i.size))=some (fs.map fun f=>(f.1,f.2.2))|[],fs,h=>by grind|a::l,fs,h=>by simp only[yq,ya]at h;obtain⟨b,c,h⟩:=yb.1 h;obtain⟨bs,h2,h⟩:=yb.1 h;have d:=zhf h2;grind[zz039]
theorem zc{α:Type}{x:Option α}{k:α→Prop}(h:wt x k):∃a,x=some a∧k a:=by cases x with|none=>exact h.elim|some a=>exact⟨a,rfl,h⟩
theorem zpm{b:Bool}{p q:Prop}(h:cond b p q):b=true∧p∨b=false∧q:=by grind
section
variable{w:World}{O:Nat→Prop}{φ:Nat→Nat}{α:Nat→Value}
theorem zql(v:Value):VR w O φ α (zvv v) v:=by
 unfold zvv;split;·rfl
 ·rfl
 ·simp[VR]
 ·rfl
 ·rfl
 ·rfl
 ·exact⟨[],[],rfl,rfl,rfl⟩
 ·trivial
theorem zta:∀(l:List Value),VRs w O φ α (l.map zvv) l|[]=>rfl|v::l=>⟨v,l,rfl,zql v,zta l⟩
theorem zkl(v:Value):VR w O φ α (ofV v) v:=by
 unfold ofV;split;·rename_i cs;exact⟨cs.toList,by simp,zta _⟩
 ·exact zql v
theorem zym{d:D}{u:Value}(h:RD w O d u):VR w O φ α (ofD d) u:=by cases d with|int k n=>grind[VR,ofD,RD]|bool b=>grind[VR,ofD,RD]|str s=>grind[VR,ofD,RD]|sl T n l=>exact h|val x=>trivial|fn n=>exact⟨[],[],h,rfl,rfl⟩
theorem zey:∀{l:List D}{us:List Value},RDs w O l us→VRs w O φ α (ofDs l) us|[],us,h=>h|d::l,us,h=>by obtain⟨v,vs,a,h2,b⟩:=h;exact⟨v,vs,a,zym h2,zey b⟩
theorem VR.one{v:PV}{u:Value}(h:VR w O φ α v u)(a:zvw v=true):u.oneCell'=true:=by
 cases v<;>simp only[zvw,yf]at a;case int=>subst h;rfl
 case bool=>subst h;rfl
 case str=>subst h;rfl
 case sl=>exact RD.one _ _ h
 case nil=>subst h;rfl
 case ref=>exact h.2
 case ptr=>subst h;rfl
 case zai=>obtain⟨b,q,h,_⟩:=h;subst h;rfl
 case zd7=>obtain⟨b,l,c,j,_,_,h⟩:=h;subst h;rfl
 case iface=>obtain⟨x,h,_⟩:=h;subst h;rfl
 case zfr=>subst h;rfl
 case fn=>grind[VR,zx2]
 case zg7=>subst h;rfl
 case z1e=>rcases h with rfl|rfl<;>rfl
 case err=>rcases h with⟨_,rfl⟩|⟨_,T,v,rfl⟩<;>rfl
 case mp=>subst h;rfl
theorem VRs.zuz:∀{vs:List PV}{us:List Value},VRs w O φ α vs us→vs.all zvw=true→us.all (·.oneCell')=true|[],us,h,_=>by cases h;rfl|v::vs,us,h,k=>by obtain⟨u,b,rfl,h2,a⟩:=h;simp only[List.all_cons,yd]at k⊢;exact⟨h2.one k.1,VRs.zuz a k.2⟩
theorem VR.cells{v:PV}{u:Value}(h:VR w O φ α v u)(a:z5t v=false):VRs w O φ α (cellsOf v) u.cells.toList:=by cases v with|agg cs=>simp only[VR]at h;grind[cellsOf,Value.cells]|undef=>simp[z5t]at a|gone=>simp[z5t]at a|md c=>simp[z5t]at a|tup cs=>have b:=h;obtain⟨us,rfl,h⟩:=h;exact⟨_,[],rfl,b,rfl⟩|_=>have:=cells_one (h.one rfl);rw[this];exact⟨u,[],rfl,h,rfl⟩
theorem zo3(a:Value):VRs w O φ α (cellsOf (ofV a)) a.cells.toList:=by
 by_cases b:z5t (ofV a)=false;·exact(zkl a).cells b
 ·have c:a.cells=#[a]:=by cases a<;>first|rfl|grind[ofV,z5t]
  have d:cellsOf (ofV a)=[ofV a]:=by revert b;cases ofV a<;>simp[z5t,cellsOf]
  rw[d,c];exact⟨a,[],rfl,zkl a,rfl⟩
theorem zdu{β:Type}{l:List β}{i:Int}{x:β}(h:Lk.ix l i=some x):∃j:Nat,i=(j:Nat)∧l[j]?=some x∧j<l.length:=by grind[zxs]
end
theorem RD.zz082{P:Program}{w:World}{O:Nat→Prop}{T n t:Nat}{l:List (List D)}{v:Value}{a b:Nat}{j e:Option Value}{g:Bool}(x:P.underlying t=some (.slice T))(i:shp P T=some (g,n))(h:RD w O (.sl T n l) v)(f:LoV j a 0)(c:LoV e b l.length)(d:a≤b)(E:b≤l.length):∃v',(∀w',(Instr.sliceAt t v j e none).run P w'=.ok v' w')∧RD w O (.sl T n ((l.take b).drop a)) v':=by
 have key:∀(p:Option Addr)(cap:Nat),l.length≤cap→∀w,(Instr.sliceAt t (.slice p l.length cap) j e none).run P w=.ok (.slice (if cap=a then p else p.map (·.add (a*n))) (b-a) (cap-a)) w:=by intro p cap F w;have G:(a:Int)≤(b:Int):=Int.ofNat_le.2 d;have H:(b:Int)≤(cap:Int):=Int.ofNat_le.2 (by omega);simp only[Instr.sliceAt,Sem.run_bind,run_underlying x,Result.andThen_ok,Instr.slice];cases j with
  |none=>subst f;cases e with|none=>subst c;simp[Instr.sliceBounds,(z1u i).2]|some y=>obtain⟨kd,rfl⟩:=c;simp[Instr.sliceBounds,Instr.sliceBound,asIntOf,(z1u i).2,show b≤cap by omega]
  |some z=>obtain⟨I,rfl⟩:=f;cases e with|none=>subst c;simp[Instr.sliceBounds,Instr.sliceBound,asIntOf,(z1u i).2,d]|some y=>obtain⟨kd,rfl⟩:=c;simp[Instr.sliceBounds,Instr.sliceBound,asIntOf,(z1u i).2,d,show b≤cap by omega]
 rcases h with⟨⟨p,rfl⟩,rfl⟩|⟨bb,q,cap,cs,fr,rfl,h2,A,m,o,B,u⟩;·simp_all[RD]
 ·refine⟨_,key _ cap h2,?_⟩;right;have r:((l.take b).drop a).length=b-a:=by simp;omega
  have C:RDl w O n ((l.take b).drop a) ((cs.toList.drop q).drop (a*n)):=RDl.drop a (RDl.take b u);by_cases k:cap=a
  ·have:b=a:=by omega
   subst this;have s:(l.take b).drop b=[]:=yk (by omega);rw[if_pos k,s];exact⟨bb,q,cap-b,cs,fr,by simp,by simp,by omega,m,o,by grind,trivial⟩
  ·refine⟨bb,q+a*n,cap-a,cs,fr,by grind[Addr.add_lit],by omega,by omega,m,o,?_,by simp_all⟩;rw[Nat.sub_mul];have:a*n≤cap*n:=yag n (by omega);omega
section
variable{z:W0}{σ:St}{V:Env}{w:World}{O:Nat→Prop}{φ:Nat→Nat}{α:Nat→Value}{C:Cx}{n:Nat}{o:Oper}
theorem Rel.ev{fB:FB}{fA:FA}(h:Rel z (lk σ.L) fB fA V w O φ α){x:Operand}{v:PV}(e:σ.ev x=some v):∃u,Lk.ev V x=some u∧VR w O φ α v u:=by cases x with|tmp t=>exact h.env t v e|const c=>simp only[St.ev,Option.some.injEq]at e;subst e;exact⟨c,rfl,zkl c⟩|global g=>cases e|func f=>
  simp only[St.ev]at e;split at e;·cases e
  ·rename_i hf;cases e;exact⟨_,rfl,[],[],(zpt hf [] []).symm,rfl,rfl⟩
theorem Rel.evs{fB:FB}{fA:FA}(h:Rel z (lk σ.L) fB fA V w O φ α):∀{xs:List Operand}{vs:List PV},σ.evs xs=some vs→∃us,Lk.evs V xs=some us∧VRs w O φ α vs us
 |[],vs,e=>by simp only[St.evs,Option.some.injEq]at e;subst e;exact⟨[],rfl,rfl⟩|x::xs,vs,e=>by
  unfold St.evs at e;split at e;·rename_i v d a h2;cases e;obtain⟨u,f,b⟩:=h.ev a;obtain⟨us,g,c⟩:=h.evs h2;exact⟨u::us,by grind[Lk.evs],u,us,rfl,b,c⟩
  ·cases e
def zpb(C:Cx)(n:Nat)(V:Env)(w:World)(O:Nat→Prop)(φ:Nat→Nat)(α:Nat→Value)(o:Oper)(st:Bool)(k:PV→Prop):Prop:=∃v u,k v∧VR w O φ α v u∧EX C n V w o u∧(st=true→∀w' O',Tr O w O' w'→EX C n V w' o u)
theorem zpb.al{st:Bool}{k:PV→Prop}{v:PV}{u:Value}(b:k v)(c:VR w O φ α v u)(a:∀w',EX C n V w' o u):zpb C n V w O φ α o st k:=⟨v,u,b,c,a w,fun _ w' _ _=>a w'⟩
theorem zpb.val{st:Bool}{k:PV→Prop}{x:Value}(a:k (zvv x))(h:∀w',EX C n V w' o x):zpb C n V w O φ α o st k:=.al a (zql x) h
theorem z9s{a b:IntKind}(h:ikEq a b=true):a=b:=by have:=yad h;cases a<;>cases b<;>first|rfl|(exact absurd this (by decide))
theorem zgx{p:Prop}[Decidable p]{k:Unit→Prop}(h:Ex (chk (decide p)) k):p∧k ():=by obtain⟨a,b,h2⟩:=h;simp_all[of_decide_eq_true,z7f]
theorem EX.ifNil{op:BinOp}{t r:TypeId}{x:Operand}{j:Array (String×TypeId)}{u:Value}{b:Bool}(ho:o.op=.binOp op t x (.const .nilIface) r)(g:C.P.underlying t=some (.interface j))(f:Lk.ev V x=some u)(i:b=true∧u=.nilIface∨b=false∧∃T v,u=.iface T v):(op=.eql→EX C n V w o (.bool b))∧(op=.neq→EX C n V w o (.bool !b)):=by
 rcases i with⟨rfl,rfl⟩|⟨rfl,T,v,rfl⟩
 ·have h:∀d:Nat,(Op.equalIn (d+1) t .nilIface .nilIface).run C.P w=.ok true w:=fun d=>by simp[Op.equalIn,run_underlying g]
  constructor;·rintro rfl a c;have e:a.eval (.const .nilIface)=.nilIface:=rfl;simp[execOp,ho,c.ev f,e,binOp,eqGuard,Op.equal,Op.maxDepth,h 9999]
  ·rintro rfl a c;have e:a.eval (.const .nilIface)=.nilIface:=rfl;simp[execOp,ho,c.ev f,e,binOp,eqGuard,Op.equal,Op.maxDepth,h 9999]
 ·have h:∀d:Nat,(Op.equalIn (d+1) t (.iface T v) .nilIface).run C.P w=.ok false w:=fun d=>by simp[Op.equalIn,run_underlying g]
  constructor;·rintro rfl a c;have e:a.eval (.const .nilIface)=.nilIface:=rfl;simp[execOp,ho,c.ev f,e,binOp,eqGuard,Op.equal,Op.maxDepth,h 9999]
  ·rintro rfl a c;have e:a.eval (.const .nilIface)=.nilIface:=rfl;simp[execOp,ho,c.ev f,e,binOp,eqGuard,Op.equal,Op.maxDepth,h 9999]
theorem EX.zz0a6{op:BinOp}{t r:TypeId}{x:Operand}{ps rs:Array TypeId}{i:Bool}{f:Nat}{us vs:List Value}(ho:o.op=.binOp op t x (.const .nilFunc) r)(g:C.P.underlying t=some (.func ps rs i))(e:Lk.ev V x=some (fnV f us vs)):(op=.eql→EX C n V w o (.bool (yz f NF)))∧(op=.neq→EX C n V w o (.bool !yz f NF)):=by
 unfold fnV at e;split at e
 ·rename_i hf;rw[hf];have h:∀d:Nat,(Op.equalIn (d+1) t .nilFunc .nilFunc).run C.P w=.ok true w:=fun d=>by simp[Op.equalIn,run_underlying g]
  constructor;·rintro rfl a b;have c:a.eval (.const .nilFunc)=.nilFunc:=rfl;simp[execOp,ho,b.ev e,c,binOp,eqGuard,Op.equal,Op.maxDepth,h 9999]
  ·rintro rfl a b;have c:a.eval (.const .nilFunc)=.nilFunc:=rfl;simp[execOp,ho,b.ev e,c,binOp,eqGuard,Op.equal,Op.maxDepth,h 9999]
 ·rename_i hf;rw[hf];have h:∀d:Nat,(Op.equalIn (d+1) t (.func (.func f) (yx us) (yx vs)) .nilFunc).run C.P w=.ok false w:=fun d=>by simp[Op.equalIn,run_underlying g]
  constructor;·rintro rfl a b;have c:a.eval (.const .nilFunc)=.nilFunc:=rfl;simp[execOp,ho,b.ev e,c,binOp,eqGuard,Op.equal,Op.maxDepth,h 9999]
  ·rintro rfl a b;have c:a.eval (.const .nilFunc)=.nilFunc:=rfl;simp[execOp,ho,b.ev e,c,binOp,eqGuard,Op.equal,Op.maxDepth,h 9999]
def EqS:List Value→List Value→Bool→Prop|[],[],b=>b=true|x::r,y::s,b=>∃p q c,x=.string ⟨yx p⟩∧y=.string ⟨yx q⟩∧EqS r s c∧b=(decide (p=q)&&c)|_,_,_=>False
theorem zwn:∀{us vs:List PV}{b:Bool}{xs ys:List Value},eqSs us vs=some b→VRs w O φ α us xs→VRs w O φ α vs ys→EqS xs ys b∧xs.length=ys.length
 |[],[],b,xs,ys,e,a,h2=>by obtain rfl:xs=[]:=a;obtain rfl:ys=[]:=h2;cases e;exact⟨rfl,rfl⟩|.str p::us,.str q::vs,b,xs,ys,e,a,h2=>by
  obtain⟨x,r,rfl,d,f⟩:=a;obtain⟨y,s,rfl,g,h⟩:=h2;simp only[eqSs]at e;split at e;·rename_i c i;cases e;obtain⟨k1,j⟩:=zwn i f h;exact⟨⟨p,q,c,d,g,k1,rfl⟩,by simp[j]⟩
  ·cases e
theorem zn3{P:Program}{w:World}{d e:Nat}{i:TypeInfo}(k:P.underlying e=some .string)(l:P.info? e=some i)(g:i.size=1):∀(r s:List Value)(b:Bool)(xs ys:List Value)(j:Nat),EqS r s b→xs.drop j=r→ys.drop j=s→(Op.eqItems (d+1) e (P.cellsOf e) (yx xs) (yx ys) (List.range' j r.length)).run P w=.ok b w
 |[],[],b,xs,ys,j,h,_,_=>by obtain rfl:b=true:=h;rfl|x::r,y::s,b,xs,ys,j,h,m,n=>by
  obtain⟨p,q,c,rfl,rfl,t,rfl⟩:=h;have u:P.cellsOf e=1:=by simp[Program.cellsOf,l,g]
  have ex:xs[j]?=some (.string ⟨yx p⟩):=by have:=congrArg (·[0]?) m;simpa using this
  have o:ys[j]?=some (.string ⟨yx q⟩):=by have:=congrArg (·[0]?) n;simpa using this
  have a:xs.drop (j+1)=r:=by rw[←yj,m];rfl
  have f:ys.drop (j+1)=s:=by rw[←yj,n];rfl
  have v:=zn3 (w:=w) (d:=d) k l g r s c xs ys (j+1) t a f;have eb:((⟨yx p⟩:ByteArray)==⟨yx q⟩)=decide (p=q):=by rw[beq_toListBytes,ByteArray.toList_eq,ByteArray.toList_eq,ye];simp
  rw[yo,List.range'_succ];simp only[Op.eqItems,u,yah,Sem.run_bind,part,isAgg,run_underlying k,Result.andThen_ok,Sem.run_pure,yf,if_false,yn,ex,o,Op.equalIn,eb];cases decide (p=q)with|false=>simp|true=>grind
theorem EX.eqA{op:BinOp}{t r:TypeId}{x y:Operand}{xs ys:List Value}{m:Nat}{b:Bool}(ho:o.op=.binOp op t x y r)(s:arsT C.P t=some m)(g:Lk.ev V x=some (.agg (yx xs)))(h:Lk.ev V y=some (.agg (yx ys)))(hl:xs.length=m)(p:EqS xs ys b)(q:xs.length=ys.length):(op=.eql→EX C n V w o (.bool b))∧(op=.neq→EX C n V w o (.bool !b)):=by
 obtain⟨e,z,i,j,h2,k,d,f,l,u⟩:=zw6 s;have key:(Op.equalIn (9998+1+1) t (.agg (yx xs)) (.agg (yx ys))).run C.P w=.ok b w:=by rw[run_equalIn_array w _ _ _ j d,←hl,List.range_eq_range'];exact zn3 k d l xs ys b xs ys 0 p rfl rfl
 constructor;·rintro rfl a c;simp[execOp,ho,c.ev g,c.ev h,binOp,eqGuard,Op.equal,Op.maxDepth,key,f]
 ·rintro rfl a c;simp[execOp,ho,c.ev g,c.ev h,binOp,eqGuard,Op.equal,Op.maxDepth,key,f]
theorem zk1{P:Program}{w:World}{d:Nat}:∀(fs:List Field)(r s:List Value)(b:Bool)(xs ys:List Value)(j:Nat),fldS P fs j=true→fs.length=r.length→EqS r s b→xs.drop j=r→ys.drop j=s→(Op.eqFields (d+1) (yx xs) (yx ys) fs).run P w=.ok b w
 |[],[],[],b,xs,ys,j,_,_,h,_,_=>by obtain rfl:b=true:=h;rfl|f::fs,x::r,y::s,b,xs,ys,j,hf,hl,h,k,l=>by
  obtain⟨p,q,c,rfl,rfl,t,rfl⟩:=h;simp only[fldS,yd,decide_eq_true_eq]at hf;obtain⟨⟨⟨e,n⟩,a⟩,o⟩:=hf;have e:=yad e;have a:P.underlying f.type=some .string:=by
   split at a;·assumption
   ·cases a
  have ex:xs[j]?=some (.string ⟨yx p⟩):=by have:=congrArg (·[0]?) k;simpa using this
  have m:ys[j]?=some (.string ⟨yx q⟩):=by have:=congrArg (·[0]?) l;simpa using this
  have g:xs.drop (j+1)=r:=by rw[←yj,k];rfl
  have i:ys.drop (j+1)=s:=by rw[←yj,l];rfl
  have u:=zk1 (w:=w) (d:=d) fs r s c xs ys (j+1) o (by grind) t g i;have eb:((⟨yx p⟩:ByteArray)==⟨yx q⟩)=decide (p=q):=by rw[beq_toListBytes,ByteArray.toList_eq,ByteArray.toList_eq,ye];simp
  simp only[Op.eqFields,e,if_pos n,Sem.run_bind,part,isAgg,run_underlying a,Result.andThen_ok,Sem.run_pure,yf,if_false,yn,ex,m,Op.equalIn,eb];cases decide (p=q)with|false=>simp|true=>grind
 |[],_::_,_,_,_,_,_,_,hl,_,_,_=>by simp at hl|_::_,[],_,_,_,_,_,_,hl,_,_,_=>by simp at hl|[],[],_::_,_,_,_,_,_,_,h,_,_=>h.elim|_::_,_::_,[],_,_,_,_,_,_,h,_,_=>h.elim
theorem EX.eqT{op:BinOp}{t r:TypeId}{x y:Operand}{xs ys:List Value}{m:Nat}{b:Bool}(ho:o.op=.binOp op t x y r)(k:stsT C.P t=some m)(f:Lk.ev V x=some (.agg (yx xs)))(g:Lk.ev V y=some (.agg (yx ys)))(hl:xs.length=m)(j:EqS xs ys b):(op=.eql→EX C n V w o (.bool b))∧(op=.neq→EX C n V w o (.bool !b)):=by
 obtain⟨fs,h,h2,e,i,l⟩:=zz081 k;have d:C.P.fieldsOf t=fs:=by simp[Program.fieldsOf,h]
 have key:(Op.equalIn (9998+1+1) t (.agg (yx xs)) (.agg (yx ys))).run C.P w=.ok b w:=by rw[run_equalIn_struct w _ _ _ _ (by grind) h2,d];exact zk1 fs.toList xs ys b xs ys 0 i (by omega) j rfl rfl
 constructor;·rintro rfl a c;simp[execOp,ho,c.ev f,c.ev g,binOp,eqGuard,Op.equal,Op.maxDepth,key,e]
 ·rintro rfl a c;simp[execOp,ho,c.ev f,c.ev g,binOp,eqGuard,Op.equal,Op.maxDepth,key,e]
theorem zz043{C:Cx}{n:Nat}{tb:Tb}{V:Env}{w:World}{o:Oper}(f:TbOk C.P tb){op:BinOp}{t r:TypeId}{x y:Operand}{xs ys:List Value}{m:Nat}{b:Bool}(a:tb.eqn t=some m)(ho:o.op=.binOp op t x y r)(g:Lk.ev V x=some (.agg (yx xs)))(h:Lk.ev V y=some (.agg (yx ys)))(hl:xs.length=m)(e:EqS xs ys b)(c:xs.length=ys.length):(op=.eql→EX C n V w o (.bool b))∧(op=.neq→EX C n V w o (.bool !b)):=by
 unfold Tb.eqn at a;split at a;·rename_i i d;cases a;exact EX.eqA ho (f.ars _ _ d) g h hl e c
 ·exact EX.eqT ho (f.sts _ _ a) g h hl e
theorem zz045:∀(is:List Nat)(us:List PV)(xs:List Value)(j:Nat),zd0 j is=true→us.all strP=true→VRs w O φ α us xs→is.length=us.length→flat 1 j (is.zip xs)=some xs|[],[],xs,j,_,_,h,_=>by obtain rfl:xs=[]:=h;rfl|i::is,.str p::us,xs,j,a,b,h,hl=>by obtain⟨x,r,rfl,c,d⟩:=h;simp only[zd0,yd]at a;simp only[List.all_cons,yd]at b;subst c;obtain rfl:=yad a.1;simp only[yy,flat];rw[zz045 is us r (j+1) a.2 b.2 d (by grind)];simp[Value.cells]|[],_::_,_,_,_,_,_,hl=>by simp at hl|_::_,[],_,_,_,_,_,hl=>by simp at hl
theorem EX.zz09r{T m:TypeId}{parts:Array (Nat×Operand)}{vs:List (Nat×Value)}{cs:List Value}(ho:o.op=.build T parts)(l:arsT C.P T=some m)(k:evp V parts.toList=some vs)(j:flat 1 0 vs=some cs)(hl:vs.length=m):EX C n V w o (.agg (yx cs)):=fun a h=>by
  obtain⟨e,z,i,d,h2,r,f,s,g,t⟩:=zw6 l;have c:(parts.map fun(i,x)=>(i,a.eval x))=vs.toArray:=by apply yao.1;simpa using h.evp k
  obtain⟨u,p,q⟩:=yb.1 h2;have key:Instr.fill (fun i=>some (i,1)) z.cells vs=some (yx cs):=by have:=(zhd 1 m vs 0 z.cells cs j (by omega)).1;simp only[yah]at this;rw[this];have b:z.cells.toList.drop (0+vs.length)=[]:=List.drop_eq_nil_of_le (by simp;omega);rw[b];simp
  simp only[execOp,ho,c,Instr.build,Sem.run_bind,zeroValue,sizeOf,typeInfo,run_program,Result.andThen_ok,p,Sem.run_pure,q,run_underlying d,f,g,yah,key]
theorem zz07h{v:PV}{u:Value}{b:Bool}(h:nilQ v=some b)(a:VR w O φ α v u):b=true∧u=.nilIface∨b=false∧∃T v,u=.iface T v:=by
 unfold nilQ at h;split at h;·cases h;exact .inl ⟨rfl,a⟩
 ·cases h;obtain⟨x,rfl,_⟩:=a;simp
 ·cases h;exact a
 ·cases h
theorem EX.binPN{op:BinOp}{t r e:TypeId}{x y:Operand}{p:Addr}(ho:o.op=.binOp op t x y r)(g:C.P.underlying t=some (.pointer e))(c:Lk.ev V x=some (.pointer (some p)))(f:Lk.ev V y=some (.pointer none)):(op=.eql→EX C n V w o (.bool false))∧(op=.neq→EX C n V w o (.bool true)):=by
 have h:∀d:Nat,(Op.equalIn (d+1) t (.pointer (some p)) (.pointer none)).run C.P w=.ok false w:=fun d=>by simp[Op.equalIn,run_underlying g]
 constructor;·rintro rfl a b;simp[execOp,ho,b.ev c,b.ev f,binOp,eqGuard,Op.equal,Op.maxDepth,h 9999]
 ·rintro rfl a b;simp[execOp,ho,b.ev c,b.ev f,binOp,eqGuard,Op.equal,Op.maxDepth,h 9999]
theorem EX.binNN{op:BinOp}{t r e:TypeId}{x y:Operand}(ho:o.op=.binOp op t x y r)(g:C.P.underlying t=some (.pointer e))(c:Lk.ev V x=some (.pointer none))(f:Lk.ev V y=some (.pointer none)):(op=.eql→EX C n V w o (.bool true))∧(op=.neq→EX C n V w o (.bool false)):=by
 have h:∀d:Nat,(Op.equalIn (d+1) t (.pointer none) (.pointer none)).run C.P w=.ok true w:=fun d=>by simp[Op.equalIn,run_underlying g]
 constructor;·rintro rfl a b;simp[execOp,ho,b.ev c,b.ev f,binOp,eqGuard,Op.equal,Op.maxDepth,h 9999]
 ·rintro rfl a b;simp[execOp,ho,b.ev c,b.ev f,binOp,eqGuard,Op.equal,Op.maxDepth,h 9999]
theorem zw7{op:BinOp}{t r:TypeId}{td:TypeDesc}{x y:Operand}{u v:PV}{a b:Value}{st:Bool}{k:PV→Prop}(ho:o.op=.binOp op t x y r)(h:C.P.underlying t=some td)(f:Lk.ev V x=some a)(g:Lk.ev V y=some b)(i:VR w O φ α u a)(j:VR w O φ α v b)(d:bop td op u v k):zpb C n V w O φ α o st k:=by
 unfold bop at d;split at d
 ·rename_i ka p kb q;subst i j;split at d;·obtain⟨e,h2⟩:=zgx d;exact .val (x:=.int ka (z7r ka p q)) h2 fun _=>EX.zz050 ho f g e rfl
  ·obtain⟨e,h2⟩:=zgx d;exact .val (x:=.int ka (zir ka p q)) h2 fun _=>EX.zz050 ho f g e rfl
  ·split at d;·rename_i l;obtain rfl:=z9s l;obtain⟨e,h2⟩:=zgx d;exact .al (v:=.int ka _) (u:=_) h2 rfl fun _=>EX.quoI ho f g e rfl
   grind
  ·split at d;·rename_i l;obtain rfl:=z9s l;obtain⟨e,h2⟩:=zgx d;exact .al (v:=.int ka _) (u:=_) h2 rfl fun _=>EX.quoI ho f g e rfl
   grind
  ·split at d;·rename_i l;obtain rfl:=z9s l;obtain⟨c,e,h2⟩:=zc d;exact .val h2 fun _=>EX.binI ho f g e
   grind
 ·subst i j;split at d;·obtain⟨s,e,h2⟩:=d;obtain⟨m,z⟩:=zz014 e;subst m;exact .al (v:=.str _) (u:=_) h2 rfl fun _=>EX.catS ho f g z
  ·obtain⟨c,e,h2⟩:=zc d;exact .val h2 fun _=>EX.binS ho f g e
 ·subst i j;split at d;·exact .al (v:=.bool _) (u:=_) d rfl fun _=>EX.binB ho h f g rfl
  ·exact .al (v:=.bool _) (u:=_) d rfl fun _=>EX.binB ho h f g rfl
  grind
 ·subst i j;split at d;·exact .al (v:=.bool _) (u:=_) d rfl fun w'=>(EX.binPN (n:=n) (w:=w') ho h f g).1 rfl
  ·exact .al (v:=.bool _) (u:=_) d rfl fun w'=>(EX.binPN (n:=n) (w:=w') ho h f g).2 rfl
  grind
 ·subst i j;split at d;·exact .al (v:=.bool _) (u:=_) d rfl fun w'=>(EX.binNN (n:=n) (w:=w') ho h f g).1 rfl
  ·exact .al (v:=.bool _) (u:=_) d rfl fun w'=>(EX.binNN (n:=n) (w:=w') ho h f g).2 rfl
  grind
 grind
theorem zz006{op:UnOp}{t:TypeId}{x:Operand}{u:PV}{a:Value}{st:Bool}{k:PV→Prop}(ho:o.op=.unOp op t x)(e:Lk.ev V x=some a)(d:VR w O φ α u a)(b:uop op u k):zpb C n V w O φ α o st k:=by
 unfold uop at b;split at b;·subst d;exact .al (v:=.bool _) (u:=_) b rfl fun _=>EX.notB ho e
 ·subst d;obtain⟨c,f,h2⟩:=zc b;exact .val h2 fun _=>EX.unI ho e f
 grind
theorem zev{T:TypeId}{x:Operand}{g:Bool}{m b q off:Nat}{cs:List PV}{us:List Value}{v:PV}(ho:o.op=.load T x)(i:Lk.shp C.P T=some (g,m))(k:Lk.ev V x=some (.pointer (some ⟨b,q+off,none⟩)))(p:VRs w O φ α cs us)(c:z8c g m ((cs.drop off).take m)=some v):∃u,VR w O φ α v u∧∀w',(∀j u,us[j]?=some u→w'.cell? ⟨b,q+j,none⟩=some u)→EX C n V w' o u:=by
 have a:VRs w O φ α ((cs.drop off).take m) ((us.drop off).take m):=(p.drop off).take m;have d:∀w':World,(∀j u,us[j]?=some u→w'.cell? ⟨b,q+j,none⟩=some u)→∀j u,((us.drop off).take m)[j]?=some u→w'.cell? ⟨b,q+off+j,none⟩=some u:=fun w' f j u e=>by grind
 have hl:=a.len;revert c a hl d;generalize(cs.drop off).take m=t;generalize(us.drop off).take m=r;intro c a d hl;unfold z8c at c;split at c
 ·split at c;·rename_i h;cases c;have h:=yad h;exact⟨_,⟨r,rfl,a⟩,fun w' f=>EX.zz0ad ho i k (by rw[hl,h]) (d w' f)⟩
  ·cases c
 ·cases c;obtain⟨u,s,rfl,l,h2⟩:=a;exact⟨u,l,fun w' f=>EX.loadC ho i k (by simpa using d w' f 0 u (by simp))⟩
 ·cases c
theorem zeh.elem{w:World}{O:Nat→Prop}{T m:Nat}{v:Value}{l:List (List D)}{b len cap:Nat}(h:zeh w O T m v l)(d:v=.slice (some ⟨b,0,none⟩) len cap){j:Nat}{x:List D}(c:l[j]?=some x):∃us,RDs w O x us∧∀i u,us[i]?=some u→w.cell? ⟨b,j*m+i,none⟩=some u:=by
 obtain⟨xs,a,h2,_,_⟩:=h;refine⟨(xs.drop (j*m)).take m,RDl.at h2 c,fun i u e=>?_⟩;rw[ym]at e;split at e;·rw[yl]at e;have:=a.cells (g:=b) (by rw[d];rfl) _ _ e;grind[Addr.add_lit]
 ·cases e
theorem Own.elem{w:World}{O:Nat→Prop}{T m:Nat}{v:Value}{l:List (List D)}{b len cap:Nat}(h:Own w O T m v l)(d:v=.slice (some ⟨b,0,none⟩) len cap){j:Nat}{x:List D}(c:l[j]?=some x):∃us,RDs w O x us∧∀i u,us[i]?=some u→w.cell? ⟨b,j*m+i,none⟩=some u:=by
 obtain⟨xs,a,h2,_,_⟩:=h;refine⟨(xs.drop (j*m)).take m,RDl.at h2 c,fun i u e=>?_⟩;rw[ym]at e;split at e;·rw[yl]at e;have:=a.cells (g:=b) (by rw[d];rfl) _ _ e;grind[Addr.add_lit]
 ·cases e
theorem za8.elem{w:World}{O:Nat→Prop}{T m:Nat}{v:Value}{l:List (List D)}{b len cap:Nat}(h:za8 w O T m v l)(a:T<1000000∨2000000≤T)(d:v=.slice (some ⟨b,0,none⟩) len cap){j:Nat}{x:List D}(c:l[j]?=some x):∃us,RDs w O x us∧∀i u,us[i]?=some u→w.cell? ⟨b,j*m+i,none⟩=some u:=by
 rcases h with⟨_,h⟩|⟨_,_,_⟩|⟨_,h⟩;·grind[Own.elem]
 ·omega
 grind[zeh.elem]
theorem EX.convR{C:Cx}{n:Nat}{L:Env}{w:World}{o:Oper}{s t:TypeId}{f:TypeDesc}{x:Operand}{kd:IntKind}{p:Int}(ho:o.op=.convert s t x)(c:C.P.underlying s=some f)(d:C.P.underlying t=some .string)(e:Lk.ev L x=some (.int kd p)):EX C n L w o (.string ⟨(encS p).toArray⟩):=fun a b=>by simp only[execOp,ho,b.ev e,convert,Sem.run_bind,run_underlying c,run_underlying d,Result.andThen_ok,Conv.intToString,encS];rfl
theorem EX.lenM{C:Cx}{n:Nat}{L:Env}{w:World}{o:Oper}{t h c:TypeId}{x:Operand}{m clock:Nat}{b:Array MapEntry}(ho:o.op=.call {callee:=.builtin .len,args:=#[x],argTypes:=#[t]})(f:C.P.underlying t=some (.map h c))(g:Lk.ev L x=some (.map (some m)))(e:w.heap[m]?=some (.map b clock)):EX C n L w o (.int .i64 (b.size:Nat)):=fun a d=>by simp[execOp,ho,resolve,invoke,builtin,Builtin.len_,d.ev g,run_underlying f,MapKept.run_getObj_map e,goInt]
theorem Rel.ze0{fL:FL}{fA:FA}(h:Rel z fL (lk σ.B) fA V w O φ α){b:Nat}{e:Bx}{ky:Option IntKind}{g:Bool}{l:List (List D)}(p:lk σ.B b=some e)(o:e.cs=[.md (.cont ky g l)])(s:e.T=1000000):∃a clock,w.heap[φ b]?=some (.map a clock)∧MapKept.Stamped a clock∧z5l w O ky g a.toList l:=by obtain⟨_,us,d,h2⟩:=h.box b e p;obtain⟨a,clock,f,i,rfl⟩:=d.map (by omega) (by omega);rw[o]at h2;obtain⟨u,q,j,k,r⟩:=h2;cases j;obtain⟨c,m,n⟩:=k;exact⟨a,clock,f,i,n.enc m.symm⟩
theorem zkd{td:TypeDesc}{fL:FL}{u:PV}{a:Value}{k:Int→Prop}(h:Rel z fL (lk σ.B) (lk σ.A) V w O φ α)(f:VR w O φ α u a)(hl:lenW td σ u k):(∃s:List UInt8,td=.string∧u=.str s∧a=.string ⟨s.toArray⟩∧k s.length)∨((∃e,td=.slice e)∧∃l:Nat,k l∧(∃p c,a=.slice p l c)∧∀T n g,u=.sl T n g→l=g.length)∨(∃x q,td=.map x q)∧(∃b,u=.mp b)∧∃m i clock,a=.map (some m)∧w.heap[m]?=some (.map i clock)∧k i.size:=by
 unfold lenW at hl;split at hl;·simp only[VR]at f;grind
 ·obtain⟨n,d,h2⟩:=hl;cases d;exact .inr (.inl ⟨⟨_,rfl⟩,_,h2,RD.len f,fun T n g e=>by cases e;rfl⟩)
 ·simp only[VR]at f;grind
 ·obtain⟨e,j,n,d,h2⟩:=zc hl;cases d;obtain⟨p,c,o⟩:=(h.arr _ e (z8i j).1).len;exact .inr (.inl ⟨⟨_,rfl⟩,_,h2,⟨p,c,f.1.trans o⟩,fun T n g e=>by cases e⟩)
 ·unfold lenM at hl;simp only at hl;split at hl
  ·rename_i e j;split at hl
   ·rename_i v;split at hl;·rename_i t;obtain⟨n,d,h2⟩:=hl;cases d;obtain⟨i,clock,o,_,r⟩:=h.ze0 j v (yad t);simp only[VR]at f;have y:=r.len;grind
    grind
   grind
  grind
 grind
theorem zy8{fB:FB}{fA:FA}(h:Rel z (lk σ.L) fB fA V w O φ α){x:Option Operand}{k:Int→Prop}(a:loW σ x k):∃m,k m∧(x=none∧m=((0:Nat):Int)∨∃y k,x=some y∧Lk.ev V y=some (.int k m)):=by
 unfold loW at a;split at a;·grind
 ·split at a;·rename_i kk d b;obtain⟨u,c,h2⟩:=h.ev b;simp only[VR]at h2;grind
  grind
theorem Lo.of{a:Option Operand}{e:Nat}{m:Int}{p:Nat}(h:a=none∧m=(e:Nat)∨∃y k,a=some y∧Lk.ev V y=some (.int k m))(b:m=(p:Nat)):Lo V a p e:=by
 rcases h with⟨rfl,h⟩|⟨y,k,rfl,h⟩;·show p=e;omega
 ·exact⟨k,m,h,b⟩
theorem EX.zz0b8{l:List (List D)}{T m:Nat}{t:TypeId}{v:Bool}{x:Operand}{s p:Option Operand}{u:Value}{a b:Nat}(ho:o.op=.slice t x s p none)(G:C.P.underlying t=some (.slice T))(B:Lk.shp C.P T=some (v,m))(H:Lk.ev V x=some u)(F:RD w O (.sl T m l) u)(k:Lo V s a 0)(j:Lo V p b l.length)(h:a≤b)(E:b≤l.length):∃v',(∀w',EX C n V w' o v')∧RD w O (.sl T m ((l.take b).drop a)) v':=by
 have key:∀{q:Option Operand}{c e:Nat},Lo V q c e→LoV (q.bind (Lk.ev V)) c e∧∀f:Act,Has n V f→q.map f.eval=q.bind (Lk.ev V):=fun{q c e}r=>by cases q with|none=>exact⟨r,fun _ _=>rfl⟩|some y=>obtain⟨kd,i,g,h2⟩:=r;refine⟨?_,fun f d=>by simp[g,d.ev g]⟩;simp only[Option.bind_some,g];exact⟨kd,by rw[h2]⟩
 obtain⟨k1,I⟩:=key k;obtain⟨k3,J⟩:=key j;obtain⟨K,z,A⟩:=RD.zz082 (P:=C.P) (w:=w) G B F k1 k3 h E;exact⟨K,fun w' f d=>by simp only[execOp,ho,d.ev H,I f d,J f d,Option.map_none,Sem.run_bind,z w',Result.andThen_ok];rfl,A⟩
theorem EX.taNo{x:Operand}{k T U:TypeId}{td:TypeDesc}{u z:Value}(ho:o.op=.typeAssert x k T true)(g:C.P.underlying T=some td)(f:ze1 td=true)(j:Lk.zer C.P T=some z)(b:U≠T)(h:Lk.ev V x=some (.iface U u)):EX C n V w o (.tuple #[z,.bool false]):=fun a e=>by obtain⟨i,c,d⟩:=yb.1 j;simp only[execOp,ho,e.ev h,Instr.typeAssert];cases td<;>first|(simp[ze1]at f;done)|simp[run_underlying g,zeroValue,typeInfo,c,d,b]
theorem zgw{fds:List (Nat×Nat)}:∀(is:List Nat)(us:List PV)(xs:List Value)(cs:List PV)(A:Array Value)(fs:List (Nat×Bool×Nat)),(∀(i:Nat)(f:Nat×Bool×Nat),fs[i]?=some f→fds[i]?=some (f.1,f.2.2))→VRs w O φ α us xs→VRs w O φ α cs A.toList→zsk fs is us cs=true→∃out,Instr.fill (fds.toArray[·]?) A (is.zip xs)=some out∧VRs w O φ α (zn9 fs cs is us) out.toList
 |[],us,xs,cs,A,fs,_,_,b,_=>by exact⟨A,rfl,by grind[zn9]⟩|i::is,[],xs,cs,A,fs,_,g,b,_=>by cases g;exact⟨A,rfl,by grind[zn9]⟩|i::is,u::us,xs,cs,A,fs,hf,g,b,a=>by
  obtain⟨x,h,rfl,m,h2⟩:=g;unfold zsk at a;split at a
  ·rename_i f d;rw[zx4]at a;simp only[yd]at a;obtain⟨⟨⟨k1,l⟩,k3⟩,o⟩:=a;have k1:=yad k1;have l:=yae l;have k:=m.cells (by grind);have e:=VRs.len k;have n:=VRs.len b;have p:fds.toArray[i]?=some (f.1,f.2.2):=by simpa using hf i f d
   have q:x.cells.zipIdx.foldl (fun cs(c,j)=>cs.setIfInBounds (f.1+j) c) A=(A.toList.take f.1++x.cells.toList++A.toList.drop (f.1+f.2.2)).toArray:=by have:=zl8 x.cells.toList 0 f.1 A (by grind);simp only[Nat.add_zero]at this;rw[←Array.foldl_toList,Array.toList_zipIdx,this];simp[e,k1]
   have r:VRs w O φ α (cs.take f.1++cellsOf u++cs.drop (f.1+f.2.2)) (A.toList.take f.1++x.cells.toList++A.toList.drop (f.1+f.2.2)):=((b.take f.1).append k).append (b.drop _);obtain⟨out,s,t⟩:=zgw is us h _ (A.toList.take f.1++x.cells.toList++A.toList.drop (f.1+f.2.2)).toArray fs hf h2 (by omega) o;simp_all[Instr.fill,zn9]
  ·cases a
theorem zwp{σ:St}:∀{xs:List Operand}{vs:List PV},σ.evs xs=some vs→xs.length=vs.length
 |[],vs,e=>by grind[St.evs]|x::xs,vs,e=>by
  simp only[St.evs]at e;split at e;·rename_i v a b h2;cases e;simp[zwp h2]
  ·cases e
theorem zmj:∀{parts:List (Nat×Operand)}{us:List Value},Lk.evs V (parts.map (·.2))=some us→Lk.evp V parts=some ((parts.map (·.1)).zip us)
 |[],us,h=>by rfl|(i,x)::parts,us,h=>by
  simp only[yr,Lk.evs]at h;split at h;·rename_i v vs a h2;cases h;simp only[Lk.evp,a,zmj h2,yr,yy]
  ·cases h
theorem EX.zum{C:Cx}{n:Nat}{L:Env}{w:World}{o:Oper}{t T m g len:Nat}{c:Bool}{y:Operand}{kd:IntKind}{i:Int}{j:Nat}(ho:o.op=.indexAddr t (.global g) y)(h:C.P.underlying t=some (.array len T))(d:Lk.shp C.P T=some (c,m))(l:Lk.ev L y=some (.int kd i))(e:i=(j:Nat))(f:j<len):EX C n L w o (.pointer (some ⟨g,j*m,none⟩)):=fun a b=>by subst e;have k:Lk.ev L (.global g)=some (.pointer (some ⟨g,0,none⟩)):=rfl;simp[execOp,ho,b.ev k,b.ev l,Instr.indexAt,Instr.sureAddr,asIntOf,run_underlying h,(z1u d).2,f,Addr.add_lit]
theorem EX.zz0b9{C:Cx}{n:Nat}{V:Env}{w:World}{O:Nat→Prop}{o:Oper}{l:List (List D)}{T m:Nat}{t:TypeId}{r:Bool}{x i k:Operand}{u:Value}{b c:Nat}{kb J:IntKind}(ho:o.op=.slice t x none (some i) (some k))(G:C.P.underlying t=some (.slice T))(z:Lk.shp C.P T=some (r,m))(I:Lk.ev V x=some u)(F:RD w O (.sl T m l) u)(B:Lk.ev V i=some (.int kb (b:Nat)))(E:Lk.ev V k=some (.int J (c:Nat)))(h:b≤c)(A:c≤l.length):∃v',(∀w',EX C n V w' o v')∧RD w O (.sl T m (l.take b)) v':=by
 have key:∀(p:Option Addr)(cap:Nat),u=.slice p l.length cap→c≤cap→∀w',EX C n V w' o (.slice (if c=0 then p else p.map (·.add 0)) b c):=fun p cap H f w' a g=>by subst H;simp[execOp,ho,g.ev I,g.ev B,g.ev E,Instr.sliceAt,Instr.slice,run_underlying G,Instr.sliceBounds,Instr.sliceBound,asIntOf,(z1u z).2,h,f]
 rcases F with⟨⟨p,rfl⟩,rfl⟩|⟨bb,q,cap,cs,fr,rfl,h2,K,s,v,L,y⟩
 ·have e:c=0:=by simpa using A
  have d:b=0:=by omega
  subst e d;exact⟨_,key p 0 rfl (yaf _),.inl ⟨⟨p,by simp⟩,by simp⟩⟩
 ·refine⟨_,key _ cap rfl (by omega),?_⟩;have j:(l.take b).length=b:=by simp;omega
  by_cases e:c=0
  ·have d:b=0:=by omega
   subst e d;exact .inl ⟨⟨_,rfl⟩,by simp⟩
  ·refine .inr ⟨bb,q,c,cs,fr,by grind[Addr.add_lit],by omega,by omega,s,v,?_,RDl.take b y⟩;have:c*m≤cap*m:=yag m (by omega);omega
theorem zt2{b:Bool}{u v:PV}{k:PV→Prop}(h:mmW b u v k):∃a p q,u=.int a p∧v=.int a q∧k (.int a (if b=true then maxI p q else minI p q)):=by
 unfold mmW at h;split at h
 ·split at h;·rename_i c;have c:=z9s c;grind
  ·rename_i c;have c:=z9s c;grind
  grind
 grind
theorem EX.maxII{C:Cx}{n:Nat}{L:Env}{w:World}{o:Oper}{x y:Operand}{ts:Array TypeId}{a:IntKind}{p q:Int}(ho:o.op=.call {callee:=.builtin .max,args:=#[x,y],argTypes:=ts})(c:Lk.ev L x=some (.int a p))(d:Lk.ev L y=some (.int a q)):EX C n L w o (.int a (maxI p q)):=fun _ b=>by simp[execOp,ho,resolve,invoke,builtin,Builtin.max_,Builtin.max2,b.ev c,b.ev d,maxI]
theorem EX.minII{C:Cx}{n:Nat}{L:Env}{w:World}{o:Oper}{x y:Operand}{ts:Array TypeId}{a:IntKind}{p q:Int}(ho:o.op=.call {callee:=.builtin .min,args:=#[x,y],argTypes:=ts})(c:Lk.ev L x=some (.int a p))(d:Lk.ev L y=some (.int a q)):EX C n L w o (.int a (minI p q)):=fun _ b=>by simp[execOp,ho,resolve,invoke,builtin,Builtin.min_,Builtin.min2,b.ev c,b.ev d,minI]
theorem zba{tb:Tb}(Q:TbOk C.P tb)(b2:∀w O,z.G w O→GtOk tb w O)(h:Rel z (lk σ.L) (lk σ.B) (lk σ.A) V w O φ α){k:PV→Prop}(d:qop tb σ o.op k):zpb C n V w O φ α o (stb σ o.op) k:=by
 unfold qop at d;split at d;case h_1=>rename_i x ho;obtain⟨v,M,h2⟩:=zc d;obtain⟨u,J,D⟩:=h.ev M;exact .al (v:=v) (u:=u) h2 D fun _=>EX.move ho J
 case h_2=>rename_i x ho;obtain⟨v,M,h2⟩:=zc d;obtain⟨u,J,D⟩:=h.ev M;exact .al (v:=v) (u:=u) h2 D fun _=>EX.assign ho J
 case h_3=>
  rename_i c x y ho;split at d
  ·rename_i b hc;replace d:=zc d;obtain⟨v,M,d⟩:=d;replace d:=zc d;obtain⟨v',h2,d⟩:=d;obtain⟨u,J,D⟩:=h.ev M;obtain⟨u',E,F⟩:=h.ev h2;obtain⟨uc,H,S⟩:=h.ev hc;subst S;rcases zpm d with⟨rfl,d⟩|⟨rfl,d⟩;·exact .al (v:=v) (u:=u) d D fun _=>EX.zz0at ho H J
   ·exact .al (v:=v') (u:=u') d F fun _=>EX.zz0as ho H E
  grind
 case h_4=>
  rename_i op t x y r ho;split at d
  ·rename_i b4;obtain⟨ms,b5⟩:=zz06g (Q.ifc _ b4);split at d
   ·replace d:=zc d;obtain⟨b,M,d⟩:=d;obtain⟨v,h2,J⟩:=yb.1 M;obtain⟨u,D,E⟩:=h.ev h2;have key:=fun w'=>EX.ifNil (n:=n) (w:=w') ho b5 D (zz07h J E);split at d;·exact .al (v:=.bool b) (u:=.bool b) d rfl fun w'=>(key w').1 rfl
    ·exact .al (v:=.bool !b) (u:=.bool !b) d rfl fun w'=>(key w').2 rfl
    grind
   grind
  split at d
  ·rename_i m hm;replace d:=zc d;obtain⟨v,h2,d⟩:=d;obtain⟨u,D,E⟩:=h.ev h2;replace d:=zc d;obtain⟨v',J,d⟩:=d;obtain⟨u',F,H⟩:=h.ev J;unfold arrW at d;split at d
   ·replace d:=zc d;obtain⟨b,S,d⟩:=d;obtain⟨us,rfl,Y⟩:=E;obtain⟨vs,rfl,I⟩:=H;obtain⟨k1,X⟩:=zwn S Y I;split at d;·rename_i hb;have hb:=yad hb;exact .al (v:=.bool b) (u:=.bool b) d rfl fun w'=>(zz043 (n:=n) (w:=w') Q hm ho D F (by grind[VRs.len]) k1 X).1 rfl
    ·rename_i hb;have hb:=yad hb;exact .al (v:=.bool !b) (u:=.bool !b) d rfl fun w'=>(zz043 (n:=n) (w:=w') Q hm ho D F (by grind[VRs.len]) k1 X).2 rfl
    grind
   grind
  replace d:=zc d;obtain⟨td,M,d⟩:=d;replace d:=zc d;obtain⟨v,h2,d⟩:=d;obtain⟨u,D,E⟩:=h.ev h2;split at d
  ·obtain rfl:y=.const .nilFunc:=by grind[zz04b]
   unfold nilF at d;split at d
   ·obtain⟨us,vs,rfl,_,_⟩:=E;have key:=fun w'=>EX.zz0a6 (n:=n) (w:=w') ho (Q.und _ _ M) D;split at d;·exact .al (v:=.bool _) (u:=.bool _) d rfl fun w'=>(key w').1 rfl
    ·exact .al (v:=.bool _) (u:=.bool _) d rfl fun w'=>(key w').2 rfl
    grind
   grind
  replace d:=zc d;obtain⟨v',J,d⟩:=d;obtain⟨u',F,H⟩:=h.ev J;exact zw7 ho (Q.und _ _ M) D F E H d
 case h_5=>replace d:=zc d;obtain⟨v,h2,d⟩:=d;obtain⟨u,D,E⟩:=h.ev h2;grind[zz006]
 case h_6=>
  rename_i s t x ho;replace d:=zc d;obtain⟨v,h2,d⟩:=d;obtain⟨u,D,E⟩:=h.ev h2;split at d;·rename_i k1 n1 X k3 R K;subst E;exact .al (v:=_) (u:=_) d rfl fun _=>EX.convI ho (Q.und _ _ R) (Q.und _ _ K) D
  ·rename_i s1 R K;subst E;exact .al (v:=_) (u:=_) d rfl fun _=>EX.convS ho (Q.und _ _ R) (Q.und _ _ K) D
  ·rename_i k1 n1 X R K;subst E;exact .al (v:=_) (u:=_) d rfl fun _=>EX.convR ho (Q.und _ _ R) (Q.und _ _ K) D
  grind
 case h_7=>
  rename_i t x ho;replace d:=zc d;obtain⟨v,h2,d⟩:=d;obtain⟨u,D,E⟩:=h.ev h2;split at d;·rename_i hn;obtain⟨td,F,H⟩:=zqk (Q.nif _ hn);refine .al (v:=_) (u:=_) d ⟨u,rfl,E⟩ fun _=>EX.zz07c ho F ?_ D;revert H;cases td<;>simp[ze1]
  grind
 case h_8=>
  rename_i f as_ cs ho;split at d;·exact d.elim
  rename_i hf;replace d:=zc d;obtain⟨vs,M,d⟩:=d;replace d:=zc d;obtain⟨ws,h2,d⟩:=d;obtain⟨us,J,D⟩:=h.evs M;obtain⟨xs,E,F⟩:=h.evs h2;exact .al (v:=_) (u:=_) d ⟨us,xs,(zpt hf us xs).symm,D,F⟩ fun _=>EX.zz0ai ho J E
 case h_9=>
  rename_i x i ho;split at d;·rename_i vs hx;replace d:=zc d;obtain⟨v,M,d⟩:=d;obtain⟨u,h2,us,rfl,J⟩:=h.ev hx;obtain⟨u,D,E⟩:=VRs.get J M;exact .al (v:=v) (u:=u) d E fun _=>EX.extract ho h2 (by grind)
  grind
 case h_10=>
  rename_i x ho;replace d:=zc d;obtain⟨v,h2,d⟩:=d;obtain⟨u,D,E⟩:=h.ev h2;split at d;·have F:=E;subst F;exact .al (v:=_) (u:=_) d E fun _=>EX.nilCheck ho D
  ·have F:=E;obtain⟨b,q,rfl,_⟩:=F;exact .al (v:=_) (u:=_) d E fun _=>EX.nilCheck ho D
  ·have F:=E;obtain⟨b,l,c,j,_,_,rfl⟩:=F;exact .al (v:=_) (u:=_) d E fun _=>EX.nilCheck ho D
  grind
 case h_11=>
  rename_i t x i ho;replace d:=zc d;obtain⟨f,M,d⟩:=d;obtain⟨fs,h2,J⟩:=yb.1 M;replace d:=zc d;obtain⟨v,D,d⟩:=d;obtain⟨u,E,F⟩:=h.ev D;have hf:=zsn (Q.fld _ _ h2) J;split at d;·subst F;exact .al (v:=_) (u:=_) d rfl fun _=>EX.fieldAddr ho hf E
  ·obtain⟨b,q,rfl,H⟩:=F;refine .al (v:=_) (u:=_) d ⟨b,q,rfl,H⟩ fun _=>?_;rw[←Nat.add_assoc];exact EX.fieldAddr ho hf E
  ·obtain⟨b,l,c,j,H,S,rfl⟩:=F;refine .al (v:=_) (u:=_) d ⟨b,l,c,j,H,S,rfl⟩ fun _=>?_;rw[←Nat.add_assoc];exact EX.fieldAddr ho hf E
  grind
 case h_12=>
  rename_i t x i ho;replace d:=zc d;obtain⟨f,M,d⟩:=d;obtain⟨fs,h2,J⟩:=yb.1 M;split at d
  ·rename_i cs hx;replace d:=zc d;obtain⟨v,D,d⟩:=d;obtain⟨u,E,us,rfl,F⟩:=h.ev hx;obtain⟨fp,fg,fn⟩:=f;have hf:=zsn (Q.fld _ _ h2) J;have H:VRs w O φ α ((cs.drop fp).take fn) ((us.drop fp).take fn):=(VRs.drop fp F).take fn;have e8:(us.drop fp)[0]?=us[fp]?:=by simp
   revert D H;simp only;generalize b8:(cs.drop fp).take fn=c2;intro D H;unfold z8c at D;split at D
   ·split at D;·cases D;exact .al (v:=_) (u:=_) d ⟨_,rfl,H⟩ fun _=>EX.zz09y ho hf E
    ·cases D
   ·cases D;obtain⟨u,c3,Y,I,W⟩:=H;refine .al (v:=_) (u:=u) d I fun _=>EX.field ho hf E ?_;have e9:((us.drop fp).take fn)[0]?=some u:=by rw[Y];rfl
    grind
   ·cases D
  grind
 case h_13=>
  rename_i t x ho;replace d:=zc d;obtain⟨⟨g,m⟩,M,d⟩:=d;replace d:=zc d;obtain⟨v,h2,d⟩:=d;obtain⟨u,J,D⟩:=h.ev h2;have hT:=Q.shp _ _ M;unfold znv at d;split at d
  ·replace d:=zc d;obtain⟨e,E,d⟩:=d;split at d
   ·rename_i hn;have hn:=yad hn;obtain⟨cs,F,d⟩:=d;replace d:=zc d;obtain⟨v',H,d⟩:=d;obtain⟨b,len,cap,j,S,Y,rfl⟩:=D;obtain⟨j',I,W,_⟩:=zdu F;have:j'=j:=by omega
    subst this;obtain⟨us,a1,Z⟩:=(h.arr _ _ (z8i E).1).elem (z8i E).2 S W;subst hn;obtain⟨u',k1,X⟩:=zev (n:=n) ho hT J (zey a1) H;exact⟨v',u',d,k1,X w Z,fun hh=>by grind[stb]⟩
   grind
  ·replace d:=zc d;obtain⟨v',H,d⟩:=d;unfold loadP at H;split at H
   ·split at H;·rename_i e he;obtain⟨_,us,S,Y⟩:=h.box _ _ (z9y he).1;have S:=S.un (z9y he).2;subst D;obtain⟨u',k1,X⟩:=zev (n:=n) (q:=0) ho hT (by simpa using J) Y H;exact⟨v',u',d,k1,X w fun j u e=>by rw[Nat.zero_add,S.cell];exact e,fun hh=>by grind[stb]⟩
    ·cases H
   ·obtain⟨b,q,rfl,us,_,I,W⟩:=D;obtain⟨u',k1,X⟩:=zev (n:=n) ho hT J (zey W) H;exact⟨v',u',d,k1,X w I.at_,fun _ w' O' t=>X w' (I.tr t).at_⟩
   ·cases H
 case h_14=>
  rename_i t x y ho;split at d;·rename_i s ki i R K e3;obtain⟨c,M,d⟩:=d;obtain⟨j,h2,J,_⟩:=zdu M;obtain⟨u,D,E⟩:=h.ev K;obtain⟨u',F,H⟩:=h.ev e3;subst E H;exact .al (v:=_) (u:=_) d rfl fun _=>EX.zz0a7 ho (Q.und _ _ R) D F h2 J
  grind
 case h_15=>
  rename_i t x y ho;split at d
  ·rename_i g;obtain⟨e,M,d⟩:=zc d;split at d
   ·rename_i len T ki i R K;obtain⟨⟨gg,m⟩,D,d⟩:=zc d;split at d;·rename_i hm;simp only[yd]at hm;have a3:=yad hm.1;have a5:=yad hm.2;subst a3;obtain⟨cs,E,d⟩:=d;obtain⟨j,F,H,S⟩:=zdu E;obtain⟨u',Y,I⟩:=h.ev K;subst I;obtain⟨hl,a2⟩:=b2 w O h.gl g e M;have a2:=a2 j cs H;refine .al (v:=_) (u:=_) d ⟨g,j*e.1,rfl,?_⟩ fun _=>EX.zum ho (Q.und _ _ R) (Q.shp _ _ D) Y F (by omega);obtain⟨us,k1,X,k3⟩:=a2;exact⟨us,VRs.len (φ:=φ) (α:=α) (zey k3)|>.trans (by simp[ofDs]),X,k3⟩
    grind
   grind
  replace d:=zc d;obtain⟨v,M,d⟩:=d;obtain⟨u,h2,J⟩:=h.ev M;split at d
  ·rename_i T R;replace d:=zc d;obtain⟨⟨g,m⟩,D,d⟩:=d;split at d
   ·rename_i U m' l ki i K;split at d;·rename_i hm;have hm:=yad hm;subst hm;obtain⟨cs,E,d⟩:=d;obtain⟨j,F,H,S⟩:=zdu E;obtain⟨u',Y,I⟩:=h.ev K;subst I;obtain⟨b,q,cap,W,a1,Z⟩:=RD.elem J H;refine .al (v:=_) (u:=_) d ⟨b,q+j*m,rfl,?_⟩ fun _=>EX.zka ho (Q.und _ _ R) (Q.shp _ _ D) h2 W Y F S;obtain⟨us,k1,X,k3⟩:=Z;exact⟨us,VRs.len (φ:=φ) (α:=α) (zey k3)|>.trans (by simp[ofDs]),X,k3⟩
    grind
   ·rename_i a ki i K;replace d:=zc d;obtain⟨e,a4,d⟩:=d;split at d
    ·rename_i hm;have hm:=yad hm;obtain⟨cs,E,d⟩:=d;obtain⟨j,F,H,S⟩:=zdu E;obtain⟨u',Y,I⟩:=h.ev K;subst I;rcases(h.arr _ _ (z8i a4).1).at_ (z8i a4).2 with⟨_,X⟩|⟨b,cap,X⟩;·omega
     ·exact .al d ⟨b,_,cap,j,X,F,rfl⟩ fun w'=>by have:=EX.zka (n:=n) (w:=w') ho (Q.und _ _ R) (Q.shp _ _ D) h2 (J.1.trans X) Y F S;grind
    grind
   grind
  grind
 case h_16=>
  rename_i t x lo hi ho;replace d:=zc d;obtain⟨v,M,d⟩:=d;replace d:=zc d;obtain⟨td,h2,d⟩:=d;obtain⟨u,F,H⟩:=h.ev M;replace d:=zy8 h d;obtain⟨p,d,hp⟩:=d;have b3:∃q,(match td,v with
    |.string,.str s=>Ex (Go.Lk.sub s p q) fun r=>k (.str r)|.slice e,.sl T m l=>wt (lk tb.shp e) fun s=>match yz e T&&yz s.2 m with|true=>Ex (Go.Lk.sub l p q) fun r=>k (.sl T m r)|false=>False
    |_,_=>False)∧∀N:Nat,((∃s:List UInt8,v=.str s∧N=s.length)∨∃T m l,v=.sl T m l∧N=l.length)→hi=none∧q=(N:Int)∨∃y k,hi=some y∧Lk.ev V y=some (.int k q):=by
   unfold hiW at d;split at d
   ·rcases zkd h H d with⟨s,_,K,_,hk⟩|⟨⟨e0,R⟩,l,hk,_,e3⟩|R;·simp_all
    ·refine⟨_,hk,fun N hN=>.inl ⟨rfl,?_⟩⟩;grind
    grind
   ·rename_i y;split at d;·rename_i kk n' hy;obtain⟨u',S,Y⟩:=h.ev hy;subst Y;exact⟨n',d,fun N _=>.inr ⟨y,kk,rfl,S⟩⟩
    grind
  clear d;obtain⟨q,d,a6⟩:=b3;split at d;·rename_i s;obtain⟨r,S,d⟩:=d;obtain⟨a,b,Y,I,W,a1,Z⟩:=zmb S;subst H;subst Z;exact .al (v:=.str _) (u:=_) d rfl fun _=>EX.zz0ba ho (Q.und _ _ h2) F (Lo.of hp Y) (Lo.of (a6 _ (.inl ⟨s,rfl,rfl⟩)) I) W a1
  ·replace d:=zc d;obtain⟨⟨g,mm⟩,S,d⟩:=d;split at d;·rename_i hb;simp only[yd]at hb;have a8:=yad hb.1;have a9:=yad hb.2;subst a8 a9;obtain⟨r,a7,d⟩:=d;obtain⟨a,b,Y,I,W,a1,Z⟩:=zmb a7;subst Z;obtain⟨v',k1,X⟩:=EX.zz0b8 (n:=n) ho (Q.und _ _ h2) (Q.shp _ _ S) F H (Lo.of hp Y) (Lo.of (a6 _ (.inr ⟨_,_,_,rfl,rfl⟩)) I) W a1;exact .al (v:=.sl _ _ _) (u:=v') d X k1
   grind
  grind
 case h_17=>
  rename_i c ho;split at d
  ·rename_i x t R K e3;replace d:=zc d;obtain⟨td,M,d⟩:=d;replace d:=zc d;obtain⟨v,h2,d⟩:=d;obtain⟨u,D,E⟩:=h.ev h2;obtain⟨cal,cargs,cty⟩:=c;simp only at R K e3;have K:cargs=#[x]:=by apply yao.1;simpa using K
   have e3:cty=#[t]:=by apply yao.1;simpa using e3
   subst R K e3;have hu:=Q.und _ _ M;rcases zkd h E d with⟨s,rfl,rfl,rfl,hk⟩|⟨⟨e,rfl⟩,l,hk,F,_⟩|⟨⟨kt,et,rfl⟩,⟨b,rfl⟩,m,es,clock,rfl,F,hk⟩;·exact .al (v:=_) (u:=_) hk rfl fun _=>EX.lenS ho hu D
   ·exact .al (v:=_) (u:=_) hk rfl fun _=>EX.lenV ho hu D F
   ·refine⟨.int .i64 _,_,hk,rfl,EX.lenM ho hu D F,fun b9=>?_⟩;grind[stb]
  ·rename_i x y R K;obtain⟨v1,h2,d⟩:=zc d;obtain⟨v2,J,d⟩:=zc d;obtain⟨a,p,q,rfl,rfl,hk⟩:=zt2 d;obtain⟨u,D,E⟩:=h.ev h2;obtain⟨u',F,H⟩:=h.ev J;subst E H;obtain⟨cal,cargs,cty⟩:=c;simp only at R K;have K:cargs=#[x,y]:=by apply yao.1;simpa using K
   subst R K;exact .al (v:=_) (u:=_) hk rfl fun _=>EX.maxII ho D F
  ·rename_i x y R K;obtain⟨v1,h2,d⟩:=zc d;obtain⟨v2,J,d⟩:=zc d;obtain⟨a,p,q,rfl,rfl,hk⟩:=zt2 d;obtain⟨u,D,E⟩:=h.ev h2;obtain⟨u',F,H⟩:=h.ev J;subst E H;obtain⟨cal,cargs,cty⟩:=c;simp only at R K;have K:cargs=#[x,y]:=by apply yao.1;simpa using K
   subst R K;exact .al (v:=_) (u:=_) hk rfl fun _=>EX.minII ho D F
  grind
 case h_18=>
  rename_i x xt t ho;replace d:=zc d;obtain⟨zz,h2,d⟩:=d;split at d
  ·rename_i T u R e0;obtain⟨td,hu,K⟩:=zqk (Q.nif _ e0);obtain⟨u',J,y,rfl,E⟩:=h.ev R;split at d;·rename_i hT;have hT:=yad hT;subst hT;exact .al (v:=_) (u:=_) d ⟨_,rfl,y,_,rfl,E,_,_,rfl,rfl,rfl⟩ fun _=>EX.taYes ho hu K J
   ·rename_i hT;have hT:=yai hT;exact .al (v:=_) (u:=_) d ⟨_,rfl,zz,_,rfl,zkl zz,_,_,rfl,rfl,rfl⟩ fun _=>EX.taNo ho hu K (Q.zer _ _ h2) hT J
  ·rename_i R e0;obtain⟨td,hu,K⟩:=zqk (Q.nif _ e0);obtain⟨u',J,D⟩:=h.ev R;subst D;exact .al (v:=_) (u:=_) d ⟨_,rfl,zz,_,rfl,zkl zz,_,_,rfl,rfl,rfl⟩ fun _=>EX.taNil ho hu K (Q.zer _ _ h2) J
  grind
 case h_19=>
  rename_i t parts ho;replace d:=zc d;obtain⟨us,M,d⟩:=d;obtain⟨xs,D,E⟩:=h.evs M;split at d
  ·rename_i m hm;split at d
   ·rename_i hb;simp only[yd]at hb;have hl:=yad hb.1.1;have b7:(parts.toList.map (·.1)).length=us.length:=by have:=zwp M;simpa using this
    have c0:xs.length=us.length:=VRs.len E;exact .al (v:=.agg us) (u:=.agg (yx xs)) d ⟨xs,rfl,E⟩ fun _=>EX.zz09r ho (Q.ars _ _ hm) (zmj D) (zz045 _ us xs 0 hb.1.2 hb.2 E b7) (by grind)
   grind
  replace d:=zc d;obtain⟨zz,h2,d⟩:=d;replace d:=zc d;obtain⟨fs,J,d⟩:=d;rw[zla]at d;split at d;·rename_i b6;rw[zl6]at d;obtain⟨fds,F,H⟩:=zk7 (Q.fld _ _ J);have S:=zhf H;have hz:VRs w O φ α (cellsOf (ofV zz)) zz.cells.toList:=zo3 zz;obtain⟨out,Y,I⟩:=zgw (w:=w) (O:=O) (φ:=φ) (α:=α) (fds:=fs.map fun f=>(f.1,f.2.2)) _ us xs _ zz.cells fs fun i f e=>by simp[e] E hz b6;refine .al (v:=_) (u:=_) d ⟨out.toList,rfl,I⟩ fun _=>EX.build ho (zmj D) ?_;unfold built;rw[F,Q.zer _ _ h2];grind
  grind
 case h_20=>
  rename_i t x hi mx ho;obtain⟨v,M,d⟩:=zc d;split at d
  ·rename_i e T m l kb b kc c R K e3;obtain⟨⟨gg,mm⟩,D,d⟩:=zc d;split at d
   ·rename_i hm;simp only[yd]at hm;have a3:=yad hm.1;have a5:=yad hm.2;subst a3 a5;obtain⟨N,hN,_,E,r,F,d⟩:=d;simp only[lenD,Option.some.injEq]at hN;have E:=z7f E;simp only[yd,decide_eq_true_eq]at E;obtain⟨a0,b0,Y,I,W,a1,Z⟩:=zmb F;obtain⟨u,H,S⟩:=h.ev M;obtain⟨ub,k1,X⟩:=h.ev K;obtain⟨uc,k3,k4⟩:=h.ev e3;subst X k4;obtain⟨cn,b1⟩:∃cn:Nat,c=(cn:Int):=⟨c.toNat,by omega⟩;subst I b1;obtain rfl:a0=0:=by omega
    obtain⟨v',g1,g2⟩:=EX.zz0b9 (n:=n) ho (Q.und _ _ R) (Q.shp _ _ D) H S k1 k3 (by omega) (by omega);subst Z;exact .al (v:=_) (u:=_) d g2 g1
   grind
  grind
 grind
end
end
section
open Go.RowKit Go.Lk
theorem zi7{β:Type}:∀{l:List (Nat×β)}{t:Nat}{v:β},lk l t=some v→(t,v)∈l
 |(s,x)::r,t,v,h=>by
  rcases z4h h with⟨rfl,rfl⟩|⟨_,h⟩;·simp
  ·exact List.mem_cons_of_mem _ (zi7 h)
theorem zbu{β:Type}{a t:Nat}(hn:t≠a):∀{l:List (Nat×β)},lk (zan a l) t=lk l t
 |[]=>rfl|(s,x)::r=>by
  unfold zan;split;·rename_i e;have e:=yad e;subst e;rw[zbu hn];grind[lk,yad]
  ·simp only[lk];split;·rfl
   ·exact zbu hn
section
variable{z:W0}{fL fL':FL}{fB fB':FB}{fA fA':FA}{V:Env}{w w':World}{O O':Nat→Prop}{φ φ':Nat→Nat}{α α':Nat→Value}{σ σ':St}
mutual
theorem zx5 {a:Nat} {e:Arr} (ho:Own w O e.T e.n (α a) e.l):∀ (v:PV) (u:Value),VR w O φ α v u→VR w (Del O (α a)) φ α (zd8 a e v) u
 | .int k n,u,h=>by grind [VR,zd8]
 | .bool b,u,h=>by grind [VR,zd8]
 | .str s,u,h=>by grind [VR,zd8]
 | .sl T n l,u,h=>by simp only [VR,zd8] at h ⊢;exact h.tr (Tr.drop w fun x g=>g.1)
 | .nil,u,h=>by grind [VR,zd8]
 | .ref x,u,h=>by
  unfold zd8
  split
  ·rename_i p
   have p:=yad p
   subst p
   simp only [VR] at h ⊢
   rw [h.1]
   exact ho.data
  ·exact h
 | .ptr b off,u,h=>by grind [VR,zd8]
 | .zai cs off,u,h=>by
  simp only [VR,zd8] at h ⊢
  obtain ⟨b,q,d,h2⟩:=h
  exact ⟨b,q,d,zf6.tr h2 (Tr.drop w fun x g=>g.1)⟩
 | .zd7 x m i off,u,h=>by
  unfold zd8
  split
  ·trivial
  ·exact h
 | .agg cs,u,h=>by
  simp only [VR,zd8] at h ⊢
  obtain ⟨us,d,h2⟩:=h
  exact ⟨us,d,zeo ho cs us h2⟩
 | .tup cs,u,h=>by
  simp only [VR,zd8] at h ⊢
  obtain ⟨us,d,h2⟩:=h
  exact ⟨us,d,zeo ho cs us h2⟩
 | .iface T v,u,h=>by
  simp only [VR,zd8] at h ⊢
  obtain ⟨x,d,h2⟩:=h
  exact ⟨x,d,zx5 ho v x h2⟩
 | .zfr,u,h=>by grind [VR,zd8]
 | .fn f as_ cs,u,h=>by
  simp only [VR,zd8] at h ⊢
  obtain ⟨us,vs,d,h2,o⟩:=h
  exact ⟨us,vs,d,zeo ho as_ us h2,zeo ho cs vs o⟩
 | .zg7,u,h=>by grind [VR,zd8]
 | .undef,u,h=>by simp only [VR,zd8]
 | .gone,u,h=>h
 | .z1e _,u,h=>h
 | .err _,u,h=>h
 | .mp _,u,h=>h
 | .md c,u,h=>by simp only [VR,zd8] at h ⊢;exact h.tr (Tr.drop w fun x g=>g.1)
theorem zeo {a:Nat} {e:Arr} (ho:Own w O e.T e.n (α a) e.l):∀ (vs:List PV) (us:List Value),VRs w O φ α vs us→VRs w (Del O (α a)) φ α (zd8.go a e vs) us
 | [],us,h=>h
 | v::vs,us,h=>by
  obtain ⟨u,j,d,h2,o⟩:=h
  exact ⟨u,j,d,zx5 ho v u h2,zeo ho vs j o⟩
end
theorem zne{a:Nat}{e:Arr}:∀(vs:List PV),zd8.go a e vs=vs.map (zd8 a e)|[]=>rfl|v::vs=>by simp only[zd8.go,yr,zne vs]
def zd6(O:Nat→Prop)(α:Nat→Value)(fA:FA)(b:List Nat):Nat→Prop:=fun x=>O x∧∀a∈b,(fA a).isSome=true→(α a).ownBlock≠some x
theorem Rel.zz067(h:Rel z fL fB fA V w O φ α){a:Nat}{e:Arr}(k:fA a=some e)(o:e.T<1000000):Rel z (fun t=>(fL t).map (zd8 a e)) (fun b=>(fB b).map fun x=>{x with cs:=x.cs.map (zd8 a e)}) (del fA a) V w (Del O (α a)) φ α:=by
 have ho:=(h.arr a e k).un o;have td:Tr O w (Del O (α a)) w:=Tr.drop w fun x f=>f.1;refine⟨fun t v q=>?_,fun b e' g=>?_,fun b e' g=>?_,fun b c i m d h2 hn=>?_,fun b c i m d h2 hn=>?_,fun b c i m d h2=>?_,fun b e' g=>?_,fun b e' g=>?_,fun x f=>h.bd x f.1,h.ext,fun x f=>h.only x f.1,z.hG td h.gl,h.keep⟩;·obtain⟨v',d,rfl⟩:=yc.1 q;obtain⟨u,h2,j⟩:=h.env t v' d;grind[zx5]
 ·obtain⟨x,d,rfl⟩:=yc.1 g;obtain⟨h2,us,j,l⟩:=h.box b x d;refine⟨⟨h2,h.ab a b e x k d⟩,us,j,?_⟩;rw[←zne];grind[zeo]
 ·obtain⟨d,h2⟩:=z57 g;exact(h.arr b e' h2).down (fun x f=>f.1) fun x f=>⟨h.arrO h2 f,fun p=>h.aa b a e' e h2 k d x f p⟩
 ·obtain⟨r,j,rfl⟩:=yc.1 d;obtain⟨n,l,rfl⟩:=yc.1 h2;exact h.bb b c r n j l hn
 ·exact h.aa b c i m (z57 d).2 (z57 h2).2 hn
 ·obtain⟨n,l,rfl⟩:=yc.1 h2;exact h.ab b c i n (z57 d).2 l
 ·obtain⟨x,d,rfl⟩:=yc.1 g;exact h.bF b x d
 ·exact h.aF b e' (z57 g).2
abbrev Rl(z:W0)(σ:St)(V:Env)(w:World)(O:Nat→Prop)(φ:Nat→Nat)(α:Nat→Value):Prop:=Rel z (lk σ.L) (lk σ.B) (lk σ.A) V w O φ α
theorem z1n:∀(c:List Nat){σ σ':St}{O:Nat→Prop},Rl z σ V w O φ α→(∀x,z.O x→O x)→σ.freeze c=some σ'→Rl z σ' V w (zd6 O α (lk σ.A) c) φ α∧(∀x,z.O x→zd6 O α (lk σ.A) c x)∧Le (lk σ'.A) (lk σ.A)∧∀a∈c,lk σ'.A a=none
 |[],σ,σ',O,h,p,e=>by
  simp only[St.freeze,Option.some.injEq]at e;subst e;have:zd6 O α (lk σ.A) []=O:=by funext x;simp[zd6]
  simp_all[Le.refl]|a::c,σ,σ',O,h,p,e=>by
  unfold St.freeze at e;split at e
  ·rename_i l g;split at e
   ·rename_i j;rw[yd]at j;have u:l.T<1000000:=by simpa[yac]using j.2
    have j:=j.1;have r:=h.zz067 g u;have h2:Rl z ({σ.mapV (zd8 a l)with A:=zan a σ.A}:St) V w (Del O (α a)) φ α:=r.mono fun t v k=>by simp_all[St.mapV,zkg] fun t v k=>by simp only[St.mapV]at k;grind[zkg] Le.zan;obtain⟨m,n,d,s⟩:=z1n c h2 (fun x q=>⟨p x q,fun B=>by
     rcases h.aF a l g x B with⟨d,_⟩|d;·grind
     ·have:=z.hB x q;omega⟩) e;have f:zd6 (Del O (α a)) α (lk (zan a σ.A)) c=zd6 O α (lk σ.A) (a::c):=by
     funext x;apply propext;simp only[zd6,Del,yt,forall_eq_or_imp];constructor;·grind[zbu]
     ·grind[Option.isSome_iff_exists,z4j]
    rw[←f];refine⟨m,n,fun t v k=>(z4j (d t v k)).2,fun b i=>?_⟩;rcases yt.1 i with rfl|i;·cases o:lk σ'.A b with|none=>rfl|some y=>exact((z4j (d b y o)).1 rfl).elim
    grind
   ·cases e
  ·rename_i g;obtain⟨m,n,d,s⟩:=z1n c h p e;have f:zd6 O α (lk σ.A) c=zd6 O α (lk σ.A) (a::c):=by funext x;apply propext;simp[zd6,g]
   rw[←f];refine⟨m,n,d,fun b i=>?_⟩;rcases yt.1 i with rfl|i;·cases o:lk σ'.A b with|none=>rfl|some y=>rw[d b y o]at g;cases g
   grind
theorem zcr{a:Nat}(h:σ.z7y a=true):lk σ.A a=none∧(∀t v,lk σ.L t=some v→z5k (fun _=>True) (fun x=>x≠a) v)∧∀b e,lk σ.B b=some e→z5k.go (fun _=>True) (fun x=>x≠a) e.cs:=by simp only[St.z7y,yd,yg]at h;obtain⟨⟨g,h2⟩,c⟩:=h;refine⟨by simp_all,fun t v f=>noK.a (x:=0) (h2 _ (zi7 f)),fun b e d=>zed.a (c _ (zi7 d))⟩
theorem zcs{a:Nat}(h:σ.zaa a=true):(1000≤a∧lk σ.B a=none)∧(∀t v,lk σ.L t=some v→z5k (fun x=>x≠a) (fun _=>True) v)∧∀b e,lk σ.B b=some e→z5k.go (fun x=>x≠a) (fun _=>True) e.cs:=by simp only[St.zaa,yd,yg]at h;obtain⟨⟨⟨c,i⟩,h2⟩,d⟩:=h;refine⟨⟨yae c,by simp_all⟩,fun t v g=>noK.b (x:=0) (h2 _ (zi7 g)),fun b e f=>zed.b (d _ (zi7 f))⟩
theorem Rel.reA(h:Rl z σ V w O φ α){a:Nat}(hf:σ.z7y a=true)(v:Value):Rl z σ V w O φ (zm2 α a v):=by obtain⟨f,h2,c⟩:=zcr hf;refine h.re (kb:=fun _=>True) (ka:=fun x=>x≠a) (fun _ _=>trivial) (fun _ _=>rfl) fun x d=>by simp[zm2,d] h2 (fun b e k=>⟨trivial,c b e k⟩) fun b e k g=>?_;grind
theorem Rel.reB(h:Rl z σ V w O φ α){b:Nat}(hf:σ.zaa b=true)(g:Nat):Rl z σ V w O (ren φ b g) α:=by obtain⟨⟨f,i⟩,h2,d⟩:=zcs hf;refine h.re (kb:=fun x=>x≠b) (ka:=fun _=>True) fun x a=>by omega fun x a=>by simp[ren,a] (fun _ _=>rfl) h2 (fun c e k=>⟨fun j=>?_,d c e k⟩) fun _ _ _=>trivial;grind
theorem VRs.set:∀{cs:List PV}{us:List Value}{j:Nat}{v x:PV},VRs w O φ α cs us→cs[j]?=some v→(∀u,VR w O φ α v u→VR w O φ α x u)→VRs w O φ α (cs.set j x) us|c::cs,us,0,v,x,h,e,d=>by obtain⟨u,a,rfl,h2,b⟩:=h;simp at e;subst e;exact⟨u,a,rfl,d u h2,b⟩|c::cs,us,j+1,v,x,h,e,d=>by obtain⟨u,a,rfl,h2,b⟩:=h;exact⟨u,a,rfl,h2,VRs.set b (by simpa using e) d⟩
theorem zbg(h:Rl z σ V w O φ α){p:Place}{v x:PV}(d:σ.at p=some v)(o:∀u,VR w O φ α v u→VR w O φ α x u):Rl z (σ.set x p) V w O φ α:=by cases p with
 |slot t leaf=>
  unfold St.at at d;unfold St.set;simp only at d⊢;split at d
  ·rename_i F n;refine⟨fun s y D=>?_,h.box,h.arr,h.bb,h.aa,h.ab,h.bF,h.aF,h.bd,h.ext,h.only,h.gl,h.keep⟩;rcases zb5 D with⟨rfl,rfl⟩|⟨_,h2⟩;·obtain⟨u,k,i⟩:=h.env _ _ n;refine⟨u,k,?_⟩;cases leaf with|none=>simp only[zy3,Option.some.injEq]at d;subst d;exact o u i|some j=>cases F<;>simp only[zy3,reduceCtorEq]at d;obtain⟨us,l,C⟩:=i;exact⟨us,l,VRs.set C d o⟩
   ·exact h.env s y h2
  ·cases d|cell b j=>
  unfold St.at at d;unfold St.set;simp only at d⊢;split at d
  ·rename_i e f;refine⟨h.env,fun c e' m=>?_,h.arr,fun c G A B g h2 hn=>?_,h.aa,fun a c A B g h2=>?_,fun c e' m=>?_,h.aF,h.bd,h.ext,h.only,h.gl,h.keep⟩
   ·rcases zb5 m with⟨rfl,rfl⟩|⟨_,h2⟩;·obtain⟨k,us,i,l⟩:=h.box _ _ f;exact⟨k,us,i,VRs.set l d o⟩
    ·exact h.box c e' h2
   ·rcases zb5 g with⟨rfl,rfl⟩|⟨H,q⟩<;>rcases zb5 h2 with⟨rfl,rfl⟩|⟨E,r⟩;·omega
    ·exact h.bb _ _ _ _ f r hn
    ·exact h.bb _ _ _ _ q f hn
    ·exact h.bb _ _ _ _ q r hn
   ·rcases zb5 h2 with⟨rfl,rfl⟩|⟨E,h2⟩;·exact h.ab _ _ _ _ g f
    ·exact h.ab _ _ _ _ g h2
   ·rcases zb5 m with⟨rfl,rfl⟩|⟨_,h2⟩;·exact h.bF _ _ f
    ·exact h.bF _ _ h2
  ·cases d
theorem set_A(σ:St)(x:PV)(p:Place):(σ.set x p).A=σ.A:=by cases p<;>simp only[St.set]<;>split<;>rfl
theorem za8.one'{w:World}{O:Nat→Prop}{T m:Nat}{v:Value}{l:List (List D)}(h:za8 w O T m v l):v.oneCell'=true:=by obtain⟨p,c,rfl⟩:=h.len;rfl
theorem z7q:∀(g:List (Place×Nat×Nat×Nat)){σ σ':St}{α:Nat→Value},Rl z σ V w O φ α→σ.home g=some σ'→∃α',Rl z σ' V w O φ α'
 |[],σ,σ',α,h,e=>by grind[St.home]|(p,a,T,m)::g,σ,σ',α,h,e=>by
  unfold St.home at e;split at e
  ·rename_i q;split at e
   ·rename_i hf;have d:=h.reA hf (.slice none 0 0);have h2:Rl z (σ.set (.ref a) p) V w O φ (zm2 α a (.slice none 0 0)):=zbg d q fun u r=>by simp only[VR]at r⊢;subst r;exact⟨by simp[zm2],rfl⟩
    have j:Rl z ({σ.set (.ref a) p with A:=(a,⟨true,T,m,[]⟩)::σ.A}:St) V w O φ (zm2 α a (.slice none 0 0)):=by
     have I:zm2 α a (.slice none 0 0) a=.slice none 0 0:=by simp[zm2]
     have k:=h2.addA (a:=a) (e:=⟨true,T,m,[]⟩) (by grind[za8.nil]) fun c e' _ _ x _=>by grind[Value.ownBlock] fun b e' _=>by grind[Value.ownBlock] (fun x M=>by grind[Value.ownBlock]);refine k.mono (Le.refl _) (Le.refl _) ?_;rw[set_A];exact Le.cons
    exact z7q g j e
   ·cases e
  ·rename_i x q;split at e;·exact z7q g h e
   ·rename_i B;split at e
    ·rename_i i f hf;have d:=h.reA hf (α x);have G:=yai B;have ex:zm2 α a (α x) x=α x:=by simp[zm2]
     have J:zm2 α a (α x) a=α x:=by simp[zm2]
     have h2:Rl z (σ.set (.ref a) p) V w O φ (zm2 α a (α x)):=zbg d q fun u r=>by grind[VR]
     have j:Rl z ({σ.set (.ref a) p with A:=(a,i)::zan x σ.A}:St) V w O φ (zm2 α a (α x)):=by
      have C:=h2.mono (Le.refl _) (Le.refl _) (fA':=del (lk σ.A) x) (by rw[set_A];exact fun t v s=>(z57 s).2);have o:=d.arr x i f;have F:=d.aa;have n:=h2.ab;rw[set_A]at n;have l:=d.aF x i f;rw[ex]at o l;have k:=C.addA (a:=a) (e:=i) (by grind) fun c e' L _ y H=>by grind[z57] fun b e' K=>by grind (fun y H=>by grind);refine k.mono (Le.refl _) (Le.refl _) ?_;intro t v s;rcases z4h s with⟨rfl,rfl⟩|⟨D,E⟩;·simp[upd]
      ·simp only[upd,if_neg D];exact Le.zan _ _ E
     exact z7q g j e
    ·cases e
  ·cases e
theorem zex:∀(l:List (Place×Nat×Nat)){σ σ':St},Rl z σ V w O φ α→σ.nilD l=some σ'→Rl z σ' V w O φ α
 |[],σ,σ',h,e=>by grind[St.nilD]|(p,T,m)::r,σ,σ',h,e=>by
  unfold St.nilD at e;split at e;·rename_i b;exact zex r (zbg h b fun u a=>by simp only[VR]at a;subst a;exact .inl ⟨⟨_,rfl⟩,rfl⟩) e
  ·exact zex r h e
  ·cases e
theorem zu8(h:Rl z σ V w O φ α){c:Cut}(e:σ.cut0 c=some σ'):∃α',Rl z σ' V w O φ α':=by
 unfold St.cut0 at e;split at e
 ·rename_i s d;split at e;·rename_i f a;cases e;obtain⟨α',b⟩:=z7q c.H (σ:={σ with L:=zb2 c.L σ.L,B:=zb2 c.B σ.B}) (h.mono (fun _ _=>z9z) (fun _ _=>z9z) (Le.refl _)) d;exact⟨α',(zex c.N b a).mono (Le.refl _) (Le.refl _) fun _ _=>z9z⟩
  ·cases e
 ·cases e
theorem zhv:∀(l:List Nat){σ:St},Rl z σ V w O φ α→Rl z (σ.itN l) V w O φ α
 |[],_,h=>h|b::r,σ,h=>by
  unfold St.itN;split;·rename_i ky g cur rem e;refine zhv r (zbg h e fun u f=>?_);obtain⟨m,seen,clock,a,c,h2,d,_⟩:=f;exact⟨m,seen,clock,a,c,h2,d,trivial⟩
  ·exact zhv r h
theorem zh0(h:Rl z σ V w O φ α)(b:∀x,z.O x→O x){c:Cut}(e:σ.cut c=some σ'):∃O' α',Rl z σ' V w O' φ α'∧∀x,z.O x→O' x:=by
 unfold St.cut at e;split at e;·rename_i s a;obtain⟨k1,d,_⟩:=z1n _ h b a;obtain⟨α',k3⟩:=zu8 (zhv c.I k1) e;grind
 ·cases e
end
end
section
open Go.Proofs Go.RowKit Go.Maps Go.Sort Go.Shelf
variable{P:Program}{ρ:Ren}
def SeqB(F:Fence)(n:Nat)(P:Program)(g:Nat)(c:Array Value)(enc:List UInt8→Value)(b:List (List UInt8))(w:World):Prop:=∀(l:Nat)(J:List (List UInt8)→World→Prop)(W:World),Below w.heap.size w W→AbidesFrom W.heap.size J→(∀pre x W1,J pre W1→pre.length<b.length→YieldAt F (n-1) P l #[enc x] W1 fun e a=>e=.returned (.bool true)∧J (pre++[x]) a∧KeepsWalks W1 a)→(∀pre W1,J pre W1→Below w.heap.size w W1)→J [] W→CallsIn F n P g (#[.func (.yield l) #[] #[]]++c) W fun e a=>(∃v,e=.returned v)∧∃xs,xs=b∧J xs a
set_option maxRecDepth 100000 in
set_option maxHeartbeats 2000000 in
theorem zrc(L:SlLaysZ.n11 P ρ)(F:Fence)(n:Nat)(h11:F.fn (ρ.f 11))(hro:F.round=none)(hn:2≤n)(g:Nat)(lb:Array Value)(hFg:F.fn g)(eg:∀args w,(callFunc g args).run P w=.ok (.enter g args) w)(zs:List (List UInt8))(hN:zs.length≤maxLen)(hNb:zs.length*16≤140737488355328)(w:World)(hseq:SeqB F (n-1) P g lb encStr zs w):CallsIn F n P (ρ.f 11) #[.slice none 0 0,.func (.func g) #[] lb] w fun e w'=>∃(v:Value)(ss:List (List UInt8)),e=.returned v∧ss=zs∧w'.ownsRow w.heap.size (ρ.t 26) 1 v ss.length (ss.map encStr)∧(v=.slice none 0 0↔ss=[])∧Below w.heap.size w w':=by
 have h1:1≤n:=by omega
 have hne:ρ.t 24≠ρ.t 26:=fun e=>by have h:=L.t24;rw[e,L.t26]at h;cases h
 have mixed:=L.mixed;have t0:=L.t0;have a0:=L.a0;have z0:=L.z0;have v0:=L.v0;have t24:=L.t24;have a24:=L.a24;have z24:=L.z24;have v24:=L.v24;have t26:=L.t26;have a26:=L.a26;have z26:=L.z26;have v26:=L.v26;have t28:=L.t28;have a28:=L.a28;have z28:=L.z28;have v28:=L.v28;have u0:=run_underlying L.t0;have u24:=run_underlying L.t24;have u26:=run_underlying L.t26;have u28:=run_underlying L.t28;obtain⟨_,_,FG⟩:=L.f11;refine callsIn_of_wp_marks FG rfl h11 ?_ hro;simp only[SlBodyZ.n11_ntmps ρ,yw,yo,yp,yaj,yak,yam,yan,yv,yh,yu,yi];gi_wp2;refine wpIn_rangeFunc ?_;intro fn hfn;rw[hro];obtain⟨W0,hW0⟩:∃W0,w.alloc (.cells #[.slice none 0 0] (ρ.t 24))=W0:=⟨_,rfl⟩;have hs0:W0.heap.size=w.heap.size+1:=by rw[←hW0];simp
 have hv0:W0.heap[w.heap.size]?=some (.cells #[.slice none 0 0] (ρ.t 24) (0,0)):=by rw[←hW0];exact World.alloc_heap_new w _
 have hb0:Below w.heap.size w W0:=by rw[←hW0];exact(Below.refl _ w).alloc (yaf _) _
 rw[hW0];obtain⟨W1,hW1⟩:∃W1,(W0.alloc (.deferred (some []))).alloc (.loop (AnyZ.apRec ρ fn (.func (.func g) #[] lb) w.heap.size W0.heap.size .ready none))=W1:=⟨_,rfl⟩;have hold:∀k,k<W0.heap.size→W1.heap[k]?=W0.heap[k]?:=fun k hk=>by rw[←hW1];exact(Below.heap_alloc _ _ k (by simp;omega)).trans (Below.heap_alloc _ _ k hk)
 have hb1:Below w.heap.size w W1:=by rw[←hW1];exact(hb0.alloc hb0.size _).alloc (by have:=hb0.size;simp;omega) _
 have hs1:W1.heap.size=W0.heap.size+2:=by rw[←hW1];simp
 have hM:AnyZ.ApAt ρ w fn (.func (.func g) #[] lb) w.heap.size (W0.heap.size+1) W0.heap.size [] W1:=⟨⟨_,(hold w.heap.size (by omega)).trans hv0,⟨rfl,.inl ⟨rfl,rfl⟩⟩,by simp⟩,by rw[←hW1];have:=World.alloc_heap_new (W0.alloc (.deferred (some []))) (.loop (AnyZ.apRec ρ fn (.func (.func g) #[] lb) w.heap.size W0.heap.size .ready none));rwa[World.size_alloc]at this,by rw[←hW1];exact(Below.heap_alloc _ _ _ (by simp)).trans (World.alloc_heap_new W0 _),hb1⟩;refine⟨W0.heap.size+1,[{target:=.collected W0.heap.size,args:=#[]}],W1,{target:=.fn (.func g) lb,args:=#[.func (.yield (W0.heap.size+1)) #[] #[]]},W1,g,#[.func (.yield (W0.heap.size+1)) #[] #[]]++lb,W1,?_,?_,?_,?_,fun _=>h1,?_⟩;·rw[←hW1];exact run_enterLoop_outer _ _ _ _ _
 ·simp[resolve,go_sem]
 ·intro f' hf';simp[Target.leads]at hf';subst hf';exact hFg
 ·simp[invoke,go_sem,eg]
 ·refine(hseq (W0.heap.size+1) (AnyZ.ApAt ρ w fn (.func (.func g) #[] lb) w.heap.size (W0.heap.size+1) W0.heap.size) W1 hb1 (AnyZ.ap_abides ρ _ _ _ _ _ _ _ hb1.size) (fun pre x W hJ hl=>AnyZ.apYield {L with} F (n-1-1) w fn hfn _ w.heap.size (W0.heap.size+1) W0.heap.size (by omega) (by omega) (by omega) (yaf _) (by omega) zs.length hN hNb pre x W hJ hl) (fun _ _ h=>h.below) hM).mono ?_;rintro e W2⟨⟨v0,rfl⟩,ss,hS,h2⟩;obtain⟨v,hv,hrow,hnil⟩:=h2.box;have hend:=run_endLoop (P:=P) h2.L (by simp[AnyZ.apRec]);obtain⟨W3,hW3⟩:∃W3,W2.putObj (W0.heap.size+1) (.loop {AnyZ.apRec ρ fn (.func (.func g) #[] lb) w.heap.size W0.heap.size .ready none with state:=.exhausted})=W3:=⟨_,rfl⟩;rw[hW3]at hend;have hg3:W2.grownBy W3 (some (W0.heap.size+1)):=by rw[←hW3];exact grownBy_putObj_a _ _ _
  have hv3:W3.heap[w.heap.size]?=some (.cells #[v] (ρ.t 24) (0,0)):=by rw[←hW3];exact(World.putObj_heap_other (by omega)).trans hv
  have hK3:W3.heap[W0.heap.size]?=some (.deferred (some [])):=by rw[←hW3];exact(World.putObj_heap_other (by omega)).trans h2.K
  have hrow3:=hrow.kept hg3 (ownsRow_ne_a hrow h2.L fun cur e=>by first|cases e|exact hne (Obj.cells.inj e).2.1);have hb3:Below w.heap.size w W3:=h2.below.grown hg3 h2.below.size (fun k e=>by cases e;omega);obtain⟨hc3,hf3⟩:=cell_of_box_a hv3;clear hW3;refine⟨none,W3,hend,?_⟩;gi_wp2;rw[←hs0];refine⟨by simp,.inl ⟨_,_,rfl,run_takeDeferred hK3,?_⟩⟩;exact⟨_,results_tmp rfl _ _ _,v,ss,rfl,hS,hrow3.kept (grownBy_putObj_a _ _ _) (ownsRow_ne_a hrow3 hK3 fun cur e=>by first|cases e|exact hne (Obj.cells.inj e).2.1),hnil,hb3.grown (grownBy_putObj_a _ _ _) hb3.size fun k e=>by cases e;omega⟩
set_option maxRecDepth 100000 in
set_option maxHeartbeats 2000000 in
theorem zoq(L:SlLaysZ.n8 P ρ)(F:Fence)(n:Nat)(h8:F.fn (ρ.f 8))(h11:F.fn (ρ.f 11))(hro:F.round=none)(hn:3≤n)(g:Nat)(lb:Array Value)(hFg:F.fn g)(eg:∀args w,(callFunc g args).run P w=.ok (.enter g args) w)(zs:List (List UInt8))(hN:zs.length≤maxLen)(hNb:zs.length*16≤140737488355328)(w:World)(hseq:SeqB F (n-1-1) P g lb encStr zs w):CallsIn F n P (ρ.f 8) #[.func (.func g) #[] lb] w fun e w'=>∃(v:Value)(ss:List (List UInt8)),e=.returned v∧ss=zs∧w'.ownsRow w.heap.size (ρ.t 26) 1 v ss.length (ss.map encStr)∧(v=.slice none 0 0↔ss=[])∧Below w.heap.size w w':=by
 have h1:1≤n:=by omega
 have e11:∀args w,(callFunc (ρ.f 11) args).run P w=.ok (.enter (ρ.f 11) args) w:=L.f11.enters rfl;have mixed:=L.mixed;have t0:=L.t0;have a0:=L.a0;have z0:=L.z0;have v0:=L.v0;have t24:=L.t24;have a24:=L.a24;have z24:=L.z24;have v24:=L.v24;have t26:=L.t26;have a26:=L.a26;have z26:=L.z26;have v26:=L.v26;have t28:=L.t28;have a28:=L.a28;have z28:=L.z28;have v28:=L.v28;have u0:=run_underlying L.t0;have u24:=run_underlying L.t24;have u26:=run_underlying L.t26;have u28:=run_underlying L.t28;obtain⟨_,_,FG⟩:=L.f8;refine callsIn_of_wp FG rfl h8 ?_ hro;simp only[SlBodyZ.n8_ntmps ρ,yw,yo,yp,yaj,yak,yam,yan,yv,yh,yu,yi];gi_wp2_with(gi_at_fn(ρ.f 11);refine(zrc {L with} F (n-1) h11 hro (by omega) g lb hFg eg zs hN hNb _ hseq).mono ?_;rintro e w'⟨v,ss,rfl,hS,hrow,hnil,hb⟩);go_ret;exact⟨v,ss,rfl,hS,hrow,hnil,hb⟩
set_option maxRecDepth 100000 in
set_option maxHeartbeats 2000000 in
theorem zrd(L:SlLaysZ.n6 P ρ)(F:Fence)(n:Nat)(h6:F.fn (ρ.f 6))(h8:F.fn (ρ.f 8))(h9:F.fn (ρ.f 9))(h11:F.fn (ρ.f 11))(hro:F.round=none)(hn:4≤n)(hsort:AnyZ.SortsIn P ρ F (n-1))(e9:∀args w,(callFunc (ρ.f 9) args).run P w=.ok (.enter (ρ.f 9) args) w)(g:Nat)(lb:Array Value)(hFg:F.fn g)(eg:∀args w,(callFunc g args).run P w=.ok (.enter g args) w)(zs:List (List UInt8))(hN:zs.length≤maxLen)(hNb:zs.length*16≤140737488355328)(w:World)(hseq:SeqB F (n-1-1-1) P g lb encStr zs w):CallsIn F n P (ρ.f 6) #[.func (.func g) #[] lb] w fun e w'=>∃(v:Value)(ss:List (List UInt8)),e=.returned v∧ss=zs∧w'.ownsRow w.heap.size (ρ.t 26) 1 v ss.length ((ss.mergeSort fun x y=>decide (x≤y)).map encStr)∧(v=.slice none 0 0↔ss=[])∧Below w.heap.size w w':=by
 have h1:1≤n:=by omega
 have e8:∀args w,(callFunc (ρ.f 8) args).run P w=.ok (.enter (ρ.f 8) args) w:=L.f8.enters rfl;have mixed:=L.mixed;have t0:=L.t0;have a0:=L.a0;have z0:=L.z0;have v0:=L.v0;have t24:=L.t24;have a24:=L.a24;have z24:=L.z24;have v24:=L.v24;have t26:=L.t26;have a26:=L.a26;have z26:=L.z26;have v26:=L.v26;have t28:=L.t28;have a28:=L.a28;have z28:=L.z28;have v28:=L.v28;have u0:=run_underlying L.t0;have u24:=run_underlying L.t24;have u26:=run_underlying L.t26;have u28:=run_underlying L.t28;obtain⟨_,_,FG⟩:=L.f6;refine callsIn_of_wp FG rfl h6 ?_ hro;simp only[SlBodyZ.n6_ntmps ρ,yw,yo,yp,yaj,yak,yam,yan,yv,yh,yu,yi];gi_wp2_with(gi_at_fn(ρ.f 8);refine(zoq {L with} F (n-1) h8 h11 hro (by omega) g lb hFg eg zs hN hNb _ hseq).mono ?_;rintro e W⟨v,ss,rfl,rfl,hrow,hnil,hb⟩);rcases hrow.2 with⟨rfl,hz⟩|⟨gb,cap,cur,rfl,hbase,hgb,r1,r2,r3,r4⟩;·--nothing came:the nil slice is sorted and handed back
  have hss:ss=[]:=yk hz;subst hss;gi_wp2_with(gi_at_fn(ρ.f 9);refine(hsort.2 none 0 W).mono ?_;rintro e w'⟨rfl,rfl⟩);go_ret;exact⟨.slice none 0 0,[],rfl,rfl,by simpa using hrow,by simp,hb⟩
 ·have hH:Holds encStr W gb 0 ss.toArray:=holds_of_block hgb (by simpa using r4);have hgl:gb<W.heap.size:=(yal.1 hgb).1;have hsz:ss.length<4611686018427387904:=by omega
  have cS:=hsort.1 gb 0 cap ss W hH hgl hsz;gi_wp2_with(gi_at_fn(ρ.f 9);refine cS.mono ?_;rintro e w'⟨rfl,nn,os,rfl⟩);go_ret;exact⟨_,ss,rfl,rfl,ownsRow_sorted (by simp) hbase hgb r1 r2 r3,hnil,hb.grown (grownBy_sorted _) hb.size fun j hj=>by cases hj;exact hbase⟩
end
end Go.Pe
