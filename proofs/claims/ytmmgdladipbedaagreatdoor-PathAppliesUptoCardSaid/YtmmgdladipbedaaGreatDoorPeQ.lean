import Derived.Test.YtmmgdladipbedaaGreatDoorPeL
set_option linter.all false
namespace Go.Pe
open _root_.Option renaming bind_eq_bind → ya, bind_eq_some_iff → yb, bind_some → yc, map_some → yd
open _root_.Bool renaming and_eq_true → ye, false_eq_true → yf
open _root_.List renaming getElem?_drop → yg, getElem?_take → yh, mapM_cons → yi, map_cons → yj, zip_cons_cons → yk
open _root_.Nat renaming add_assoc → yl, beq → ym, eq_of_beq_eq_true → yn, mul_le_mul_right → yo
open _root_.Int renaming ofNat_le → yp
open _root_.Array renaming length_toList → yq, toList_inj → yr
open Go.RowKit Go.Lk
variable [Lb]

def zw6 (P:Program) (T:TypeId):Option (List (Nat × Bool × Nat)) :=
 match P.underlying T with
 | some (.struct fs)=>fs.toList.mapM fun f=>match Lk.shp P f.type with
  | some (b,n)=>if n=0 then none else some (f.offset,b,n)
  | none=>none
 | _=>none
def zy1 (P:Program) (T:TypeId):Bool:=match P.underlying T with
 | some td=>z8k td
 | none=>false
theorem zi8 {P:Program} {T:TypeId} (h:zy1 P T=true):∃ td,P.underlying T=some td∧z8k td=true:=by
 unfold zy1 at h
 split at h
 ·exact ⟨_,by assumption,h⟩
 ·cases h
def zxs (P:Program) (T:TypeId):Bool:=match P.underlying T with
 | some (.interface _)=>true
 | _=>false
theorem ztp {P:Program} {T:TypeId} (h:zxs P T=true):∃ ms,P.underlying T=some (.interface ms):=by
 unfold zxs at h
 split at h
 ·exact ⟨_,by assumption⟩
 ·cases h
structure TbOk (P:Program) (tb:Tb):Prop where
 ifc:∀ t,tb.ifc.any (ym t)=true→zxs P t=true
 mix:P.follows .mixedOrders=true
 nif:∀ t,tb.nif.any (ym t)=true→zy1 P t=true
 und:∀ t td,lk tb.und t=some td→P.underlying t=some td
 shp:∀ t s,lk tb.shp t=some s→Lk.shp P t=some s
 fld:∀ t fs,lk tb.fld t=some fs→zw6 P t=some fs
 zer:∀ t z,lk tb.zer t=some z→Lk.zer P t=some z
 inf:∀ t i,lk tb.inf t=some i→Lk.inf P t=some i
def zpm (tb:Tb) (w:World) (O:Nat→Prop):Prop := ∀ g e,lk tb.glb g=some e→e.2.2.length=e.2.1∧∀ (i:Nat) (x:List D),e.2.2[i]? = some x→z3m w O g (i*e.1) e.1 x
theorem zpm.nil {tb:Tb} {w:World} {O:Nat→Prop} (h:tb.glb=[]):zpm tb w O:=fun g e he=>by rw [h] at he;cases he
def zry {β:Type} (p:Nat→β→Prop):List (Nat × β)→Prop
 | []=>True
 | (t,x)::r=>p t x∧zry p r
theorem zry.get {β:Type} {p:Nat→β→Prop}:∀ {l:List (Nat × β)} {t:Nat} {x:β},zry p l→lk l t=some x→p t x
 | (s,y)::r,t,x,h,e=>by
  rcases z0t e with ⟨rfl,rfl⟩|⟨_,e⟩
  ·exact h.1
  ·exact h.2.get e
def zvr (p:Nat→Prop):List Nat→Prop
 | []=>True
 | t::r=>p t∧zvr p r
theorem zvr.get {p:Nat→Prop}:∀ {l:List Nat} {t:Nat},zvr p l→l.any (ym t)=true→p t
 | s::r,t,h,e=>by
  simp only [List.any_cons,Bool.or_eq_true] at e
  rcases e with e|e
  ·rw [yn e];exact h.1
  ·exact h.2.get e
theorem TbOk.of {P:Program} {tb:Tb} (hm:P.follows .mixedOrders=true) (h00:zvr (fun t=>zxs P t=true) tb.ifc) (h0:zvr (fun t=>zy1 P t=true) tb.nif) (h1:zry (fun t td=>P.underlying t=some td) tb.und) (h2:zry (fun t s=>Lk.shp P t=some s) tb.shp) (h3:zry (fun t fs=>zw6 P t=some fs) tb.fld) (h4:zry (fun t z=>Lk.zer P t=some z) tb.zer)
  (h5:zry (fun t i=>Lk.inf P t=some i) tb.inf):TbOk P tb:=⟨fun _=>h00.get,hm,fun _=>h0.get,fun _ _=>h1.get,fun _ _=>h2.get,fun _ _=>h3.get,fun _ _=>h4.get,fun _ _=>h5.get⟩
theorem mapM_some {α β:Type} {f:α→Option β}:∀ {l:List α} {r:List β},l.mapM f=some r→∀ (i:Nat) (y:β),r[i]? = some y→∃ x,l[i]? = some x∧f x=some y
 | [],r,h,i,y,e=>by simp at h;subst h;simp at e
 | a::l,r,h,i,y,e=>by
  simp only [yi,ya] at h
  obtain ⟨b,h1,h⟩:=yb.1 h
  obtain ⟨bs,h2,h⟩:=yb.1 h
  cases h
  cases i with
  | zero=>simp at e;subst e;exact ⟨a,rfl,h1⟩
  | succ i=>simpa using mapM_some h2 i y (by simpa using e)
theorem zd1 {P:Program} {T:TypeId} {fs:List (Nat × Bool × Nat)} (h:zw6 P T=some fs):∃ fds,P.underlying T=some (.struct fds)∧(fds.toList.mapM fun f=>match Lk.shp P f.type with
  | some (b,n)=>if n=0 then none else some (f.offset,b,n)
  | none=>none)=some fs:=by
 unfold zw6 at h
 split at h
 ·exact ⟨_,by assumption,h⟩
 ·cases h
theorem zjl {P:Program} {T:TypeId} {fs:List (Nat × Bool × Nat)} (h:zw6 P T=some fs) {i:Nat} {f:Nat × Bool × Nat} (hf:fs[i]? = some f):Lk.fld P T i=some f:=by
 obtain ⟨fds,h1,h2⟩:=zd1 h
 obtain ⟨x,h3,h4⟩:=mapM_some h2 i f hf
 unfold Lk.fld
 rw [h1]
 have h3':fds[i]? = some x:=by simpa using h3
 simp only [h3']
 split at h4
 ·rename_i b n hs
  simp only [hs]
  exact h4
 ·cases h4
theorem zb0 {P:Program}:∀ {l:List Field} {fs:List (Nat × Bool × Nat)},(l.mapM fun f=>match Lk.shp P f.type with
  | some (b,n)=>if n=0 then none else some (f.offset,b,n)
  | none=>none)=some fs→(l.mapM fun f=>(P.info? f.type).map fun i=>(f.offset,i.size))=some (fs.map fun f=>(f.1,f.2.2))
 | [],fs,h=>by simp at h;subst h;rfl
 | a::l,fs,h=>by
  simp only [yi,ya] at h
  obtain ⟨b,h1,h⟩:=yb.1 h
  obtain ⟨bs,h2,h⟩:=yb.1 h
  cases h
  have ih:=zb0 h2
  split at h1
  ·rename_i g n hs
   obtain ⟨i,h3,h4⟩:=zrg hs
   split at h1
   ·cases h1
   ·cases h1
    simp only [yi,ya,h3,yd,yc,ih,yj,h4]
    rfl
  ·cases h1

theorem zi {α:Type} {x:Option α} {k:α→Prop} (h:wt x k):∃ a,x=some a∧k a:=by
 cases x with
 | none=>exact h.elim
 | some a=>exact ⟨a,rfl,h⟩
theorem zao {b:Bool} {p q:Prop} (h:cond b p q):(b=true∧p)∨(b=false∧q):=by
 cases b with
 | true=>exact .inl ⟨rfl,h⟩
 | false=>exact .inr ⟨rfl,h⟩
section
variable {w:World} {O:Nat→Prop} {φ:Nat→Nat} {α:Nat→Value}
theorem zi9 (v:Value):VR w O φ α (zlm v) v:=by
 unfold zlm
 split
 ·rfl
 ·rfl
 ·simp [VR]
 ·rfl
 ·rfl
 ·rfl
 ·trivial
theorem zk5:∀ (l:List Value),VRs w O φ α (l.map zlm) l
 | []=>rfl
 | v::l=>⟨v,l,rfl,zi9 v,zk5 l⟩
theorem zda (v:Value):VR w O φ α (ofV v) v:=by
 unfold ofV
 split
 ·rename_i cs
  exact ⟨cs.toList,by simp,zk5 _⟩
 ·exact zi9 v
theorem zk3 {d:D} {u:Value} (h:RD w O d u):VR w O φ α (ofD d) u:=by
 cases d with
 | int k n=>simpa [VR,ofD,RD] using h
 | bool b=>simpa [VR,ofD,RD] using h
 | str s=>simpa [VR,ofD,RD] using h
 | sl T n l=>exact h
 | fsl T n l=>exact h.weak
 | val x =>
  unfold ofD
  split
  ·rename_i e
   cases e
  ·rename_i e
   cases e
  ·rename_i e
   cases e
  ·rename_i e
   cases e
  ·rename_i e
   cases e
  ·rename_i n as cs e
   cases e
   split
   ·rename_i e1 e2
    have h:=h.1
    refine ⟨[],[],?_,rfl,rfl⟩
    rw [h]
    congr 1<;>(apply yr.1;assumption)
   ·trivial
  ·trivial
theorem z7v:∀ {l:List D} {us:List Value},RDs w O l us→VRs w O φ α (zpi l) us
 | [],us,h=>h
 | d::l,us,h=>by
  obtain ⟨v,vs,h1,h2,h3⟩:=h
  exact ⟨v,vs,h1,zk3 h2,z7v h3⟩
theorem VR.one {v:PV} {u:Value} (h:VR w O φ α v u) (h1:zm8 v=true):u.oneCell'=true:=by
 cases v<;>simp only [zm8,yf] at h1
 case int=>simp only [VR] at h;subst h;rfl
 case bool=>simp only [VR] at h;subst h;rfl
 case str=>simp only [VR] at h;subst h;rfl
 case sl=>exact RD.one _ _ h
 case fsl=>exact RD.one _ _ h
 case slx=>exact RD.one _ _ h.2
 case nil=>simp only [VR] at h;subst h;rfl
 case ref=>exact h.2
 case ptr=>simp only [VR] at h;subst h;rfl
 case z09=>simp only [VR] at h;obtain ⟨b,q,h,_⟩:=h;subst h;rfl
 case z9k=>obtain ⟨_,b,q,h,_⟩:=h;subst h;rfl
 case z8y=>simp only [VR] at h;obtain ⟨b,l,c,j,_,_,h⟩:=h;subst h;rfl
 case iface=>simp only [VR] at h;obtain ⟨x,h,_⟩:=h;subst h;rfl
 case zc7=>simp only [VR] at h;subst h;rfl
 case fn=>simp only [VR] at h;obtain ⟨us,vs,h,_⟩:=h;subst h;rfl
 case zfc=>simp only [VR] at h;subst h;rfl
 case z0g=>rcases h with rfl|rfl<;>rfl
 case err=>rcases h with ⟨_,rfl⟩|⟨_,T,v,rfl⟩<;>rfl
 case mp=>simp only [VR] at h;subst h;rfl
theorem VRs.zpj:∀ {vs:List PV} {us:List Value},VRs w O φ α vs us→vs.all zm8=true→us.all (·.oneCell')=true
 | [],us,h,_=>by cases h;rfl
 | v::vs,us,h,k=>by
  obtain ⟨u,us',rfl,h2,h3⟩:=h
  simp only [List.all_cons,ye] at k ⊢
  exact ⟨h2.one k.1,VRs.zpj h3 k.2⟩
theorem VR.cells {v:PV} {u:Value} (h:VR w O φ α v u) (h1:z3a v=false):VRs w O φ α (cellsOf v) u.cells.toList:=by
 cases v with
 | agg cs =>
  simp only [VR] at h
  obtain ⟨us,rfl,h⟩:=h
  simpa [cellsOf,Value.cells] using h
 | undef=>simp [z3a] at h1
 | gone=>simp [z3a] at h1
 | md c=>simp [z3a] at h1
 | tup cs =>
  have h':=h
  simp only [VR] at h
  obtain ⟨us,rfl,h⟩:=h
  exact ⟨_,[],rfl,h',rfl⟩
 | _ =>
  have:=cells_one (h.one rfl)
  rw [this]
  exact ⟨u,[],rfl,h,rfl⟩
theorem zgp (zz:Value):VRs w O φ α (cellsOf (ofV zz)) zz.cells.toList:=by
 by_cases hu:z3a (ofV zz)=false
 ·exact (zda zz).cells hu
 ·have hc:zz.cells = #[zz]:=by cases zz<;>first|rfl|(simp [ofV,z3a] at hu)
  have hq:cellsOf (ofV zz)=[ofV zz]:=by
   revert hu
   cases ofV zz<;>simp [z3a,cellsOf]
  rw [hq,hc]
  exact ⟨zz,[],rfl,zda zz,rfl⟩
theorem z8d {β:Type} {l:List β} {i:Int} {x:β} (h:Lk.ix l i=some x):∃ j:Nat,i=(j:Nat)∧l[j]? = some x∧j<l.length:=by
 obtain ⟨j,h1,h2⟩:=znl h
 refine ⟨j,h1,h2,?_⟩
 rcases Nat.lt_or_ge j l.length with h'|h'
 ·exact h'
 ·simp [List.getElem?_eq_none h'] at h2
end
theorem RD.zuq {P:Program} {w:World} {O:Nat→Prop} {T n t:Nat} {l:List (List D)} {v:Value} {a b:Nat} {lo hi:Option Value} {g:Bool} (ht:P.underlying t=some (.slice T)) (hT:shp P T=some (g,n)) (h:RD w O (.sl T n l) v)
  (hlo:LoV lo a 0) (hhi:LoV hi b l.length) (hab:a≤b) (hb:b≤l.length) :
  ∃ v',(∀ w',(Instr.sliceAt t v lo hi none).run P w' = .ok v' w')∧RD w O (.sl T n ((l.take b).drop a)) v':=by
 have key:∀ (p:Option Addr) (cap:Nat),l.length≤cap→∀ w,(Instr.sliceAt t (.slice p l.length cap) lo hi none).run P w = .ok (.slice (if cap=a then p else p.map (·.add (a*n))) (b - a) (cap - a)) w:=by
  intro p cap hc w
  have i3:(a:Int)≤(b:Int):=yp.2 hab
  have i4:(b:Int)≤(cap:Int):=yp.2 (by omega)
  simp only [Instr.sliceAt,Sem.run_bind,run_underlying ht,Result.andThen_ok,Instr.slice]
  cases lo with
  | none =>
   simp only [LoV] at hlo
   subst hlo
   cases hi with
   | none=>simp only [LoV] at hhi;subst hhi;simp [Instr.sliceBounds,(z0j hT).2]
   | some y=>obtain ⟨kd,rfl⟩:=hhi;simp [Instr.sliceBounds,Instr.sliceBound,asIntOf,(z0j hT).2,show b≤cap by omega]
  | some z =>
   obtain ⟨kz,rfl⟩:=hlo
   cases hi with
   | none=>simp only [LoV] at hhi;subst hhi;simp [Instr.sliceBounds,Instr.sliceBound,asIntOf,(z0j hT).2,hab]
   | some y=>obtain ⟨kd,rfl⟩:=hhi;simp [Instr.sliceBounds,Instr.sliceBound,asIntOf,(z0j hT).2,hab,show b≤cap by omega]
 rcases h with ⟨⟨p,rfl⟩,rfl⟩|⟨bb,q,cap,cs,fr,rfl,h2,h3,h4,h5,h6,h7⟩
 ·have hb0:b=0:=by simpa using hb
  have ha0:a=0:=by omega
  subst hb0 ha0
  have:=key p 0 (Nat.le_refl _)
  simp only [List.length_nil] at this
  refine ⟨_,this,?_⟩
  simp [RD]
 ·refine ⟨_,key _ cap h2,?_⟩
  right
  have hlen:((l.take b).drop a).length=b - a:=by simp;omega
  have h8:RDl w O n ((l.take b).drop a) ((cs.toList.drop q).drop (a*n)):=RDl.drop a (RDl.take b h7)
  by_cases hca:cap=a
  ·have:b=a:=by omega
   subst this
   have e0:(l.take b).drop b=[]:=List.eq_nil_of_length_eq_zero (by rw [hlen];omega)
   rw [if_pos hca,e0]
   exact ⟨bb,q,cap - b,cs,fr,by simp,by simp,by omega,h4,h5,by rw [hca];simp;exact Nat.le_trans (Nat.le_add_right _ _) h6,trivial⟩
  ·rw [if_neg hca]
   refine ⟨bb,q+a*n,cap - a,cs,fr,by rw [hlen];simp [Addr.add_lit],by omega,by omega,h4,h5,?_,by rw [←List.drop_drop];exact h8⟩
   rw [Nat.sub_mul]
   have:a*n≤cap*n:=yo n (by omega)
   omega

section
variable {z:W0} {σ:St} {V:Env} {w:World} {O:Nat→Prop} {φ:Nat→Nat} {α:Nat→Value} {C:Cx} {n:Nat} {o:Oper}
theorem Rel.ev {fB:FB} {fA:FA} (h:Rel z (lk σ.L) fB fA V w O φ α) {x:Operand} {v:PV} (e:σ.ev x=some v):∃ u,Lk.ev V x=some u∧VR w O φ α v u:=by
 cases x with
 | tmp t=>exact h.env t v e
 | const c=>simp only [St.ev,Option.some.injEq] at e;subst e;exact ⟨c,rfl,zda c⟩
 | global g=>cases e
 | func f=>simp only [St.ev,Option.some.injEq] at e;subst e;exact ⟨_,rfl,[],[],rfl,rfl,rfl⟩
theorem Rel.evs {fB:FB} {fA:FA} (h:Rel z (lk σ.L) fB fA V w O φ α):∀ {xs:List Operand} {vs:List PV},σ.evs xs=some vs→∃ us,Lk.evs V xs=some us∧VRs w O φ α vs us
 | [],vs,e=>by simp only [St.evs,Option.some.injEq] at e;subst e;exact ⟨[],rfl,rfl⟩
 | x::xs,vs,e=>by
  unfold St.evs at e
  split at e
  ·rename_i v vs' h1 h2
   cases e
   obtain ⟨u,h3,h4⟩:=h.ev h1
   obtain ⟨us,h5,h6⟩:=h.evs h2
   exact ⟨u::us,by simp only [Lk.evs,h3,h5],u,us,rfl,h4,h6⟩
  ·cases e
def zhf (C:Cx) (n:Nat) (V:Env) (w:World) (O:Nat→Prop) (φ:Nat→Nat) (α:Nat→Value) (o:Oper) (st:Bool) (k:PV→Prop):Prop := ∃ v u,k v∧VR w O φ α v u∧EX C n V w o u∧(st=true→∀ w' O',Tr O w O' w'→EX C n V w' o u)
theorem zhf.al {st:Bool} {k:PV→Prop} {v:PV} {u:Value} (hk:k v) (hv:VR w O φ α v u) (hx:∀ w',EX C n V w' o u):zhf C n V w O φ α o st k:=⟨v,u,hk,hv,hx w,fun _ w' _ _=>hx w'⟩
theorem zhf.val {st:Bool} {k:PV→Prop} {x:Value} (hk:k (zlm x)) (h:∀ w',EX C n V w' o x):zhf C n V w O φ α o st k:=.al hk (zi9 x) h
theorem z5r {a b:IntKind} (h:zsd a b=true):a=b:=by
 have:=yn h
 cases a<;>cases b<;>first|rfl|(exact absurd this (by decide))
theorem zan {p:Prop} [Decidable p] {k:Unit→Prop} (h:Ex (chk (decide p)) k):p∧k ():=by
 obtain ⟨a,h1,h2⟩:=h
 exact ⟨of_decide_eq_true (z86 h1),h2⟩
theorem EX.zyt {op:BinOp} {t r:TypeId} {x:Operand} {ms:Array (String × TypeId)} {u:Value} {b:Bool} (ho:o.op = .binOp op t x (.const .nilIface) r) (ht:C.P.underlying t=some (.interface ms)) (hx:Lk.ev V x=some u) (hu:(b=true∧u = .nilIface)∨(b=false∧∃ T v,u = .iface T v)) :
  (op = .eql→EX C n V w o (.bool b))∧(op = .neq→EX C n V w o (.bool (!b))):=by
 rcases hu with ⟨rfl,rfl⟩|⟨rfl,T,v,rfl⟩
 ·have h:∀ d:Nat,(Op.equalIn (d+1) t .nilIface .nilIface).run C.P w = .ok true w:=fun d=>by simp [Op.equalIn,run_underlying ht]
  constructor
  ·rintro rfl a ha
   have hc:a.eval (.const .nilIface) = .nilIface:=rfl
   simp [execOp,ho,ha.ev hx,hc,binOp,eqGuard,Op.equal,Op.maxDepth,h 9999]
  ·rintro rfl a ha
   have hc:a.eval (.const .nilIface) = .nilIface:=rfl
   simp [execOp,ho,ha.ev hx,hc,binOp,eqGuard,Op.equal,Op.maxDepth,h 9999]
 ·have h:∀ d:Nat,(Op.equalIn (d+1) t (.iface T v) .nilIface).run C.P w = .ok false w:=fun d=>by simp [Op.equalIn,run_underlying ht]
  constructor
  ·rintro rfl a ha
   have hc:a.eval (.const .nilIface) = .nilIface:=rfl
   simp [execOp,ho,ha.ev hx,hc,binOp,eqGuard,Op.equal,Op.maxDepth,h 9999]
  ·rintro rfl a ha
   have hc:a.eval (.const .nilIface) = .nilIface:=rfl
   simp [execOp,ho,ha.ev hx,hc,binOp,eqGuard,Op.equal,Op.maxDepth,h 9999]
theorem zu8 {v:PV} {u:Value} {b:Bool} (h:zz4 v=some b) (hv:VR w O φ α v u):(b=true∧u = .nilIface)∨(b=false∧∃ T v,u = .iface T v):=by
 unfold zz4 at h
 split at h
 ·cases h;exact .inl ⟨rfl,hv⟩
 ·cases h;obtain ⟨x,rfl,_⟩:=hv;exact .inr ⟨rfl,_,_,rfl⟩
 ·cases h;exact hv
 ·cases h
theorem zmn {op:BinOp} {t r:TypeId} {td:TypeDesc} {x y:Operand} {u v:PV} {a b:Value} {st:Bool} {k:PV→Prop} (ho:o.op = .binOp op t x y r) (ht:C.P.underlying t=some td) (hx:Lk.ev V x=some a) (hy:Lk.ev V y=some b)
  (ha:VR w O φ α u a) (hb:VR w O φ α v b) (hk:bop td op u v k):zhf C n V w O φ α o st k:=by
 unfold bop at hk
 split at hk
 ·rename_i ka p kb q
  simp only [VR] at ha hb
  subst ha hb
  split at hk
  ·obtain ⟨h1,h2⟩:=zan hk
   exact .val (x:=.int ka (zcn ka p q)) h2 fun _=>EX.zsw ho hx hy h1 rfl
  ·obtain ⟨h1,h2⟩:=zan hk
   exact .val (x:=.int ka (zpk ka p q)) h2 fun _=>EX.zsw ho hx hy h1 rfl
  ·split at hk
   ·rename_i he
    obtain rfl:=z5r he
    obtain ⟨h1,h2⟩:=zan hk
    exact .al (v:=.int ka _) (u:=_) h2 rfl fun _=>EX.zzz ho hx hy h1 rfl
   ·exact hk.elim
  ·split at hk
   ·rename_i he
    obtain rfl:=z5r he
    obtain ⟨h1,h2⟩:=zan hk
    exact .al (v:=.int ka _) (u:=_) h2 rfl fun _=>EX.zzz ho hx hy h1 rfl
   ·exact hk.elim
  ·split at hk
   ·rename_i he
    obtain rfl:=z5r he
    obtain ⟨c,h1,h2⟩:=zi hk
    exact .val h2 fun _=>EX.zs4 ho hx hy h1
   ·exact hk.elim
 ·simp only [VR] at ha hb
  subst ha hb
  split at hk
  ·obtain ⟨s,h1,h2⟩:=hk
   obtain ⟨h3,h4⟩:=zpy h1
   subst h3
   exact .al (v:=.str _) (u:=_) h2 rfl fun _=>EX.catS ho hx hy h4
  ·obtain ⟨c,h1,h2⟩:=zi hk
   exact .val h2 fun _=>EX.binS ho hx hy h1
 ·simp only [VR] at ha hb
  subst ha hb
  split at hk
  ·exact .al (v:=.bool _) (u:=_) hk rfl fun _=>EX.zzo ho ht hx hy rfl
  ·exact .al (v:=.bool _) (u:=_) hk rfl fun _=>EX.zzo ho ht hx hy rfl
  ·exact hk.elim
 ·exact hk.elim
theorem zp9 {op:UnOp} {t:TypeId} {x:Operand} {u:PV} {a:Value} {st:Bool} {k:PV→Prop} (ho:o.op = .unOp op t x) (hx:Lk.ev V x=some a) (ha:VR w O φ α u a) (hk:uop op u k):zhf C n V w O φ α o st k:=by
 unfold uop at hk
 split at hk
 ·simp only [VR] at ha
  subst ha
  exact .al (v:=.bool _) (u:=_) hk rfl fun _=>EX.notB ho hx
 ·simp only [VR] at ha
  subst ha
  obtain ⟨c,h1,h2⟩:=zi hk
  exact .val h2 fun _=>EX.unI ho hx h1
 ·exact hk.elim
theorem z6k {T:TypeId} {x:Operand} {g:Bool} {m b q off:Nat} {cs:List PV} {us:List Value} {v:PV} (ho:o.op = .load T x) (hT:Lk.shp C.P T=some (g,m)) (hx:Lk.ev V x=some (.pointer (some ⟨b,q+off,none⟩)))
  (hv:VRs w O φ α cs us) (ha:z3z g m ((cs.drop off).take m)=some v):∃ u,VR w O φ α v u∧∀ w',(∀ j u,us[j]? = some u→w'.cell? ⟨b,q+j,none⟩=some u)→EX C n V w' o u:=by
 have hv2:VRs w O φ α ((cs.drop off).take m) ((us.drop off).take m):=(hv.drop off).take m
 have hc2:∀ w':World,(∀ j u,us[j]? = some u→w'.cell? ⟨b,q+j,none⟩=some u)→∀ j u,((us.drop off).take m)[j]? = some u→w'.cell? ⟨b,q+off+j,none⟩=some u:=fun w' hc j u e=>by
  rw [yh] at e
  split at e
  ·rw [yg] at e
   rw [yl]
   exact hc _ _ e
  ·cases e
 have hl:=hv2.len
 revert ha hv2 hl hc2
 generalize (cs.drop off).take m=c2
 generalize (us.drop off).take m=u2
 intro ha hv2 hc2 hl
 unfold z3z at ha
 split at ha
 ·split at ha
  ·rename_i he
   cases ha
   have he:=yn he
   exact ⟨_,⟨u2,rfl,hv2⟩,fun w' hc=>EX.zwf ho hT hx (by rw [hl,he]) (hc2 w' hc)⟩
  ·cases ha
 ·cases ha
  obtain ⟨u,us',rfl,h1,h2⟩:=hv2
  exact ⟨u,h1,fun w' hc=>EX.zbi ho hT hx (by simpa using hc2 w' hc 0 u (by simp))⟩
 ·cases ha
theorem Own.elem {w:World} {O:Nat→Prop} {T m:Nat} {v:Value} {l:List (List D)} {b len cap:Nat} (h:Own w O T m v l) (hv:v = .slice (some ⟨b,0,none⟩) len cap) {j:Nat} {x:List D} (hj:l[j]? = some x) :
  ∃ us,RDs w O x us∧(∀ i u,us[i]? = some u→w.cell? ⟨b,j*m+i,none⟩=some u):=by
 obtain ⟨xs,h1,h2,_,_⟩:=h
 refine ⟨(xs.drop (j*m)).take m,RDl.at h2 hj,fun i u e => ?_⟩
 rw [yh] at e
 split at e
 ·rw [yg] at e
  have:=h1.cells (g:=b) (by rw [hv];rfl) _ _ e
  rw [Addr.add_lit] at this
  simpa using this
 ·cases e
theorem EX.zyg {C:Cx} {n:Nat} {L:Env} {w:World} {o:Oper} {s t:TypeId} {sd:TypeDesc} {x:Operand} {kd:IntKind} {p:Int} (ho:o.op = .convert s t x)
  (hs:C.P.underlying s=some sd) (ht:C.P.underlying t=some .string) (hx:Lk.ev L x=some (.int kd p)):EX C n L w o (.string ⟨(encS p).toArray⟩) :=
 fun a ha=>by
  simp only [execOp,ho,ha.ev hx,convert,Sem.run_bind,run_underlying hs,run_underlying ht,Result.andThen_ok,Conv.intToString,encS]
  rfl
theorem EX.zsk {C:Cx} {n:Nat} {L:Env} {w:World} {o:Oper} {t kt et:TypeId} {x:Operand} {m clock:Nat} {es:Array MapEntry} (ho:o.op = .call { callee:=.builtin .len,args := #[x],argTypes := #[t] })
  (ht:C.P.underlying t=some (.map kt et)) (hx:Lk.ev L x=some (.map (some m))) (hb:w.heap[m]? = some (.map es clock)):EX C n L w o (.int .i64 (es.size:Nat)) :=
 fun a ha=>by
  simp [execOp,ho,resolve,invoke,builtin,Builtin.len_,ha.ev hx,run_underlying ht,MapKept.run_getObj_map hb,goInt]
theorem Rel.za5 {fL:FL} {fA:FA} (h:Rel z fL (lk σ.B) fA V w O φ α) {b:Nat} {e:Bx} {ky:Option IntKind} {g:Bool} {l:List (List D)} (he:lk σ.B b=some e) (hc:e.cs=[.md (.cont ky g l)]) (hT:e.T=1000000) :
  ∃ es clock,w.heap[φ b]? = some (.map es clock)∧MapKept.Stamped es clock∧z2n w O ky g es.toList l:=by
 obtain ⟨_,us,h1,h2⟩:=h.box b e he
 obtain ⟨es,clock,h3,h4,rfl⟩:=h1.map (by omega) (by omega)
 rw [hc] at h2
 obtain ⟨u,us',h5,h6,h7⟩:=h2
 cases h7
 cases h5
 obtain ⟨es',h8,h9⟩:=h6
 exact ⟨es,clock,h3,h4,h9.enc h8.symm⟩
theorem zd7 {td:TypeDesc} {fL:FL} {u:PV} {a:Value} {k:Int→Prop} (h:Rel z fL (lk σ.B) (lk σ.A) V w O φ α) (ha:VR w O φ α u a) (hl:zpg td σ u k) :
  (∃ s:List UInt8,td = .string∧u = .str s∧a = .string ⟨s.toArray⟩∧k s.length)∨((∃ e,td = .slice e)∧∃ l:Nat,k l∧(∃ p c,a = .slice p l c)∧∀ T n l',u = .sl T n l'→l=l'.length)∨(∃ kt et,td = .map kt et)∧(∃ b,u = .mp b)∧∃ m es clock,a = .map (some m)∧w.heap[m]? = some (.map es clock)∧k es.size:=by
 unfold zpg at hl
 split at hl
 ·simp only [VR] at ha
  exact .inl ⟨_,rfl,rfl,ha,hl⟩
 ·obtain ⟨n,h1,h2⟩:=hl
  cases h1
  exact .inr (.inl ⟨⟨_,rfl⟩,_,h2,RD.len ha,fun T n l' e=>by cases e;rfl⟩)
 ·simp only [VR] at ha
  exact .inr (.inl ⟨⟨_,rfl⟩,0,hl,⟨none,0,ha⟩,fun T n l' e=>by cases e⟩)
 ·obtain ⟨e,he,n,h1,h2⟩:=zi hl
  cases h1
  obtain ⟨p,c,h3⟩:=(h.arr _ e (z3k he).1).len
  exact .inr (.inl ⟨⟨_,rfl⟩,_,h2,⟨p,c,ha.1.trans h3⟩,fun T n l' e=>by cases e⟩)
 ·unfold zsk at hl
  simp only at hl
  split at hl
  ·rename_i e he
   split at hl
   ·rename_i hc
    split at hl
    ·rename_i hT
     obtain ⟨n,h1,h2⟩:=hl
     cases h1
     obtain ⟨es,clock,h3,_,h5⟩:=h.za5 he hc (yn hT)
     simp only [VR] at ha
     refine .inr (.inr ⟨⟨_,_,rfl⟩,⟨_,rfl⟩,_,es,clock,ha,h3,?_⟩)
     have h6:=h5.len
     simp only [yq] at h6
     rw [h6]
     exact h2
    ·exact hl.elim
   ·exact hl.elim
  ·exact hl.elim
 ·exact hl.elim
theorem znx {fB:FB} {fA:FA} (h:Rel z (lk σ.L) fB fA V w O φ α) {x:Option Operand} {k:Int→Prop} (hb:loW σ x k):∃ m,k m∧((x=none∧m=((0:Nat):Int))∨∃ y k,x=some y∧Lk.ev V y=some (.int k m)):=by
 unfold loW at hb
 split at hb
 ·exact ⟨0,hb,.inl ⟨rfl,rfl⟩⟩
 ·rename_i y
  split at hb
  ·rename_i kk n' hy
   obtain ⟨u,h1,h2⟩:=h.ev hy
   simp only [VR] at h2
   subst h2
   exact ⟨n',hb,.inr ⟨y,kk,rfl,h1⟩⟩
  ·exact hb.elim
theorem Lo.of {lo:Option Operand} {e:Nat} {m:Int} {p:Nat} (h:(lo=none∧m=(e:Nat))∨∃ y k,lo=some y∧Lk.ev V y=some (.int k m)) (hm:m=(p:Nat)):Lo V lo p e:=by
 rcases h with ⟨rfl,h⟩|⟨y,k,rfl,h⟩
 ·show p=e;omega
 ·exact ⟨k,m,h,hm⟩
theorem EX.zx1 {l:List (List D)} {T m:Nat} {t:TypeId} {gg:Bool} {x:Operand} {lo hi:Option Operand} {u:Value} {a b:Nat} (ho:o.op = .slice t x lo hi none)
  (ht:C.P.underlying t=some (.slice T)) (hT:Lk.shp C.P T=some (gg,m)) (hx:Lk.ev V x=some u) (hr:RD w O (.sl T m l) u)
  (hlo:Lo V lo a 0) (hhi:Lo V hi b l.length) (hab:a≤b) (hb:b≤l.length):∃ v',(∀ w',EX C n V w' o v')∧RD w O (.sl T m ((l.take b).drop a)) v':=by
 have key:∀ {q:Option Operand} {c e:Nat},Lo V q c e→LoV (q.bind (Lk.ev V)) c e∧∀ ac:Act,Has n V ac→q.map ac.eval=q.bind (Lk.ev V):=fun {q c e} hq=>by
  cases q with
  | none=>exact ⟨hq,fun _ _=>rfl⟩
  | some y =>
   obtain ⟨kd,i,h1,h2⟩:=hq
   refine ⟨?_,fun ac hac=>by simp [h1,hac.ev h1]⟩
   simp only [yc,h1]
   exact ⟨kd,by rw [h2]⟩
 obtain ⟨k1,k2⟩:=key hlo
 obtain ⟨k3,k4⟩:=key hhi
 obtain ⟨v',h5,h6⟩:=RD.sub (P:=C.P) (w:=w) ht hT hr k1 k3 hab hb
 obtain ⟨v2,h7,h8⟩:=RD.zuq (P:=C.P) (w:=w) ht hT hr k1 k3 hab hb
 exact ⟨v2,fun w' ac hac=>by
  simp only [execOp,ho,hac.ev hx,k2 ac hac,k4 ac hac,Option.map_none,Sem.run_bind,h7 w',Result.andThen_ok]
  rfl,h8⟩
theorem EX.taNo {x:Operand} {xt T U:TypeId} {td:TypeDesc} {u z:Value} (ho:o.op = .typeAssert x xt T true) (ht:C.P.underlying T=some td) (hi:z8k td=true) (hz:Lk.zer C.P T=some z) (hne:U≠T) (hx:Lk.ev V x=some (.iface U u)):EX C n V w o (.tuple #[z,.bool false]):=fun a ha=>by
 obtain ⟨i,h5,h6⟩:=yb.1 hz
 simp only [execOp,ho,ha.ev hx,Instr.typeAssert]
 cases td<;>first|(simp [z8k] at hi;done)|simp [run_underlying ht,zeroValue,typeInfo,h5,h6,hne]
theorem zaj {fds:List (Nat × Nat)}:∀ (is:List Nat) (us:List PV) (xs:List Value) (cs:List PV) (A:Array Value) (fs:List (Nat × Bool × Nat)),(∀ (i:Nat) (f:Nat × Bool × Nat),fs[i]? = some f→fds[i]? = some (f.1,f.2.2))→VRs w O φ α us xs→VRs w O φ α cs A.toList →
  zji fs is us cs=true→∃ out,Instr.fill (fds.toArray[·]?) A (is.zip xs)=some out∧VRs w O φ α (qop.zl5 fs cs is us) out.toList
 | [],us,xs,cs,A,fs,_,_,hc,_=>by
  simp only [List.zip_nil_left,Instr.fill]
  exact ⟨A,rfl,by simpa [qop.zl5] using hc⟩
 | i::is,[],xs,cs,A,fs,_,hu,hc,_=>by
  cases hu
  simp only [List.zip_nil_right,Instr.fill]
  exact ⟨A,rfl,by simpa [qop.zl5] using hc⟩
 | i::is,u::us,xs,cs,A,fs,hf,hu,hc,hok=>by
  obtain ⟨x,xs',rfl,h1,h2⟩:=hu
  unfold zji at hok
  split at hok
  ·rename_i f hfi
   simp only [ye] at hok
   obtain ⟨⟨⟨k1,k2⟩,k3⟩,k4⟩:=hok
   have k1:=yn k1
   have k2:=Nat.le_of_ble_eq_true k2
   have hx:=h1.cells (by simpa using k3)
   have hlx:=VRs.len hx
   have hlc:=VRs.len hc
   rw [yq] at hlx hlc
   have e1:fds.toArray[i]? = some (f.1,f.2.2):=by simpa using hf i f hfi
   have e2:(x.cells.zipIdx.foldl (fun cs (c,j)=>cs.setIfInBounds (f.1+j) c) A)=(A.toList.take f.1++x.cells.toList++A.toList.drop (f.1+f.2.2)).toArray:=by
    have:=ze6 x.cells.toList 0 f.1 A (by simp [hlx,k1,hlc];omega)
    simp only [Nat.add_zero] at this
    rw [←Array.foldl_toList,Array.toList_zipIdx,this]
    simp [hlx,k1]
   have e3:VRs w O φ α (cs.take f.1++cellsOf u++cs.drop (f.1+f.2.2)) (A.toList.take f.1++x.cells.toList++A.toList.drop (f.1+f.2.2)):=((hc.take f.1).append hx).append (hc.drop _)
   obtain ⟨out,h5,h6⟩:=zaj is us xs' _ (A.toList.take f.1++x.cells.toList++A.toList.drop (f.1+f.2.2)).toArray fs hf h2 (by simpa using e3) k4
   refine ⟨out,?_,?_⟩
   ·simp only [yk]
    unfold Instr.fill
    simp only [e1]
    rw [if_neg (by simp [hlx,k1];omega),e2,h5]
   ·unfold qop.zl5
    simp only [hfi]
    exact h6
  ·cases hok
theorem ziz:∀ {parts:List (Nat × Operand)} {us:List Value},Lk.evs V (parts.map (·.2))=some us→Lk.evp V parts=some ((parts.map (·.1)).zip us)
 | [],us,h=>by simp [Lk.evs] at h;subst h;rfl
 | (i,x)::parts,us,h=>by
  simp only [yj,Lk.evs] at h
  split at h
  ·rename_i v vs h1 h2
   cases h
   simp only [Lk.evp,h1,ziz h2,yj,yk]
  ·cases h
theorem EX.zlc {C:Cx} {n:Nat} {L:Env} {w:World} {o:Oper} {t T m g len:Nat} {gg:Bool} {y:Operand} {kd:IntKind} {i:Int} {j:Nat} (ho:o.op = .indexAddr t (.global g) y) (ht:C.P.underlying t=some (.array len T)) (hT:Lk.shp C.P T=some (gg,m))
  (hy:Lk.ev L y=some (.int kd i)) (hi:i=(j:Nat)) (hj:j<len):EX C n L w o (.pointer (some ⟨g,j*m,none⟩)) :=
 fun a ha=>by
  subst hi
  have hx:Lk.ev L (.global g)=some (.pointer (some ⟨g,0,none⟩)):=rfl
  simp [execOp,ho,ha.ev hx,ha.ev hy,Instr.indexAt,Instr.sureAddr,asIntOf,run_underlying ht,(z0j hT).2,hj,Addr.add_lit]
theorem EX.zx2 {C:Cx} {n:Nat} {V:Env} {w:World} {O:Nat→Prop} {o:Oper} {l:List (List D)} {T m:Nat} {t:TypeId} {gg:Bool} {x hi mx:Operand} {u:Value} {b c:Nat} {kb kc:IntKind} (ho:o.op = .slice t x none (some hi) (some mx))
  (ht:C.P.underlying t=some (.slice T)) (hT:Lk.shp C.P T=some (gg,m)) (hx:Lk.ev V x=some u) (hr:RD w O (.sl T m l) u)
  (hh:Lk.ev V hi=some (.int kb (b:Nat))) (hm:Lk.ev V mx=some (.int kc (c:Nat))) (hbc:b≤c) (hc:c≤l.length):∃ v',(∀ w',EX C n V w' o v')∧RD w O (.sl T m (l.take b)) v':=by
 have i1:(b:Int)≤(c:Int):=yp.2 hbc
 have key:∀ (p:Option Addr) (cap:Nat),u = .slice p l.length cap→c≤cap→∀ w',EX C n V w' o (.slice (if c=0 then p else p.map (·.add 0)) b c):=fun p cap hu hcap w' a ha=>by
  have i2:(c:Int)≤(cap:Int):=yp.2 hcap
  subst hu
  simp [execOp,ho,ha.ev hx,ha.ev hh,ha.ev hm,Instr.sliceAt,Instr.slice,run_underlying ht,Instr.sliceBounds,Instr.sliceBound,asIntOf,(z0j hT).2,hbc,hcap]
 rcases hr with ⟨⟨p,rfl⟩,rfl⟩|⟨bb,q,cap,cs,fr,rfl,h2,h3,h4,h5,h6,h7⟩
 ·have hc0:c=0:=by simpa using hc
  have hb0:b=0:=by omega
  subst hc0 hb0
  exact ⟨_,key p 0 rfl (Nat.le_refl _),.inl ⟨⟨p,by simp⟩,by simp⟩⟩
 ·refine ⟨_,key _ cap rfl (by omega),?_⟩
  have hlen:(l.take b).length=b:=by simp;omega
  by_cases hc0:c=0
  ·have hb0:b=0:=by omega
   subst hc0 hb0
   exact .inl ⟨⟨_,rfl⟩,by simp⟩
  ·rw [if_neg hc0]
   refine .inr ⟨bb,q,c,cs,fr,by rw [hlen];simp [Addr.add_lit],by omega,by omega,h4,h5,?_,RDl.take b h7⟩
   have:c*m≤cap*m:=yo m (by omega)
   omega
theorem zjt {b:Bool} {u v:PV} {k:PV→Prop} (h:mmW b u v k):∃ a p q,u = .int a p∧v = .int a q∧k (.int a (if b=true then zny p q else zxz p q)):=by
 unfold mmW at h
 split at h
 ·split at h
  ·rename_i he
   have he:=z5r he
   subst he
   exact ⟨_,_,_,rfl,rfl,h⟩
  ·rename_i he
   have he:=z5r he
   subst he
   exact ⟨_,_,_,rfl,rfl,h⟩
  ·exact h.elim
 ·exact h.elim
theorem EX.zz0 {C:Cx} {n:Nat} {L:Env} {w:World} {o:Oper} {x y:Operand} {ts:Array TypeId} {a:IntKind} {p q:Int} (ho:o.op = .call { callee:=.builtin .max,args := #[x,y],argTypes:=ts }) (hx:Lk.ev L x=some (.int a p)) (hy:Lk.ev L y=some (.int a q)):EX C n L w o (.int a (zny p q)):=fun _ ha=>by
 simp [execOp,ho,resolve,invoke,builtin,Builtin.max_,Builtin.max2,ha.ev hx,ha.ev hy,zny]
theorem EX.zz1 {C:Cx} {n:Nat} {L:Env} {w:World} {o:Oper} {x y:Operand} {ts:Array TypeId} {a:IntKind} {p q:Int} (ho:o.op = .call { callee:=.builtin .min,args := #[x,y],argTypes:=ts }) (hx:Lk.ev L x=some (.int a p)) (hy:Lk.ev L y=some (.int a q)):EX C n L w o (.int a (zxz p q)):=fun _ ha=>by
 simp [execOp,ho,resolve,invoke,builtin,Builtin.min_,Builtin.min2,ha.ev hx,ha.ev hy,zxz]
theorem z8p {tb:Tb} (ht:TbOk C.P tb) (hgt:∀ w O,z.G w O→zpm tb w O) (h:Rel z (lk σ.L) (lk σ.B) (lk σ.A) V w O φ α) {k:PV→Prop} (hq:qop tb σ o.op k):zhf C n V w O φ α o (stb σ o.op) k:=by
 unfold qop at hq
 split at hq
 case h_1 =>
  rename_i x ho
  obtain ⟨v,h1,h2⟩:=zi hq
  obtain ⟨u,h3,h4⟩:=h.ev h1
  exact .al (v:=v) (u:=u) h2 h4 fun _=>EX.move ho h3
 case h_2 =>
  rename_i x ho
  obtain ⟨v,h1,h2⟩:=zi hq
  obtain ⟨u,h3,h4⟩:=h.ev h1
  exact .al (v:=v) (u:=u) h2 h4 fun _=>EX.assign ho h3
 case h_3 =>
  rename_i c x y ho
  split at hq
  ·rename_i b hc
   replace hq:=zi hq
   obtain ⟨v,h1,hq⟩:=hq
   replace hq:=zi hq
   obtain ⟨v',h2,hq⟩:=hq
   obtain ⟨u,h3,h4⟩:=h.ev h1
   obtain ⟨u',h5,h6⟩:=h.ev h2
   obtain ⟨uc,h7,h8⟩:=h.ev hc
   simp only [VR] at h8
   subst h8
   rcases zao hq with ⟨rfl,hq⟩|⟨rfl,hq⟩
   ·exact .al (v:=v) (u:=u) hq h4 fun _=>EX.zwu ho h7 h3
   ·exact .al (v:=v') (u:=u') hq h6 fun _=>EX.zwt ho h7 h5
  ·exact hq.elim
 case h_4 =>
  rename_i op t x y r ho
  split at hq
  ·rename_i hif
   obtain ⟨ms,hms⟩:=ztp (ht.ifc _ hif)
   split at hq
   ·replace hq:=zi hq
    obtain ⟨b,h1,hq⟩:=hq
    obtain ⟨v,h2,h3⟩:=yb.1 h1
    obtain ⟨u,h4,h5⟩:=h.ev h2
    have key:=fun w'=>EX.zyt (n:=n) (w:=w') ho hms h4 (zu8 h3 h5)
    split at hq
    ·exact .al (v:=.bool b) (u:=.bool b) hq rfl fun w'=>(key w').1 rfl
    ·exact .al (v:=.bool (!b)) (u:=.bool (!b)) hq rfl fun w'=>(key w').2 rfl
    ·exact hq.elim
   ·exact hq.elim
  replace hq:=zi hq
  obtain ⟨td,h1,hq⟩:=hq
  replace hq:=zi hq
  obtain ⟨v,h2,hq⟩:=hq
  replace hq:=zi hq
  obtain ⟨v',h3,hq⟩:=hq
  obtain ⟨u,h4,h5⟩:=h.ev h2
  obtain ⟨u',h6,h7⟩:=h.ev h3
  exact zmn ho (ht.und _ _ h1) h4 h6 h5 h7 hq
 case h_5 =>
  rename_i op t x ho
  replace hq:=zi hq
  obtain ⟨v,h2,hq⟩:=hq
  obtain ⟨u,h4,h5⟩:=h.ev h2
  exact zp9 ho h4 h5 hq
 case h_6 =>
  rename_i s t x ho
  replace hq:=zi hq
  obtain ⟨v,h2,hq⟩:=hq
  obtain ⟨u,h4,h5⟩:=h.ev h2
  split at hq
  ·rename_i k1 n1 k2 k3 e1 e2
   simp only [VR] at h5
   subst h5
   exact .al (v:=_) (u:=_) hq rfl fun _=>EX.zyf ho (ht.und _ _ e1) (ht.und _ _ e2) h4
  ·rename_i s1 e1 e2
   simp only [VR] at h5
   subst h5
   exact .al (v:=_) (u:=_) hq rfl fun _=>EX.zyh ho (ht.und _ _ e1) (ht.und _ _ e2) h4
  ·rename_i k1 n1 k2 e1 e2
   simp only [VR] at h5
   subst h5
   exact .al (v:=_) (u:=_) hq rfl fun _=>EX.zyg ho (ht.und _ _ e1) (ht.und _ _ e2) h4
  ·exact hq.elim
 case h_7 =>
  rename_i t x ho
  replace hq:=zi hq
  obtain ⟨v,h2,hq⟩:=hq
  obtain ⟨u,h4,h5⟩:=h.ev h2
  split at hq
  ·rename_i hn
   obtain ⟨td,h6,h7⟩:=zi8 (ht.nif _ hn)
   refine .al (v:=_) (u:=_) hq ⟨u,rfl,h5⟩ fun _=>EX.zu7 ho h6 ?_ h4
   revert h7
   cases td<;>simp [z8k]
  ·exact hq.elim
 case h_8 =>
  rename_i f as cs ho
  replace hq:=zi hq
  obtain ⟨vs,h1,hq⟩:=hq
  replace hq:=zi hq
  obtain ⟨ws,h2,hq⟩:=hq
  obtain ⟨us,h3,h4⟩:=h.evs h1
  obtain ⟨xs,h5,h6⟩:=h.evs h2
  exact .al (v:=_) (u:=_) hq ⟨us,xs,rfl,h4,h6⟩ fun _=>EX.zwi ho h3 h5
 case h_9 =>
  rename_i x i ho
  split at hq
  ·rename_i vs hx
   replace hq:=zi hq
   obtain ⟨v,h1,hq⟩:=hq
   obtain ⟨u,h2,us,rfl,h3⟩:=h.ev hx
   obtain ⟨u,h4,h5⟩:=VRs.get h3 h1
   exact .al (v:=v) (u:=u) hq h5 fun _=>EX.extract ho h2 (by simpa using h4)
  ·exact hq.elim
 case h_10 =>
  rename_i x ho
  replace hq:=zi hq
  obtain ⟨v,h2,hq⟩:=hq
  obtain ⟨u,h4,h5⟩:=h.ev h2
  split at hq
  ·have h6:=h5
   simp only [VR] at h6
   subst h6
   exact .al (v:=_) (u:=_) hq h5 fun _=>EX.nilCheck ho h4
  ·have h6:=h5
   obtain ⟨b,q,rfl,_⟩:=h6
   exact .al (v:=_) (u:=_) hq h5 fun _=>EX.nilCheck ho h4
  ·have h6:=h5
   obtain ⟨b,l,c,j,_,_,rfl⟩:=h6
   exact .al (v:=_) (u:=_) hq h5 fun _=>EX.nilCheck ho h4
  ·exact hq.elim
 case h_11 =>
  rename_i t x i ho
  replace hq:=zi hq
  obtain ⟨f,h1,hq⟩:=hq
  obtain ⟨fs,h2,h3⟩:=yb.1 h1
  replace hq:=zi hq
  obtain ⟨v,h4,hq⟩:=hq
  obtain ⟨u,h5,h6⟩:=h.ev h4
  have hf:=zjl (ht.fld _ _ h2) h3
  split at hq
  ·simp only [VR] at h6
   subst h6
   exact .al (v:=_) (u:=_) hq rfl fun _=>EX.fieldAddr ho hf h5
  ·obtain ⟨b,q,rfl,h7⟩:=h6
   refine .al (v:=_) (u:=_) hq ⟨b,q,rfl,h7⟩ fun _ => ?_
   rw [←yl]
   exact EX.fieldAddr ho hf h5
  ·obtain ⟨b,l,c,j,h7,h8,rfl⟩:=h6
   refine .al (v:=_) (u:=_) hq ⟨b,l,c,j,h7,h8,rfl⟩ fun _ => ?_
   rw [←yl]
   exact EX.fieldAddr ho hf h5
  ·exact hq.elim
 case h_12 =>
  rename_i t x i ho
  replace hq:=zi hq
  obtain ⟨f,h1,hq⟩:=hq
  obtain ⟨fs,h2,h3⟩:=yb.1 h1
  split at hq
  ·rename_i cs hx
   replace hq:=zi hq
   obtain ⟨v,h4,hq⟩:=hq
   obtain ⟨u,h5,us,rfl,h6⟩:=h.ev hx
   obtain ⟨fp,fg,fn⟩:=f
   have hf:=zjl (ht.fld _ _ h2) h3
   have h7:VRs w O φ α ((cs.drop fp).take fn) ((us.drop fp).take fn):=(VRs.drop fp h6).take fn
   have e8:(us.drop fp)[0]? = us[fp]?:=by simp
   revert h4 h7
   simp only
   generalize hc2:(cs.drop fp).take fn=c2
   intro h4 h7
   unfold z3z at h4
   split at h4
   ·split at h4
    ·cases h4
     exact .al (v:=_) (u:=_) hq ⟨_,rfl,h7⟩ fun _=>EX.zw3 ho hf h5
    ·cases h4
   ·cases h4
    obtain ⟨u,us',h9,h10,h11⟩:=h7
    refine .al (v:=_) (u:=u) hq h10 fun _=>EX.field ho hf h5 ?_
    rw [←e8]
    have e9:((us.drop fp).take fn)[0]? = some u:=by rw [h9];rfl
    rw [yh] at e9
    split at e9
    ·exact e9
    ·cases e9
   ·cases h4
  ·exact hq.elim
 case h_13 =>
  rename_i t x ho
  replace hq:=zi hq
  obtain ⟨⟨g,m⟩,h1,hq⟩:=hq
  replace hq:=zi hq
  obtain ⟨v,h2,hq⟩:=hq
  obtain ⟨u,h3,h4⟩:=h.ev h2
  have hT:=ht.shp _ _ h1
  unfold zgi at hq
  split at hq
  ·rename_i a m' i off
   replace hq:=zi hq
   obtain ⟨e,h5,hq⟩:=hq
   split at hq
   ·rename_i hn
    have hn:=yn hn
    obtain ⟨cs,h6,hq⟩:=hq
    replace hq:=zi hq
    obtain ⟨v',h7,hq⟩:=hq
    obtain ⟨b,len,cap,j,h8,h9,rfl⟩:=h4
    obtain ⟨j',h10,h11,_⟩:=z8d h6
    have:j'=j:=by omega
    subst this
    obtain ⟨us,h12,h13⟩:=Own.elem ((h.arr _ _ (z3k h5).1).un (z3k h5).2) h8 h11
    subst hn
    obtain ⟨u',k1,k2⟩:=z6k (n:=n) ho hT h3 (z7v h12) h7
    exact ⟨v',u',hq,k1,k2 w h13,fun hh=>by rw [ho] at hh;simp only [stb,h2,reduceCtorEq,yf] at hh⟩
   ·exact hq.elim
  ·rename_i hne
   replace hq:=zi hq
   obtain ⟨v',h7,hq⟩:=hq
   unfold zu6 at h7
   split at h7
   ·rename_i b off
    split at h7
    ·rename_i e he
     obtain ⟨_,us,h8,h9⟩:=h.box _ _ (z6j he).1
     have h8:=h8.un (z6j he).2
     simp only [VR] at h4
     subst h4
     obtain ⟨u',k1,k2⟩:=z6k (n:=n) (q:=0) ho hT (by simpa using h3) h9 h7
     exact ⟨v',u',hq,k1,k2 w (fun j u e=>by rw [Nat.zero_add,h8.cell];exact e),fun hh=>by rw [ho] at hh;simp only [stb,h2,reduceCtorEq,yf] at hh⟩
    ·cases h7
   ·rename_i cs off
    obtain ⟨b,q,rfl,us,_,h10,h11⟩:=h4
    obtain ⟨u',k1,k2⟩:=z6k (n:=n) ho hT h3 (z7v h11) h7
    exact ⟨v',u',hq,k1,k2 w h10.at_,fun _ w' O' t=>k2 w' (h10.tr t).at_⟩
   ·rename_i cs off _
    obtain ⟨_,b,q,rfl,us,_,h10,h11⟩:=h4
    obtain ⟨u',k1,k2⟩:=z6k (n:=n) ho hT h3 (z7v h11) h7
    exact ⟨v',u',hq,k1,k2 w h10.at_,fun _ w' O' t=>k2 w' (h10.tr t).at_⟩
   ·cases h7
 case h_14 =>
  rename_i t x y ho
  split at hq
  ·rename_i s ki i e1 e2 e3
   obtain ⟨c,h1,hq⟩:=hq
   obtain ⟨j,h2,h3,_⟩:=z8d h1
   obtain ⟨u,h4,h5⟩:=h.ev e2
   obtain ⟨u',h6,h7⟩:=h.ev e3
   simp only [VR] at h5 h7
   subst h5 h7
   exact .al (v:=_) (u:=_) hq rfl fun _=>EX.zwa ho (ht.und _ _ e1) h4 h6 h2 h3
  ·exact hq.elim
 case h_15 =>
  rename_i t x y ho
  split at hq
  ·rename_i g
   obtain ⟨e,h1,hq⟩:=zi hq
   split at hq
   ·rename_i len T ki i e1 e2
    obtain ⟨⟨gg,m⟩,h4,hq⟩:=zi hq
    split at hq
    ·rename_i hm
     simp only [ye] at hm
     have hm1:=yn hm.1
     have hm2:=yn hm.2
     subst hm1
     obtain ⟨cs,h5,hq⟩:=hq
     obtain ⟨j,h6,h7,h8⟩:=z8d h5
     obtain ⟨u',h9,h10⟩:=h.ev e2
     simp only [VR] at h10
     subst h10
     obtain ⟨hl,hel⟩:=hgt w O h.gl g e h1
     have hel:=hel j cs h7
     refine .al (v:=_) (u:=_) hq ⟨g,j*e.1,rfl,?_⟩ fun _=>EX.zlc ho (ht.und _ _ e1) (ht.shp _ _ h4) h9 h6 (by omega)
     obtain ⟨us,k1,k2,k3⟩:=hel
     exact ⟨us,VRs.len (φ:=φ) (α:=α) (z7v k3) |>.trans (by simp [zpi]),k2,k3⟩
    ·exact hq.elim
   ·exact hq.elim
  replace hq:=zi hq
  obtain ⟨v,h1,hq⟩:=hq
  obtain ⟨u,h2,h3⟩:=h.ev h1
  split at hq
  ·rename_i T e1
   replace hq:=zi hq
   obtain ⟨⟨g,m⟩,h4,hq⟩:=hq
   split at hq
   ·rename_i U m' l ki i e2
    split at hq
    ·rename_i hm
     have hm:=yn hm
     simp only at hm
     subst hm
     obtain ⟨cs,h5,hq⟩:=hq
     obtain ⟨j,h6,h7,h8⟩:=z8d h5
     obtain ⟨u',h9,h10⟩:=h.ev e2
     simp only [VR] at h10
     subst h10
     obtain ⟨b,q,cap,h11,h12,h13⟩:=RD.elem h3 h7
     refine .al (v:=_) (u:=_) hq ⟨b,q+j*m,rfl,?_⟩ fun _=>EX.zd4 ho (ht.und _ _ e1) (ht.shp _ _ h4) h2 h11 h9 h6 h8
     obtain ⟨us,k1,k2,k3⟩:=h13
     exact ⟨us,VRs.len (φ:=φ) (α:=α) (z7v k3) |>.trans (by simp [zpi]),k2,k3⟩
    ·exact hq.elim
   ·rename_i a ki i e2
    replace hq:=zi hq
    obtain ⟨e,h4',hq⟩:=hq
    split at hq
    ·rename_i hm
     have hm:=yn hm
     simp only at hm
     subst hm
     obtain ⟨cs,h5,hq⟩:=hq
     obtain ⟨j,h6,h7,h8⟩:=z8d h5
     obtain ⟨u',h9,h10⟩:=h.ev e2
     simp only [VR] at h10
     subst h10
     obtain ⟨xs,k1,_⟩:=(h.arr _ _ (z3k h4').1).un (z3k h4').2
     rcases k1.2 with ⟨_,k2⟩|⟨b,cap,cur,k2,_⟩
     ·omega
     ·exact .al hq ⟨b,_,cap,j,k2,h6,rfl⟩ fun w'=>by
       have:=EX.zd4 (n:=n) (w:=w') ho (ht.und _ _ e1) (ht.shp _ _ h4) h2 (h3.1.trans k2) h9 h6 h8
       simpa using this
    ·exact hq.elim
   ·exact hq.elim
  ·exact hq.elim
 case h_16 =>
  rename_i t x lo hi ho
  replace hq:=zi hq
  obtain ⟨v,h1,hq⟩:=hq
  replace hq:=zi hq
  obtain ⟨td,h2,hq⟩:=hq
  obtain ⟨u,h6,h7⟩:=h.ev h1
  replace hq:=znx h hq
  obtain ⟨p,hq,hp⟩:=hq
  have hhi:∃ q,(match td,v with
    | .string,.str s=>Ex (Go.Lk.sub s p q) fun r=>k (.str r)
    | .slice e,.sl T m l=>wt (lk tb.shp e) fun s=>match ym e T&&ym s.2 m with
     | true=>Ex (Go.Lk.sub l p q) fun r=>k (.sl T m r)
     | false=>False
    | _,_=>False)∧∀ N:Nat,((∃ s:List UInt8,v = .str s∧N=s.length)∨∃ T m l,v = .sl T m l∧N=l.length)→(hi=none∧q=(N:Int))∨∃ y k,hi=some y∧Lk.ev V y=some (.int k q):=by
   unfold hiW at hq
   split at hq
   ·rcases zd7 h h7 hq with ⟨s,_,e2,_,hk⟩|⟨⟨e0,e1⟩,l,hk,_,e3⟩|e1
    ·refine ⟨_,hk,fun N hN => .inl ⟨rfl,?_⟩⟩
     rcases hN with ⟨s',e4,rfl⟩|⟨T,m,l,e4,_⟩
     ·rw [e2] at e4;cases e4;rfl
     ·rw [e2] at e4;cases e4
    ·refine ⟨_,hk,fun N hN => .inl ⟨rfl,?_⟩⟩
     rcases hN with ⟨s',e4,rfl⟩|⟨T,m,l',e4,rfl⟩
     ·subst e4
      subst e1
      exact hk.elim
     ·rw [e3 _ _ _ e4]
    ·obtain ⟨⟨kt,et,rfl⟩,⟨b,rfl⟩,_,_,_,_,_,hk⟩:=e1
     exact hk.elim
   ·rename_i y
    split at hq
    ·rename_i kk n' hy
     obtain ⟨u',h8,h9⟩:=h.ev hy
     simp only [VR] at h9
     subst h9
     exact ⟨n',hq,fun N _ => .inr ⟨y,kk,rfl,h8⟩⟩
    ·exact hq.elim
  clear hq
  obtain ⟨q,hq,hq'⟩:=hhi
  split at hq
  ·rename_i s
   obtain ⟨r,h8,hq⟩:=hq
   obtain ⟨a,b,h9,h10,h11,h12,h13⟩:=zf4 h8
   simp only [VR] at h7
   subst h7
   subst h13
   exact .al (v:=.str _) (u:=_) hq rfl fun _=>EX.zx3 ho (ht.und _ _ h2) h6 (Lo.of hp h9) (Lo.of (hq' _ (.inl ⟨s,rfl,rfl⟩)) h10) h11 h12
  ·rename_i e T' m' l
   replace hq:=zi hq
   obtain ⟨⟨g,mm⟩,h8,hq⟩:=hq
   split at hq
   ·rename_i hb
    simp only [ye] at hb
    have hb1:=yn hb.1
    have hb2:=yn hb.2
    subst hb1 hb2
    obtain ⟨r,h8',hq⟩:=hq
    obtain ⟨a,b,h9,h10,h11,h12,h13⟩:=zf4 h8'
    subst h13
    obtain ⟨v',k1,k2⟩:=EX.zx1 (n:=n) ho (ht.und _ _ h2) (ht.shp _ _ h8) h6 h7 (Lo.of hp h9) (Lo.of (hq' _ (.inr ⟨_,_,_,rfl,rfl⟩)) h10) h11 h12
    exact .al (v:=.sl _ _ _) (u:=v') hq k2 k1
   ·exact hq.elim
  ·exact hq.elim
 case h_17 =>
  rename_i c ho
  split at hq
  ·rename_i x t e1 e2 e3
   replace hq:=zi hq
   obtain ⟨td,h1,hq⟩:=hq
   replace hq:=zi hq
   obtain ⟨v,h2,hq⟩:=hq
   obtain ⟨u,h4,h5⟩:=h.ev h2
   obtain ⟨cal,cargs,cty⟩:=c
   simp only at e1 e2 e3
   have e2:cargs = #[x]:=by apply yr.1;simpa using e2
   have e3:cty = #[t]:=by apply yr.1;simpa using e3
   subst e1 e2 e3
   have hu:=ht.und _ _ h1
   rcases zd7 h h5 hq with ⟨s,rfl,rfl,rfl,hk⟩|⟨⟨e,rfl⟩,l,hk,h6,_⟩|⟨⟨kt,et,rfl⟩,⟨b,rfl⟩,m,es,clock,rfl,h6,hk⟩
   ·exact .al (v:=_) (u:=_) hk rfl fun _=>EX.lenS ho hu h4
   ·exact .al (v:=_) (u:=_) hk rfl fun _=>EX.lenV ho hu h4 h6
   ·refine ⟨.int .i64 _,_,hk,rfl,EX.zsk ho hu h4 h6,fun hst => ?_⟩
    rw [ho] at hst
    simp only [stb,h2,yf] at hst
  ·rename_i x y e1 e2
   obtain ⟨v1,h2,hq⟩:=zi hq
   obtain ⟨v2,h3,hq⟩:=zi hq
   obtain ⟨a,p,q,rfl,rfl,hk⟩:=zjt hq
   obtain ⟨u,h4,h5⟩:=h.ev h2
   obtain ⟨u',h6,h7⟩:=h.ev h3
   simp only [VR] at h5 h7
   subst h5 h7
   obtain ⟨cal,cargs,cty⟩:=c
   simp only at e1 e2
   have e2:cargs = #[x,y]:=by apply yr.1;simpa using e2
   subst e1 e2
   exact .al (v:=_) (u:=_) hk rfl fun _=>EX.zz0 ho h4 h6
  ·rename_i x y e1 e2
   obtain ⟨v1,h2,hq⟩:=zi hq
   obtain ⟨v2,h3,hq⟩:=zi hq
   obtain ⟨a,p,q,rfl,rfl,hk⟩:=zjt hq
   obtain ⟨u,h4,h5⟩:=h.ev h2
   obtain ⟨u',h6,h7⟩:=h.ev h3
   simp only [VR] at h5 h7
   subst h5 h7
   obtain ⟨cal,cargs,cty⟩:=c
   simp only at e1 e2
   have e2:cargs = #[x,y]:=by apply yr.1;simpa using e2
   subst e1 e2
   exact .al (v:=_) (u:=_) hk rfl fun _=>EX.zz1 ho h4 h6
  ·exact hq.elim
 case h_18 =>
  rename_i x xt t ho
  replace hq:=zi hq
  obtain ⟨zz,h2,hq⟩:=hq
  split at hq
  ·rename_i T u e1 e0
   obtain ⟨td,hu,e2⟩:=zi8 (ht.nif _ e0)
   obtain ⟨u',h3,y,rfl,h5⟩:=h.ev e1
   split at hq
   ·rename_i hT
    have hT:=yn hT
    subst hT
    exact .al (v:=_) (u:=_) hq ⟨_,rfl,y,_,rfl,h5,_,_,rfl,rfl,rfl⟩ fun _=>EX.zuw ho hu e2 h3
   ·rename_i hT
    have hT:=Nat.ne_of_beq_eq_false hT
    exact .al (v:=_) (u:=_) hq ⟨_,rfl,zz,_,rfl,zda zz,_,_,rfl,rfl,rfl⟩ fun _=>EX.taNo ho hu e2 (ht.zer _ _ h2) hT h3
  ·rename_i e1 e0
   obtain ⟨td,hu,e2⟩:=zi8 (ht.nif _ e0)
   obtain ⟨u',h3,h4⟩:=h.ev e1
   simp only [VR] at h4
   subst h4
   exact .al (v:=_) (u:=_) hq ⟨_,rfl,zz,_,rfl,zda zz,_,_,rfl,rfl,rfl⟩ fun _=>EX.zuv ho hu e2 (ht.zer _ _ h2) h3
  ·exact hq.elim
 case h_19 =>
  rename_i t parts ho
  replace hq:=zi hq
  obtain ⟨us,h1,hq⟩:=hq
  replace hq:=zi hq
  obtain ⟨zz,h2,hq⟩:=hq
  replace hq:=zi hq
  obtain ⟨fs,h3,hq⟩:=hq
  obtain ⟨xs,h4,h5⟩:=h.evs h1
  split at hq
  ·rename_i hok
   obtain ⟨fds,h6,h7⟩:=zd1 (ht.fld _ _ h3)
   have h8:=zb0 h7
   have hz:VRs w O φ α (cellsOf (ofV zz)) zz.cells.toList:=zgp zz
   obtain ⟨out,h9,h10⟩:=zaj (w:=w) (O:=O) (φ:=φ) (α:=α) (fds:=fs.map fun f=>(f.1,f.2.2)) _ us xs _ zz.cells fs (fun i f e=>by simp [e]) h5 hz hok
   refine .al (v:=_) (u:=_) hq ⟨out.toList,rfl,h10⟩ fun _=>EX.build ho (ziz h4) ?_
   unfold built
   rw [h6,ht.zer _ _ h2]
   simp only [h8,h9,yd]
  ·exact hq.elim
 case h_20 =>
  rename_i t x hi mx ho
  obtain ⟨v,h1,hq⟩:=zi hq
  split at hq
  ·rename_i e T m l kb b kc c e1 e2 e3
   obtain ⟨⟨gg,mm⟩,h4,hq⟩:=zi hq
   split at hq
   ·rename_i hm
    simp only [ye] at hm
    have hm1:=yn hm.1
    have hm2:=yn hm.2
    subst hm1 hm2
    obtain ⟨N,hN,_,h5,r,h6,hq⟩:=hq
    simp only [zqt,Option.some.injEq] at hN
    subst hN
    have h5:=z86 h5
    simp only [ye,decide_eq_true_eq] at h5
    obtain ⟨a0,b0,h9,h10,h11,h12,h13⟩:=zf4 h6
    obtain ⟨u,h7,h8⟩:=h.ev h1
    obtain ⟨ub,k1,k2⟩:=h.ev e2
    obtain ⟨uc,k3,k4⟩:=h.ev e3
    simp only [VR] at h8 k2 k4
    subst k2 k4
    obtain ⟨cn,hcn⟩:∃ cn:Nat,c=(cn:Int):=⟨c.toNat,by omega⟩
    subst h10 hcn
    obtain rfl:a0=0:=by omega
    obtain ⟨v',g1,g2⟩:=EX.zx2 (n:=n) ho (ht.und _ _ e1) (ht.shp _ _ h4) h7 h8 k1 k3 (by omega) (by omega)
    rw [List.drop_zero] at h13
    subst h13
    exact .al (v:=_) (u:=_) hq g2 g1
   ·exact hq.elim
  ·exact hq.elim
 case h_21=>exact hq.elim
end
end Go.Pe
