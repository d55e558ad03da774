import Derived.Test.YtfdoofnmjehecaaGreatDoorDPfR
import Derived.ChangeKeysEq
set_option linter.all false
namespace Go.Pe
open _root_.Option renaming bind_eq_bind → ya, bind_eq_some_iff → yb, bind_some → yc, map_some → yd
open _root_.Bool renaming and_eq_true → ye, eq_iff_iff → yf, false_eq_true → yg
open _root_.List renaming drop_drop → yh, getElem?_drop → yi, getElem?_take → yj, getElem?_toArray → yk, mapM_cons → yl, map_cons → ym, toArray → yn, zip_cons_cons → yo
open _root_.Nat renaming add_assoc → yp, beq → yq, eq_of_beq_eq_true → yr, mul_le_mul_right → yt, mul_one → yu
open _root_.Int renaming ofNat_le → yv
open _root_.Array renaming length_toList → yw, toList_inj → yx
open Go.RowKit Go.Lk

def zrc (P:Program) (T:TypeId):Option (List (Nat × Bool × Nat)) :=
 match P.underlying T with
 | some (.struct fs)=>fs.toList.mapM fun f=>match Lk.shp P f.type with
  | some (b,n)=>if n=0 then none else some (f.offset,b,n)
  | none=>none
 | _=>none
def zvw (P:Program) (T:TypeId):Bool:=match P.underlying T with
 | some td=>z9e td
 | none=>false
theorem zhs {P:Program} {T:TypeId} (h:zvw P T=true):∃ td,P.underlying T=some td∧z9e td=true:=by
 unfold zvw at h
 split at h
 ·exact ⟨_,by assumption,h⟩
 ·cases h
def zvt (P:Program) (T:TypeId):Bool:=match P.underlying T with
 | some (.interface _)=>true
 | _=>false
theorem zri {P:Program} {T:TypeId} (h:zvt P T=true):∃ ms,P.underlying T=some (.interface ms):=by
 unfold zvt at h
 split at h
 ·exact ⟨_,by assumption⟩
 ·cases h
def ztp (P:Program) (T:TypeId):Option Nat:=match P.underlying T,Lk.zer P T with
 | some (.array n e),some z=>match P.underlying e,P.info? e,P.eqGuardType P.depth T with
  | some .string,some i,false=>match yq i.size 1&&yq z.cells.size n with
   | true=>some n
   | false=>none
  | _,_,_=>none
 | _,_=>none
theorem zlh {P:Program} {T n:Nat} (h:ztp P T=some n):∃ e z i,P.underlying T=some (.array n e)∧Lk.zer P T=some z∧P.underlying e=some .string∧P.info? e=some i∧P.eqGuardType P.depth T=false∧i.size=1∧z.cells.size=n:=by
 unfold ztp at h
 split at h
 ·rename_i n' e z h1 h2
  split at h
  ·rename_i i h3 h4 h5
   split at h
   ·rename_i hb
    cases h
    simp only [ye] at hb
    exact ⟨e,z,i,h1,h2,h3,h4,h5,yr hb.1,yr hb.2⟩
   ·cases h
  ·cases h
 ·cases h
def zuf (P:Program):List Field→Nat→Bool
 | [],_=>true
 | f::r,j=>yq f.offset j&&decide (f.name ≠ "_")&&(match P.underlying f.type with
  | some .string=>true
  | _=>false)&&zuf P r (j+1)
def zve (P:Program) (T:TypeId):Option Nat:=match P.underlying T,P.stoodInHeld T,P.eqGuardType P.depth T with
 | some (.struct fs),false,false=>match zuf P fs.toList 0 with
  | true=>some fs.toList.length
  | false=>none
 | _,_,_=>none
theorem zt6 {P:Program} {T n:Nat} (h:zve P T=some n):∃ fs,P.underlying T=some (.struct fs)∧P.stoodInHeld T=false∧P.eqGuardType P.depth T=false∧zuf P fs.toList 0=true∧fs.toList.length=n:=by
 unfold zve at h
 split at h
 ·rename_i fs h1 h2 h3
  split at h
  ·rename_i h4
   cases h
   exact ⟨fs,h1,h2,h3,h4,rfl⟩
  ·cases h
 ·cases h
structure TbOk (P:Program) (tb:Tb):Prop where
 sts:∀ t n,lk tb.sts t=some n→zve P t=some n
 ars:∀ t n,lk tb.ars t=some n→ztp P t=some n
 ifc:∀ t,tb.ifc.any (yq t)=true→zvt P t=true
 mix:P.follows .mixedOrders=true
 nif:∀ t,tb.nif.any (yq t)=true→zvw P t=true
 und:∀ t td,lk tb.und t=some td→P.underlying t=some td
 shp:∀ t s,lk tb.shp t=some s→Lk.shp P t=some s
 fld:∀ t fs,lk tb.fld t=some fs→zrc P t=some fs
 zer:∀ t z,lk tb.zer t=some z→Lk.zer P t=some z
 inf:∀ t i,lk tb.inf t=some i→Lk.inf P t=some i
def ztn (tb:Tb) (w:World) (O:Nat→Prop):Prop := ∀ g e,lk tb.glb g=some e→e.2.2.length=e.2.1∧∀ (i:Nat) (x:List D),e.2.2[i]? = some x→za4 w O g (i*e.1) e.1 x
def znk {β:Type} (p:Nat→β→Prop):List (Nat × β)→Prop
 | []=>True
 | (t,x)::r=>p t x∧znk p r
theorem znk.get {β:Type} {p:Nat→β→Prop}:∀ {l:List (Nat × β)} {t:Nat} {x:β},znk p l→lk l t=some x→p t x
 | (s,y)::r,t,x,h,e=>by
  rcases z34 e with ⟨rfl,rfl⟩|⟨_,e⟩
  ·exact h.1
  ·exact h.2.get e
def zu1 (p:Nat→Prop):List Nat→Prop
 | []=>True
 | t::r=>p t∧zu1 p r
theorem zu1.get {p:Nat→Prop}:∀ {l:List Nat} {t:Nat},zu1 p l→l.any (yq t)=true→p t
 | s::r,t,h,e=>by
  simp only [List.any_cons,Bool.or_eq_true] at e
  rcases e with e|e
  ·rw [yr e];exact h.1
  ·exact h.2.get e
theorem TbOk.of {P:Program} {tb:Tb} (hm:P.follows .mixedOrders=true) (h00:zu1 (fun t=>zvt P t=true) tb.ifc) (h0:zu1 (fun t=>zvw P t=true) tb.nif) (h1:znk (fun t td=>P.underlying t=some td) tb.und) (h2:znk (fun t s=>Lk.shp P t=some s) tb.shp) (h3:znk (fun t fs=>zrc P t=some fs) tb.fld) (h4:znk (fun t z=>Lk.zer P t=some z) tb.zer)
  (h5:znk (fun t i=>Lk.inf P t=some i) tb.inf) (h6:znk (fun t n=>ztp P t=some n) tb.ars) (h7:znk (fun t n=>zve P t=some n) tb.sts):TbOk P tb:=⟨fun _ _=>h7.get,fun _ _=>h6.get,fun _=>h00.get,hm,fun _=>h0.get,fun _ _=>h1.get,fun _ _=>h2.get,fun _ _=>h3.get,fun _ _=>h4.get,fun _ _=>h5.get⟩
theorem mapM_some {α β:Type} {f:α→Option β}:∀ {l:List α} {r:List β},l.mapM f=some r→∀ (i:Nat) (y:β),r[i]? = some y→∃ x,l[i]? = some x∧f x=some y
 | [],r,h,i,y,e=>by simp at h;subst h;simp at e
 | a::l,r,h,i,y,e=>by
  simp only [yl,ya] at h
  obtain ⟨b,h1,h⟩:=yb.1 h
  obtain ⟨bs,h2,h⟩:=yb.1 h
  cases h
  cases i with
  | zero=>simp at e;subst e;exact ⟨a,rfl,h1⟩
  | succ i=>simpa using mapM_some h2 i y (by simpa using e)
theorem zd2 {P:Program} {T:TypeId} {fs:List (Nat × Bool × Nat)} (h:zrc P T=some fs):∃ fds,P.underlying T=some (.struct fds)∧(fds.toList.mapM fun f=>match Lk.shp P f.type with
  | some (b,n)=>if n=0 then none else some (f.offset,b,n)
  | none=>none)=some fs:=by
 unfold zrc at h
 split at h
 ·exact ⟨_,by assumption,h⟩
 ·cases h
theorem zj5 {P:Program} {T:TypeId} {fs:List (Nat × Bool × Nat)} (h:zrc P T=some fs) {i:Nat} {f:Nat × Bool × Nat} (hf:fs[i]? = some f):Lk.fld P T i=some f:=by
 obtain ⟨fds,h1,h2⟩:=zd2 h
 obtain ⟨x,h3,h4⟩:=mapM_some h2 i f hf
 unfold Lk.fld
 rw [h1]
 have h3':fds[i]? = some x:=by simpa using h3
 simp only [h3']
 split at h4
 ·rename_i b n hs
  simp only [hs]
  exact h4
 ·cases h4
theorem zb5 {P:Program}:∀ {l:List Field} {fs:List (Nat × Bool × Nat)},(l.mapM fun f=>match Lk.shp P f.type with
  | some (b,n)=>if n=0 then none else some (f.offset,b,n)
  | none=>none)=some fs→(l.mapM fun f=>(P.info? f.type).map fun i=>(f.offset,i.size))=some (fs.map fun f=>(f.1,f.2.2))
 | [],fs,h=>by simp at h;subst h;rfl
 | a::l,fs,h=>by
  simp only [yl,ya] at h
  obtain ⟨b,h1,h⟩:=yb.1 h
  obtain ⟨bs,h2,h⟩:=yb.1 h
  cases h
  have ih:=zb5 h2
  split at h1
  ·rename_i g n hs
   obtain ⟨i,h3,h4⟩:=zpp hs
   split at h1
   ·cases h1
   ·cases h1
    simp only [yl,ya,h3,yd,yc,ih,ym,h4]
    rfl
  ·cases h1

theorem zf {α:Type} {x:Option α} {k:α→Prop} (h:wt x k):∃ a,x=some a∧k a:=by
 cases x with
 | none=>exact h.elim
 | some a=>exact ⟨a,rfl,h⟩
theorem zav {b:Bool} {p q:Prop} (h:cond b p q):(b=true∧p)∨(b=false∧q):=by
 cases b with
 | true=>exact .inl ⟨rfl,h⟩
 | false=>exact .inr ⟨rfl,h⟩
section
variable {w:World} {O:Nat→Prop} {φ:Nat→Nat} {α:Nat→Value}
theorem zht (v:Value):VR w O φ α (zl1 v) v:=by
 unfold zl1
 split
 ·rfl
 ·rfl
 ·simp [VR]
 ·rfl
 ·rfl
 ·rfl
 ·exact ⟨[],[],rfl,rfl,rfl⟩
 ·trivial
theorem zjh:∀ (l:List Value),VRs w O φ α (l.map zl1) l
 | []=>rfl
 | v::l=>⟨v,l,rfl,zht v,zjh l⟩
theorem zdc (v:Value):VR w O φ α (ofV v) v:=by
 unfold ofV
 split
 ·rename_i cs
  exact ⟨cs.toList,by simp,zjh _⟩
 ·exact zht v
theorem zmr {d:D} {u:Value} (h:RD w O d u):VR w O φ α (ofD d) u:=by
 cases d with
 | int k n=>simpa [VR,ofD,RD] using h
 | bool b=>simpa [VR,ofD,RD] using h
 | str s=>simpa [VR,ofD,RD] using h
 | sl T n l=>exact h
 | val x=>trivial
 | fn n=>exact ⟨[],[],h,rfl,rfl⟩
theorem z9w:∀ {l:List D} {us:List Value},RDs w O l us→VRs w O φ α (zor l) us
 | [],us,h=>h
 | d::l,us,h=>by
  obtain ⟨v,vs,h1,h2,h3⟩:=h
  exact ⟨v,vs,h1,zmr h2,z9w h3⟩
theorem VR.one {v:PV} {u:Value} (h:VR w O φ α v u) (h1:zl2 v=true):u.oneCell'=true:=by
 cases v<;>simp only [zl2,yg] at h1
 case int=>simp only [VR] at h;subst h;rfl
 case bool=>simp only [VR] at h;subst h;rfl
 case str=>simp only [VR] at h;subst h;rfl
 case sl=>exact RD.one _ _ h
 case nil=>simp only [VR] at h;subst h;rfl
 case ref=>exact h.2
 case ptr=>simp only [VR] at h;subst h;rfl
 case zp=>simp only [VR] at h;obtain ⟨b,q,h,_⟩:=h;subst h;rfl
 case z9r=>simp only [VR] at h;obtain ⟨b,l,c,j,_,_,h⟩:=h;subst h;rfl
 case iface=>simp only [VR] at h;obtain ⟨x,h,_⟩:=h;subst h;rfl
 case zbk=>simp only [VR] at h;subst h;rfl
 case fn=>simp only [VR] at h;obtain ⟨us,vs,h,_⟩:=h;subst h;exact zm0 _ _ _
 case zc8=>simp only [VR] at h;subst h;rfl
 case z0g=>rcases h with rfl|rfl<;>rfl
 case err=>rcases h with ⟨_,rfl⟩|⟨_,T,v,rfl⟩<;>rfl
 case mp=>simp only [VR] at h;subst h;rfl
theorem VRs.zkm:∀ {vs:List PV} {us:List Value},VRs w O φ α vs us→vs.all zl2=true→us.all (·.oneCell')=true
 | [],us,h,_=>by cases h;rfl
 | v::vs,us,h,k=>by
  obtain ⟨u,us',rfl,h2,h3⟩:=h
  simp only [List.all_cons,ye] at k ⊢
  exact ⟨h2.one k.1,VRs.zkm h3 k.2⟩
theorem VR.cells {v:PV} {u:Value} (h:VR w O φ α v u) (h1:z3w v=false):VRs w O φ α (cellsOf v) u.cells.toList:=by
 cases v with
 | agg cs =>
  simp only [VR] at h
  obtain ⟨us,rfl,h⟩:=h
  simpa [cellsOf,Value.cells] using h
 | undef=>simp [z3w] at h1
 | gone=>simp [z3w] at h1
 | md c=>simp [z3w] at h1
 | tup cs =>
  have h':=h
  simp only [VR] at h
  obtain ⟨us,rfl,h⟩:=h
  exact ⟨_,[],rfl,h',rfl⟩
 | _ =>
  have:=cells_one (h.one rfl)
  rw [this]
  exact ⟨u,[],rfl,h,rfl⟩
theorem zfz (zz:Value):VRs w O φ α (cellsOf (ofV zz)) zz.cells.toList:=by
 by_cases hu:z3w (ofV zz)=false
 ·exact (zdc zz).cells hu
 ·have hc:zz.cells = #[zz]:=by cases zz<;>first|rfl|(simp [ofV,z3w] at hu)
  have hq:cellsOf (ofV zz)=[ofV zz]:=by
   revert hu
   cases ofV zz<;>simp [z3w,cellsOf]
  rw [hq,hc]
  exact ⟨zz,[],rfl,zdc zz,rfl⟩
theorem z98 {β:Type} {l:List β} {i:Int} {x:β} (h:Lk.ix l i=some x):∃ j:Nat,i=(j:Nat)∧l[j]? = some x∧j<l.length:=by
 obtain ⟨j,h1,h2⟩:=zm9 h
 refine ⟨j,h1,h2,?_⟩
 rcases Nat.lt_or_ge j l.length with h'|h'
 ·exact h'
 ·simp [List.getElem?_eq_none h'] at h2
end
theorem RD.zt7 {P:Program} {w:World} {O:Nat→Prop} {T n t:Nat} {l:List (List D)} {v:Value} {a b:Nat} {lo hi:Option Value} {g:Bool} (ht:P.underlying t=some (.slice T)) (hT:shp P T=some (g,n)) (h:RD w O (.sl T n l) v)
  (hlo:LoV lo a 0) (hhi:LoV hi b l.length) (hab:a≤b) (hb:b≤l.length) :
  ∃ v',(∀ w',(Instr.sliceAt t v lo hi none).run P w' = .ok v' w')∧RD w O (.sl T n ((l.take b).drop a)) v':=by
 have key:∀ (p:Option Addr) (cap:Nat),l.length≤cap→∀ w,(Instr.sliceAt t (.slice p l.length cap) lo hi none).run P w = .ok (.slice (if cap=a then p else p.map (·.add (a*n))) (b - a) (cap - a)) w:=by
  intro p cap hc w
  have i3:(a:Int)≤(b:Int):=yv.2 hab
  have i4:(b:Int)≤(cap:Int):=yv.2 (by omega)
  simp only [Instr.sliceAt,Sem.run_bind,run_underlying ht,Result.andThen_ok,Instr.slice]
  cases lo with
  | none =>
   simp only [LoV] at hlo
   subst hlo
   cases hi with
   | none=>simp only [LoV] at hhi;subst hhi;simp [Instr.sliceBounds,(z1e hT).2]
   | some y=>obtain ⟨kd,rfl⟩:=hhi;simp [Instr.sliceBounds,Instr.sliceBound,asIntOf,(z1e hT).2,show b≤cap by omega]
  | some z =>
   obtain ⟨kz,rfl⟩:=hlo
   cases hi with
   | none=>simp only [LoV] at hhi;subst hhi;simp [Instr.sliceBounds,Instr.sliceBound,asIntOf,(z1e hT).2,hab]
   | some y=>obtain ⟨kd,rfl⟩:=hhi;simp [Instr.sliceBounds,Instr.sliceBound,asIntOf,(z1e hT).2,hab,show b≤cap by omega]
 rcases h with ⟨⟨p,rfl⟩,rfl⟩|⟨bb,q,cap,cs,fr,rfl,h2,h3,h4,h5,h6,h7⟩
 ·have hb0:b=0:=by simpa using hb
  have ha0:a=0:=by omega
  subst hb0 ha0
  have:=key p 0 (Nat.le_refl _)
  simp only [List.length_nil] at this
  refine ⟨_,this,?_⟩
  simp [RD]
 ·refine ⟨_,key _ cap h2,?_⟩
  right
  have hlen:((l.take b).drop a).length=b - a:=by simp;omega
  have h8:RDl w O n ((l.take b).drop a) ((cs.toList.drop q).drop (a*n)):=RDl.drop a (RDl.take b h7)
  by_cases hca:cap=a
  ·have:b=a:=by omega
   subst this
   have e0:(l.take b).drop b=[]:=List.eq_nil_of_length_eq_zero (by rw [hlen];omega)
   rw [if_pos hca,e0]
   exact ⟨bb,q,cap - b,cs,fr,by simp,by simp,by omega,h4,h5,by rw [hca];simp;exact Nat.le_trans (Nat.le_add_right _ _) h6,trivial⟩
  ·rw [if_neg hca]
   refine ⟨bb,q+a*n,cap - a,cs,fr,by rw [hlen];simp [Addr.add_lit],by omega,by omega,h4,h5,?_,by rw [←yh];exact h8⟩
   rw [Nat.sub_mul]
   have:a*n≤cap*n:=yt n (by omega)
   omega

section
variable {z:W0} {σ:St} {V:Env} {w:World} {O:Nat→Prop} {φ:Nat→Nat} {α:Nat→Value} {C:Cx} {n:Nat} {o:Oper}
theorem Rel.ev {fB:FB} {fA:FA} (h:Rel z (lk σ.L) fB fA V w O φ α) {x:Operand} {v:PV} (e:σ.ev x=some v):∃ u,Lk.ev V x=some u∧VR w O φ α v u:=by
 cases x with
 | tmp t=>exact h.env t v e
 | const c=>simp only [St.ev,Option.some.injEq] at e;subst e;exact ⟨c,rfl,zdc c⟩
 | global g=>cases e
 | func f =>
  simp only [St.ev] at e
  split at e
  ·cases e
  ·rename_i hf
   cases e
   exact ⟨_,rfl,[],[],(zh8 hf [] []).symm,rfl,rfl⟩
theorem Rel.evs {fB:FB} {fA:FA} (h:Rel z (lk σ.L) fB fA V w O φ α):∀ {xs:List Operand} {vs:List PV},σ.evs xs=some vs→∃ us,Lk.evs V xs=some us∧VRs w O φ α vs us
 | [],vs,e=>by simp only [St.evs,Option.some.injEq] at e;subst e;exact ⟨[],rfl,rfl⟩
 | x::xs,vs,e=>by
  unfold St.evs at e
  split at e
  ·rename_i v vs' h1 h2
   cases e
   obtain ⟨u,h3,h4⟩:=h.ev h1
   obtain ⟨us,h5,h6⟩:=h.evs h2
   exact ⟨u::us,by simp only [Lk.evs,h3,h5],u,us,rfl,h4,h6⟩
  ·cases e
def zgu (C:Cx) (n:Nat) (V:Env) (w:World) (O:Nat→Prop) (φ:Nat→Nat) (α:Nat→Value) (o:Oper) (st:Bool) (k:PV→Prop):Prop := ∃ v u,k v∧VR w O φ α v u∧EX C n V w o u∧(st=true→∀ w' O',Tr O w O' w'→EX C n V w' o u)
theorem zgu.al {st:Bool} {k:PV→Prop} {v:PV} {u:Value} (hk:k v) (hv:VR w O φ α v u) (hx:∀ w',EX C n V w' o u):zgu C n V w O φ α o st k:=⟨v,u,hk,hv,hx w,fun _ w' _ _=>hx w'⟩
theorem zgu.val {st:Bool} {k:PV→Prop} {x:Value} (hk:k (zl1 x)) (h:∀ w',EX C n V w' o x):zgu C n V w O φ α o st k:=.al hk (zht x) h
theorem z6b {a b:IntKind} (h:zof a b=true):a=b:=by
 have:=yr h
 cases a<;>cases b<;>first|rfl|(exact absurd this (by decide))
theorem zau {p:Prop} [Decidable p] {k:Unit→Prop} (h:Ex (chk (decide p)) k):p∧k ():=by
 obtain ⟨a,h1,h2⟩:=h
 exact ⟨of_decide_eq_true (z4v h1),h2⟩
theorem EX.zwp {op:BinOp} {t r:TypeId} {x:Operand} {ms:Array (String × TypeId)} {u:Value} {b:Bool} (ho:o.op = .binOp op t x (.const .nilIface) r) (ht:C.P.underlying t=some (.interface ms)) (hx:Lk.ev V x=some u) (hu:(b=true∧u = .nilIface)∨(b=false∧∃ T v,u = .iface T v)) :
  (op = .eql→EX C n V w o (.bool b))∧(op = .neq→EX C n V w o (.bool (!b))):=by
 rcases hu with ⟨rfl,rfl⟩|⟨rfl,T,v,rfl⟩
 ·have h:∀ d:Nat,(Op.equalIn (d+1) t .nilIface .nilIface).run C.P w = .ok true w:=fun d=>by simp [Op.equalIn,run_underlying ht]
  constructor
  ·rintro rfl a ha
   have hc:a.eval (.const .nilIface) = .nilIface:=rfl
   simp [execOp,ho,ha.ev hx,hc,binOp,eqGuard,Op.equal,Op.maxDepth,h 9999]
  ·rintro rfl a ha
   have hc:a.eval (.const .nilIface) = .nilIface:=rfl
   simp [execOp,ho,ha.ev hx,hc,binOp,eqGuard,Op.equal,Op.maxDepth,h 9999]
 ·have h:∀ d:Nat,(Op.equalIn (d+1) t (.iface T v) .nilIface).run C.P w = .ok false w:=fun d=>by simp [Op.equalIn,run_underlying ht]
  constructor
  ·rintro rfl a ha
   have hc:a.eval (.const .nilIface) = .nilIface:=rfl
   simp [execOp,ho,ha.ev hx,hc,binOp,eqGuard,Op.equal,Op.maxDepth,h 9999]
  ·rintro rfl a ha
   have hc:a.eval (.const .nilIface) = .nilIface:=rfl
   simp [execOp,ho,ha.ev hx,hc,binOp,eqGuard,Op.equal,Op.maxDepth,h 9999]
theorem EX.zul {op:BinOp} {t r:TypeId} {x:Operand} {ps rs:Array TypeId} {vv:Bool} {f:Nat} {us vs:List Value} (ho:o.op = .binOp op t x (.const .nilFunc) r) (ht:C.P.underlying t=some (.func ps rs vv)) (hx:Lk.ev V x=some (fnV f us vs)) :
  (op = .eql→EX C n V w o (.bool (yq f NF)))∧(op = .neq→EX C n V w o (.bool (!yq f NF))):=by
 unfold fnV at hx
 split at hx
 ·rename_i hf
  rw [hf]
  have h:∀ d:Nat,(Op.equalIn (d+1) t .nilFunc .nilFunc).run C.P w = .ok true w:=fun d=>by simp [Op.equalIn,run_underlying ht]
  constructor
  ·rintro rfl a ha
   have hc:a.eval (.const .nilFunc) = .nilFunc:=rfl
   simp [execOp,ho,ha.ev hx,hc,binOp,eqGuard,Op.equal,Op.maxDepth,h 9999]
  ·rintro rfl a ha
   have hc:a.eval (.const .nilFunc) = .nilFunc:=rfl
   simp [execOp,ho,ha.ev hx,hc,binOp,eqGuard,Op.equal,Op.maxDepth,h 9999]
 ·rename_i hf
  rw [hf]
  have h:∀ d:Nat,(Op.equalIn (d+1) t (.func (.func f) (yn us) (yn vs)) .nilFunc).run C.P w = .ok false w:=fun d=>by simp [Op.equalIn,run_underlying ht]
  constructor
  ·rintro rfl a ha
   have hc:a.eval (.const .nilFunc) = .nilFunc:=rfl
   simp [execOp,ho,ha.ev hx,hc,binOp,eqGuard,Op.equal,Op.maxDepth,h 9999]
  ·rintro rfl a ha
   have hc:a.eval (.const .nilFunc) = .nilFunc:=rfl
   simp [execOp,ho,ha.ev hx,hc,binOp,eqGuard,Op.equal,Op.maxDepth,h 9999]
def EqS:List Value→List Value→Bool→Prop
 | [],[],b=>b=true
 | x::r,y::s,b=>∃ p q c,x = .string ⟨yn p⟩∧y = .string ⟨yn q⟩∧EqS r s c∧b=(decide (p=q)&&c)
 | _,_,_=>False
theorem zlt:∀ {us vs:List PV} {b:Bool} {xs ys:List Value},zvp us vs=some b→VRs w O φ α us xs→VRs w O φ α vs ys→EqS xs ys b∧xs.length=ys.length
 | [],[],b,xs,ys,e,h1,h2=>by
  obtain rfl:xs=[]:=h1
  obtain rfl:ys=[]:=h2
  cases e
  exact ⟨rfl,rfl⟩
 | .str p::us,.str q::vs,b,xs,ys,e,h1,h2=>by
  obtain ⟨x,r,rfl,h3,h4⟩:=h1
  obtain ⟨y,s,rfl,h5,h6⟩:=h2
  simp only [zvp] at e
  split at e
  ·rename_i c hc
   cases e
   obtain ⟨k1,k2⟩:=zlt hc h4 h6
   exact ⟨⟨p,q,c,h3,h5,k1,rfl⟩,by simp [k2]⟩
  ·cases e
theorem zf2 {P:Program} {w:World} {d e:Nat} {i:TypeInfo} (he:P.underlying e=some .string) (hi:P.info? e=some i) (h1:i.size=1):∀ (r s:List Value) (b:Bool) (xs ys:List Value) (j:Nat),EqS r s b→xs.drop j=r→ys.drop j=s →
  (Op.eqItems (d+1) e (P.cellsOf e) (yn xs) (yn ys) (List.range' j r.length)).run P w = .ok b w
 | [],[],b,xs,ys,j,h,_,_=>by
  obtain rfl:b=true:=h
  simp [Op.eqItems]
 | x::r,y::s,b,xs,ys,j,h,hx,hy=>by
  obtain ⟨p,q,c,rfl,rfl,h4,rfl⟩:=h
  have hc:P.cellsOf e=1:=by simp [Program.cellsOf,hi,h1]
  have ex:xs[j]? = some (.string ⟨yn p⟩):=by
   have:=congrArg (·[0]?) hx
   simpa using this
  have ey:ys[j]? = some (.string ⟨yn q⟩):=by
   have:=congrArg (·[0]?) hy
   simpa using this
  have hx':xs.drop (j+1)=r:=by rw [←yh,hx];rfl
  have hy':ys.drop (j+1)=s:=by rw [←yh,hy];rfl
  have ih:=zf2 (w:=w) (d:=d) he hi h1 r s c xs ys (j+1) h4 hx' hy'
  have eb:((⟨yn p⟩:ByteArray)==⟨yn q⟩)=decide (p=q):=by
   rw [beq_toListBytes,ByteArray.toList_eq,ByteArray.toList_eq,yf];simp
  rw [List.length_cons,List.range'_succ]
  simp only [Op.eqItems,hc,yu,Sem.run_bind,part,isAgg,run_underlying he,Result.andThen_ok,Sem.run_pure,yg,if_false,yk,ex,ey,Op.equalIn,eb]
  cases decide (p=q) with
  | false=>simp
  | true =>
   simp only [Bool.not_true,yg,if_false,Bool.true_and]
   rw [hc] at ih
   exact ih
theorem EX.eqA {op:BinOp} {t r:TypeId} {x y:Operand} {xs ys:List Value} {m:Nat} {b:Bool} (ho:o.op = .binOp op t x y r) (ht:ztp C.P t=some m) (hx:Lk.ev V x=some (.agg (yn xs))) (hy:Lk.ev V y=some (.agg (yn ys))) (hl:xs.length=m) (hb:EqS xs ys b) (hl2:xs.length=ys.length) :
  (op = .eql→EX C n V w o (.bool b))∧(op = .neq→EX C n V w o (.bool (!b))):=by
 obtain ⟨e,z,i,h1,h2,h3,h4,h5,h6,h7⟩:=zlh ht
 have key:(Op.equalIn (9998+1+1) t (.agg (yn xs)) (.agg (yn ys))).run C.P w = .ok b w:=by
  rw [run_equalIn_array w _ _ _ h1 h4,←hl,List.range_eq_range']
  exact zf2 h3 h4 h6 xs ys b xs ys 0 hb rfl rfl
 constructor
 ·rintro rfl a ha
  simp [execOp,ho,ha.ev hx,ha.ev hy,binOp,eqGuard,Op.equal,Op.maxDepth,key,h5]
 ·rintro rfl a ha
  simp [execOp,ho,ha.ev hx,ha.ev hy,binOp,eqGuard,Op.equal,Op.maxDepth,key,h5]
theorem zcx {P:Program} {w:World} {d:Nat}:∀ (fs:List Field) (r s:List Value) (b:Bool) (xs ys:List Value) (j:Nat),zuf P fs j=true→fs.length=r.length→EqS r s b→xs.drop j=r→ys.drop j=s →
  (Op.eqFields (d+1) (yn xs) (yn ys) fs).run P w = .ok b w
 | [],[],[],b,xs,ys,j,_,_,h,_,_=>by
  obtain rfl:b=true:=h
  simp [Op.eqFields]
 | f::fs,x::r,y::s,b,xs,ys,j,hf,hl,h,hx,hy=>by
  obtain ⟨p,q,c,rfl,rfl,h4,rfl⟩:=h
  simp only [zuf,ye,decide_eq_true_eq] at hf
  obtain ⟨⟨⟨f1,f2⟩,f3⟩,f4⟩:=hf
  have f1:=yr f1
  have f3:P.underlying f.type=some .string:=by
   split at f3
   ·assumption
   ·cases f3
  have ex:xs[j]? = some (.string ⟨yn p⟩):=by
   have:=congrArg (·[0]?) hx
   simpa using this
  have ey:ys[j]? = some (.string ⟨yn q⟩):=by
   have:=congrArg (·[0]?) hy
   simpa using this
  have hx':xs.drop (j+1)=r:=by rw [←yh,hx];rfl
  have hy':ys.drop (j+1)=s:=by rw [←yh,hy];rfl
  have ih:=zcx (w:=w) (d:=d) fs r s c xs ys (j+1) f4 (by simpa using hl) h4 hx' hy'
  have eb:((⟨yn p⟩:ByteArray)==⟨yn q⟩)=decide (p=q):=by
   rw [beq_toListBytes,ByteArray.toList_eq,ByteArray.toList_eq,yf];simp
  simp only [Op.eqFields,f1,if_pos f2,Sem.run_bind,part,isAgg,run_underlying f3,Result.andThen_ok,Sem.run_pure,yg,if_false,yk,ex,ey,Op.equalIn,eb]
  cases decide (p=q) with
  | false=>simp
  | true =>
   simp only [Bool.not_true,yg,if_false,Bool.true_and]
   exact ih
 | [],_::_,_,_,_,_,_,_,hl,_,_,_=>by simp at hl
 | _::_,[],_,_,_,_,_,_,hl,_,_,_=>by simp at hl
 | [],[],_::_,_,_,_,_,_,_,h,_,_=>h.elim
 | _::_,_::_,[],_,_,_,_,_,_,h,_,_=>h.elim
theorem EX.eqT {op:BinOp} {t r:TypeId} {x y:Operand} {xs ys:List Value} {m:Nat} {b:Bool} (ho:o.op = .binOp op t x y r) (ht:zve C.P t=some m) (hx:Lk.ev V x=some (.agg (yn xs))) (hy:Lk.ev V y=some (.agg (yn ys))) (hl:xs.length=m) (hb:EqS xs ys b) :
  (op = .eql→EX C n V w o (.bool b))∧(op = .neq→EX C n V w o (.bool (!b))):=by
 obtain ⟨fs,h1,h2,h3,h4,h5⟩:=zt6 ht
 have hfs:C.P.fieldsOf t=fs:=by simp [Program.fieldsOf,h1]
 have key:(Op.equalIn (9998+1+1) t (.agg (yn xs)) (.agg (yn ys))).run C.P w = .ok b w:=by
  rw [run_equalIn_struct w _ _ _ _ (by rw [hfs];exact h1) h2,hfs]
  exact zcx fs.toList xs ys b xs ys 0 h4 (by omega) hb rfl rfl
 constructor
 ·rintro rfl a ha
  simp [execOp,ho,ha.ev hx,ha.ev hy,binOp,eqGuard,Op.equal,Op.maxDepth,key,h3]
 ·rintro rfl a ha
  simp [execOp,ho,ha.ev hx,ha.ev hy,binOp,eqGuard,Op.equal,Op.maxDepth,key,h3]
theorem zq9 {C:Cx} {n:Nat} {tb:Tb} {V:Env} {w:World} {o:Oper} (ht:TbOk C.P tb) {op:BinOp} {t r:TypeId} {x y:Operand} {xs ys:List Value} {m:Nat} {b:Bool} (hm:tb.eqn t=some m) (ho:o.op = .binOp op t x y r) (hx:Lk.ev V x=some (.agg (yn xs))) (hy:Lk.ev V y=some (.agg (yn ys))) (hl:xs.length=m) (hb:EqS xs ys b) (hl2:xs.length=ys.length) :
  (op = .eql→EX C n V w o (.bool b))∧(op = .neq→EX C n V w o (.bool (!b))):=by
 unfold Tb.eqn at hm
 split at hm
 ·rename_i m' hm'
  cases hm
  exact EX.eqA ho (ht.ars _ _ hm') hx hy hl hb hl2
 ·exact EX.eqT ho (ht.sts _ _ hm) hx hy hl hb
theorem zqb:∀ (is:List Nat) (us:List PV) (xs:List Value) (j:Nat),z8n j is=true→us.all zw2=true→VRs w O φ α us xs→is.length=us.length→flat 1 j (is.zip xs)=some xs
 | [],[],xs,j,_,_,h,_=>by obtain rfl:xs=[]:=h;rfl
 | i::is,.str p::us,xs,j,hr,hs,h,hl=>by
  obtain ⟨x,r,rfl,h3,h4⟩:=h
  simp only [z8n,ye] at hr
  simp only [List.all_cons,ye] at hs
  simp only [VR] at h3
  subst h3
  obtain rfl:=yr hr.1
  simp only [yo,flat]
  rw [zqb is us r (j+1) hr.2 hs.2 h4 (by simpa using hl)]
  simp [Value.cells]
 | [],_::_,_,_,_,_,_,hl=>by simp at hl
 | _::_,[],_,_,_,_,_,hl=>by simp at hl
theorem EX.zu6 {T m:TypeId} {parts:Array (Nat × Operand)} {vs:List (Nat × Value)} {cs:List Value} (ho:o.op = .build T parts) (ht:ztp C.P T=some m) (hp:evp V parts.toList=some vs) (hb:flat 1 0 vs=some cs) (hl:vs.length=m):EX C n V w o (.agg (yn cs)) :=
 fun a ha=>by
  obtain ⟨e,z,i,h1,h2,h3,h4,h5,h6,h7⟩:=zlh ht
  have ee:(parts.map fun (i,x)=>(i,a.eval x))=vs.toArray:=by apply yx.1;simpa using ha.evp hp
  obtain ⟨i',k5,k6⟩:=yb.1 h2
  have key:Instr.fill (fun i=>some (i,1)) z.cells vs=some (yn cs):=by
   have:=(zb2 1 m vs 0 z.cells cs hb (by omega)).1
   simp only [yu] at this
   rw [this]
   have e1:z.cells.toList.drop (0+vs.length)=[]:=List.drop_eq_nil_of_le (by simp;omega)
   rw [e1]
   simp
  simp only [execOp,ho,ee,Instr.build,Sem.run_bind,zeroValue,sizeOf,typeInfo,run_program,Result.andThen_ok,k5,Sem.run_pure,k6,run_underlying h1,h4,h6,yu,key]
theorem zs6 {v:PV} {u:Value} {b:Bool} (h:zwz v=some b) (hv:VR w O φ α v u):(b=true∧u = .nilIface)∨(b=false∧∃ T v,u = .iface T v):=by
 unfold zwz at h
 split at h
 ·cases h;exact .inl ⟨rfl,hv⟩
 ·cases h;obtain ⟨x,rfl,_⟩:=hv;exact .inr ⟨rfl,_,_,rfl⟩
 ·cases h;exact hv
 ·cases h
theorem EX.zu5 {op:BinOp} {t r e:TypeId} {x y:Operand} {p:Addr} (ho:o.op = .binOp op t x y r) (ht:C.P.underlying t=some (.pointer e)) (hx:Lk.ev V x=some (.pointer (some p))) (hy:Lk.ev V y=some (.pointer none)) :
  (op = .eql→EX C n V w o (.bool false))∧(op = .neq→EX C n V w o (.bool true)):=by
 have h:∀ d:Nat,(Op.equalIn (d+1) t (.pointer (some p)) (.pointer none)).run C.P w = .ok false w:=fun d=>by simp [Op.equalIn,run_underlying ht]
 constructor
 ·rintro rfl a ha
  simp [execOp,ho,ha.ev hx,ha.ev hy,binOp,eqGuard,Op.equal,Op.maxDepth,h 9999]
 ·rintro rfl a ha
  simp [execOp,ho,ha.ev hx,ha.ev hy,binOp,eqGuard,Op.equal,Op.maxDepth,h 9999]
theorem EX.zu4 {op:BinOp} {t r e:TypeId} {x y:Operand} (ho:o.op = .binOp op t x y r) (ht:C.P.underlying t=some (.pointer e)) (hx:Lk.ev V x=some (.pointer none)) (hy:Lk.ev V y=some (.pointer none)) :
  (op = .eql→EX C n V w o (.bool true))∧(op = .neq→EX C n V w o (.bool false)):=by
 have h:∀ d:Nat,(Op.equalIn (d+1) t (.pointer none) (.pointer none)).run C.P w = .ok true w:=fun d=>by simp [Op.equalIn,run_underlying ht]
 constructor
 ·rintro rfl a ha
  simp [execOp,ho,ha.ev hx,ha.ev hy,binOp,eqGuard,Op.equal,Op.maxDepth,h 9999]
 ·rintro rfl a ha
  simp [execOp,ho,ha.ev hx,ha.ev hy,binOp,eqGuard,Op.equal,Op.maxDepth,h 9999]
theorem zli {op:BinOp} {t r:TypeId} {td:TypeDesc} {x y:Operand} {u v:PV} {a b:Value} {st:Bool} {k:PV→Prop} (ho:o.op = .binOp op t x y r) (ht:C.P.underlying t=some td) (hx:Lk.ev V x=some a) (hy:Lk.ev V y=some b)
  (ha:VR w O φ α u a) (hb:VR w O φ α v b) (hk:bop td op u v k):zgu C n V w O φ α o st k:=by
 unfold bop at hk
 split at hk
 ·rename_i ka p kb q
  simp only [VR] at ha hb
  subst ha hb
  split at hk
  ·obtain ⟨h1,h2⟩:=zau hk
   exact .val (x:=.int ka (z8q ka p q)) h2 fun _=>EX.zqs ho hx hy h1 rfl
  ·obtain ⟨h1,h2⟩:=zau hk
   exact .val (x:=.int ka (znn ka p q)) h2 fun _=>EX.zqs ho hx hy h1 rfl
  ·split at hk
   ·rename_i he
    obtain rfl:=z6b he
    obtain ⟨h1,h2⟩:=zau hk
    exact .al (v:=.int ka _) (u:=_) h2 rfl fun _=>EX.zxl ho hx hy h1 rfl
   ·exact hk.elim
  ·split at hk
   ·rename_i he
    obtain rfl:=z6b he
    obtain ⟨h1,h2⟩:=zau hk
    exact .al (v:=.int ka _) (u:=_) h2 rfl fun _=>EX.zxl ho hx hy h1 rfl
   ·exact hk.elim
  ·split at hk
   ·rename_i he
    obtain rfl:=z6b he
    obtain ⟨c,h1,h2⟩:=zf hk
    exact .val h2 fun _=>EX.zxt ho hx hy h1
   ·exact hk.elim
 ·simp only [VR] at ha hb
  subst ha hb
  split at hk
  ·obtain ⟨s,h1,h2⟩:=hk
   obtain ⟨h3,h4⟩:=znz h1
   subst h3
   exact .al (v:=.str _) (u:=_) h2 rfl fun _=>EX.zxv ho hx hy h4
  ·obtain ⟨c,h1,h2⟩:=zf hk
   exact .val h2 fun _=>EX.zxu ho hx hy h1
 ·simp only [VR] at ha hb
  subst ha hb
  split at hk
  ·exact .al (v:=.bool _) (u:=_) hk rfl fun _=>EX.zxc ho ht hx hy rfl
  ·exact .al (v:=.bool _) (u:=_) hk rfl fun _=>EX.zxc ho ht hx hy rfl
  ·exact hk.elim
 ·simp only [VR] at ha hb
  subst ha hb
  split at hk
  ·exact .al (v:=.bool _) (u:=_) hk rfl fun w'=>(EX.zu5 (n:=n) (w:=w') ho ht hx hy).1 rfl
  ·exact .al (v:=.bool _) (u:=_) hk rfl fun w'=>(EX.zu5 (n:=n) (w:=w') ho ht hx hy).2 rfl
  ·exact hk.elim
 ·simp only [VR] at ha hb
  subst ha hb
  split at hk
  ·exact .al (v:=.bool _) (u:=_) hk rfl fun w'=>(EX.zu4 (n:=n) (w:=w') ho ht hx hy).1 rfl
  ·exact .al (v:=.bool _) (u:=_) hk rfl fun w'=>(EX.zu4 (n:=n) (w:=w') ho ht hx hy).2 rfl
  ·exact hk.elim
 ·exact hk.elim
theorem zng {op:UnOp} {t:TypeId} {x:Operand} {u:PV} {a:Value} {st:Bool} {k:PV→Prop} (ho:o.op = .unOp op t x) (hx:Lk.ev V x=some a) (ha:VR w O φ α u a) (hk:uop op u k):zgu C n V w O φ α o st k:=by
 unfold uop at hk
 split at hk
 ·simp only [VR] at ha
  subst ha
  exact .al (v:=.bool _) (u:=_) hk rfl fun _=>EX.zy9 ho hx
 ·simp only [VR] at ha
  subst ha
  obtain ⟨c,h1,h2⟩:=zf hk
  exact .val h2 fun _=>EX.unI ho hx h1
 ·exact hk.elim
theorem z9u {T:TypeId} {x:Operand} {g:Bool} {m b q off:Nat} {cs:List PV} {us:List Value} {v:PV} (ho:o.op = .load T x) (hT:Lk.shp C.P T=some (g,m)) (hx:Lk.ev V x=some (.pointer (some ⟨b,q+off,none⟩)))
  (hv:VRs w O φ α cs us) (ha:z5g g m ((cs.drop off).take m)=some v):∃ u,VR w O φ α v u∧∀ w',(∀ j u,us[j]? = some u→w'.cell? ⟨b,q+j,none⟩=some u)→EX C n V w' o u:=by
 have hv2:VRs w O φ α ((cs.drop off).take m) ((us.drop off).take m):=(hv.drop off).take m
 have hc2:∀ w':World,(∀ j u,us[j]? = some u→w'.cell? ⟨b,q+j,none⟩=some u)→∀ j u,((us.drop off).take m)[j]? = some u→w'.cell? ⟨b,q+off+j,none⟩=some u:=fun w' hc j u e=>by
  rw [yj] at e
  split at e
  ·rw [yi] at e
   rw [yp]
   exact hc _ _ e
  ·cases e
 have hl:=hv2.len
 revert ha hv2 hl hc2
 generalize (cs.drop off).take m=c2
 generalize (us.drop off).take m=u2
 intro ha hv2 hc2 hl
 unfold z5g at ha
 split at ha
 ·split at ha
  ·rename_i he
   cases ha
   have he:=yr he
   exact ⟨_,⟨u2,rfl,hv2⟩,fun w' hc=>EX.zun ho hT hx (by rw [hl,he]) (hc2 w' hc)⟩
  ·cases ha
 ·cases ha
  obtain ⟨u,us',rfl,h1,h2⟩:=hv2
  exact ⟨u,h1,fun w' hc=>EX.zwu ho hT hx (by simpa using hc2 w' hc 0 u (by simp))⟩
 ·cases ha
theorem z9o.elem {w:World} {O:Nat→Prop} {T m:Nat} {v:Value} {l:List (List D)} {b len cap:Nat} (h:z9o w O T m v l) (hv:v = .slice (some ⟨b,0,none⟩) len cap) {j:Nat} {x:List D} (hj:l[j]? = some x) :
  ∃ us,RDs w O x us∧(∀ i u,us[i]? = some u→w.cell? ⟨b,j*m+i,none⟩=some u):=by
 obtain ⟨xs,h1,h2,_,_⟩:=h
 refine ⟨(xs.drop (j*m)).take m,RDl.at h2 hj,fun i u e => ?_⟩
 rw [yj] at e
 split at e
 ·rw [yi] at e
  have:=h1.cells (g:=b) (by rw [hv];rfl) _ _ e
  rw [Addr.add_lit] at this
  simpa using this
 ·cases e
theorem Own.elem {w:World} {O:Nat→Prop} {T m:Nat} {v:Value} {l:List (List D)} {b len cap:Nat} (h:Own w O T m v l) (hv:v = .slice (some ⟨b,0,none⟩) len cap) {j:Nat} {x:List D} (hj:l[j]? = some x) :
  ∃ us,RDs w O x us∧(∀ i u,us[i]? = some u→w.cell? ⟨b,j*m+i,none⟩=some u):=by
 obtain ⟨xs,h1,h2,_,_⟩:=h
 refine ⟨(xs.drop (j*m)).take m,RDl.at h2 hj,fun i u e => ?_⟩
 rw [yj] at e
 split at e
 ·rw [yi] at e
  have:=h1.cells (g:=b) (by rw [hv];rfl) _ _ e
  rw [Addr.add_lit] at this
  simpa using this
 ·cases e
theorem z6i.elem {w:World} {O:Nat→Prop} {T m:Nat} {v:Value} {l:List (List D)} {b len cap:Nat} (h:z6i w O T m v l) (hT:T<1000000∨2000000≤T) (hv:v = .slice (some ⟨b,0,none⟩) len cap) {j:Nat} {x:List D} (hj:l[j]? = some x) :
  ∃ us,RDs w O x us∧(∀ i u,us[i]? = some u→w.cell? ⟨b,j*m+i,none⟩=some u):=by
 rcases h with ⟨_,h⟩|⟨_,_,_⟩|⟨_,h⟩
 ·exact Own.elem h hv hj
 ·omega
 ·exact z9o.elem h hv hj
theorem EX.zwf {C:Cx} {n:Nat} {L:Env} {w:World} {o:Oper} {s t:TypeId} {sd:TypeDesc} {x:Operand} {kd:IntKind} {p:Int} (ho:o.op = .convert s t x)
  (hs:C.P.underlying s=some sd) (ht:C.P.underlying t=some .string) (hx:Lk.ev L x=some (.int kd p)):EX C n L w o (.string ⟨(encS p).toArray⟩) :=
 fun a ha=>by
  simp only [execOp,ho,ha.ev hx,convert,Sem.run_bind,run_underlying hs,run_underlying ht,Result.andThen_ok,Conv.intToString,encS]
  rfl
theorem EX.zqk {C:Cx} {n:Nat} {L:Env} {w:World} {o:Oper} {t kt et:TypeId} {x:Operand} {m clock:Nat} {es:Array MapEntry} (ho:o.op = .call { callee:=.builtin .len,args := #[x],argTypes := #[t] })
  (ht:C.P.underlying t=some (.map kt et)) (hx:Lk.ev L x=some (.map (some m))) (hb:w.heap[m]? = some (.map es clock)):EX C n L w o (.int .i64 (es.size:Nat)) :=
 fun a ha=>by
  simp [execOp,ho,resolve,invoke,builtin,Builtin.len_,ha.ev hx,run_underlying ht,MapKept.run_getObj_map hb,goInt]
theorem Rel.z9d {fL:FL} {fA:FA} (h:Rel z fL (lk σ.B) fA V w O φ α) {b:Nat} {e:Bx} {ky:Option IntKind} {g:Bool} {l:List (List D)} (he:lk σ.B b=some e) (hc:e.cs=[.md (.cont ky g l)]) (hT:e.T=1000000) :
  ∃ es clock,w.heap[φ b]? = some (.map es clock)∧MapKept.Stamped es clock∧z3s w O ky g es.toList l:=by
 obtain ⟨_,us,h1,h2⟩:=h.box b e he
 obtain ⟨es,clock,h3,h4,rfl⟩:=h1.map (by omega) (by omega)
 rw [hc] at h2
 obtain ⟨u,us',h5,h6,h7⟩:=h2
 cases h7
 cases h5
 obtain ⟨es',h8,h9⟩:=h6
 exact ⟨es,clock,h3,h4,h9.enc h8.symm⟩
theorem zd7 {td:TypeDesc} {fL:FL} {u:PV} {a:Value} {k:Int→Prop} (h:Rel z fL (lk σ.B) (lk σ.A) V w O φ α) (ha:VR w O φ α u a) (hl:znl td σ u k) :
  (∃ s:List UInt8,td = .string∧u = .str s∧a = .string ⟨s.toArray⟩∧k s.length)∨((∃ e,td = .slice e)∧∃ l:Nat,k l∧(∃ p c,a = .slice p l c)∧∀ T n l',u = .sl T n l'→l=l'.length)∨(∃ kt et,td = .map kt et)∧(∃ b,u = .mp b)∧∃ m es clock,a = .map (some m)∧w.heap[m]? = some (.map es clock)∧k es.size:=by
 unfold znl at hl
 split at hl
 ·simp only [VR] at ha
  exact .inl ⟨_,rfl,rfl,ha,hl⟩
 ·obtain ⟨n,h1,h2⟩:=hl
  cases h1
  exact .inr (.inl ⟨⟨_,rfl⟩,_,h2,RD.len ha,fun T n l' e=>by cases e;rfl⟩)
 ·simp only [VR] at ha
  exact .inr (.inl ⟨⟨_,rfl⟩,0,hl,⟨none,0,ha⟩,fun T n l' e=>by cases e⟩)
 ·obtain ⟨e,he,n,h1,h2⟩:=zf hl
  cases h1
  obtain ⟨p,c,h3⟩:=(h.arr _ e (z5k he).1).len
  exact .inr (.inl ⟨⟨_,rfl⟩,_,h2,⟨p,c,ha.1.trans h3⟩,fun T n l' e=>by cases e⟩)
 ·unfold zqk at hl
  simp only at hl
  split at hl
  ·rename_i e he
   split at hl
   ·rename_i hc
    split at hl
    ·rename_i hT
     obtain ⟨n,h1,h2⟩:=hl
     cases h1
     obtain ⟨es,clock,h3,_,h5⟩:=h.z9d he hc (yr hT)
     simp only [VR] at ha
     refine .inr (.inr ⟨⟨_,_,rfl⟩,⟨_,rfl⟩,_,es,clock,ha,h3,?_⟩)
     have h6:=h5.len
     simp only [yw] at h6
     rw [h6]
     exact h2
    ·exact hl.elim
   ·exact hl.elim
  ·exact hl.elim
 ·exact hl.elim
theorem zmk {fB:FB} {fA:FA} (h:Rel z (lk σ.L) fB fA V w O φ α) {x:Option Operand} {k:Int→Prop} (hb:loW σ x k):∃ m,k m∧((x=none∧m=((0:Nat):Int))∨∃ y k,x=some y∧Lk.ev V y=some (.int k m)):=by
 unfold loW at hb
 split at hb
 ·exact ⟨0,hb,.inl ⟨rfl,rfl⟩⟩
 ·rename_i y
  split at hb
  ·rename_i kk n' hy
   obtain ⟨u,h1,h2⟩:=h.ev hy
   simp only [VR] at h2
   subst h2
   exact ⟨n',hb,.inr ⟨y,kk,rfl,h1⟩⟩
  ·exact hb.elim
theorem Lo.of {lo:Option Operand} {e:Nat} {m:Int} {p:Nat} (h:(lo=none∧m=(e:Nat))∨∃ y k,lo=some y∧Lk.ev V y=some (.int k m)) (hm:m=(p:Nat)):Lo V lo p e:=by
 rcases h with ⟨rfl,h⟩|⟨y,k,rfl,h⟩
 ·show p=e;omega
 ·exact ⟨k,m,h,hm⟩
theorem EX.zv8 {l:List (List D)} {T m:Nat} {t:TypeId} {gg:Bool} {x:Operand} {lo hi:Option Operand} {u:Value} {a b:Nat} (ho:o.op = .slice t x lo hi none)
  (ht:C.P.underlying t=some (.slice T)) (hT:Lk.shp C.P T=some (gg,m)) (hx:Lk.ev V x=some u) (hr:RD w O (.sl T m l) u)
  (hlo:Lo V lo a 0) (hhi:Lo V hi b l.length) (hab:a≤b) (hb:b≤l.length):∃ v',(∀ w',EX C n V w' o v')∧RD w O (.sl T m ((l.take b).drop a)) v':=by
 have key:∀ {q:Option Operand} {c e:Nat},Lo V q c e→LoV (q.bind (Lk.ev V)) c e∧∀ ac:Act,Has n V ac→q.map ac.eval=q.bind (Lk.ev V):=fun {q c e} hq=>by
  cases q with
  | none=>exact ⟨hq,fun _ _=>rfl⟩
  | some y =>
   obtain ⟨kd,i,h1,h2⟩:=hq
   refine ⟨?_,fun ac hac=>by simp [h1,hac.ev h1]⟩
   simp only [yc,h1]
   exact ⟨kd,by rw [h2]⟩
 obtain ⟨k1,k2⟩:=key hlo
 obtain ⟨k3,k4⟩:=key hhi
 obtain ⟨v',h5,h6⟩:=RD.sub (P:=C.P) (w:=w) ht hT hr k1 k3 hab hb
 obtain ⟨v2,h7,h8⟩:=RD.zt7 (P:=C.P) (w:=w) ht hT hr k1 k3 hab hb
 exact ⟨v2,fun w' ac hac=>by
  simp only [execOp,ho,hac.ev hx,k2 ac hac,k4 ac hac,Option.map_none,Sem.run_bind,h7 w',Result.andThen_ok]
  rfl,h8⟩
theorem EX.zyi {x:Operand} {xt T U:TypeId} {td:TypeDesc} {u z:Value} (ho:o.op = .typeAssert x xt T true) (ht:C.P.underlying T=some td) (hi:z9e td=true) (hz:Lk.zer C.P T=some z) (hne:U≠T) (hx:Lk.ev V x=some (.iface U u)):EX C n V w o (.tuple #[z,.bool false]):=fun a ha=>by
 obtain ⟨i,h5,h6⟩:=yb.1 hz
 simp only [execOp,ho,ha.ev hx,Instr.typeAssert]
 cases td<;>first|(simp [z9e] at hi;done)|simp [run_underlying ht,zeroValue,typeInfo,h5,h6,hne]
theorem zas {fds:List (Nat × Nat)}:∀ (is:List Nat) (us:List PV) (xs:List Value) (cs:List PV) (A:Array Value) (fs:List (Nat × Bool × Nat)),(∀ (i:Nat) (f:Nat × Bool × Nat),fs[i]? = some f→fds[i]? = some (f.1,f.2.2))→VRs w O φ α us xs→VRs w O φ α cs A.toList →
  zj3 fs is us cs=true→∃ out,Instr.fill (fds.toArray[·]?) A (is.zip xs)=some out∧VRs w O φ α (zf9 fs cs is us) out.toList
 | [],us,xs,cs,A,fs,_,_,hc,_=>by
  simp only [List.zip_nil_left,Instr.fill]
  exact ⟨A,rfl,by simpa [zf9] using hc⟩
 | i::is,[],xs,cs,A,fs,_,hu,hc,_=>by
  cases hu
  simp only [List.zip_nil_right,Instr.fill]
  exact ⟨A,rfl,by simpa [zf9] using hc⟩
 | i::is,u::us,xs,cs,A,fs,hf,hu,hc,hok=>by
  obtain ⟨x,xs',rfl,h1,h2⟩:=hu
  unfold zj3 at hok
  split at hok
  ·rename_i f hfi
   rw [zm1] at hok
   simp only [ye] at hok
   obtain ⟨⟨⟨k1,k2⟩,k3⟩,k4⟩:=hok
   have k1:=yr k1
   have k2:=Nat.le_of_ble_eq_true k2
   have hx:=h1.cells (by simpa using k3)
   have hlx:=VRs.len hx
   have hlc:=VRs.len hc
   rw [yw] at hlx hlc
   have e1:fds.toArray[i]? = some (f.1,f.2.2):=by simpa using hf i f hfi
   have e2:(x.cells.zipIdx.foldl (fun cs (c,j)=>cs.setIfInBounds (f.1+j) c) A)=(A.toList.take f.1++x.cells.toList++A.toList.drop (f.1+f.2.2)).toArray:=by
    have:=zdt x.cells.toList 0 f.1 A (by simp [hlx,k1,hlc];omega)
    simp only [Nat.add_zero] at this
    rw [←Array.foldl_toList,Array.toList_zipIdx,this]
    simp [hlx,k1]
   have e3:VRs w O φ α (cs.take f.1++cellsOf u++cs.drop (f.1+f.2.2)) (A.toList.take f.1++x.cells.toList++A.toList.drop (f.1+f.2.2)):=((hc.take f.1).append hx).append (hc.drop _)
   obtain ⟨out,h5,h6⟩:=zas is us xs' _ (A.toList.take f.1++x.cells.toList++A.toList.drop (f.1+f.2.2)).toArray fs hf h2 (by simpa using e3) k4
   refine ⟨out,?_,?_⟩
   ·simp only [yo]
    unfold Instr.fill
    simp only [e1]
    rw [if_neg (by simp [hlx,k1];omega),e2,h5]
   ·unfold zf9
    simp only [hfi]
    exact h6
  ·cases hok
theorem zlu {σ:St}:∀ {xs:List Operand} {vs:List PV},σ.evs xs=some vs→xs.length=vs.length
 | [],vs,e=>by simp only [St.evs,Option.some.injEq] at e;subst e;rfl
 | x::xs,vs,e=>by
  simp only [St.evs] at e
  split at e
  ·rename_i v vs' h1 h2
   cases e
   simp [zlu h2]
  ·cases e
theorem zem:∀ {parts:List (Nat × Operand)} {us:List Value},Lk.evs V (parts.map (·.2))=some us→Lk.evp V parts=some ((parts.map (·.1)).zip us)
 | [],us,h=>by simp [Lk.evs] at h;subst h;rfl
 | (i,x)::parts,us,h=>by
  simp only [ym,Lk.evs] at h
  split at h
  ·rename_i v vs h1 h2
   cases h
   simp only [Lk.evp,h1,zem h2,ym,yo]
  ·cases h
theorem EX.zkf {C:Cx} {n:Nat} {L:Env} {w:World} {o:Oper} {t T m g len:Nat} {gg:Bool} {y:Operand} {kd:IntKind} {i:Int} {j:Nat} (ho:o.op = .indexAddr t (.global g) y) (ht:C.P.underlying t=some (.array len T)) (hT:Lk.shp C.P T=some (gg,m))
  (hy:Lk.ev L y=some (.int kd i)) (hi:i=(j:Nat)) (hj:j<len):EX C n L w o (.pointer (some ⟨g,j*m,none⟩)) :=
 fun a ha=>by
  subst hi
  have hx:Lk.ev L (.global g)=some (.pointer (some ⟨g,0,none⟩)):=rfl
  simp [execOp,ho,ha.ev hx,ha.ev hy,Instr.indexAt,Instr.sureAddr,asIntOf,run_underlying ht,(z1e hT).2,hj,Addr.add_lit]
theorem EX.zv9 {C:Cx} {n:Nat} {V:Env} {w:World} {O:Nat→Prop} {o:Oper} {l:List (List D)} {T m:Nat} {t:TypeId} {gg:Bool} {x hi mx:Operand} {u:Value} {b c:Nat} {kb kc:IntKind} (ho:o.op = .slice t x none (some hi) (some mx))
  (ht:C.P.underlying t=some (.slice T)) (hT:Lk.shp C.P T=some (gg,m)) (hx:Lk.ev V x=some u) (hr:RD w O (.sl T m l) u)
  (hh:Lk.ev V hi=some (.int kb (b:Nat))) (hm:Lk.ev V mx=some (.int kc (c:Nat))) (hbc:b≤c) (hc:c≤l.length):∃ v',(∀ w',EX C n V w' o v')∧RD w O (.sl T m (l.take b)) v':=by
 have i1:(b:Int)≤(c:Int):=yv.2 hbc
 have key:∀ (p:Option Addr) (cap:Nat),u = .slice p l.length cap→c≤cap→∀ w',EX C n V w' o (.slice (if c=0 then p else p.map (·.add 0)) b c):=fun p cap hu hcap w' a ha=>by
  have i2:(c:Int)≤(cap:Int):=yv.2 hcap
  subst hu
  simp [execOp,ho,ha.ev hx,ha.ev hh,ha.ev hm,Instr.sliceAt,Instr.slice,run_underlying ht,Instr.sliceBounds,Instr.sliceBound,asIntOf,(z1e hT).2,hbc,hcap]
 rcases hr with ⟨⟨p,rfl⟩,rfl⟩|⟨bb,q,cap,cs,fr,rfl,h2,h3,h4,h5,h6,h7⟩
 ·have hc0:c=0:=by simpa using hc
  have hb0:b=0:=by omega
  subst hc0 hb0
  exact ⟨_,key p 0 rfl (Nat.le_refl _),.inl ⟨⟨p,by simp⟩,by simp⟩⟩
 ·refine ⟨_,key _ cap rfl (by omega),?_⟩
  have hlen:(l.take b).length=b:=by simp;omega
  by_cases hc0:c=0
  ·have hb0:b=0:=by omega
   subst hc0 hb0
   exact .inl ⟨⟨_,rfl⟩,by simp⟩
  ·rw [if_neg hc0]
   refine .inr ⟨bb,q,c,cs,fr,by rw [hlen];simp [Addr.add_lit],by omega,by omega,h4,h5,?_,RDl.take b h7⟩
   have:c*m≤cap*m:=yt m (by omega)
   omega
theorem zje {b:Bool} {u v:PV} {k:PV→Prop} (h:mmW b u v k):∃ a p q,u = .int a p∧v = .int a q∧k (.int a (if b=true then zvv p q else zs1 p q)):=by
 unfold mmW at h
 split at h
 ·split at h
  ·rename_i he
   have he:=z6b he
   subst he
   exact ⟨_,_,_,rfl,rfl,h⟩
  ·rename_i he
   have he:=z6b he
   subst he
   exact ⟨_,_,_,rfl,rfl,h⟩
  ·exact h.elim
 ·exact h.elim
theorem EX.zww {C:Cx} {n:Nat} {L:Env} {w:World} {o:Oper} {x y:Operand} {ts:Array TypeId} {a:IntKind} {p q:Int} (ho:o.op = .call { callee:=.builtin .max,args := #[x,y],argTypes:=ts }) (hx:Lk.ev L x=some (.int a p)) (hy:Lk.ev L y=some (.int a q)):EX C n L w o (.int a (zvv p q)):=fun _ ha=>by
 simp [execOp,ho,resolve,invoke,builtin,Builtin.max_,Builtin.max2,ha.ev hx,ha.ev hy,zvv]
theorem EX.zwx {C:Cx} {n:Nat} {L:Env} {w:World} {o:Oper} {x y:Operand} {ts:Array TypeId} {a:IntKind} {p q:Int} (ho:o.op = .call { callee:=.builtin .min,args := #[x,y],argTypes:=ts }) (hx:Lk.ev L x=some (.int a p)) (hy:Lk.ev L y=some (.int a q)):EX C n L w o (.int a (zs1 p q)):=fun _ ha=>by
 simp [execOp,ho,resolve,invoke,builtin,Builtin.min_,Builtin.min2,ha.ev hx,ha.ev hy,zs1]
theorem z7f {tb:Tb} (ht:TbOk C.P tb) (hgt:∀ w O,z.G w O→ztn tb w O) (h:Rel z (lk σ.L) (lk σ.B) (lk σ.A) V w O φ α) {k:PV→Prop} (hq:qop tb σ o.op k):zgu C n V w O φ α o (stb σ o.op) k:=by
 unfold qop at hq
 split at hq
 case h_1 =>
  rename_i x ho
  obtain ⟨v,h1,h2⟩:=zf hq
  obtain ⟨u,h3,h4⟩:=h.ev h1
  exact .al (v:=v) (u:=u) h2 h4 fun _=>EX.move ho h3
 case h_2 =>
  rename_i x ho
  obtain ⟨v,h1,h2⟩:=zf hq
  obtain ⟨u,h3,h4⟩:=h.ev h1
  exact .al (v:=v) (u:=u) h2 h4 fun _=>EX.assign ho h3
 case h_3 =>
  rename_i c x y ho
  split at hq
  ·rename_i b hc
   replace hq:=zf hq
   obtain ⟨v,h1,hq⟩:=hq
   replace hq:=zf hq
   obtain ⟨v',h2,hq⟩:=hq
   obtain ⟨u,h3,h4⟩:=h.ev h1
   obtain ⟨u',h5,h6⟩:=h.ev h2
   obtain ⟨uc,h7,h8⟩:=h.ev hc
   simp only [VR] at h8
   subst h8
   rcases zav hq with ⟨rfl,hq⟩|⟨rfl,hq⟩
   ·exact .al (v:=v) (u:=u) hq h4 fun _=>EX.zv1 ho h7 h3
   ·exact .al (v:=v') (u:=u') hq h6 fun _=>EX.zv0 ho h7 h5
  ·exact hq.elim
 case h_4 =>
  rename_i op t x y r ho
  split at hq
  ·rename_i hif
   obtain ⟨ms,hms⟩:=zri (ht.ifc _ hif)
   split at hq
   ·replace hq:=zf hq
    obtain ⟨b,h1,hq⟩:=hq
    obtain ⟨v,h2,h3⟩:=yb.1 h1
    obtain ⟨u,h4,h5⟩:=h.ev h2
    have key:=fun w'=>EX.zwp (n:=n) (w:=w') ho hms h4 (zs6 h3 h5)
    split at hq
    ·exact .al (v:=.bool b) (u:=.bool b) hq rfl fun w'=>(key w').1 rfl
    ·exact .al (v:=.bool (!b)) (u:=.bool (!b)) hq rfl fun w'=>(key w').2 rfl
    ·exact hq.elim
   ·exact hq.elim
  split at hq
  ·rename_i m hm
   replace hq:=zf hq
   obtain ⟨v,h2,hq⟩:=hq
   obtain ⟨u,h4,h5⟩:=h.ev h2
   replace hq:=zf hq
   obtain ⟨v',h3,hq⟩:=hq
   obtain ⟨u',h6,h7⟩:=h.ev h3
   unfold zu2 at hq
   split at hq
   ·replace hq:=zf hq
    obtain ⟨b,h8,hq⟩:=hq
    obtain ⟨us,rfl,h9⟩:=h5
    obtain ⟨vs,rfl,h10⟩:=h7
    obtain ⟨k1,k2⟩:=zlt h8 h9 h10
    split at hq
    ·rename_i hb
     have hb:=yr hb
     exact .al (v:=.bool b) (u:=.bool b) hq rfl fun w'=>(zq9 (n:=n) (w:=w') ht hm ho h4 h6 (by rw [VRs.len h9];exact hb) k1 k2).1 rfl
    ·rename_i hb
     have hb:=yr hb
     exact .al (v:=.bool (!b)) (u:=.bool (!b)) hq rfl fun w'=>(zq9 (n:=n) (w:=w') ht hm ho h4 h6 (by rw [VRs.len h9];exact hb) k1 k2).2 rfl
    ·exact hq.elim
   ·exact hq.elim
  replace hq:=zf hq
  obtain ⟨td,h1,hq⟩:=hq
  replace hq:=zf hq
  obtain ⟨v,h2,hq⟩:=hq
  obtain ⟨u,h4,h5⟩:=h.ev h2
  split at hq
  ·rename_i hy
   obtain rfl:y = .const .nilFunc:=by
    unfold zqe at hy
    split at hy
    ·rfl
    ·cases hy
   unfold zuv at hq
   split at hq
   ·obtain ⟨us,vs,rfl,_,_⟩:=h5
    have key:=fun w'=>EX.zul (n:=n) (w:=w') ho (ht.und _ _ h1) h4
    split at hq
    ·exact .al (v:=.bool _) (u:=.bool _) hq rfl fun w'=>(key w').1 rfl
    ·exact .al (v:=.bool _) (u:=.bool _) hq rfl fun w'=>(key w').2 rfl
    ·exact hq.elim
   ·exact hq.elim
  replace hq:=zf hq
  obtain ⟨v',h3,hq⟩:=hq
  obtain ⟨u',h6,h7⟩:=h.ev h3
  exact zli ho (ht.und _ _ h1) h4 h6 h5 h7 hq
 case h_5 =>
  rename_i op t x ho
  replace hq:=zf hq
  obtain ⟨v,h2,hq⟩:=hq
  obtain ⟨u,h4,h5⟩:=h.ev h2
  exact zng ho h4 h5 hq
 case h_6 =>
  rename_i s t x ho
  replace hq:=zf hq
  obtain ⟨v,h2,hq⟩:=hq
  obtain ⟨u,h4,h5⟩:=h.ev h2
  split at hq
  ·rename_i k1 n1 k2 k3 e1 e2
   simp only [VR] at h5
   subst h5
   exact .al (v:=_) (u:=_) hq rfl fun _=>EX.zwe ho (ht.und _ _ e1) (ht.und _ _ e2) h4
  ·rename_i s1 e1 e2
   simp only [VR] at h5
   subst h5
   exact .al (v:=_) (u:=_) hq rfl fun _=>EX.zwg ho (ht.und _ _ e1) (ht.und _ _ e2) h4
  ·rename_i k1 n1 k2 e1 e2
   simp only [VR] at h5
   subst h5
   exact .al (v:=_) (u:=_) hq rfl fun _=>EX.zwf ho (ht.und _ _ e1) (ht.und _ _ e2) h4
  ·exact hq.elim
 case h_7 =>
  rename_i t x ho
  replace hq:=zf hq
  obtain ⟨v,h2,hq⟩:=hq
  obtain ⟨u,h4,h5⟩:=h.ev h2
  split at hq
  ·rename_i hn
   obtain ⟨td,h6,h7⟩:=zhs (ht.nif _ hn)
   refine .al (v:=_) (u:=_) hq ⟨u,rfl,h5⟩ fun _=>EX.zs2 ho h6 ?_ h4
   revert h7
   cases td<;>simp [z9e]
  ·exact hq.elim
 case h_8 =>
  rename_i f as cs ho
  split at hq
  ·exact hq.elim
  rename_i hf
  replace hq:=zf hq
  obtain ⟨vs,h1,hq⟩:=hq
  replace hq:=zf hq
  obtain ⟨ws,h2,hq⟩:=hq
  obtain ⟨us,h3,h4⟩:=h.evs h1
  obtain ⟨xs,h5,h6⟩:=h.evs h2
  exact .al (v:=_) (u:=_) hq ⟨us,xs,(zh8 hf us xs).symm,h4,h6⟩ fun _=>EX.zur ho h3 h5
 case h_9 =>
  rename_i x i ho
  split at hq
  ·rename_i vs hx
   replace hq:=zf hq
   obtain ⟨v,h1,hq⟩:=hq
   obtain ⟨u,h2,us,rfl,h3⟩:=h.ev hx
   obtain ⟨u,h4,h5⟩:=VRs.get h3 h1
   exact .al (v:=v) (u:=u) hq h5 fun _=>EX.extract ho h2 (by simpa using h4)
  ·exact hq.elim
 case h_10 =>
  rename_i x ho
  replace hq:=zf hq
  obtain ⟨v,h2,hq⟩:=hq
  obtain ⟨u,h4,h5⟩:=h.ev h2
  split at hq
  ·have h6:=h5
   simp only [VR] at h6
   subst h6
   exact .al (v:=_) (u:=_) hq h5 fun _=>EX.nilCheck ho h4
  ·have h6:=h5
   obtain ⟨b,q,rfl,_⟩:=h6
   exact .al (v:=_) (u:=_) hq h5 fun _=>EX.nilCheck ho h4
  ·have h6:=h5
   obtain ⟨b,l,c,j,_,_,rfl⟩:=h6
   exact .al (v:=_) (u:=_) hq h5 fun _=>EX.nilCheck ho h4
  ·exact hq.elim
 case h_11 =>
  rename_i t x i ho
  replace hq:=zf hq
  obtain ⟨f,h1,hq⟩:=hq
  obtain ⟨fs,h2,h3⟩:=yb.1 h1
  replace hq:=zf hq
  obtain ⟨v,h4,hq⟩:=hq
  obtain ⟨u,h5,h6⟩:=h.ev h4
  have hf:=zj5 (ht.fld _ _ h2) h3
  split at hq
  ·simp only [VR] at h6
   subst h6
   exact .al (v:=_) (u:=_) hq rfl fun _=>EX.fieldAddr ho hf h5
  ·obtain ⟨b,q,rfl,h7⟩:=h6
   refine .al (v:=_) (u:=_) hq ⟨b,q,rfl,h7⟩ fun _ => ?_
   rw [←yp]
   exact EX.fieldAddr ho hf h5
  ·obtain ⟨b,l,c,j,h7,h8,rfl⟩:=h6
   refine .al (v:=_) (u:=_) hq ⟨b,l,c,j,h7,h8,rfl⟩ fun _ => ?_
   rw [←yp]
   exact EX.fieldAddr ho hf h5
  ·exact hq.elim
 case h_12 =>
  rename_i t x i ho
  replace hq:=zf hq
  obtain ⟨f,h1,hq⟩:=hq
  obtain ⟨fs,h2,h3⟩:=yb.1 h1
  split at hq
  ·rename_i cs hx
   replace hq:=zf hq
   obtain ⟨v,h4,hq⟩:=hq
   obtain ⟨u,h5,us,rfl,h6⟩:=h.ev hx
   obtain ⟨fp,fg,fn⟩:=f
   have hf:=zj5 (ht.fld _ _ h2) h3
   have h7:VRs w O φ α ((cs.drop fp).take fn) ((us.drop fp).take fn):=(VRs.drop fp h6).take fn
   have e8:(us.drop fp)[0]? = us[fp]?:=by simp
   revert h4 h7
   simp only
   generalize hc2:(cs.drop fp).take fn=c2
   intro h4 h7
   unfold z5g at h4
   split at h4
   ·split at h4
    ·cases h4
     exact .al (v:=_) (u:=_) hq ⟨_,rfl,h7⟩ fun _=>EX.zue ho hf h5
    ·cases h4
   ·cases h4
    obtain ⟨u,us',h9,h10,h11⟩:=h7
    refine .al (v:=_) (u:=u) hq h10 fun _=>EX.field ho hf h5 ?_
    rw [←e8]
    have e9:((us.drop fp).take fn)[0]? = some u:=by rw [h9];rfl
    rw [yj] at e9
    split at e9
    ·exact e9
    ·cases e9
   ·cases h4
  ·exact hq.elim
 case h_13 =>
  rename_i t x ho
  replace hq:=zf hq
  obtain ⟨⟨g,m⟩,h1,hq⟩:=hq
  replace hq:=zf hq
  obtain ⟨v,h2,hq⟩:=hq
  obtain ⟨u,h3,h4⟩:=h.ev h2
  have hT:=ht.shp _ _ h1
  unfold zft at hq
  split at hq
  ·rename_i a m' i off
   replace hq:=zf hq
   obtain ⟨e,h5,hq⟩:=hq
   split at hq
   ·rename_i hn
    have hn:=yr hn
    obtain ⟨cs,h6,hq⟩:=hq
    replace hq:=zf hq
    obtain ⟨v',h7,hq⟩:=hq
    obtain ⟨b,len,cap,j,h8,h9,rfl⟩:=h4
    obtain ⟨j',h10,h11,_⟩:=z98 h6
    have:j'=j:=by omega
    subst this
    obtain ⟨us,h12,h13⟩:=(h.arr _ _ (z5k h5).1).elem (z5k h5).2 h8 h11
    subst hn
    obtain ⟨u',k1,k2⟩:=z9u (n:=n) ho hT h3 (z9w h12) h7
    exact ⟨v',u',hq,k1,k2 w h13,fun hh=>by rw [ho] at hh;simp only [stb,h2,reduceCtorEq,yg] at hh⟩
   ·exact hq.elim
  ·rename_i hne
   replace hq:=zf hq
   obtain ⟨v',h7,hq⟩:=hq
   unfold zrz at h7
   split at h7
   ·rename_i b off
    split at h7
    ·rename_i e he
     obtain ⟨_,us,h8,h9⟩:=h.box _ _ (z6e he).1
     have h8:=h8.un (z6e he).2
     simp only [VR] at h4
     subst h4
     obtain ⟨u',k1,k2⟩:=z9u (n:=n) (q:=0) ho hT (by simpa using h3) h9 h7
     exact ⟨v',u',hq,k1,k2 w (fun j u e=>by rw [Nat.zero_add,h8.cell];exact e),fun hh=>by rw [ho] at hh;simp only [stb,h2,reduceCtorEq,yg] at hh⟩
    ·cases h7
   ·rename_i cs off
    obtain ⟨b,q,rfl,us,_,h10,h11⟩:=h4
    obtain ⟨u',k1,k2⟩:=z9u (n:=n) ho hT h3 (z9w h11) h7
    exact ⟨v',u',hq,k1,k2 w h10.at_,fun _ w' O' t=>k2 w' (h10.tr t).at_⟩
   ·cases h7
 case h_14 =>
  rename_i t x y ho
  split at hq
  ·rename_i s ki i e1 e2 e3
   obtain ⟨c,h1,hq⟩:=hq
   obtain ⟨j,h2,h3,_⟩:=z98 h1
   obtain ⟨u,h4,h5⟩:=h.ev e2
   obtain ⟨u',h6,h7⟩:=h.ev e3
   simp only [VR] at h5 h7
   subst h5 h7
   exact .al (v:=_) (u:=_) hq rfl fun _=>EX.zum ho (ht.und _ _ e1) h4 h6 h2 h3
  ·exact hq.elim
 case h_15 =>
  rename_i t x y ho
  split at hq
  ·rename_i g
   obtain ⟨e,h1,hq⟩:=zf hq
   split at hq
   ·rename_i len T ki i e1 e2
    obtain ⟨⟨gg,m⟩,h4,hq⟩:=zf hq
    split at hq
    ·rename_i hm
     simp only [ye] at hm
     have hm1:=yr hm.1
     have hm2:=yr hm.2
     subst hm1
     obtain ⟨cs,h5,hq⟩:=hq
     obtain ⟨j,h6,h7,h8⟩:=z98 h5
     obtain ⟨u',h9,h10⟩:=h.ev e2
     simp only [VR] at h10
     subst h10
     obtain ⟨hl,hel⟩:=hgt w O h.gl g e h1
     have hel:=hel j cs h7
     refine .al (v:=_) (u:=_) hq ⟨g,j*e.1,rfl,?_⟩ fun _=>EX.zkf ho (ht.und _ _ e1) (ht.shp _ _ h4) h9 h6 (by omega)
     obtain ⟨us,k1,k2,k3⟩:=hel
     exact ⟨us,VRs.len (φ:=φ) (α:=α) (z9w k3) |>.trans (by simp [zor]),k2,k3⟩
    ·exact hq.elim
   ·exact hq.elim
  replace hq:=zf hq
  obtain ⟨v,h1,hq⟩:=hq
  obtain ⟨u,h2,h3⟩:=h.ev h1
  split at hq
  ·rename_i T e1
   replace hq:=zf hq
   obtain ⟨⟨g,m⟩,h4,hq⟩:=hq
   split at hq
   ·rename_i U m' l ki i e2
    split at hq
    ·rename_i hm
     have hm:=yr hm
     simp only at hm
     subst hm
     obtain ⟨cs,h5,hq⟩:=hq
     obtain ⟨j,h6,h7,h8⟩:=z98 h5
     obtain ⟨u',h9,h10⟩:=h.ev e2
     simp only [VR] at h10
     subst h10
     obtain ⟨b,q,cap,h11,h12,h13⟩:=RD.elem h3 h7
     refine .al (v:=_) (u:=_) hq ⟨b,q+j*m,rfl,?_⟩ fun _=>EX.zd4 ho (ht.und _ _ e1) (ht.shp _ _ h4) h2 h11 h9 h6 h8
     obtain ⟨us,k1,k2,k3⟩:=h13
     exact ⟨us,VRs.len (φ:=φ) (α:=α) (z9w k3) |>.trans (by simp [zor]),k2,k3⟩
    ·exact hq.elim
   ·rename_i a ki i e2
    replace hq:=zf hq
    obtain ⟨e,h4',hq⟩:=hq
    split at hq
    ·rename_i hm
     have hm:=yr hm
     simp only at hm
     subst hm
     obtain ⟨cs,h5,hq⟩:=hq
     obtain ⟨j,h6,h7,h8⟩:=z98 h5
     obtain ⟨u',h9,h10⟩:=h.ev e2
     simp only [VR] at h10
     subst h10
     rcases (h.arr _ _ (z5k h4').1).at_ (z5k h4').2 with ⟨_,k2⟩|⟨b,cap,k2⟩
     ·omega
     ·exact .al hq ⟨b,_,cap,j,k2,h6,rfl⟩ fun w'=>by
       have:=EX.zd4 (n:=n) (w:=w') ho (ht.und _ _ e1) (ht.shp _ _ h4) h2 (h3.1.trans k2) h9 h6 h8
       simpa using this
    ·exact hq.elim
   ·exact hq.elim
  ·exact hq.elim
 case h_16 =>
  rename_i t x lo hi ho
  replace hq:=zf hq
  obtain ⟨v,h1,hq⟩:=hq
  replace hq:=zf hq
  obtain ⟨td,h2,hq⟩:=hq
  obtain ⟨u,h6,h7⟩:=h.ev h1
  replace hq:=zmk h hq
  obtain ⟨p,hq,hp⟩:=hq
  have hhi:∃ q,(match td,v with
    | .string,.str s=>Ex (Go.Lk.sub s p q) fun r=>k (.str r)
    | .slice e,.sl T m l=>wt (lk tb.shp e) fun s=>match yq e T&&yq s.2 m with
     | true=>Ex (Go.Lk.sub l p q) fun r=>k (.sl T m r)
     | false=>False
    | _,_=>False)∧∀ N:Nat,((∃ s:List UInt8,v = .str s∧N=s.length)∨∃ T m l,v = .sl T m l∧N=l.length)→(hi=none∧q=(N:Int))∨∃ y k,hi=some y∧Lk.ev V y=some (.int k q):=by
   unfold hiW at hq
   split at hq
   ·rcases zd7 h h7 hq with ⟨s,_,e2,_,hk⟩|⟨⟨e0,e1⟩,l,hk,_,e3⟩|e1
    ·refine ⟨_,hk,fun N hN => .inl ⟨rfl,?_⟩⟩
     rcases hN with ⟨s',e4,rfl⟩|⟨T,m,l,e4,_⟩
     ·rw [e2] at e4;cases e4;rfl
     ·rw [e2] at e4;cases e4
    ·refine ⟨_,hk,fun N hN => .inl ⟨rfl,?_⟩⟩
     rcases hN with ⟨s',e4,rfl⟩|⟨T,m,l',e4,rfl⟩
     ·subst e4
      subst e1
      exact hk.elim
     ·rw [e3 _ _ _ e4]
    ·obtain ⟨⟨kt,et,rfl⟩,⟨b,rfl⟩,_,_,_,_,_,hk⟩:=e1
     exact hk.elim
   ·rename_i y
    split at hq
    ·rename_i kk n' hy
     obtain ⟨u',h8,h9⟩:=h.ev hy
     simp only [VR] at h9
     subst h9
     exact ⟨n',hq,fun N _ => .inr ⟨y,kk,rfl,h8⟩⟩
    ·exact hq.elim
  clear hq
  obtain ⟨q,hq,hq'⟩:=hhi
  split at hq
  ·rename_i s
   obtain ⟨r,h8,hq⟩:=hq
   obtain ⟨a,b,h9,h10,h11,h12,h13⟩:=zed h8
   simp only [VR] at h7
   subst h7
   subst h13
   exact .al (v:=.str _) (u:=_) hq rfl fun _=>EX.zva ho (ht.und _ _ h2) h6 (Lo.of hp h9) (Lo.of (hq' _ (.inl ⟨s,rfl,rfl⟩)) h10) h11 h12
  ·rename_i e T' m' l
   replace hq:=zf hq
   obtain ⟨⟨g,mm⟩,h8,hq⟩:=hq
   split at hq
   ·rename_i hb
    simp only [ye] at hb
    have hb1:=yr hb.1
    have hb2:=yr hb.2
    subst hb1 hb2
    obtain ⟨r,h8',hq⟩:=hq
    obtain ⟨a,b,h9,h10,h11,h12,h13⟩:=zed h8'
    subst h13
    obtain ⟨v',k1,k2⟩:=EX.zv8 (n:=n) ho (ht.und _ _ h2) (ht.shp _ _ h8) h6 h7 (Lo.of hp h9) (Lo.of (hq' _ (.inr ⟨_,_,_,rfl,rfl⟩)) h10) h11 h12
    exact .al (v:=.sl _ _ _) (u:=v') hq k2 k1
   ·exact hq.elim
  ·exact hq.elim
 case h_17 =>
  rename_i c ho
  split at hq
  ·rename_i x t e1 e2 e3
   replace hq:=zf hq
   obtain ⟨td,h1,hq⟩:=hq
   replace hq:=zf hq
   obtain ⟨v,h2,hq⟩:=hq
   obtain ⟨u,h4,h5⟩:=h.ev h2
   obtain ⟨cal,cargs,cty⟩:=c
   simp only at e1 e2 e3
   have e2:cargs = #[x]:=by apply yx.1;simpa using e2
   have e3:cty = #[t]:=by apply yx.1;simpa using e3
   subst e1 e2 e3
   have hu:=ht.und _ _ h1
   rcases zd7 h h5 hq with ⟨s,rfl,rfl,rfl,hk⟩|⟨⟨e,rfl⟩,l,hk,h6,_⟩|⟨⟨kt,et,rfl⟩,⟨b,rfl⟩,m,es,clock,rfl,h6,hk⟩
   ·exact .al (v:=_) (u:=_) hk rfl fun _=>EX.zy4 ho hu h4
   ·exact .al (v:=_) (u:=_) hk rfl fun _=>EX.zy5 ho hu h4 h6
   ·refine ⟨.int .i64 _,_,hk,rfl,EX.zqk ho hu h4 h6,fun hst => ?_⟩
    rw [ho] at hst
    simp only [stb,h2,yg] at hst
  ·rename_i x y e1 e2
   obtain ⟨v1,h2,hq⟩:=zf hq
   obtain ⟨v2,h3,hq⟩:=zf hq
   obtain ⟨a,p,q,rfl,rfl,hk⟩:=zje hq
   obtain ⟨u,h4,h5⟩:=h.ev h2
   obtain ⟨u',h6,h7⟩:=h.ev h3
   simp only [VR] at h5 h7
   subst h5 h7
   obtain ⟨cal,cargs,cty⟩:=c
   simp only at e1 e2
   have e2:cargs = #[x,y]:=by apply yx.1;simpa using e2
   subst e1 e2
   exact .al (v:=_) (u:=_) hk rfl fun _=>EX.zww ho h4 h6
  ·rename_i x y e1 e2
   obtain ⟨v1,h2,hq⟩:=zf hq
   obtain ⟨v2,h3,hq⟩:=zf hq
   obtain ⟨a,p,q,rfl,rfl,hk⟩:=zje hq
   obtain ⟨u,h4,h5⟩:=h.ev h2
   obtain ⟨u',h6,h7⟩:=h.ev h3
   simp only [VR] at h5 h7
   subst h5 h7
   obtain ⟨cal,cargs,cty⟩:=c
   simp only at e1 e2
   have e2:cargs = #[x,y]:=by apply yx.1;simpa using e2
   subst e1 e2
   exact .al (v:=_) (u:=_) hk rfl fun _=>EX.zwx ho h4 h6
  ·exact hq.elim
 case h_18 =>
  rename_i x xt t ho
  replace hq:=zf hq
  obtain ⟨zz,h2,hq⟩:=hq
  split at hq
  ·rename_i T u e1 e0
   obtain ⟨td,hu,e2⟩:=zhs (ht.nif _ e0)
   obtain ⟨u',h3,y,rfl,h5⟩:=h.ev e1
   split at hq
   ·rename_i hT
    have hT:=yr hT
    subst hT
    exact .al (v:=_) (u:=_) hq ⟨_,rfl,y,_,rfl,h5,_,_,rfl,rfl,rfl⟩ fun _=>EX.ztb ho hu e2 h3
   ·rename_i hT
    have hT:=Nat.ne_of_beq_eq_false hT
    exact .al (v:=_) (u:=_) hq ⟨_,rfl,zz,_,rfl,zdc zz,_,_,rfl,rfl,rfl⟩ fun _=>EX.zyi ho hu e2 (ht.zer _ _ h2) hT h3
  ·rename_i e1 e0
   obtain ⟨td,hu,e2⟩:=zhs (ht.nif _ e0)
   obtain ⟨u',h3,h4⟩:=h.ev e1
   simp only [VR] at h4
   subst h4
   exact .al (v:=_) (u:=_) hq ⟨_,rfl,zz,_,rfl,zdc zz,_,_,rfl,rfl,rfl⟩ fun _=>EX.zta ho hu e2 (ht.zer _ _ h2) h3
  ·exact hq.elim
 case h_19 =>
  rename_i t parts ho
  replace hq:=zf hq
  obtain ⟨us,h1,hq⟩:=hq
  obtain ⟨xs,h4,h5⟩:=h.evs h1
  split at hq
  ·rename_i m hm
   split at hq
   ·rename_i hb
    simp only [ye] at hb
    have hl:=yr hb.1.1
    have hpl:(parts.toList.map (·.1)).length=us.length:=by
     have:=zlu h1
     simpa using this
    have hxl:xs.length=us.length:=VRs.len h5
    exact .al (v:=.agg us) (u:=.agg (yn xs)) hq ⟨xs,rfl,h5⟩ fun _=>EX.zu6 ho (ht.ars _ _ hm) (zem h4) (zqb _ us xs 0 hb.1.2 hb.2 h5 hpl) (by rw [List.length_zip];omega)
   ·exact hq.elim
  replace hq:=zf hq
  obtain ⟨zz,h2,hq⟩:=hq
  replace hq:=zf hq
  obtain ⟨fs,h3,hq⟩:=hq
  rw [zdu] at hq
  split at hq
  ·rename_i hok
   rw [zdr] at hq
   obtain ⟨fds,h6,h7⟩:=zd2 (ht.fld _ _ h3)
   have h8:=zb5 h7
   have hz:VRs w O φ α (cellsOf (ofV zz)) zz.cells.toList:=zfz zz
   obtain ⟨out,h9,h10⟩:=zas (w:=w) (O:=O) (φ:=φ) (α:=α) (fds:=fs.map fun f=>(f.1,f.2.2)) _ us xs _ zz.cells fs (fun i f e=>by simp [e]) h5 hz hok
   refine .al (v:=_) (u:=_) hq ⟨out.toList,rfl,h10⟩ fun _=>EX.build ho (zem h4) ?_
   unfold built
   rw [h6,ht.zer _ _ h2]
   simp only [h8,h9,yd]
  ·exact hq.elim
 case h_20 =>
  rename_i t x hi mx ho
  obtain ⟨v,h1,hq⟩:=zf hq
  split at hq
  ·rename_i e T m l kb b kc c e1 e2 e3
   obtain ⟨⟨gg,mm⟩,h4,hq⟩:=zf hq
   split at hq
   ·rename_i hm
    simp only [ye] at hm
    have hm1:=yr hm.1
    have hm2:=yr hm.2
    subst hm1 hm2
    obtain ⟨N,hN,_,h5,r,h6,hq⟩:=hq
    simp only [zol,Option.some.injEq] at hN
    subst hN
    have h5:=z4v h5
    simp only [ye,decide_eq_true_eq] at h5
    obtain ⟨a0,b0,h9,h10,h11,h12,h13⟩:=zed h6
    obtain ⟨u,h7,h8⟩:=h.ev h1
    obtain ⟨ub,k1,k2⟩:=h.ev e2
    obtain ⟨uc,k3,k4⟩:=h.ev e3
    simp only [VR] at h8 k2 k4
    subst k2 k4
    obtain ⟨cn,hcn⟩:∃ cn:Nat,c=(cn:Int):=⟨c.toNat,by omega⟩
    subst h10 hcn
    obtain rfl:a0=0:=by omega
    obtain ⟨v',g1,g2⟩:=EX.zv9 (n:=n) ho (ht.und _ _ e1) (ht.shp _ _ h4) h7 h8 k1 k3 (by omega) (by omega)
    rw [List.drop_zero] at h13
    subst h13
    exact .al (v:=_) (u:=_) hq g2 g1
   ·exact hq.elim
  ·exact hq.elim
 case h_21=>exact hq.elim
end
end Go.Pe
