import Derived.Test.YtmmgdladipbedaaGreatDoorLkF
import Derived.Lib.UnsafeStr
import Derived.Lib.Builder
import Derived.Laws.Externs
import Derived.Laws.IdiomRangeMap
set_option linter.all false
section
namespace Go.Lk
open _root_.Array renaming toList_inj → ya
open Go.RowKit
variable [Lb]

theorem cells_one {v:Value} (h:v.oneCell'=true):v.cells=[v].toArray:=by
 cases v<;>first|rfl|(simp [Value.oneCell'] at h)
theorem z97:([]:List Value).all (·.oneCell')=true:=rfl
theorem z6n {v:Value} {vs:List Value} (h:v.oneCell'=true) (t:vs.all (·.oneCell')=true):(v::vs).all (·.oneCell')=true:=by simp only [List.all_cons,h,t,Bool.and_self]
def Slf (b:Nat) (a:Value):Prop:=a = .pointer none∨a = .pointer (some ⟨b,0,none⟩)
theorem Ext.freeze (w:World) (g n:Nat):Ext (At g) w (w.freeze ⟨g,0,none⟩ n):=by
 unfold World.freeze
 split
 ·exact Ext.refl _ _
 ·exact ⟨rfl,rfl,rfl,by simp,fun k hk hf=>by
   simp only [Array.getElem?_modify]
   rw [if_neg (fun e=>hf e.symm)]⟩
section
variable {C:Cx} {n:Nat} {ds:List Deferred} {k:Act→World→Prop} {L:Env} {w:World} {ops:Array Oper} {o:Oper} {rest:List Oper} {d:Nat} {v:Value}
theorem OW.zyc {x:Operand} {xs:Array Operand} {ts:Array TypeId} {g:FuncId} {vs fs caps:List Value} {dd:Option Nat} (hg:o.guard=none) (hd:o.dst=dd) (hn:dOk n dd=true) (ho:o.op = .call { callee:=.value x,args:=xs,argTypes:=ts }) (hx:ev L x=some (.func (.func g) fs.toArray caps.toArray))
  (hxs:evs L xs.toList=some vs) (hent:∀ args w,(callFunc g args).run C.P w = .ok (.enter g args) w) (h:Calls C.P g (fs++vs++caps).toArray w (zpl C n ds ops rest k L dd)):OW C n ds ops (o::rest) k L w :=
 OW.enter hg hd hn (fun a ha=>by
  have e1:xs.map a.eval=vs.toArray:=by apply ya.1;simpa using ha.evs hxs
  have e2:fs.toArray++vs.toArray++caps.toArray=(fs++vs++caps).toArray:=by simp
  simp only [execOp,ho,resolve,ha.ev hx,e1,Deferred.ofValue,Sem.run_bind,Sem.run_pure,Result.andThen_ok]
  simp only [invoke,Sem.run_bind,Sem.run_pure,Result.andThen_ok,e2,hent]) h
end
theorem TW.zs7 {C:Cx} {n:Nat} {ds:List Deferred} {k:List Item} {L:Env} {w:World} {id:Nat} {o:Oper} {x:Operand} {xs:Array Operand} {ts:Array TypeId} {g:FuncId} {vs caps:List Value} (hg:o.guard=none) (hd:o.dst=none) (ho:o.op = .defer { callee:=.value x,args:=xs,argTypes:=ts })
  (hx:ev L x=some (.func (.func g) #[] caps.toArray)) (hxs:evs L xs.toList=some vs) (h:TW C n ({ target:=.fn (.func g) caps.toArray,args:=vs.toArray }::ds) k L w):TW C n ds (.code (.region id [o].toArray false)::k) L w:=fun a ha hds cs=>by
 have e1:xs.map a.eval=vs.toArray:=by apply ya.1;simpa using ha.evs hxs
 have hrun:(execOp a.eval o).run C.P w = .ok (.defer { target:=.fn (.func g) caps.toArray,args:=vs.toArray }) w:=by
  simp [execOp,ho,resolve,ha.ev hx,e1,Deferred.ofValue]
 have h':wpList C.P [o].toArray (QT C ({ target:=.fn (.func g) caps.toArray,args:=vs.toArray }::ds) (TWa C k)) [o] a w :=
  wpList_plain hg fun K hK=>by
   unfold Oper.wp
   rw [hrun]
   simp only [Oper.upon,hd,Act.put]
   refine hK _ _ ⟨?_,h _ ⟨ha.size,ha.get⟩ ?_⟩<;>simp [hds]
 have h2:wpOps C.P [o].toArray (QT C ({ target:=.fn (.func g) caps.toArray,args:=vs.toArray }::ds) (TWa C k)) (List.range [o].toArray.size) a w:=by
  rw [List.range_eq_range',←Array.length_toList,wpOps_eq_wpList [o].toArray.toList 0 (by simp)];exact h'
 exact (z4u h2 cs).of_steps (.one step_region)
section
variable {C:Cx} {n:Nat} {L:Env} {w:World}
theorem LV.ret1 {g:FuncId} {args args' cap:Array Value} (hi:(invoke (.fn (.func g) cap) args).run C.P w = .ok (.enter g args') w)
  (hc:CallsD C.P g args' .returning w (fun e u w'=>e = .returned (.tuple #[])∧u = .returning∧Ext z0h w w'))
  (h:∀ w',Ext z0h w w'→∃ v,Out C n L w' v∧C.R (.returned v) w'):LV C n [{ target:=.fn (.func g) cap,args:=args }] L w .returning:=fun a ha hd=>by
 refine leaves_cons (by simp) hi (hc.mono ?_)
 rintro e u w' ⟨rfl,rfl,x⟩
 obtain ⟨v,h1,h2⟩:=h w' x
 exact ⟨v,h1 a ha,h2⟩
theorem LV.pan1 {g:FuncId} {args args' cap:Array Value} {pv:Value} (Q:World→Prop) (hi:(invoke (.fn (.func g) cap) args).run C.P w = .ok (.enter g args') w)
  (hc:CallsD C.P g args' (.panicking [{ v:=pv,recovered:=false }]) w (fun e u w'=>e = .returned (.tuple #[])∧u = .panicking [{ v:=pv,recovered:=true }]∧Q w'))
  (h:∀ w',Q w'→∃ v,Out C n L w' v∧C.R (.returned v) w'):LV C n [{ target:=.fn (.func g) cap,args:=args }] L w (.panicking [{ v:=pv,recovered:=false }]):=fun a ha hd=>by
 refine leaves_cons (by simp) hi (hc.mono ?_)
 rintro e u w' ⟨rfl,rfl,x⟩
 obtain ⟨v,h1,h2⟩:=h w' x
 exact ⟨v,h1 a ha,h2⟩
end
end Go.Lk
end
section
namespace Go.Lk
open _root_.List renaming range' → ya
open _root_.Array renaming replicate → yb
open Go.RowKit
variable [Lb]

def z8k:TypeDesc→Bool
 | .interface _=>false
 | _=>true
section
variable {C:Cx} {n:Nat} {ds:List Deferred} {k:Act→World→Prop} {L:Env} {w:World} {ops:Array Oper} {o:Oper} {rest:List Oper} {d:Nat} {v:Value}
theorem EX.zuw {x:Operand} {xt T:TypeId} {td:TypeDesc} {u:Value} (ho:o.op = .typeAssert x xt T true) (ht:C.P.underlying T=some td) (hi:z8k td=true) (hx:ev L x=some (.iface T u)):EX C n L w o (.tuple #[u,.bool true]):=fun a ha=>by
 simp only [execOp,ho,ha.ev hx,Instr.typeAssert]
 cases td<;>first|(simp [z8k] at hi;done)|simp [run_underlying ht]
theorem EX.zuv {x:Operand} {xt T:TypeId} {td:TypeDesc} {z:Value} (ho:o.op = .typeAssert x xt T true) (ht:C.P.underlying T=some td) (hi:z8k td=true) (hz:zer C.P T=some z) (hx:ev L x=some .nilIface):EX C n L w o (.tuple #[z,.bool false]):=fun a ha=>by
 obtain ⟨i,h5,h6⟩:=Option.bind_eq_some_iff.1 hz
 simp only [execOp,ho,ha.ev hx,Instr.typeAssert]
 cases td<;>first|(simp [z8k] at hi;done)|simp [run_underlying ht,zeroValue,typeInfo,h5,h6]
end
def zy8 (C:Cx) (c:Frame) (cs:List Frame) (u1:FrameMode) (m:Machine):Prop := ∃ e w' fr,C.R e w'∧Comes C.P m (lone fr ({ c with mode:=u1 }::cs) w') e∧fr.fn=C.f∧leave C fr w' e
def TWR (C:Cx) (n:Nat) (u0 u1:FrameMode) (todo:List Item) (L:Env) (w:World):Prop := ∀ a,Has n L a→a.defers=[]→∀ c cs,c.mode=u0→zy8 C c cs u1 (lone ((base C).at a todo) (c::cs) w)
def Rec (u0 u1:FrameMode) (v:Value):Prop:=(u0 = .returning∧u1 = .returning∧v = .nilIface)∨∃ older,u0 = .panicking ({ v:=v,recovered:=false }::older)∧u1 = .panicking ({ v:=v,recovered:=true }::older)
section
variable {C:Cx} {n:Nat} {k:List Item} {L:Env} {w:World} {u0 u1:FrameMode}
theorem TWR.seq {x y:Code} (h:TWR C n u0 u1 (.code x :: .code y::k) L w):TWR C n u0 u1 (.code (.seq x y)::k) L w:=fun a ha hd c cs hc=>by
 obtain ⟨e,w',fr,h1,h2,h3,h4⟩:=h a ha hd c cs hc
 exact ⟨e,w',fr,h1,h2.of_steps (.one step_seq),h3,h4⟩
theorem TWR.recover {id:Nat} {o:Oper} {l:List Oper} {d:Nat} {v:Value} {ts:Array TypeId} (hN:C.dfr=true) (hr:Rec u0 u1 v) (hg:o.guard=none) (hd:o.dst=some d) (hn:Nat.blt d n=true) (ho:o.op = .call { callee:=.builtin .recover,args := #[],argTypes:=ts })
  (h:OW C n [] (o::l).toArray l (TWa C k) ((d,v)::L) w):TWR C n u0 u1 (.code (.region id (o::l).toArray false)::k) L w:=fun a ha hds c cs hc=>by
 have hrun:(execOp a.eval o).run C.P w = .ok .recover w:=by
  simp [execOp,ho,resolve,invoke,builtin]
 have h1:=h (a.put (some d) v) (ha.put (by simpa [Nat.blt_eq] using hn)) (by simpa [Act.put] using hds)
 have h2:wpOps C.P (o::l).toArray (QT C [] (TWa C k)) (ya 1 l.length) (a.put (some d) v) w:=by
  rw [wpOps_eq_wpList l 1 (fun j=>by simp [Nat.add_comm 1 j])];exact h1
 obtain ⟨e,w',fr,k1,k2,k3,k4⟩:=z4u h2 ({ c with mode:=u1 }::cs)
 have hrange:List.range (o::l).toArray.size=0::ya 1 l.length:=by
  rw [List.range_eq_range'];simp [List.range'_succ]
 have s1:=step_region (P:=C.P) (b:=base C) (a:=a) (k:=k) (cs:=c::cs) (w:=w) (ops:=(o::l).toArray) (id:=id)
 rw [hrange] at s1
 have hw:Region.wanted o (yielded (o::l).toArray a.tmps)=true:=by simp [Region.wanted,hg]
 have s2:step C.P (lone ((base C).at a (.inRegion (o::l).toArray (0::ya 1 l.length)::k)) (c::cs) w) = .next (lone ((base C).at (a.put (some d) v) (.inRegion (o::l).toArray (ya 1 l.length)::k)) ({ c with mode:=u1 }::cs) w):=by
  refine step_lone_go ?_
  have hgo:=stepG_op (P:=C.P) (b:=base C) (a:=a) (k:=k) (cs:=c::cs) (w:=w) (ops:=(o::l).toArray) (i:=0) (rest:=ya 1 l.length) (o:=o) (by simp) hw
  have hfin:=Frame.finish_at (base C) a (o::l).toArray 0 (ya 1 l.length) k v
  have hk:((base C).at a (.inRegion (o::l).toArray (0::ya 1 l.length)::k)).kind = .deferred:=by simp [base,hN,Frame.at]
  have htr:=tryRecover_deferred hk (c::cs)
  have ho0:((o::l).toArray[0]?).bind (·.dst)=some d:=by simp [hd]
  rw [ho0] at hfin
  rw [hgo,←hfin]
  have hc' : { c with mode:=c.mode }=c:=rfl
  rcases hr with ⟨rfl,rfl,rfl⟩|⟨older,rfl,rfl⟩
  ·have hrec:recoverD (c::cs)=none:=by simp [recoverD,hc]
   have hcc:({ c with mode:=.returning }:Frame)=c:=by rw [←hc]
   simp only [Frame.at] at htr ⊢
   simp [stepG.apply,hrun,htr,hrec,hcc]
  ·have hrec:recoverD (c::cs)=some (v,{ c with mode:=.panicking ({ v:=v,recovered:=true }::older) }::cs):=by simp [recoverD,hc]
   simp only [Frame.at] at htr ⊢
   simp [stepG.apply,hrun,htr,hrec]
 exact ⟨e,w',fr,k1,k2.of_steps (.head s1 (.one s2)),k3,k4⟩
end
theorem z84 {P:Program} {f:FuncId} {fn:Func} {c:Code} {args:List Value} {w:World} {R:Ending→World→Prop} (u0 u1:FrameMode) (hf:P.funcs[f]? = some fn) (hb:fn.body=some c)
  (n:Nat) (hn:fn.ntmps=n) (hl:Nat.ble args.length n=true) (h:TWR { P:=P,f:=f,fn:=fn,R:=R,hf:=hf,dfr:=true } n u0 u1 [.code c] (zcd 0 args) w):CallsD P f args.toArray u0 w (fun e u w'=>u=u1∧R e w'):=by
 intro c0 cs hu
 have hl':=Nat.le_of_ble_eq_true hl
 have henter:Frame.enter P f args.toArray .deferred=(base { P:=P,f:=f,fn:=fn,R:=R,hf:=hf,dfr:=true }).at { tmps:=args.toArray++yb (fn.ntmps - args.toArray.size) undef,defers:=[] } [.code c]:=by
  simp [Frame.enter,Frame.at,hf,hb,base]
 have:=h { tmps:=args.toArray++yb (fn.ntmps - args.toArray.size) undef,defers:=[] }
  ⟨by simp [hn];omega,fun t v e=>by
   have h1:args[t]? = some v:=by simpa using (z8b args 0 t v e).2
   have h2:t<args.length:=by
    rcases Nat.lt_or_ge t args.length with h2|h2
    ·exact h2
    ·simp [List.getElem?_eq_none h2] at h1
   simp [Array.getElem?_append,h2]
   simpa [List.getElem?_eq_getElem h2] using h1⟩ rfl c0 cs hu
 rw [←henter] at this
 obtain ⟨e,w',fr,k1,k2,k3,k4⟩:=this
 exact ⟨e,u1,w',fr,⟨rfl,k1⟩,k2,k4.1,k4.2⟩
theorem zdi {P:Program} {w:World} {g:FuncId} {vs caps:List Value} (hent:∀ args w,(callFunc g args).run P w = .ok (.enter g args) w):(invoke (.fn (.func g) caps.toArray) vs.toArray).run P w = .ok (.enter g (vs++caps).toArray) w:=by
 have e2:vs.toArray++caps.toArray=(vs++caps).toArray:=by simp
 simp [invoke,hent,e2]
section
variable {C:Cx} {n:Nat} {L:Env} {w:World}
theorem LV.ret2 {g:FuncId} {vs caps:List Value} (hent:∀ args w,(callFunc g args).run C.P w = .ok (.enter g args) w)
  (hc:CallsD C.P g (vs++caps).toArray .returning w (fun e u w'=>e = .returned (.tuple #[])∧u = .returning∧Ext z0h w w'))
  (h:∀ w',Ext z0h w w'→∃ v,Out C n L w' v∧C.R (.returned v) w'):LV C n [{ target:=.fn (.func g) caps.toArray,args:=vs.toArray }] L w .returning :=
 LV.ret1 (zdi hent) hc h
theorem LV.pan2 {g:FuncId} {vs caps:List Value} {pv:Value} (Q:World→Prop) (hent:∀ args w,(callFunc g args).run C.P w = .ok (.enter g args) w)
  (hc:CallsD C.P g (vs++caps).toArray (.panicking [{ v:=pv,recovered:=false }]) w (fun e u w'=>e = .returned (.tuple #[])∧u = .panicking [{ v:=pv,recovered:=true }]∧Q w'))
  (h:∀ w',Q w'→∃ v,Out C n L w' v∧C.R (.returned v) w'):LV C n [{ target:=.fn (.func g) caps.toArray,args:=vs.toArray }] L w (.panicking [{ v:=pv,recovered:=false }]) :=
 LV.pan1 Q (zdi hent) hc h
end
end Go.Lk
end
section
namespace Go.Lk
open _root_.List renaming append_assoc → ya, length_drop → yb, length_take → yc
open _root_.Nat renaming mul_le_mul_right → yd, succ_mul → ye
open _root_.Array renaming length_toList → yf
open Go.RowKit
variable [Lb]

theorem zds {w w':World} {O O':Nat→Prop} (t:Tr O w O' w') {b q:Nat} {u:Value} (h:w.cell? ⟨b,q,none⟩=some u) (hb:¬O b):w'.cell? ⟨b,q,none⟩=some u:=by
 have hlt:b<w.heap.size:=by
  rcases Nat.lt_or_ge b w.heap.size with h'|h'
  ·exact h'
  ·simp [World.cell?,Array.getElem?_eq_none h'] at h
 have:=t.block b hlt hb
 simpa [World.cell?,this] using h
theorem RDl.set {w:World} {O:Nat→Prop} {m:Nat} {x:List D} {vs:List Value} (hx:RDs w O x vs) (hm:vs.length=m):∀ {l:List (List D)} {cs:List Value} {j:Nat},RDl w O m l cs→j<l.length→(j+1)*m≤cs.length →
  RDl w O m (l.set j x) (cs.take (j*m)++vs++cs.drop (j*m+m))
 | [],_,_,_,h,_=>by simp at h
 | y::l,cs,0,h,_,_=>by
  refine ⟨?_,?_⟩
  ·simpa [←hm] using hx
  ·have:=h.2
   subst hm
   simpa using this
 | y::l,cs,j+1,h,hj,hl=>by
  have e0:(j+1)*m=j*m+m:=ye j m
  have h1:m≤((j+1)*m):=by rw [e0];omega
  have h2:m≤cs.length:=by rw [ye] at hl;omega
  have ih:=RDl.set hx hm (l:=l) (cs:=cs.drop m) (j:=j) h.2 (by simpa using hj) (by rw [yb,ye];rw [ye,e0] at hl;omega)
  have h3:(cs.take ((j+1)*m)).length=(j+1)*m:=by rw [yc];rw [ye] at hl;omega
  refine ⟨?_,?_⟩
  ·rw [ya,List.take_append_of_le_length (by omega),List.take_take,Nat.min_eq_left h1]
   exact h.1
  ·rw [ya,List.drop_append_of_le_length (by omega),List.drop_take]
   have e1:(j+1)*m - m=j*m:=by omega
   rw [e1,←ya]
   have e2:cs.drop ((j+1)*m+m)=(cs.drop m).drop (j*m+m):=by rw [List.drop_drop];congr 1;omega
   rw [e2]
   exact ih
theorem Own.store {P:Program} {w:World} {O:Nat→Prop} {T m:Nat} {v:Value} {l:List (List D)} {x:List D} {vs:List Value} {b q len cap j:Nat} (h:Own w O T m v l) (hv:v = .slice (some ⟨b,q,none⟩) len cap) (hj:j<l.length) (hm:vs.length=m)
  (h1:vs.all (·.oneCell')=true) (hx:RDs w O x vs):∃ w',(storeCells ⟨b,q+j*m,none⟩ vs).run P w = .ok () w'∧Own w' O T m v (l.set j x)∧Ext (fun y=>v.ownBlock=some y) w w':=by
 obtain ⟨xs,k1,k2,k3,k4⟩:=h
 rcases k1.2 with ⟨k5,_⟩|⟨g,cap',cur,k5,k6,k7,k8,k9,k10,k11⟩
 ·rw [k5] at hv;cases hv
 ·have hv2:=hv.symm.trans k5
  simp only [Value.slice.injEq,Option.some.injEq,Addr.mk.injEq,and_true] at hv2
  obtain ⟨⟨rfl,rfl⟩,rfl,rfl⟩:=hv2
  have hb:z0r w b T cur.toList:=by simpa [z0r] using k7
  have hle:(j+1)*m≤cap*m:=yd m (by omega)
  have hle2:(j+1)*m≤l.length*m:=yd m (by omega)
  have e0:(j+1)*m=j*m+m:=ye j m
  obtain ⟨w',hr,hb',hx'⟩:=Ext.zc0 (P:=P) (o:=0+j*m) (vs:=vs) hb (by rw [hm,yf,k10];omega) (by simpa using h1)
  have hown:∀ y,v.ownBlock=some y→O y:=k4
  have hblk:v.ownBlock=some b:=by rw [k5];rfl
  have hF:Ext (fun y=>v.ownBlock=some y) w w':=hx'.mono fun y _ hy=>by cases hy;exact hblk
  have t:Tr O w O w':=Tr.z2p hF fun y _ hy=>hown y hy
  have hrd:RDl w O m l cur.toList:=by
   rw [←k11] at k2
   exact RDl.zem (by simpa using k2)
  have hrd2:=(RDl.set hx hm (j:=j) hrd hj (by rw [yf,k10];exact hle)).tr t
  have hlen:(cur.toList.take (j*m)++vs++cur.toList.drop (j*m+m)).length=cap*m:=by
   simp only [List.length_append,yc,yb,yf,k10,hm]
   omega
  refine ⟨w',hr,⟨(cur.toList.take (j*m)++vs++cur.toList.drop (j*m+m)).take (l.length*m),⟨?_,.inr ⟨b,cap,(cur.toList.take (j*m)++vs++cur.toList.drop (j*m+m)).toArray,?_,k6,?_,?_,k9,?_,?_⟩⟩,?_,?_,k4⟩,hF⟩
  ·have hc:l.length*m≤cap*m:=yd m k8
   simp only [yc,hlen,List.length_set]
   omega
  ·simpa using k5
  ·rw [Nat.zero_add,hm] at hb'
   exact hb'
  ·simpa using k8
  ·simpa using hlen
  ·simp
  ·have:=RDl.z9e hrd2
   simpa using this
  ·have:=RDl.one hrd2
   simpa using this
section
variable {C:Cx} {n:Nat} {ds:List Deferred} {k:Act→World→Prop} {L:Env} {w:World} {ops:Array Oper} {o:Oper} {rest:List Oper}
theorem OW.zx7 {α:Type} {f:α→List D} {l:List α} {a:α} {O:Nat→Prop} {T U:TypeId} {x y:Operand} {b q len cap j m:Nat} {g:Bool} {u v:Value} {vs:List Value} (hg:o.guard=none) (hd:o.dst=none) (ho:o.op = .store T x y) (hT:shp C.P T=some (g,m)) (hx:ev L x=some (.pointer (some ⟨b,q+j*m,none⟩)))
  (hy:ev L y=some u) (hu:u.cells=vs.toArray) (hm:vs.length=m) (hv:v = .slice (some ⟨b,q,none⟩) len cap) (hown:Own w O U m v (l.map f)) (hj:j<l.length) (h1:vs.all (·.oneCell')=true) (hr:RDs w O (f a) vs)
  (h:∀ w',Own w' O U m v ((l.set j a).map f)→Ext (fun y=>v.ownBlock=some y) w w'→OW C n ds ops rest k L w'):OW C n ds ops (o::rest) k L w:=by
 obtain ⟨w',hrun,ho',hx'⟩:=Own.store (P:=C.P) hown hv (by simpa using hj) hm h1 hr
 refine OW.unit (w':=w') hg hd (fun a ha => ?_) (h w' (by rw [List.map_set];exact ho') hx')
 simp [execOp,ho,ha.ev hx,ha.ev hy,Instr.storeAt,Instr.sureAddr,storeVar,hu,(z0j hT).2,hm,hrun]
end
end Go.Lk
end
section
namespace Go.Lk
open Go.RowKit
variable [Lb]
section
variable {C:Cx} {n:Nat} {ds:List Deferred} {L:Env} {w:World} {o:Oper} {v:Value}
theorem EX.eqNN {t te u:TypeId} {x y:Operand} {j:TypeInfo} (ho:o.op = .binOp .eql t x y u) (ht:C.P.underlying t=some (.pointer te)) (hj:C.P.info? te=some j) (hx:ev L x=some (.pointer none)) (hy:ev L y=some (.pointer none)):EX C n L w o (.bool true):=fun a ha=>by
 have h:∀ d:Nat,(Op.equalIn (d+1) t (.pointer none) (.pointer none)).run C.P w = .ok true w:=fun d=>by
  simp [Op.equalIn,run_underlying ht,sizeOf,typeInfo,hj]
 simp [execOp,ho,ha.ev hx,ha.ev hy,binOp,eqGuard,Op.equal,Op.maxDepth,h 9999]
theorem EX.eqSN {t te u:TypeId} {x y:Operand} {j:TypeInfo} {p:Addr} (ho:o.op = .binOp .eql t x y u) (ht:C.P.underlying t=some (.pointer te)) (hj:C.P.info? te=some j) (hx:ev L x=some (.pointer (some p))) (hy:ev L y=some (.pointer none)):EX C n L w o (.bool false):=fun a ha=>by
 have h:∀ d:Nat,(Op.equalIn (d+1) t (.pointer (some p)) (.pointer none)).run C.P w = .ok false w:=fun d=>by
  simp [Op.equalIn,run_underlying ht,sizeOf,typeInfo,hj]
 simp [execOp,ho,ha.ev hx,ha.ev hy,binOp,eqGuard,Op.equal,Op.maxDepth,h 9999]
theorem EX.neSS {t te u:TypeId} {x y:Operand} {j:TypeInfo} {p:Addr} (ho:o.op = .binOp .neq t x y u) (ht:C.P.underlying t=some (.pointer te)) (hj:C.P.info? te=some j) (hx:ev L x=some (.pointer (some p))) (hy:ev L y=some (.pointer (some p))):EX C n L w o (.bool false):=fun a ha=>by
 simp [execOp,ho,ha.ev hx,ha.ev hy,eqGuard,Lib.run_neq_ptr_same w p ht hj]
theorem EX.toU {s t te e:TypeId} {x:Operand} {j:TypeInfo} {b cells:Nat} (ho:o.op = .convert s t x) (hs:C.P.underlying s=some (.pointer te)) (hd:C.P.underlying t=some .unsafePointer) (ht:C.P.info? te=some j) (hj:j.size≠0)
  (hx:ev L x=some (.pointer (some ⟨b,0,none⟩))) (hsh:w.shape? b=some (e,cells)) (hoff:0<cells):EX C n L w o (.pointer (some ⟨b,0,none⟩)):=fun a ha=>by
 simp [execOp,ho,ha.ev hx,Lib.run_to_unsafe w ⟨b,0,none⟩ hs hd ht hj hsh hoff]
theorem EX.zyq {s t te e:TypeId} {x:Operand} {j:TypeInfo} {b cells:Nat} (ho:o.op = .convert s t x) (hs:C.P.underlying s=some .unsafePointer) (hd:C.P.underlying t=some (.pointer te)) (ht:C.P.info? te=some j)
  (hx:ev L x=some (.pointer (some ⟨b,0,none⟩))) (hsh:w.shape? b=some (e,cells)) (hl:liesAt C.P C.P.depth e (cells / C.P.cellsOf e) 0 te 1=true):EX C n L w o (.pointer (some ⟨b,0,none⟩)):=fun a ha=>by
 simp [execOp,ho,ha.ev hx,Lib.run_from_unsafe w ⟨b,0,none⟩ hs hd ht hsh hl]
theorem EX.ext1 {x y:Operand} {ts:Array TypeId} {g:FuncId} {u:Value} (ho:o.op = .call { callee:=.value x,args := #[y],argTypes:=ts }) (hx:ev L x=some (.func (.func g) #[] #[])) (hy:ev L y=some u) (hent:∀ w,(callFunc g #[u]).run C.P w = .ok (.value v) w):EX C n L w o v:=fun a ha=>by
 simp only [execOp,ho,resolve,ha.ev hx,Deferred.ofValue,Sem.run_bind,Sem.run_pure,Result.andThen_ok]
 simp [invoke,ha.ev hy,hent]
theorem zor {P:Program} {g:FuncId} {fn:Func} (hf:P.funcs[g]? = some fn) (hname:(fn.name == "runtime.NumGoroutine")=false) (hb:fn.body.isNone=true) (hn:Extern.findNext fn=none) (he:Extern.find fn=some Extern.AbiNoEscape.same) (u:Value) (w:World):(callFunc g #[u]).run P w = .ok (.value u) w:=by
 rw [run_callFunc_extern hf hname hb hn he,Lib.run_noEscape]
 rfl
end
end Go.Lk
end
section
namespace Go.Lk
open _root_.Bool renaming false_eq_true → ya
open _root_.List renaming eraseIdx_cons_succ → yb
open _root_.Array renaming getElem?_eq_some_iff → yc
open Go.RowKit
variable [Lb]
def kdT:Option IntKind→TypeDesc
 | some k => .int k
 | none => .string
def zm7:Option IntKind→D→Prop
 | some k,.int k' _=>k'=k
 | none,.str _=>True
 | _,_=>False
def kEq:D→D→Bool
 | .int _ a,.int _ b=>decide (a=b)
 | .str a,.str b=>decide (a=b)
 | _,_=>false
def mgD:List (List D)→D→Option (List D)
 | [],_=>none
 | (k'::ds)::r,k=>if kEq k k'=true then some ds else mgD r k
 | []::r,k=>mgD r k
def z7t:List (List D)→D→List D→List (List D)
 | [],k,v=>[k::v]
 | (k'::ds)::r,k,v=>if kEq k k'=true then (k::v)::r else (k'::ds)::z7t r k v
 | []::r,k,v=>[]::z7t r k v
def z8h:List (List D)→D→List (List D)
 | [],_=>[]
 | (k'::ds)::r,k=>if kEq k k'=true then r else (k'::ds)::z8h r k
 | []::r,k=>[]::z8h r k
section
variable (w:World) (O:Nat→Prop) (ky:Option IntKind) (g:Bool)
def zfd (ds:List D) (v:Value):Prop:=match g with
 | true=>∃ vs,v = .agg (List.toArray vs)∧RDs w O ds vs
 | false=>∃ d,ds=[d]∧RD w O d v
def zpf (e:MapEntry) (x:List D):Prop := ∃ k ds,x=k::ds∧zm7 ky k∧RD w O k e.key∧zfd w O g ds e.val
def z2n:List MapEntry→List (List D)→Prop
 | [],[]=>True
 | e::es,x::l=>zpf w O ky g e x∧z2n es l
 | _,_=>False
end
def zs8 (es:List MapEntry):Value:=.agg ((es.map fun e=>Value.tuple #[e.key,e.val]).toArray)
section
variable {w w':World} {O O':Nat→Prop} {ky:Option IntKind} {g:Bool}
theorem zfd.tr {ds:List D} {v:Value} (h:zfd w O g ds v) (t:Tr O w O' w'):zfd w' O' g ds v:=by
 cases g with
 | true =>
  obtain ⟨vs,h1,h2⟩:=h
  exact ⟨vs,h1,h2.tr t⟩
 | false =>
  obtain ⟨d,h1,h2⟩:=h
  exact ⟨d,h1,h2.tr t⟩
theorem zpf.tr {e:MapEntry} {x:List D} (h:zpf w O ky g e x) (t:Tr O w O' w'):zpf w' O' ky g e x:=by
 obtain ⟨k,ds,h1,h2,h3,h4⟩:=h
 exact ⟨k,ds,h1,h2,h3.tr t,h4.tr t⟩
theorem z2n.tr:∀ {es:List MapEntry} {l:List (List D)},z2n w O ky g es l→Tr O w O' w'→z2n w' O' ky g es l
 | [],[],_,_=>trivial
 | _::_,_::_,h,t=>⟨h.1.tr t,z2n.tr h.2 t⟩
 | [],_::_,h,_=>h.elim
 | _::_,[],h,_=>h.elim
theorem z2n.len:∀ {es:List MapEntry} {l:List (List D)},z2n w O ky g es l→es.length=l.length
 | [],[],_=>rfl
 | _::_,_::_,h=>by simp [z2n.len h.2]
 | [],_::_,h=>h.elim
 | _::_,[],h=>h.elim
theorem zpf.alike {e e':MapEntry} {x:List D} (h:zpf w O ky g e x) (h1:e'.key=e.key) (h2:e'.val=e.val):zpf w O ky g e' x:=by
 unfold zpf at h ⊢
 rw [h1,h2]
 exact h
theorem z2n.enc:∀ {es es':List MapEntry} {l:List (List D)},z2n w O ky g es l→zs8 es=zs8 es'→z2n w O ky g es' l:=by
 have key:∀ {es es':List MapEntry} {l:List (List D)},z2n w O ky g es l→(es.map fun e=>Value.tuple #[e.key,e.val])=(es'.map fun e=>Value.tuple #[e.key,e.val])→z2n w O ky g es' l:=by
  intro es
  induction es with
  | nil =>
   intro es' l h e
   have:es'=[]:=by simpa using e.symm
   subst this
   exact h
  | cons a es ih =>
   intro es' l h e
   cases es' with
   | nil=>simp at e
   | cons b es' =>
    cases l with
    | nil=>exact h.elim
    | cons x l =>
     simp only [List.map_cons,List.cons.injEq,Value.tuple.injEq] at e
     obtain ⟨e1,e2⟩:=e
     have e3:a.key=b.key∧a.val=b.val:=by simpa using e1
     exact ⟨h.1.alike e3.1.symm e3.2.symm,ih h.2 e2⟩
 intro es es' l h e
 refine key h ?_
 unfold zs8 at e
 have:=Value.agg.inj e
 simpa using this
theorem z2n.get:∀ {es:List MapEntry} {l:List (List D)} {i:Nat} {e:MapEntry},z2n w O ky g es l→es[i]? = some e→∃ x,l[i]? = some x∧zpf w O ky g e x
 | e0::es,x::l,0,e,h,he=>by
  simp at he
  subst he
  exact ⟨x,rfl,h.1⟩
 | e0::es,x::l,i+1,e,h,he=>by simpa using z2n.get h.2 (by simpa using he)
 | [],_,_,_,_,he=>by simp at he
 | _::_,[],_,_,h,_=>h.elim
theorem z2n.erase:∀ {es:List MapEntry} {l:List (List D)} (i:Nat),z2n w O ky g es l→z2n w O ky g (es.eraseIdx i) (l.eraseIdx i)
 | [],[],_,_=>by simp;trivial
 | e::es,x::l,0,h=>by simpa using h.2
 | e::es,x::l,i+1,h=>by
  simp only [yb]
  exact ⟨h.1,z2n.erase i h.2⟩
 | [],_::_,_,h=>h.elim
 | _::_,[],_,h=>h.elim
theorem zd6 {k:D} {v:Value} (hk:zm7 ky k) (h:RD w O k v):MapKept.IsKey (kdT ky) v:=by
 cases ky<;>cases k<;>simp only [zm7] at hk
 ·simp only [RD] at h
  subst h
  simp [MapKept.IsKey,kdT]
 ·simp only [RD] at h
  subst h hk
  simp [MapKept.IsKey,kdT]
theorem zts {k k':D} {v v':Value} (hk:zm7 ky k) (hk':zm7 ky k') (h:RD w O k v) (h':RD w O k' v'):kEq k k'=true↔v=v':=by
 cases ky<;>cases k<;>simp only [zm7] at hk<;>cases k'<;>simp only [zm7] at hk'
 ·simp only [RD] at h h'
  subst h h'
  simp [kEq]
 ·simp only [RD] at h h'
  subst h h' hk hk'
  simp [kEq]
theorem find_spec {k:D} {kv:Value} (hk:zm7 ky k) (hkv:RD w O k kv):∀ (es:List MapEntry) (l:List (List D)) (i:Nat),z2n w O ky g es l →
  (Instr.findNow (kdT ky) kv es i=some none∧mgD l k=none∧z8h l k=l∧(∀ x∈es,x.key≠kv)∧∀ vd val,zfd w O g vd val→∀ c,z2n w O ky g (es++[⟨kv,val,c⟩]) (z7t l k vd)) ∨
  ∃ j e ds,Instr.findNow (kdT ky) kv es i=some (some (i+j,e.val))∧es[j]? = some e∧e.key=kv∧mgD l k=some ds∧zfd w O g ds e.val∧z2n w O ky g (es.eraseIdx j) (z8h l k) ∧
   ∀ vd val,zfd w O g vd val→z2n w O ky g (es.modify j fun e => { e with key:=kv,val:=val }) (z7t l k vd)
 | [],[],i,_ => .inl ⟨rfl,rfl,rfl,by simp,fun vd val hv c=>⟨⟨k,vd,rfl,hk,hkv,hv⟩,trivial⟩⟩
 | e::es,x::l,i,h=>by
  obtain ⟨⟨k',ds,rfl,h2,h3,h4⟩,h5⟩:=h
  have hi:=zts hk h2 hkv h3
  obtain ⟨r,hr,hiff⟩:=MapKept.sameNow_of_keys (zd6 hk hkv) (zd6 h2 h3)
  by_cases hq:kEq k k'=true
  ·have hkk:=hi.1 hq
   have hrt:r=true:=hiff.2 hkk
   subst hrt
   refine .inr ⟨0,e,ds,by simp [Instr.findNow,hr],rfl,hkk.symm,by simp [mgD,hq],h4,by simpa [z8h,hq] using h5,fun vd val hv => ?_⟩
   simp only [z7t,hq,if_true,List.modify_zero_cons]
   exact ⟨⟨k,vd,rfl,hk,hkv,hv⟩,h5⟩
  ·have hne:¬kv=e.key:=fun q=>hq (hi.2 q)
   have hrf:r=false:=by
    cases r with
    | false=>rfl
    | true=>exact (hne (hiff.1 rfl)).elim
   subst hrf
   rcases find_spec hk hkv es l (i+1) h5 with ⟨f1,f2,f3,f4,f5⟩|⟨j,e',ds',f1,f2,f3,f4,f5,f6,f7⟩
   ·refine .inl ⟨by simp [Instr.findNow,hr,f1],by simp [mgD,hq,f2],by simp [z8h,hq,f3],fun x hx => ?_,fun vd val hv c => ?_⟩
    ·rcases List.mem_cons.1 hx with rfl|hx
     ·exact fun q=>hne q.symm
     ·exact f4 x hx
    ·simp only [z7t,hq,ya,if_false,List.cons_append]
     exact ⟨⟨k',ds,rfl,h2,h3,h4⟩,f5 vd val hv c⟩
   ·refine .inr ⟨j+1,e',ds',by simp [Instr.findNow,hr,f1];omega,by simpa using f2,f3,by simp [mgD,hq,f4],f5,?_,fun vd val hv => ?_⟩
    ·simp only [z8h,hq,ya,if_false,yb]
     exact ⟨⟨k',ds,rfl,h2,h3,h4⟩,f6⟩
    ·simp only [z7t,hq,ya,if_false,List.modify_succ_cons]
     exact ⟨⟨k',ds,rfl,h2,h3,h4⟩,f7 vd val hv⟩
 | [],_::_,_,h=>h.elim
 | _::_,[],_,h=>h.elim
def zhg (w:World) (m:Nat) (us:List Value):Prop := ∃ es clock,w.heap[m]? = some (.map es clock)∧MapKept.Stamped es clock∧us=[zs8 es.toList]
theorem zhg.keep {F:Nat→Prop} {m:Nat} {us:List Value} (h:zhg w m us) (x:Ext F w w') (hf:¬F m):zhg w' m us:=by
 obtain ⟨es,clock,h1,h2,h3⟩:=h
 exact ⟨es,clock,(x.block m (yc.1 h1).1 hf).trans h1,h2,h3⟩
section
variable {P:Program} {t kt et:TypeId} {m:Nat} {es:Array MapEntry} {clock:Nat} {l:List (List D)} {k:D} {kv:Value}
theorem zrd {P:Program} {T:TypeId} {z:Value} {w:World} (h:zer P T=some z):(zeroValue T).run P w = .ok z w:=by
 unfold zer at h
 cases hi:P.info? T with
 | none=>rw [hi] at h;cases h
 | some i =>
  rw [hi] at h
  simp only [Option.bind_some] at h
  simp [zeroValue,typeInfo,Sem.run_bind,Sem.run,hi,h]
theorem zlz (ht:P.underlying t=some (.map kt et)) (hkt:P.underlying kt=some (kdT ky)) {z:Value} (hz:zer P et=some z) (hb:w.heap[m]? = some (.map es clock)) (h:z2n w O ky g es.toList l) (hk:zm7 ky k) (hkv:RD w O k kv) (c:Bool) :
  ∃ v ok,(Instr.lookup t (.map (some m)) kv c).run P w = .ok (if c=true then .tuple #[v,.bool ok] else v) w∧((mgD l k=none∧v=z∧ok=false)∨∃ ds,mgD l k=some ds∧zfd w O g ds v∧ok=true):=by
 have hz':(zeroValue et).run P w = .ok z w:=zrd hz
 rcases find_spec hk hkv es.toList l 0 h with ⟨f1,f2,_⟩|⟨j,e,ds,f1,_,_,f4,f5,_⟩
 ·refine ⟨z,false,?_,.inl ⟨f2,rfl,rfl⟩⟩
  simp only [Instr.lookup,Sem.run_bind,run_underlying ht,Result.andThen_ok,MapKept.run_getObj_map hb,Sem.run_pure,MapKept.run_checkKey hkt (zd6 hk hkv),MapKept.run_findKey hkt f1,hz']
 ·refine ⟨e.val,true,?_,.inr ⟨ds,f4,f5,rfl⟩⟩
  simp only [Instr.lookup,Sem.run_bind,run_underlying ht,Result.andThen_ok,MapKept.run_getObj_map hb,Sem.run_pure,MapKept.run_checkKey hkt (zd6 hk hkv),MapKept.run_findKey hkt f1]
theorem Ext.zh1 {o o':Obj} (hb:w.heap[m]? = some o):Ext (At m) w { w with heap:=w.heap.setIfInBounds m o' } :=
 ⟨rfl,rfl,rfl,by simp,fun b hb' hne=>(MapKept.heap_set (w:=w) (o':=o') hb).2 b hne⟩
theorem zey (ht:P.underlying t=some (.map kt et)) (hkt:P.underlying kt=some (kdT ky)) (hb:w.heap[m]? = some (.map es clock)) (hs:MapKept.Stamped es clock) (h:z2n w O ky g es.toList l) (hk:zm7 ky k) (hkv:RD w O k kv) {vd:List D} {val:Value} (hv:zfd w O g vd val) :
  ∃ es' clock' w',(Instr.mapUpdate t (.map (some m)) kv val).run P w = .ok () w'∧w'.heap[m]? = some (.map es' clock')∧MapKept.Stamped es' clock'∧z2n w O ky g es'.toList (z7t l k vd)∧Ext (At m) w w':=by
 have hik:=zd6 hk hkv
 rcases find_spec hk hkv es.toList l 0 h with ⟨f1,f2,f3,f4,f5⟩|⟨j,e,ds,f1,f2,f3,f4,f5,f6,f7⟩
 ·refine ⟨es.push { key:=kv,val:=val,born:=clock },clock+1,{ w with heap:=w.heap.setIfInBounds m (.map (es.push { key:=kv,val:=val,born:=clock }) (clock+1)) },?_,(MapKept.heap_set hb).1,MapKept.stamped_push hs f4,by simpa using f5 vd val hv clock,Ext.zh1 hb⟩
  simp [Instr.mapUpdate,run_underlying ht,MapKept.run_getObj_map hb,MapKept.run_checkKey hkt hik,MapKept.run_findKey hkt f1,MapKept.run_setObj_map _ hb,Result.andThen]
 ·have hj:es[j]? = some e:=by simpa using f2
  have hkey:∀ e',es[j]? = some e'→({ e' with key:=kv,val:=val }:MapEntry).key=e'.key:=fun e' he'=>by rw [hj] at he';cases he';exact f3.symm
  refine ⟨es.modify j fun e => { e with key:=kv,val:=val },clock,{ w with heap:=w.heap.setIfInBounds m (.map (es.modify j fun e => { e with key:=kv,val:=val }) clock) },?_,(MapKept.heap_set hb).1,MapKept.stamped_modify hs _ _ (fun _ _=>rfl) (fun e' _ he'=>hkey e' he'),by rw [Array.toList_modify];exact f7 vd val hv,Ext.zh1 hb⟩
  simp [Instr.mapUpdate,run_underlying ht,MapKept.run_getObj_map hb,MapKept.run_checkKey hkt hik,MapKept.run_findKey hkt f1,hj,f3,MapKept.run_keyThatStays hik,MapKept.run_setObj_map _ hb,Result.andThen]
theorem zlx {ty:TypeId} (ht:P.underlying t=some (.map kt et)) (hkt:P.underlying kt=some (kdT ky)) (hb:w.heap[m]? = some (.map es clock)) (hs:MapKept.Stamped es clock) (h:z2n w O ky g es.toList l) (hk:zm7 ky k) (hkv:RD w O k kv) {ts:Array TypeId} (h0:ts[0]? = some t) :
  ∃ es' clock' w',(Builtin.delete_ ts ty #[.map (some m),kv]).run P w = .ok (.tuple #[]) w'∧w'.heap[m]? = some (.map es' clock')∧MapKept.Stamped es' clock'∧z2n w O ky g es'.toList (z8h l k)∧Ext (At m) w w':=by
 have hik:=zd6 hk hkv
 rcases find_spec hk hkv es.toList l 0 h with ⟨f1,f2,f3,f4,f5⟩|⟨j,e,ds,f1,f2,f3,f4,f5,f6,f7⟩
 ·refine ⟨es,clock,{ w with heap:=w.heap.setIfInBounds m (.map es clock) },?_,(MapKept.heap_set hb).1,hs,by rw [f3];exact h,Ext.zh1 hb⟩
  simp [Builtin.delete_,h0,run_underlying ht,MapKept.run_getObj_map hb,MapKept.run_checkKey hkt hik,MapKept.run_findKey hkt f1,MapKept.run_setObj_map _ hb,Result.andThen]
 ·have hj:es[j]? = some e:=by simpa using f2
  have hlt:j<es.size:=(yc.1 hj).1
  have he:(es.eraseIdxIfInBounds j).toList=es.toList.eraseIdx j:=by
   unfold Array.eraseIdxIfInBounds
   rw [dif_pos hlt,Array.toList_eraseIdx]
  refine ⟨es.eraseIdxIfInBounds j,clock,{ w with heap:=w.heap.setIfInBounds m (.map (es.eraseIdxIfInBounds j) clock) },?_,(MapKept.heap_set hb).1,MapKept.stamped_erase hs _,by rw [he];exact f6,Ext.zh1 hb⟩
  simp [Builtin.delete_,h0,run_underlying ht,MapKept.run_getObj_map hb,MapKept.run_checkKey hkt hik,MapKept.run_findKey hkt f1,MapKept.run_setObj_map _ hb,Result.andThen]
def za4 (es:List MapEntry) (seen:List Nat):List MapEntry:=es.filter fun e => !seen.contains e.born
def encI (m since:Nat) (seen:List Nat) (last:Nat):Value:=.agg #[.map (some m),.int .i64 since,.int .i64 last,.agg ((seen.map fun n:Nat=>Value.int .i64 (n:Int)).toArray)]
theorem zjd {m m' since since' last last':Nat} {seen seen':List Nat} (h:encI m since seen last=encI m' since' seen' last'):m=m'∧since=since'∧seen=seen'∧last=last':=by
 simp only [encI,Value.agg.injEq,Array.mk.injEq,List.cons.injEq,Value.map.injEq,Option.some.injEq,Value.int.injEq,true_and,and_true] at h
 obtain ⟨h1,h2,h3,h4⟩:=h
 refine ⟨h1,by omega,?_,by omega⟩
 have h5:(seen.map fun n:Nat=>Value.int .i64 (n:Int))=seen'.map fun n:Nat=>Value.int .i64 (n:Int):=by simpa using h4
 refine (List.map_inj_right fun a b e => ?_).1 h5
 have:=(Value.int.inj e).2
 omega
def zah (w:World) (r:Nat) (us:List Value):Prop := ∃ m since seen last,w.heap[r]? = some (.mapIter (some m) since seen last)∧us=[encI m since seen.toList last]
theorem zah.keep {F:Nat→Prop} {m:Nat} {us:List Value} (h:zah w m us) (x:Ext F w w') (hf:¬F m):zah w' m us:=by
 obtain ⟨q,since,seen,last,h1,h2⟩:=h
 exact ⟨q,since,seen,last,(x.block m (yc.1 h1).1 hf).trans h1,h2⟩
theorem zgx {r since last:Nat} {q:Option Nat} {seen:Array Nat} (hb:w.heap[r]? = some (.mapIter q since seen last)):(getObj r).run P w = .ok (.mapIter q since seen last) w:=by
 simp [getObj,Sem.run,hb]
theorem zot {r since last:Nat} {q:Option Nat} {seen:Array Nat} (o':Obj) (hb:w.heap[r]? = some (.mapIter q since seen last)):(setObj r o').run P w = .ok () { w with heap:=w.heap.setIfInBounds r o' }:=by
 simp [setObj,Sem.run,hb]
theorem zos (ht:P.underlying t=some (.map kt et)) (hb:w.heap[m]? = some (.map es clock)) :
  (Instr.range t (.map (some m))).run P w = .ok (.pointer (some ⟨w.heap.size,0,none⟩)) (w.alloc (.mapIter (some m) clock #[] clock)):=by
 simp [Instr.range,run_underlying ht,MapKept.run_getObj_map hb]
theorem zrc {ty:TypeId} {r:Nat} {seen:Array Nat} (hb:w.heap[m]? = some (.map es clock)) (hr:w.heap[r]? = some (.mapIter (some m) clock seen clock)) (hold:∀ x∈es.toList,x.born<clock) :
  (za4 es.toList seen.toList=[]∧(Instr.next (.pointer (some ⟨r,0,none⟩)) false ty).run P w = .ok (.tuple #[.bool false]) w) ∨
  ∃ (i:Nat) (e:MapEntry),(za4 es.toList seen.toList)[i]? = some e∧∃ w',Ext (At r) w w'∧w'.heap[r]? = some (.mapIter (some m) clock (seen.push e.born) clock)∧(Instr.next (.pointer (some ⟨r,0,none⟩)) false ty).run P w = .ok (.tuple #[.bool true,e.key,e.val]) w':=by
 simp only [Instr.next,Sem.run_bind,zgx hr,MapKept.run_getObj_map hb,Result.andThen_ok,Go.next_test_false seen es clock clock hold (Nat.le_refl _),ya,if_false]
 have hL:za4 es.toList seen.toList=(es.filter fun e => !seen.contains e.born).toList:=by
  unfold za4
  rw [Array.toList_filter]
  congr 1
  funext e
  rw [Array.contains_toList]
 have hmem:∀ x∈(Array.filter (fun e => !seen.contains e.born) es).toList,x.born<clock:=fun x hx=>hold x (by simp at hx ⊢;exact hx.1)
 rw [hL]
 generalize Array.filter (fun e => !seen.contains e.born) es=L at hmem ⊢
 have e1:L.filter (fun x=>decide (x.born<clock))=L:=Array.filter_eq_self.2 (fun x hx=>by simpa using hmem x (by simpa using hx))
 have e2:L.filter (fun x=>decide (x.born≥clock)) = #[]:=by
  rw [Array.filter_eq_empty_iff]
  intro x hx
  have:=hmem x (by simpa using hx)
  simp
  omega
 simp only [e1,e2,Array.append_empty]
 by_cases h0:L.size=0
 ·left
  have:L = #[]:=Array.eq_empty_of_size_eq_zero h0
  subst this
  refine ⟨rfl,?_⟩
  simp [choose,Sem.run,Question.forced]
 ·right
  have hne:L.isEmpty=false:=by simp [Array.isEmpty,h0]
  simp only [hne,ya,if_false,Array.empty_append,Array.size_map]
  have hch:∃ (j:Nat) (w1:World),j<L.size∧Ext z0h w w1∧w1.heap=w.heap∧(choose (Question.mapNext L.size)).run P w = .ok j w1:=by
   by_cases hf:L.size≤1
   ·exact ⟨0,w,by omega,Ext.refl _ _,rfl,by simp [choose,Sem.run,Question.forced,hf]⟩
   ·exact ⟨_,w.drew,Nat.mod_lt _ (by omega),⟨rfl,rfl,rfl,Nat.le_refl _,fun _ _ _=>rfl⟩,rfl,by
     simp only [choose,Sem.run,Question.forced,decide_eq_true_eq,hf,if_false,Question.cut]
     rfl⟩
  obtain ⟨j,w1,hj,hx,hh,hc⟩:=hch
  have hr1:w1.heap[r]? = some (.mapIter (some m) clock seen clock):=by rw [hh];exact hr
  refine ⟨j,L[j],by simp [hj],{ w1 with heap:=w1.heap.setIfInBounds r (.mapIter (some m) clock (seen.push L[j].born) clock) },?_,(MapKept.heap_set hr1).1,?_⟩
  ·exact (hx.mono fun _ _ h=>h.elim).trans (Ext.zh1 hr1)
  ·simp only [hc,Result.andThen_ok]
   simp [hj,zot _ hr1,Result.andThen]
theorem zop {r last:Nat} {seen:Array Nat} {since:Nat} {b:Nat} {e:MapEntry} (hb:w.heap[m]? = some (.map es last)) (hr:w.heap[r]? = some (.mapIter (some m) since seen last)) (hs:seen.back? = some b) (he:es.toList.find? (fun e=>e.born==b)=some e) :
  (Instr.entry (.pointer (some ⟨r,0,none⟩))).run P w = .ok (.tuple #[e.key,e.val]) w:=by
 have he':es.find? (fun e=>e.born==b)=some e:=by rw [←Array.find?_toList];exact he
 simp [Instr.entry,zgx hr,MapKept.run_getObj_map hb,hs,he',Result.andThen]
end
theorem Stamped.nil:MapKept.Stamped #[] 0:=⟨by simp,by simp,by simp⟩
inductive MC where
 | cont (ky:Option IntKind) (g:Bool) (l:List (List D))
 | it (ky:Option IntKind) (g:Bool) (cur:Option (List D)) (rem:List (List D))
def zxh (w:World) (O:Nat→Prop) (m:Nat) (es:Array MapEntry) (clock:Nat):Prop:=w.heap[m]? = some (.map es clock)∧MapKept.Stamped es clock∧¬O m
def CurR (w:World) (O:Nat→Prop) (ky:Option IntKind) (g:Bool) (es:Array MapEntry) (seen:Array Nat):Option (List D)→Prop
 | none=>True
 | some x=>∃ b e,seen.back? = some b∧es.toList.find? (fun e=>e.born==b)=some e∧zpf w O ky g e x
def MR (w:World) (O:Nat→Prop):MC→Value→Prop
 | .cont ky g l,u=>∃ es,u=zs8 es∧z2n w O ky g es l
 | .it ky g cur rem,u=>∃ m seen clock es,u=encI m clock seen.toList clock∧zxh w O m es clock∧z2n w O ky g (za4 es.toList seen.toList) rem∧CurR w O ky g es seen cur
theorem zxh.tr {m:Nat} {es:Array MapEntry} {clock:Nat} (h:zxh w O m es clock) (t:Tr O w O' w'):zxh w' O' m es clock :=
 have hm:=(yc.1 h.1).1
 ⟨(t.block m hm h.2.2).trans h.1,h.2.1,t.owned m hm h.2.2⟩
theorem MR.tr {c:MC} {u:Value} (h:MR w O c u) (t:Tr O w O' w'):MR w' O' c u:=by
 cases c with
 | cont ky g l =>
  obtain ⟨es,h1,h2⟩:=h
  exact ⟨es,h1,h2.tr t⟩
 | it ky g cur rem =>
  obtain ⟨m,seen,clock,es,h1,h2,h3,h4⟩:=h
  refine ⟨m,seen,clock,es,h1,h2.tr t,h3.tr t,?_⟩
  cases cur with
  | none=>trivial
  | some x =>
   obtain ⟨b,e,h5,h6,h7⟩:=h4
   exact ⟨b,e,h5,h6,h7.tr t⟩
def zf8 (w:World) (b T:Nat) (us:List Value):Prop:=(T<1000000∧z0r w b T us)∨(1000000≤T∧T<2000000∧zhg w b us)∨(2000000≤T∧zah w b us)
theorem zf8.un {b T:Nat} {us:List Value} (h:zf8 w b T us) (ht:T<1000000):z0r w b T us:=by
 rcases h with h|h|h
 ·exact h.2
 ·omega
 ·omega
theorem zf8.map {b T:Nat} {us:List Value} (h:zf8 w b T us) (ht:1000000≤T) (hu:T<2000000):zhg w b us:=by
 rcases h with h|h|h
 ·omega
 ·exact h.2.2
 ·omega
theorem zf8.iter {b T:Nat} {us:List Value} (h:zf8 w b T us) (ht:2000000≤T):zah w b us:=by
 rcases h with h|h|h
 ·omega
 ·omega
 ·exact h.2
theorem zf8.keep {F:Nat→Prop} {b T:Nat} {us:List Value} (h:zf8 w b T us) (x:Ext F w w') (hf:¬F b):zf8 w' b T us :=
 h.imp (fun h=>⟨h.1,h.2.keep x hf⟩) fun h=>h.imp (fun h=>⟨h.1,h.2.1,h.2.2.keep x hf⟩) fun h=>⟨h.1,h.2.keep x hf⟩
theorem zhg.lt {m:Nat} {us:List Value} (h:zhg w m us):m<w.heap.size:=by
 obtain ⟨es,clock,h1,_⟩:=h
 exact (yc.1 h1).1
theorem zah.lt {m:Nat} {us:List Value} (h:zah w m us):m<w.heap.size:=by
 obtain ⟨_,_,_,_,h1,_⟩:=h
 exact (yc.1 h1).1
theorem zf8.lt {b T:Nat} {us:List Value} (h:zf8 w b T us):b<w.heap.size:=by
 rcases h with h|h|h
 ·exact h.2.lt
 ·exact h.2.2.lt
 ·exact h.2.lt
def zei (l:List (List D)) (k:D) (z:List D):List D:=match mgD l k with
 | some ds=>ds
 | none=>z
def zgl (l:List (List D)) (k:D):Bool:=match mgD l k with
 | some _=>true
 | none=>false
end
end Go.Lk
end
