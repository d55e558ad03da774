import Derived.Test.YtfdoofnmjehecaaGreatDoorPLmG
import Derived.Lib.UnsafeStr
import Derived.Lib.Builder
import Derived.Laws.Externs
set_option linter.all false
section
namespace Go.Lk
open _root_.Array renaming toList_inj → ya
open Go.RowKit

theorem cells_one {v:Value} (h:v.oneCell'=true):v.cells=[v].toArray:=by
 cases v<;>first|rfl|(simp [Value.oneCell'] at h)
theorem z96:([]:List Value).all (·.oneCell')=true:=rfl
theorem z74 {v:Value} {vs:List Value} (h:v.oneCell'=true) (t:vs.all (·.oneCell')=true):(v::vs).all (·.oneCell')=true:=by simp only [List.all_cons,h,t,Bool.and_self]
def Slf (b:Nat) (a:Value):Prop:=a = .pointer none∨a = .pointer (some ⟨b,0,none⟩)
theorem Ext.freeze (w:World) (g n:Nat):Ext (At g) w (w.freeze ⟨g,0,none⟩ n):=by
 unfold World.freeze
 split
 ·exact Ext.refl _ _
 ·exact ⟨rfl,rfl,rfl,by simp,fun k hk hf=>by
   simp only [Array.getElem?_modify]
   rw [if_neg (fun e=>hf e.symm)]⟩
section
variable {C:Cx} {n:Nat} {ds:List Deferred} {k:Act→World→Prop} {L:Env} {w:World} {ops:Array Oper} {o:Oper} {rest:List Oper} {d:Nat} {v:Value}
theorem OW.zu2 {x:Operand} {xs:Array Operand} {ts:Array TypeId} {g:FuncId} {vs fs z56:List Value} {dd:Option Nat} (hg:o.guard=none) (hd:o.dst=dd) (hn:dOk n dd=true) (ho:o.op = .call { callee:=.value x,args:=xs,argTypes:=ts }) (hx:ev L x=some (.func (.func g) fs.toArray z56.toArray))
  (hxs:evs L xs.toList=some vs) (hent:∀ args w,(callFunc g args).run C.P w = .ok (.enter g args) w) (h:Calls C.P g (fs++vs++z56).toArray w (zlu C n ds ops rest k L dd)):OW C n ds ops (o::rest) k L w :=
 OW.enter hg hd hn (fun a ha=>by
  have e1:xs.map a.eval=vs.toArray:=by apply ya.1;simpa using ha.evs hxs
  have e2:fs.toArray++vs.toArray++z56.toArray=(fs++vs++z56).toArray:=by simp
  simp only [execOp,ho,resolve,ha.ev hx,e1,Deferred.ofValue,Sem.run_bind,Sem.run_pure,Result.andThen_ok]
  simp only [invoke,Sem.run_bind,Sem.run_pure,Result.andThen_ok,e2,hent]) h
end
theorem TW.zo8 {C:Cx} {n:Nat} {ds:List Deferred} {k:List Item} {L:Env} {w:World} {id:Nat} {o:Oper} {x:Operand} {xs:Array Operand} {ts:Array TypeId} {g:FuncId} {vs z56:List Value} (hg:o.guard=none) (hd:o.dst=none) (ho:o.op = .defer { callee:=.value x,args:=xs,argTypes:=ts })
  (hx:ev L x=some (.func (.func g) #[] z56.toArray)) (hxs:evs L xs.toList=some vs) (h:TW C n ({ target:=.fn (.func g) z56.toArray,args:=vs.toArray }::ds) k L w):TW C n ds (.code (.region id [o].toArray false)::k) L w:=fun a ha hds cs=>by
 have e1:xs.map a.eval=vs.toArray:=by apply ya.1;simpa using ha.evs hxs
 have hrun:(execOp a.eval o).run C.P w = .ok (.defer { target:=.fn (.func g) z56.toArray,args:=vs.toArray }) w:=by
  simp [execOp,ho,resolve,ha.ev hx,e1,Deferred.ofValue]
 have h':wpList C.P [o].toArray (QT C ({ target:=.fn (.func g) z56.toArray,args:=vs.toArray }::ds) (TWa C k)) [o] a w :=
  wpList_plain hg fun K hK=>by
   unfold Oper.wp
   rw [hrun]
   simp only [Oper.upon,hd,Act.put]
   refine hK _ _ ⟨?_,h _ ⟨ha.size,ha.get⟩ ?_⟩<;>simp [hds]
 have h2:wpOps C.P [o].toArray (QT C ({ target:=.fn (.func g) z56.toArray,args:=vs.toArray }::ds) (TWa C k)) (List.range [o].toArray.size) a w:=by
  rw [List.range_eq_range',←Array.length_toList,wpOps_eq_wpList [o].toArray.toList 0 (by simp)];exact h'
 exact (z5g h2 cs).of_steps (.one step_region)
section
variable {C:Cx} {n:Nat} {L:Env} {w:World}
theorem LV.zw6 {g:FuncId} {args args' cap:Array Value} (hi:(invoke (.fn (.func g) cap) args).run C.P w = .ok (.enter g args') w)
  (hc:CallsD C.P g args' .returning w (fun e u w'=>e = .returned (.tuple #[])∧u = .returning∧Ext z18 w w'))
  (h:∀ w',Ext z18 w w'→∃ v,Out C n L w' v∧C.R (.returned v) w'):LV C n [{ target:=.fn (.func g) cap,args:=args }] L w .returning:=fun a ha hd=>by
 refine leaves_cons (by simp) hi (hc.mono ?_)
 rintro e u w' ⟨rfl,rfl,x⟩
 obtain ⟨v,h1,h2⟩:=h w' x
 exact ⟨v,h1 a ha,h2⟩
theorem LV.zva {g:FuncId} {args args' cap:Array Value} {pv:Value} (Q:World→Prop) (hi:(invoke (.fn (.func g) cap) args).run C.P w = .ok (.enter g args') w)
  (hc:CallsD C.P g args' (.panicking [{ v:=pv,recovered:=false }]) w (fun e u w'=>e = .returned (.tuple #[])∧u = .panicking [{ v:=pv,recovered:=true }]∧Q w'))
  (h:∀ w',Q w'→∃ v,Out C n L w' v∧C.R (.returned v) w'):LV C n [{ target:=.fn (.func g) cap,args:=args }] L w (.panicking [{ v:=pv,recovered:=false }]):=fun a ha hd=>by
 refine leaves_cons (by simp) hi (hc.mono ?_)
 rintro e u w' ⟨rfl,rfl,x⟩
 obtain ⟨v,h1,h2⟩:=h w' x
 exact ⟨v,h1 a ha,h2⟩
end
end Go.Lk
end
section
namespace Go.Lk
open _root_.List renaming range' → ya
open _root_.Array renaming replicate → yb
open Go.RowKit

def z8l:TypeDesc→Bool
 | .interface _=>false
 | _=>true
section
variable {C:Cx} {n:Nat} {ds:List Deferred} {k:Act→World→Prop} {L:Env} {w:World} {ops:Array Oper} {o:Oper} {rest:List Oper} {d:Nat} {v:Value}
theorem EX.zr0 {x:Operand} {xt T:TypeId} {td:TypeDesc} {u:Value} (ho:o.op = .typeAssert x xt T true) (ht:C.P.underlying T=some td) (hi:z8l td=true) (hx:ev L x=some (.iface T u)):EX C n L w o (.tuple #[u,.bool true]):=fun a ha=>by
 simp only [execOp,ho,ha.ev hx,Instr.typeAssert]
 cases td<;>first|(simp [z8l] at hi;done)|simp [run_underlying ht]
theorem EX.zqz {x:Operand} {xt T:TypeId} {td:TypeDesc} {z:Value} (ho:o.op = .typeAssert x xt T true) (ht:C.P.underlying T=some td) (hi:z8l td=true) (hz:zer C.P T=some z) (hx:ev L x=some .nilIface):EX C n L w o (.tuple #[z,.bool false]):=fun a ha=>by
 obtain ⟨i,h5,h6⟩:=Option.bind_eq_some_iff.1 hz
 simp only [execOp,ho,ha.ev hx,Instr.typeAssert]
 cases td<;>first|(simp [z8l] at hi;done)|simp [run_underlying ht,zeroValue,typeInfo,h5,h6]
end
def ztw (C:Cx) (c:Frame) (cs:List Frame) (u1:FrameMode) (m:Machine):Prop := ∃ e w' fr,C.R e w'∧Comes C.P m (lone fr ({ c with mode:=u1 }::cs) w') e∧fr.fn=C.f∧leave C fr w' e
def TWR (C:Cx) (n:Nat) (u0 u1:FrameMode) (todo:List Item) (L:Env) (w:World):Prop := ∀ a,Has n L a→a.defers=[]→∀ c cs,c.mode=u0→ztw C c cs u1 (lone ((base C).at a todo) (c::cs) w)
def Rec (u0 u1:FrameMode) (v:Value):Prop:=(u0 = .returning∧u1 = .returning∧v = .nilIface)∨∃ older,u0 = .panicking ({ v:=v,recovered:=false }::older)∧u1 = .panicking ({ v:=v,recovered:=true }::older)
section
variable {C:Cx} {n:Nat} {k:List Item} {L:Env} {w:World} {u0 u1:FrameMode}
theorem TWR.seq {x y:Code} (h:TWR C n u0 u1 (.code x :: .code y::k) L w):TWR C n u0 u1 (.code (.seq x y)::k) L w:=fun a ha hd c cs hc=>by
 obtain ⟨e,w',fr,h1,h2,h3,h4⟩:=h a ha hd c cs hc
 exact ⟨e,w',fr,h1,h2.of_steps (.one step_seq),h3,h4⟩
theorem TWR.recover {id:Nat} {o:Oper} {l:List Oper} {d:Nat} {v:Value} {ts:Array TypeId} (hN:C.dfr=true) (hr:Rec u0 u1 v) (hg:o.guard=none) (hd:o.dst=some d) (hn:Nat.blt d n=true) (ho:o.op = .call { callee:=.builtin .recover,args := #[],argTypes:=ts })
  (h:OW C n [] (o::l).toArray l (TWa C k) ((d,v)::L) w):TWR C n u0 u1 (.code (.region id (o::l).toArray false)::k) L w:=fun a ha hds c cs hc=>by
 have hrun:(execOp a.eval o).run C.P w = .ok .recover w:=by
  simp [execOp,ho,resolve,invoke,builtin]
 have h1:=h (a.put (some d) v) (ha.put (by simpa [Nat.blt_eq] using hn)) (by simpa [Act.put] using hds)
 have h2:wpOps C.P (o::l).toArray (QT C [] (TWa C k)) (ya 1 l.length) (a.put (some d) v) w:=by
  rw [wpOps_eq_wpList l 1 (fun j=>by simp [Nat.add_comm 1 j])];exact h1
 obtain ⟨e,w',fr,k1,k2,k3,k4⟩:=z5g h2 ({ c with mode:=u1 }::cs)
 have hrange:List.range (o::l).toArray.size=0::ya 1 l.length:=by
  rw [List.range_eq_range'];simp [List.range'_succ]
 have s1:=step_region (P:=C.P) (b:=base C) (a:=a) (k:=k) (cs:=c::cs) (w:=w) (ops:=(o::l).toArray) (id:=id)
 rw [hrange] at s1
 have hw:Region.wanted o (yielded (o::l).toArray a.tmps)=true:=by simp [Region.wanted,hg]
 have s2:step C.P (lone ((base C).at a (.inRegion (o::l).toArray (0::ya 1 l.length)::k)) (c::cs) w) = .next (lone ((base C).at (a.put (some d) v) (.inRegion (o::l).toArray (ya 1 l.length)::k)) ({ c with mode:=u1 }::cs) w):=by
  refine step_lone_go ?_
  have hgo:=stepG_op (P:=C.P) (b:=base C) (a:=a) (k:=k) (cs:=c::cs) (w:=w) (ops:=(o::l).toArray) (i:=0) (rest:=ya 1 l.length) (o:=o) (by simp) hw
  have hfin:=Frame.finish_at (base C) a (o::l).toArray 0 (ya 1 l.length) k v
  have hk:((base C).at a (.inRegion (o::l).toArray (0::ya 1 l.length)::k)).kind = .deferred:=by simp [base,hN,Frame.at]
  have htr:=tryRecover_deferred hk (c::cs)
  have ho0:((o::l).toArray[0]?).bind (·.dst)=some d:=by simp [hd]
  rw [ho0] at hfin
  rw [hgo,←hfin]
  have hc' : { c with mode:=c.mode }=c:=rfl
  rcases hr with ⟨rfl,rfl,rfl⟩|⟨older,rfl,rfl⟩
  ·have hrec:recoverD (c::cs)=none:=by simp [recoverD,hc]
   have hcc:({ c with mode:=.returning }:Frame)=c:=by rw [←hc]
   simp only [Frame.at] at htr ⊢
   simp [stepG.apply,hrun,htr,hrec,hcc]
  ·have hrec:recoverD (c::cs)=some (v,{ c with mode:=.panicking ({ v:=v,recovered:=true }::older) }::cs):=by simp [recoverD,hc]
   simp only [Frame.at] at htr ⊢
   simp [stepG.apply,hrun,htr,hrec]
 exact ⟨e,w',fr,k1,k2.of_steps (.head s1 (.one s2)),k3,k4⟩
end
theorem z6b {P:Program} {f:FuncId} {fn:Func} {c:Code} {args:List Value} {w:World} {R:Ending→World→Prop} (u0 u1:FrameMode) (hf:P.funcs[f]? = some fn) (hb:fn.body=some c)
  (n:Nat) (hn:fn.ntmps=n) (hl:Nat.ble args.length n=true) (h:TWR { P:=P,f:=f,fn:=fn,R:=R,hf:=hf,dfr:=true } n u0 u1 [.code c] (zba 0 args) w):CallsD P f args.toArray u0 w (fun e u w'=>u=u1∧R e w'):=by
 intro c0 cs hu
 have hl':=Nat.le_of_ble_eq_true hl
 have henter:Frame.enter P f args.toArray .deferred=(base { P:=P,f:=f,fn:=fn,R:=R,hf:=hf,dfr:=true }).at { tmps:=args.toArray++yb (fn.ntmps - args.toArray.size) undef,defers:=[] } [.code c]:=by
  simp [Frame.enter,Frame.at,hf,hb,base]
 have:=h { tmps:=args.toArray++yb (fn.ntmps - args.toArray.size) undef,defers:=[] }
  ⟨by simp [hn];omega,fun t v e=>by
   have h1:args[t]? = some v:=by simpa using (z8a args 0 t v e).2
   have h2:t<args.length:=by
    rcases Nat.lt_or_ge t args.length with h2|h2
    ·exact h2
    ·simp [List.getElem?_eq_none h2] at h1
   simp [Array.getElem?_append,h2]
   simpa [List.getElem?_eq_getElem h2] using h1⟩ rfl c0 cs hu
 rw [←henter] at this
 obtain ⟨e,w',fr,k1,k2,k3,k4⟩:=this
 exact ⟨e,u1,w',fr,⟨rfl,k1⟩,k2,k4.1,k4.2⟩
theorem z7b {P:Program} {w:World} {g:FuncId} {vs z56:List Value} (hent:∀ args w,(callFunc g args).run P w = .ok (.enter g args) w):(invoke (.fn (.func g) z56.toArray) vs.toArray).run P w = .ok (.enter g (vs++z56).toArray) w:=by
 have e2:vs.toArray++z56.toArray=(vs++z56).toArray:=by simp
 simp [invoke,hent,e2]
section
variable {C:Cx} {n:Nat} {L:Env} {w:World}
theorem LV.zw7 {g:FuncId} {vs z56:List Value} (hent:∀ args w,(callFunc g args).run C.P w = .ok (.enter g args) w)
  (hc:CallsD C.P g (vs++z56).toArray .returning w (fun e u w'=>e = .returned (.tuple #[])∧u = .returning∧Ext z18 w w'))
  (h:∀ w',Ext z18 w w'→∃ v,Out C n L w' v∧C.R (.returned v) w'):LV C n [{ target:=.fn (.func g) z56.toArray,args:=vs.toArray }] L w .returning :=
 LV.zw6 (z7b hent) hc h
theorem LV.zw4 {g:FuncId} {vs z56:List Value} {pv:Value} (Q:World→Prop) (hent:∀ args w,(callFunc g args).run C.P w = .ok (.enter g args) w)
  (hc:CallsD C.P g (vs++z56).toArray (.panicking [{ v:=pv,recovered:=false }]) w (fun e u w'=>e = .returned (.tuple #[])∧u = .panicking [{ v:=pv,recovered:=true }]∧Q w'))
  (h:∀ w',Q w'→∃ v,Out C n L w' v∧C.R (.returned v) w'):LV C n [{ target:=.fn (.func g) z56.toArray,args:=vs.toArray }] L w (.panicking [{ v:=pv,recovered:=false }]) :=
 LV.zva Q (z7b hent) hc h
end
end Go.Lk
end
section
namespace Go.Lk
open _root_.List renaming append_assoc → ya, length_drop → yb, length_take → yc
open _root_.Nat renaming mul_le_mul_right → yd, succ_mul → ye
open _root_.Array renaming length_toList → yf
open Go.RowKit

theorem z8x {w w':World} {O O':Nat→Prop} (t:Tr O w O' w') {b q:Nat} {u:Value} (h:w.cell? ⟨b,q,none⟩=some u) (hb:¬O b):w'.cell? ⟨b,q,none⟩=some u:=by
 have hlt:b<w.heap.size:=by
  rcases Nat.lt_or_ge b w.heap.size with h'|h'
  ·exact h'
  ·simp [World.cell?,Array.getElem?_eq_none h'] at h
 have:=t.block b hlt hb
 simpa [World.cell?,this] using h
theorem RDl.set {w:World} {O:Nat→Prop} {m:Nat} {x:List D} {vs:List Value} (hx:RDs w O x vs) (hm:vs.length=m):∀ {l:List (List D)} {cs:List Value} {j:Nat},RDl w O m l cs→j<l.length→(j+1)*m≤cs.length →
  RDl w O m (l.set j x) (cs.take (j*m)++vs++cs.drop (j*m+m))
 | [],_,_,_,h,_=>by simp at h
 | y::l,cs,0,h,_,_=>by
  refine ⟨?_,?_⟩
  ·simpa [←hm] using hx
  ·have:=h.2
   subst hm
   simpa using this
 | y::l,cs,j+1,h,hj,hl=>by
  have e0:(j+1)*m=j*m+m:=ye j m
  have h1:m≤((j+1)*m):=by rw [e0];omega
  have h2:m≤cs.length:=by rw [ye] at hl;omega
  have ih:=RDl.set hx hm (l:=l) (cs:=cs.drop m) (j:=j) h.2 (by simpa using hj) (by rw [yb,ye];rw [ye,e0] at hl;omega)
  have h3:(cs.take ((j+1)*m)).length=(j+1)*m:=by rw [yc];rw [ye] at hl;omega
  refine ⟨?_,?_⟩
  ·rw [ya,List.take_append_of_le_length (by omega),List.take_take,Nat.min_eq_left h1]
   exact h.1
  ·rw [ya,List.drop_append_of_le_length (by omega),List.drop_take]
   have e1:(j+1)*m - m=j*m:=by omega
   rw [e1,←ya]
   have e2:cs.drop ((j+1)*m+m)=(cs.drop m).drop (j*m+m):=by rw [List.drop_drop];congr 1;omega
   rw [e2]
   exact ih
theorem Own.store {P:Program} {w:World} {O:Nat→Prop} {T m:Nat} {v:Value} {l:List (List D)} {x:List D} {vs:List Value} {b q len cap j:Nat} (h:Own w O T m v l) (hv:v = .slice (some ⟨b,q,none⟩) len cap) (hj:j<l.length) (hm:vs.length=m)
  (h1:vs.all (·.oneCell')=true) (hx:RDs w O x vs):∃ w',(storeCells ⟨b,q+j*m,none⟩ vs).run P w = .ok () w'∧Own w' O T m v (l.set j x)∧Ext (fun y=>v.ownBlock=some y) w w':=by
 obtain ⟨xs,k1,k2,k3,k4⟩:=h
 rcases k1.2 with ⟨k5,_⟩|⟨g,cap',cur,k5,k6,k7,k8,k9,k10,k11⟩
 ·rw [k5] at hv;cases hv
 ·have hv2:=hv.symm.trans k5
  simp only [Value.slice.injEq,Option.some.injEq,Addr.mk.injEq,and_true] at hv2
  obtain ⟨⟨rfl,rfl⟩,rfl,rfl⟩:=hv2
  have hb:z2b w b T cur.toList:=by simpa [z2b] using k7
  have hle:(j+1)*m≤cap*m:=yd m (by omega)
  have hle2:(j+1)*m≤l.length*m:=yd m (by omega)
  have e0:(j+1)*m=j*m+m:=ye j m
  obtain ⟨w',hr,hb',hx'⟩:=Ext.zb0 (P:=P) (o:=0+j*m) (vs:=vs) hb (by rw [hm,yf,k10];omega) (by simpa using h1)
  have hown:∀ y,v.ownBlock=some y→O y:=k4
  have hblk:v.ownBlock=some b:=by rw [k5];rfl
  have hF:Ext (fun y=>v.ownBlock=some y) w w':=hx'.mono fun y _ hy=>by cases hy;exact hblk
  have t:Tr O w O w':=Tr.z3r hF fun y _ hy=>hown y hy
  have hrd:RDl w O m l cur.toList:=by
   rw [←k11] at k2
   exact RDl.z95 (by simpa using k2)
  have hrd2:=(RDl.set hx hm (j:=j) hrd hj (by rw [yf,k10];exact hle)).tr t
  have hlen:(cur.toList.take (j*m)++vs++cur.toList.drop (j*m+m)).length=cap*m:=by
   simp only [List.length_append,yc,yb,yf,k10,hm]
   omega
  refine ⟨w',hr,⟨(cur.toList.take (j*m)++vs++cur.toList.drop (j*m+m)).take (l.length*m),⟨?_,.inr ⟨b,cap,(cur.toList.take (j*m)++vs++cur.toList.drop (j*m+m)).toArray,?_,k6,?_,?_,k9,?_,?_⟩⟩,?_,?_,k4⟩,hF⟩
  ·have hc:l.length*m≤cap*m:=yd m k8
   simp only [yc,hlen,List.length_set]
   omega
  ·simpa using k5
  ·rw [Nat.zero_add,hm] at hb'
   exact hb'
  ·simpa using k8
  ·simpa using hlen
  ·simp
  ·have:=RDl.z7c hrd2
   simpa using this
  ·have:=RDl.one hrd2
   simpa using this
section
variable {C:Cx} {n:Nat} {ds:List Deferred} {k:Act→World→Prop} {L:Env} {w:World} {ops:Array Oper} {o:Oper} {rest:List Oper}
theorem OW.zt5 {α:Type} {f:α→List D} {l:List α} {a:α} {O:Nat→Prop} {T U:TypeId} {x y:Operand} {b q len cap j m:Nat} {g:Bool} {u v:Value} {vs:List Value} (hg:o.guard=none) (hd:o.dst=none) (ho:o.op = .store T x y) (hT:shp C.P T=some (g,m)) (hx:ev L x=some (.pointer (some ⟨b,q+j*m,none⟩)))
  (hy:ev L y=some u) (hu:u.cells=vs.toArray) (hm:vs.length=m) (hv:v = .slice (some ⟨b,q,none⟩) len cap) (hown:Own w O U m v (l.map f)) (hj:j<l.length) (h1:vs.all (·.oneCell')=true) (hr:RDs w O (f a) vs)
  (h:∀ w',Own w' O U m v ((l.set j a).map f)→Ext (fun y=>v.ownBlock=some y) w w'→OW C n ds ops rest k L w'):OW C n ds ops (o::rest) k L w:=by
 obtain ⟨w',hrun,ho',hx'⟩:=Own.store (P:=C.P) hown hv (by simpa using hj) hm h1 hr
 refine OW.unit (w':=w') hg hd (fun a ha => ?_) (h w' (by rw [List.map_set];exact ho') hx')
 simp [execOp,ho,ha.ev hx,ha.ev hy,Instr.storeAt,Instr.sureAddr,storeVar,hu,(z1c hT).2,hm,hrun]
end
end Go.Lk
end
section
namespace Go.Lk
open Go.RowKit
section
variable {C:Cx} {n:Nat} {ds:List Deferred} {L:Env} {w:World} {o:Oper} {v:Value}
theorem EX.zvn {t te u:TypeId} {x y:Operand} {j:TypeInfo} (ho:o.op = .binOp .eql t x y u) (ht:C.P.underlying t=some (.pointer te)) (hj:C.P.info? te=some j) (hx:ev L x=some (.pointer none)) (hy:ev L y=some (.pointer none)):EX C n L w o (.bool true):=fun a ha=>by
 have h:∀ d:Nat,(Op.equalIn (d+1) t (.pointer none) (.pointer none)).run C.P w = .ok true w:=fun d=>by
  simp [Op.equalIn,run_underlying ht,sizeOf,typeInfo,hj]
 simp [execOp,ho,ha.ev hx,ha.ev hy,binOp,eqGuard,Op.equal,Op.maxDepth,h 9999]
theorem EX.zvo {t te u:TypeId} {x y:Operand} {j:TypeInfo} {p:Addr} (ho:o.op = .binOp .eql t x y u) (ht:C.P.underlying t=some (.pointer te)) (hj:C.P.info? te=some j) (hx:ev L x=some (.pointer (some p))) (hy:ev L y=some (.pointer none)):EX C n L w o (.bool false):=fun a ha=>by
 have h:∀ d:Nat,(Op.equalIn (d+1) t (.pointer (some p)) (.pointer none)).run C.P w = .ok false w:=fun d=>by
  simp [Op.equalIn,run_underlying ht,sizeOf,typeInfo,hj]
 simp [execOp,ho,ha.ev hx,ha.ev hy,binOp,eqGuard,Op.equal,Op.maxDepth,h 9999]
theorem EX.zw0 {t te u:TypeId} {x y:Operand} {j:TypeInfo} {p:Addr} (ho:o.op = .binOp .neq t x y u) (ht:C.P.underlying t=some (.pointer te)) (hj:C.P.info? te=some j) (hx:ev L x=some (.pointer (some p))) (hy:ev L y=some (.pointer (some p))):EX C n L w o (.bool false):=fun a ha=>by
 simp [execOp,ho,ha.ev hx,ha.ev hy,eqGuard,Lib.run_neq_ptr_same w p ht hj]
theorem EX.toU {s t te e:TypeId} {x:Operand} {j:TypeInfo} {b cells:Nat} (ho:o.op = .convert s t x) (hs:C.P.underlying s=some (.pointer te)) (hd:C.P.underlying t=some .unsafePointer) (ht:C.P.info? te=some j) (hj:j.size≠0)
  (hx:ev L x=some (.pointer (some ⟨b,0,none⟩))) (hsh:w.shape? b=some (e,cells)) (hoff:0<cells):EX C n L w o (.pointer (some ⟨b,0,none⟩)):=fun a ha=>by
 simp [execOp,ho,ha.ev hx,Lib.run_to_unsafe w ⟨b,0,none⟩ hs hd ht hj hsh hoff]
theorem EX.zub {s t te e:TypeId} {x:Operand} {j:TypeInfo} {b cells:Nat} (ho:o.op = .convert s t x) (hs:C.P.underlying s=some .unsafePointer) (hd:C.P.underlying t=some (.pointer te)) (ht:C.P.info? te=some j)
  (hx:ev L x=some (.pointer (some ⟨b,0,none⟩))) (hsh:w.shape? b=some (e,cells)) (hl:liesAt C.P C.P.depth e (cells / C.P.cellsOf e) 0 te 1=true):EX C n L w o (.pointer (some ⟨b,0,none⟩)):=fun a ha=>by
 simp [execOp,ho,ha.ev hx,Lib.run_from_unsafe w ⟨b,0,none⟩ hs hd ht hsh hl]
theorem EX.zvp {x y:Operand} {ts:Array TypeId} {g:FuncId} {u:Value} (ho:o.op = .call { callee:=.value x,args := #[y],argTypes:=ts }) (hx:ev L x=some (.func (.func g) #[] #[])) (hy:ev L y=some u) (hent:∀ w,(callFunc g #[u]).run C.P w = .ok (.value v) w):EX C n L w o v:=fun a ha=>by
 simp only [execOp,ho,resolve,ha.ev hx,Deferred.ofValue,Sem.run_bind,Sem.run_pure,Result.andThen_ok]
 simp [invoke,ha.ev hy,hent]
theorem zle {P:Program} {g:FuncId} {fn:Func} (hf:P.funcs[g]? = some fn) (hname:(fn.name == "runtime.NumGoroutine")=false) (hb:fn.body.isNone=true) (hn:Extern.findNext fn=none) (he:Extern.find fn=some Extern.AbiNoEscape.same) (u:Value) (w:World):(callFunc g #[u]).run P w = .ok (.value u) w:=by
 rw [run_callFunc_extern hf hname hb hn he,Lib.run_noEscape]
 rfl
end
end Go.Lk
end
