import Derived.Test.YtmmgdladipbedaaGreatDoorLkA
import Derived.Lib.AppendStr
import Derived.Lib.ConvBytes
set_option linter.all false
section
namespace Go.Lk
open _root_.Option renaming bind_eq_some_iff → ya
open _root_.List renaming drop_drop → yb, eq_nil_of_length_eq_zero → yc, length_append → yd, length_cons → ye
open _root_.Nat renaming blt → yf, eq_of_beq_eq_true → yg, le_of_ble_eq_true → yh, le_refl → yi, mul_le_mul_right → yj, succ_mul → yk
open Go.RowKit
variable [Lb]

def Bd (O:Nat→Prop) (w:World):Prop := ∀ x,O x→x<w.heap.size
theorem Bd.ext {O F:Nat→Prop} {w w':World} (h:Bd O w) (x:Ext F w w'):Bd O w':=fun b hb=>Nat.lt_of_lt_of_le (h b hb) x.size
theorem Bd.ins {O:Nat→Prop} {w:World} {b:Nat} (h:Bd O w) (hb:b<w.heap.size):Bd (Ins O b) w:=fun x hx=>by
 rcases hx with rfl|hx
 ·exact hb
 ·exact h x hx

theorem Ext.zc0 {P:Program} {w:World} {b o:Nat} {T:TypeId} {cs vs:List Value} (hb:z0r w b T cs) (hl:o+vs.length≤cs.length) (h1:∀ v∈vs,v.oneCell'=true) :
  ∃ w',(storeCells ⟨b,o,none⟩ vs).run P w = .ok () w'∧z0r w' b T (cs.take o++vs++cs.drop (o+vs.length))∧Ext (At b) w w':=by
 have h:=run_storeCells_at P b o T vs 0 cs.toArray w hb (by simpa using hl) h1
 refine ⟨_,h,?_,⟨rfl,rfl,rfl,by simp,fun k _ hk=>setRow_other w b k _ hk⟩⟩
 have:=setRow_heap w b cs.toArray (cs.take o++vs++cs.drop (o+vs.length)).toArray T (0,0) hb
 simpa [z0r] using this

section
variable {C:Cx} {n:Nat} {ds:List Deferred} {k:Act→World→Prop} {L:Env} {w:World} {ops:Array Oper} {o:Oper} {rest:List Oper} {d:Nat} {v:Value}

theorem OW.box {T:TypeId} {x:Operand} {u:Value} {cs:List Value} (hg:o.guard=none) (hd:o.dst=some d) (hn:yf d n=true) (ho:o.op = .box T x) (hx:ev L x=some u) (hcs:u.cells=cs.toArray)
  (h:∀ b w',z0r w' b T cs→Ext z0h w w'→w.heap.size≤b→OW C n ds ops rest k ((d,.pointer (some ⟨b,0,none⟩))::L) w'):OW C n ds ops (o::rest) k L w :=
 OW.val (w':=w.alloc (.cells cs.toArray T)) hg hd hn (fun a ha=>by
  simp [execOp,ho,ha.ev hx,Instr.box,newVar,newRow,hcs]) (h _ _ (z0r.new w T cs) (Ext.alloc _ _ _) (yi _))
theorem OW.alloc {T:TypeId} {z:Value} {cs:List Value} (hg:o.guard=none) (hd:o.dst=some d) (hn:yf d n=true) (ho:o.op = .alloc T) (hz:zer C.P T=some z) (hcs:z.cells=cs.toArray)
  (h:∀ b w',z0r w' b T cs→Ext z0h w w'→w.heap.size≤b→OW C n ds ops rest k ((d,.pointer (some ⟨b,0,none⟩))::L) w'):OW C n ds ops (o::rest) k L w :=
 OW.val (w':=w.alloc (.cells cs.toArray T)) hg hd hn (fun a ha=>by
  obtain ⟨i,h5,h6⟩:=ya.1 hz
  simp [execOp,ho,Instr.alloc,zeroValue,typeInfo,h5,h6,newVar,newRow,hcs]) (h _ _ (z0r.new w T cs) (Ext.alloc _ _ _) (yi _))
theorem EX.fieldAddr {T:TypeId} {x:Operand} {i j b q m:Nat} {g:Bool} (ho:o.op = .fieldAddr T x i) (hf:fld C.P T i=some (j,g,m)) (hx:ev L x=some (.pointer (some ⟨b,q,none⟩))):EX C n L w o (.pointer (some ⟨b,q+j,none⟩)) :=
 fun a ha=>by simp only [execOp,ho,ha.ev hx,Sem.run_bind,zin hf,Result.andThen_ok];rfl
theorem OW.fieldAddr {T:TypeId} {x:Operand} {i j b q m:Nat} {g:Bool} (hg:o.guard=none) (hd:o.dst=some d) (hn:yf d n=true) (ho:o.op = .fieldAddr T x i) (hf:fld C.P T i=some (j,g,m)) (hx:ev L x=some (.pointer (some ⟨b,q,none⟩))) (h:OW C n ds ops rest k ((d,.pointer (some ⟨b,q+j,none⟩))::L) w):OW C n ds ops (o::rest) k L w :=
 OW.val hg hd hn (EX.fieldAddr ho hf hx) h
theorem EX.field {T:TypeId} {x:Operand} {i j m:Nat} {cs:List Value} (ho:o.op = .field T x i) (hf:fld C.P T i=some (j,false,m)) (hx:ev L x=some (.agg cs.toArray)) (hv:cs[j]? = some v):EX C n L w o (v) :=
 fun a ha=>by simp only [execOp,ho,ha.ev hx,Sem.run_bind,zoq hf hv,Result.andThen_ok];rfl
theorem EX.zw3 {T:TypeId} {x:Operand} {i j m:Nat} {cs:List Value} (ho:o.op = .field T x i) (hf:fld C.P T i=some (j,true,m)) (hx:ev L x=some (.agg cs.toArray)):EX C n L w o (.agg ((cs.drop j).take m).toArray) :=
 fun a ha=>by simp only [execOp,ho,ha.ev hx,Sem.run_bind,zly hf,Result.andThen_ok];rfl
theorem EX.zi6 {T U:TypeId} {x:Operand} {b q m:Nat} {cs:List Value} (ho:o.op = .load T x) (hT:shp C.P T=some (false,m)) (hx:ev L x=some (.pointer (some ⟨b,q,none⟩)))
  (hb:z0r w b U cs) (hv:cs[q]? = some v):EX C n L w o (v) :=
 fun a ha=>by
  simp only [execOp,ho,ha.ev hx,Sem.run_bind,Instr.loadAt,Instr.sureAddr,Sem.run_pure,Result.andThen_ok,z68 hT ((hb.cell q).trans hv)]
theorem OW.zi6 {T U:TypeId} {x:Operand} {b q m:Nat} {cs:List Value} (hg:o.guard=none) (hd:o.dst=some d) (hn:yf d n=true) (ho:o.op = .load T x) (hT:shp C.P T=some (false,m)) (hx:ev L x=some (.pointer (some ⟨b,q,none⟩)))
  (hb:z0r w b U cs) (hv:cs[q]? = some v) (h:OW C n ds ops rest k ((d,v)::L) w):OW C n ds ops (o::rest) k L w :=
 OW.val hg hd hn (EX.zi6 ho hT hx hb hv) h
theorem EX.zbi {T:TypeId} {x:Operand} {p:Addr} {m:Nat} (ho:o.op = .load T x) (hT:shp C.P T=some (false,m)) (hx:ev L x=some (.pointer (some p)))
  (hv:w.cell? p=some v):EX C n L w o (v) :=
 fun a ha=>by
  simp only [execOp,ho,ha.ev hx,Sem.run_bind,Instr.loadAt,Instr.sureAddr,Sem.run_pure,Result.andThen_ok,z68 hT hv]
theorem OW.zbi {T:TypeId} {x:Operand} {p:Addr} {m:Nat} (hg:o.guard=none) (hd:o.dst=some d) (hn:yf d n=true) (ho:o.op = .load T x) (hT:shp C.P T=some (false,m)) (hx:ev L x=some (.pointer (some p)))
  (hv:w.cell? p=some v) (h:OW C n ds ops rest k ((d,v)::L) w):OW C n ds ops (o::rest) k L w :=
 OW.val hg hd hn (EX.zbi ho hT hx hv) h
theorem EX.zwf {T:TypeId} {x:Operand} {b q m:Nat} {vs:List Value} (ho:o.op = .load T x) (hT:shp C.P T=some (true,m)) (hx:ev L x=some (.pointer (some ⟨b,q,none⟩)))
  (hl:vs.length=m) (hc:∀ j u,vs[j]? = some u→w.cell? ⟨b,q+j,none⟩=some u):EX C n L w o (.agg vs.toArray) :=
 fun a ha=>by
  simp only [execOp,ho,ha.ev hx,Sem.run_bind,Instr.loadAt,Instr.sureAddr,Sem.run_pure,Result.andThen_ok,z9z hT hl hc]
theorem OW.store {T U:TypeId} {x y:Operand} {b q m:Nat} {g:Bool} {u:Value} {cs vs cs':List Value} (hg:o.guard=none) (hd:o.dst=none) (ho:o.op = .store T x y) (hT:shp C.P T=some (g,m)) (hx:ev L x=some (.pointer (some ⟨b,q,none⟩)))
  (hy:ev L y=some u) (hu:u.cells=vs.toArray) (hm:vs.length=m) (hb:z0r w b U cs) (hq:Nat.ble (q+vs.length) cs.length=true) (h1:vs.all (·.oneCell')=true) (hcs:cs.take q++vs++cs.drop (q+vs.length)=cs')
  (h:∀ w',z0r w' b U cs'→Ext (At b) w w'→OW C n ds ops rest k L w'):OW C n ds ops (o::rest) k L w:=by
 obtain ⟨w',hr,hb',hx'⟩:=Ext.zc0 (P:=C.P) (o:=q) (vs:=vs) hb (yh hq) (by simpa using h1)
 refine OW.unit (w':=w') hg hd (fun a ha => ?_) (h w' (hcs▸hb') hx')
 simp [execOp,ho,ha.ev hx,ha.ev hy,Instr.storeAt,Instr.sureAddr,storeVar,hu,(z0j hT).2,hm,hr]
end

structure EAt (w:World) (O:Nat→Prop) (b q:Nat) (cs:List Value):Prop where
 out:¬O b
 row:∃ r T fr,w.heap[b]? = some (.cells r T fr)∧∀ j u,cs[j]? = some u→r[q+j]? = some u
theorem EAt.at_ {w:World} {O:Nat→Prop} {b q:Nat} {cs:List Value} (h:EAt w O b q cs):∀ j u,cs[j]? = some u→w.cell? ⟨b,q+j,none⟩=some u:=by
 obtain ⟨r,T,fr,h1,h2⟩:=h.row
 intro j u e
 rw [cell_of_row w b _ r T fr h1]
 exact h2 j u e
theorem EAt.tr {w w':World} {O O':Nat→Prop} {b q:Nat} {cs:List Value} (h:EAt w O b q cs) (t:Tr O w O' w'):EAt w' O' b q cs:=by
 obtain ⟨r,T,fr,h1,h2⟩:=h.row
 have hb:b<w.heap.size:=by
  rcases Nat.lt_or_ge b w.heap.size with hb|hb
  ·exact hb
  ·simp [Array.getElem?_eq_none hb] at h1
 exact ⟨t.owned b hb h.out,r,T,fr,(t.block b hb h.out).trans h1,h2⟩
def z3m (w:World) (O:Nat→Prop) (b q n:Nat) (x:List D):Prop := ∃ cs,cs.length=n∧EAt w O b q cs∧RDs w O x cs
theorem RDl.at {w:World} {O:Nat→Prop} {n:Nat}:∀ {l:List (List D)} {cs:List Value} {i:Nat} {x:List D},RDl w O n l cs→l[i]? = some x→RDs w O x ((cs.drop (i*n)).take n)
 | [],_,_,_,_,h=>by simp at h
 | y::l,cs,0,x,h,e=>by simp at e;subst e;simpa using h.1
 | y::l,cs,i+1,x,h,e=>by
  have:=RDl.at (i:=i) h.2 (by simpa using e)
  rw [yb] at this
  rwa [yk,Nat.add_comm]
theorem RD.elem {w:World} {O:Nat→Prop} {T n:Nat} {l:List (List D)} {v:Value} {i:Nat} {x:List D} (h:RD w O (.sl T n l) v) (hi:l[i]? = some x) :
  ∃ b q cap,v = .slice (some ⟨b,q,none⟩) l.length cap∧i<l.length∧z3m w O b (q+i*n) n x:=by
 have hlt:i<l.length:=by
  rcases Nat.lt_or_ge i l.length with h'|h'
  ·exact h'
  ·simp [List.getElem?_eq_none h'] at hi
 rcases h with ⟨_,h⟩|⟨b,q,cap,cs,fr,h1,h2,h3,h4,h5,h6,h7⟩
 ·subst h;simp at hi
 ·refine ⟨b,q,cap,h1,hlt,((cs.toList.drop q).drop (i*n)).take n,?_,?_,RDl.at h7 hi⟩
  ·have:(i+1)*n≤cap*n:=yj n (by omega)
   rw [yk] at this
   simp
   omega
  ·refine ⟨h4,cs,fr.1,fr.2,h5,fun j u e => ?_⟩
   rw [List.getElem?_take] at e
   split at e
   ·simpa [Nat.add_assoc] using e
   ·cases e
theorem RD.len {w:World} {O:Nat→Prop} {T n:Nat} {l:List (List D)} {v:Value} (h:RD w O (.sl T n l) v):∃ p c,v = .slice p l.length c:=by
 rcases h with ⟨⟨p,h1⟩,h2⟩|⟨b,q,cap,cs,fr,h1,_⟩
 ·exact ⟨p,0,by subst h2;exact h1⟩
 ·exact ⟨_,cap,h1⟩
theorem RDl.drop {w:World} {O:Nat→Prop} {n:Nat}:∀ {l:List (List D)} {cs:List Value} (i:Nat),RDl w O n l cs→RDl w O n (l.drop i) (cs.drop (i*n))
 | l,cs,0,h=>by simpa using h
 | [],cs,i+1,_=>by simp [RDl,RD.RDl]
 | y::l,cs,i+1,h=>by
  have:=RDl.drop (n:=n) i h.2
  rw [yb] at this
  rw [yk,Nat.add_comm (i*n)]
  exact this
theorem RDl.take {w:World} {O:Nat→Prop} {n:Nat}:∀ {l:List (List D)} {cs:List Value} (i:Nat),RDl w O n l cs→RDl w O n (l.take i) cs
 | l,cs,0,_=>by simp [RDl,RD.RDl]
 | [],cs,i+1,_=>by simp [RDl,RD.RDl]
 | y::l,cs,i+1,h=>⟨h.1,RDl.take (n:=n) i h.2⟩
theorem RD.sub {P:Program} {w:World} {O:Nat→Prop} {T n t:Nat} {l:List (List D)} {v:Value} {a b:Nat} {lo hi:Option Value} {g:Bool} (ht:P.underlying t=some (.slice T)) (hT:shp P T=some (g,n)) (h:RD w O (.sl T n l) v)
  (hlo:LoV lo a 0) (hhi:LoV hi b l.length) (hab:a≤b) (hb:b≤l.length) :
  ∃ v',(Instr.sliceAt t v lo hi none).run P w = .ok v' w∧RD w O (.sl T n ((l.take b).drop a)) v':=by
 have key:∀ (p:Option Addr) (cap:Nat),l.length≤cap→(Instr.sliceAt t (.slice p l.length cap) lo hi none).run P w = .ok (.slice (if cap=a then p else p.map (·.add (a*n))) (b - a) (cap - a)) w:=by
  intro p cap hc
  have i3:(a:Int)≤(b:Int):=Int.ofNat_le.2 hab
  have i4:(b:Int)≤(cap:Int):=Int.ofNat_le.2 (by omega)
  simp only [Instr.sliceAt,Sem.run_bind,run_underlying ht,Result.andThen_ok,Instr.slice]
  cases lo with
  | none =>
   simp only [LoV] at hlo
   subst hlo
   cases hi with
   | none=>simp only [LoV] at hhi;subst hhi;simp [Instr.sliceBounds,(z0j hT).2]
   | some y=>obtain ⟨kd,rfl⟩:=hhi;simp [Instr.sliceBounds,Instr.sliceBound,asIntOf,(z0j hT).2,show b≤cap by omega]
  | some z =>
   obtain ⟨kz,rfl⟩:=hlo
   cases hi with
   | none=>simp only [LoV] at hhi;subst hhi;simp [Instr.sliceBounds,Instr.sliceBound,asIntOf,(z0j hT).2,hab]
   | some y=>obtain ⟨kd,rfl⟩:=hhi;simp [Instr.sliceBounds,Instr.sliceBound,asIntOf,(z0j hT).2,hab,show b≤cap by omega]
 rcases h with ⟨⟨p,rfl⟩,rfl⟩|⟨bb,q,cap,cs,fr,rfl,h2,h3,h4,h5,h6,h7⟩
 ·have hb0:b=0:=by simpa using hb
  have ha0:a=0:=by omega
  subst hb0 ha0
  have:=key p 0 (yi _)
  simp only [List.length_nil] at this
  refine ⟨_,this,?_⟩
  simp [RD]
 ·refine ⟨_,key _ cap h2,?_⟩
  right
  have hlen:((l.take b).drop a).length=b - a:=by simp;omega
  have h8:RDl w O n ((l.take b).drop a) ((cs.toList.drop q).drop (a*n)):=RDl.drop a (RDl.take b h7)
  by_cases hca:cap=a
  ·have:b=a:=by omega
   subst this
   have e0:(l.take b).drop b=[]:=yc (by rw [hlen];omega)
   rw [if_pos hca,e0]
   exact ⟨bb,q,cap - b,cs,fr,by simp,by simp,by omega,h4,h5,by rw [hca];simp;exact Nat.le_trans (Nat.le_add_right _ _) h6,trivial⟩
  ·rw [if_neg hca]
   refine ⟨bb,q+a*n,cap - a,cs,fr,by rw [hlen];simp [Addr.add_lit],by omega,by omega,h4,h5,?_,by rw [←yb];exact h8⟩
   rw [Nat.sub_mul]
   have:a*n≤cap*n:=yj n (by omega)
   omega

section
variable {C:Cx} {n:Nat} {ds:List Deferred} {k:Act→World→Prop} {L:Env} {w:World} {ops:Array Oper} {o:Oper} {rest:List Oper} {d:Nat} {v:Value}
theorem EX.indexAddr {t T m:TypeId} {gg:Bool} {x y:Operand} {b q len cap:Nat} {kd:IntKind} {i:Int} {j:Nat} (ho:o.op = .indexAddr t x y)
  (ht:C.P.underlying t=some (.slice T)) (hT:shp C.P T=some (gg,m)) (hx:ev L x=some (.slice (some ⟨b,q,none⟩) len cap)) (hy:ev L y=some (.int kd i)) (hi:i=(j:Nat)) (hj:j<len):EX C n L w o (.pointer (some ⟨b,q+j*m,none⟩)) :=
 fun a ha=>by
  subst hi
  simp [execOp,ho,ha.ev hx,ha.ev hy,Instr.indexAt,asIntOf,run_underlying ht,(z0j hT).2,hj,Addr.add_lit]
theorem OW.indexAddr {t T m:TypeId} {gg:Bool} {x y:Operand} {b q len cap:Nat} {kd:IntKind} {i:Int} {j:Nat} (hg:o.guard=none) (hd:o.dst=some d) (hn:yf d n=true) (ho:o.op = .indexAddr t x y)
  (ht:C.P.underlying t=some (.slice T)) (hT:shp C.P T=some (gg,m)) (hx:ev L x=some (.slice (some ⟨b,q,none⟩) len cap)) (hy:ev L y=some (.int kd i)) (hi:i=(j:Nat)) (hj:j<len) (h:OW C n ds ops rest k ((d,.pointer (some ⟨b,q+j*m,none⟩))::L) w):OW C n ds ops (o::rest) k L w :=
 OW.val hg hd hn (EX.indexAddr ho ht hT hx hy hi hj) h
def flat (m:Nat):Nat→List (Nat × Value)→Option (List Value)
 | _,[]=>some []
 | i,(j,v)::r=>match Nat.beq i j,Nat.beq v.cells.size m,flat m (i+1) r with
  | true,true,some cs=>some (v.cells.toList++cs)
  | _,_,_=>none
theorem ze6:∀ (l:List Value) (k off:Nat) (cs:Array Value),off+k+l.length≤cs.size →
  (l.zipIdx k).foldl (fun cs (x:Value × Nat)=>cs.setIfInBounds (off+x.2) x.1) cs=(cs.toList.take (off+k)++l++cs.toList.drop (off+k+l.length)).toArray
 | [],k,off,cs,_=>by simp
 | x::l,k,off,cs,h=>by
  simp only [ye] at h
  simp only [List.zipIdx_cons,List.foldl_cons]
  rw [ze6 l (k+1) off _ (by simp;omega)]
  congr 1
  simp only [Array.toList_setIfInBounds,ye]
  rw [List.take_set,List.drop_set_of_lt (by omega)]
  have e1:(cs.toList.take (off+(k+1))).set (off+k) x=cs.toList.take (off+k)++[x]:=by
   rw [show off+(k+1)=(off+k)+1 by omega,List.take_succ_eq_append_getElem (by simp;omega),List.set_append]
   rw [if_neg (by simp;omega)]
   simp
   rw [show off+k - min (off+k) cs.size=0 by omega]
   rfl
  rw [e1,show off+(k+1)+l.length=off+k+(l.length+1) by omega]
  simp
theorem zg3 (m len:Nat):∀ (r:List (Nat × Value)) (i:Nat) (cs:Array Value) (out:List Value),flat m i r=some out→(i+r.length)*m≤cs.size →
  Instr.fill (fun i=>some (i*m,m)) cs r=some ((cs.toList.take (i*m)++out++cs.toList.drop ((i+r.length)*m)).toArray)∧out.length=r.length*m
 | [],i,cs,out,h,_=>by
  simp only [flat,Option.some.injEq] at h
  subst h
  simp [Instr.fill]
 | (j,v)::r,i,cs,out,h,hl=>by
  unfold flat at h
  split at h
  ·rename_i cs' h1 h2 h3
   simp only [Option.some.injEq] at h
   subst h
   have h1:=yg h1
   have h2:=yg h2
   subst h1
   simp only [ye] at hl
   have hl1:(i+1)*m≤(i+(r.length+1))*m:=yj m (by omega)
   rw [yk] at hl1
   have hf:(v.cells.zipIdx.foldl (fun cs (c,j)=>cs.setIfInBounds (i*m+j) c) cs)=(cs.toList.take (i*m)++v.cells.toList++cs.toList.drop (i*m+v.cells.toList.length)).toArray:=by
    have:=ze6 v.cells.toList 0 (i*m) cs (by simp [h2];omega)
    simp only [Nat.add_zero] at this
    rw [←this,←Array.foldl_toList,Array.toList_zipIdx]
   have ih:=zg3 m len r (i+1) (cs.toList.take (i*m)++v.cells.toList++cs.toList.drop (i*m+v.cells.toList.length)).toArray cs' h3 (by
    simp [h2]
    rw [show i+1+r.length=i+(r.length+1) by omega]
    omega)
   refine ⟨?_,?_⟩
   ·unfold Instr.fill
    simp only
    rw [if_neg (by simp [h2];omega),hf,ih.1]
    congr 2
    have e1:(cs.toList.take (i*m)).length=i*m:=by simp;omega
    have e2:(cs.toList.take (i*m)++v.cells.toList).length=(i+1)*m:=by rw [yd,e1,yk];simp [h2]
    have e3:(i+1+r.length)*m=(i+1)*m+r.length*m:=by rw [Nat.add_mul]
    have e4:(i+(r.length+1))*m=(i+1)*m+r.length*m:=by rw [←e3];congr 1;omega
    have t1:((cs.toList.take (i*m)++v.cells.toList)++cs.toList.drop (i*m+v.cells.toList.length)).take ((i+1)*m)=cs.toList.take (i*m)++v.cells.toList:=by
     rw [←e2];exact List.take_left
    have t2:((cs.toList.take (i*m)++v.cells.toList)++cs.toList.drop (i*m+v.cells.toList.length)).drop ((i+1+r.length)*m)=cs.toList.drop ((i+(r.length+1))*m):=by
     rw [List.drop_append,e2,e3,List.drop_eq_nil_of_le (by omega),List.nil_append,yb,e4]
     congr 1
     simp [h2,yk]
    rw [t1,t2,ye]
    simp
   ·rw [yd,ih.2,ye,yk]
    simp [h2]
    omega
  ·cases h
theorem OW.buildSlice {t T m:TypeId} {gg:Bool} {len:Nat} {z:Value} {parts:Array (Nat × Operand)} {vs:List (Nat × Value)} {cs:List Value} (hg:o.guard=none) (hd:o.dst=some d) (hn:yf d n=true) (ho:o.op = .buildSlice t len parts)
  (ht:C.P.underlying t=some (.slice T)) (hT:shp C.P T=some (gg,m)) (hz:zer C.P T=some z) (_hzm:z.cells.size=m) (hp:evp L parts.toList=some vs) (hb:flat m 0 vs=some cs) (hlen:vs.length=len) (hbig:Nat.ble (len*m) 16777216=true)
  (h:∀ b w',z0r w' b T cs→Ext z0h w w'→w.heap.size≤b→OW C n ds ops rest k ((d,.slice (some ⟨b,0,none⟩) len len)::L) w'):OW C n ds ops (o::rest) k L w :=
 OW.val (w':=w.alloc (.cells cs.toArray T)) hg hd hn (fun a ha=>by
  have e:(parts.map fun (i,x)=>(i,a.eval x))=vs.toArray:=by apply Array.toList_inj.1;simpa using ha.evp hp
  have hbig':¬len*m>2 ^ 24:=by have:=yh hbig;omega
  obtain ⟨i,h6,h7⟩:=ya.1 hz
  have key:∀ A:Array Value,A.size=len*m→Instr.fill (fun i=>some (i*m,m)) A vs=some cs.toArray:=fun A hA=>by
   have:=(zg3 m len vs 0 A cs hb (by rw [hlen,hA];simp)).1
   rw [this]
   simp [hlen,←hA]
  by_cases h0:len*m=0
  ·simp only [execOp,ho,e,Instr.buildSlice,Sem.run_bind,run_underlying ht,Result.andThen_ok,(z0j hT).2,if_neg hbig',if_pos h0,Sem.run_pure]
   rw [key _ (by simp)]
   simp [newRow]
  ·simp only [execOp,ho,e,Instr.buildSlice,Sem.run_bind,run_underlying ht,Result.andThen_ok,(z0j hT).2,if_neg hbig',if_neg h0,Sem.run_pure,zeroValue,typeInfo,run_program,h6,h7]
   rw [key _ (by simp)]
   simp [newRow]) (h _ _ (z0r.new w T cs) (Ext.alloc _ _ _) (yi _))
end
theorem RD.z7b {w w':World} {O:Nat→Prop} {b T m len:Nat} {cs:List Value} {l:List (List D)} (hb:z0r w' b T cs) (hB:Bd O w) (hw:w.heap.size≤b) (hl:l.length=len) (hm:len≤maxLen) (hs:cs.length=len*m) (h:RDl w' O m l cs) :
  RD w' O (.sl T m l) (.slice (some ⟨b,0,none⟩) len len):=by
 subst hl
 exact .inr ⟨b,0,l.length,cs.toArray,(T,(0,0)),rfl,yi _,hm,fun ho=>by have:=hB b ho;omega,hb,by simp [hs],by simpa using h⟩

def Own (w:World) (O:Nat→Prop) (T m:Nat) (v:Value) (l:List (List D)):Prop :=
 ∃ xs,w.ownsRow 0 T m v l.length xs∧RDl w O m l xs∧(∀ x∈xs,x.oneCell'=true)∧∀ b,v.ownBlock=some b→O b
theorem Own.nil (w:World) (O:Nat→Prop) (T m:Nat):Own w O T m (.slice none 0 0) []:=⟨[],World.ownsRow_nil w 0 T m,trivial,by simp,by simp [Value.ownBlock]⟩
theorem RDl.tr {O O':Nat→Prop} {w w':World} {m:Nat} {d:List (List D)} {v:List Value} (h:RDl w O m d v) (t:Tr O w O' w'):RDl w' O' m d v :=
 RDl.keep (fun b hb ho=>⟨t.block b hb ho,t.owned b hb ho⟩) m d v h
theorem Own.keep {w w':World} {O O' F:Nat→Prop} {T m:Nat} {v:Value} {l:List (List D)} (h:Own w O T m v l) (x:Ext F w w') (hf:∀ b,v.ownBlock=some b→¬F b) (t:Tr O w O' w') (ho:∀ b,O b→O' b):Own w' O' T m v l:=by
 obtain ⟨xs,h1,h2,h3,h4⟩:=h
 refine ⟨xs,⟨h1.1,?_⟩,h2.tr t,h3,fun b hb=>ho b (h4 b hb)⟩
 rcases h1.2 with h5|⟨g,cap,cur,rfl,h6,h7,h8⟩
 ·exact .inl h5
 ·exact .inr ⟨g,cap,cur,rfl,h6,(x.block g (Array.getElem?_eq_some_iff.1 h7).1 (hf g rfl)).trans h7,h8⟩
def Del (O:Nat→Prop) (v:Value):Nat→Prop:=fun x=>O x∧v.ownBlock≠some x
theorem RDl.zem {w:World} {O:Nat→Prop} {m:Nat}:∀ {l:List (List D)} {cs:List Value},RDl w O m l (cs.take (l.length*m))→RDl w O m l cs
 | [],_,_=>trivial
 | z::l,cs,hc=>by
  refine ⟨?_,?_⟩
  ·have:=hc.1
   rwa [List.take_take,Nat.min_eq_left (by simp [yk])] at this
  ·have h2:=hc.2
   have e:(cs.take ((z::l).length*m)).drop m=(cs.drop m).take (l.length*m):=by
    rw [List.drop_take]
    congr 1
    simp [yk]
   rw [e] at h2
   exact RDl.zem h2
theorem Own.data {w:World} {O:Nat→Prop} {T m:Nat} {v:Value} {l:List (List D)} (h:Own w O T m v l):RD w (Del O v) (.sl T m l) v:=by
 obtain ⟨xs,h1,h2,_,h4⟩:=h
 have h2':RDl w (Del O v) m l xs:=h2.tr (Tr.drop w fun x hx=>hx.1)
 rcases h1.2 with ⟨rfl,h0⟩|⟨g,cap,cur,rfl,_,h7,h8,h9,h10,h11⟩
 ·exact .inl ⟨⟨_,rfl⟩,yc h0⟩
 ·refine .inr ⟨g,0,cap,cur,(_,(0,0)),rfl,h8,h9,fun ho=>ho.2 rfl,h7,by simp [h10],?_⟩
  rw [←h11] at h2'
  simp only [List.drop_zero]
  exact h2'.zem
end Go.Lk
end
section
namespace Go.Lk
open _root_.List renaming eq_nil_of_length_eq_zero → ya, length_cons → yb, map_toArray → yc, mem_append → yd
open _root_.Nat renaming blt → ye, mul_le_mul_right → yf, succ_mul → yg, zero_le → yh
open _root_.Array renaming mapM_eq_mapM_toList → yi
open Go.RowKit
variable [Lb]

theorem RDl.one {w:World} {O:Nat→Prop} {n:Nat}:∀ {l:List (List D)} {cs:List Value},RDl w O n l cs→∀ v∈cs.take (l.length*n),v.oneCell'=true
 | [],cs,_=>by simp
 | y::l,cs,h=>by
  intro v hv
  have e:cs.take ((y::l).length*n)=cs.take n++(cs.drop n).take (l.length*n):=by
   rw [yb,yg,Nat.add_comm,List.take_add]
  rw [e] at hv
  rcases yd.1 hv with hv|hv
  ·exact RDs.one _ _ h.1 v hv
  ·exact RDl.one h.2 v hv
theorem RDl.z9e {w:World} {O:Nat→Prop} {n:Nat}:∀ {l:List (List D)} {cs:List Value},RDl w O n l cs→RDl w O n l (cs.take (l.length*n))
 | [],_,_=>trivial
 | y::l,cs,h=>by
  refine ⟨?_,?_⟩
  ·rw [List.take_take,Nat.min_eq_left (by simp [yg])]
   exact h.1
  ·have e:(cs.take ((y::l).length*n)).drop n=(cs.drop n).take (l.length*n):=by
    rw [List.drop_take]
    congr 1
    simp [yg]
   rw [e]
   exact RDl.z9e h.2
theorem RDl.append {w:World} {O:Nat→Prop} {n:Nat}:∀ {l1 l2:List (List D)} {c1 c2:List Value},c1.length=l1.length*n→RDl w O n l1 c1→RDl w O n l2 c2→RDl w O n (l1++l2) (c1++c2)
 | [],l2,c1,c2,hl,_,h2=>by
  have:c1=[]:=ya (by simpa using hl)
  subst this
  simpa using h2
 | y::l1,l2,c1,c2,hl,h1,h2=>by
  have hn:n≤c1.length:=by rw [hl,yb,yg];omega
  refine ⟨?_,?_⟩
  ·rw [List.take_append_of_le_length hn];exact h1.1
  ·rw [List.drop_append_of_le_length hn]
   exact RDl.append (by rw [List.length_drop,hl,yb,yg];omega) h1.2 h2

def inf (P:Program) (T:TypeId):Option (Value × Nat × Nat) :=
 match P.info? T with
 | some i=>i.zero.map fun z=>(z,i.size,i.bytes)
 | none=>none
theorem zgb {P:Program} {T:TypeId} {z:Value} {m by_:Nat} (h:inf P T=some (z,m,by_)):∃ i,P.info? T=some i∧i.zero=some z∧i.size=m∧i.bytes=by_:=by
 unfold inf at h
 split at h
 ·rename_i i h1
  obtain ⟨z',h2,h3⟩:=Option.map_eq_some_iff.1 h
  cases h3
  exact ⟨i,h1,h2,rfl,rfl⟩
 ·cases h
structure zt0 (w:World) (O:Nat→Prop) (T m:Nat) (v:Value) (w':World) (O':Nat→Prop) (v':Value) (l:List (List D)):Prop where
 own:Own w' O' T m v' l
 ext:Ext (fun b=>v.ownBlock=some b) w w'
 tr:Tr O w O' w'
 more:∀ b,O b→O' b
 bd:Bd O' w'
 at_:∀ b,v'.ownBlock=some b→v.ownBlock=some b∨w.heap.size≤b
 only:∀ b,O' b→O b∨w.heap.size≤b
theorem Own.zzq {w w':World} {O:Nat→Prop} {T m:Nat} {v v':Value} {l:List (List D)} {xs:List Value} (h:Own w O T m v l) (hB:Bd O w) {l2:List (List D)} {news:List Value}
  (h1:w'.ownsRow 0 T m v' (l.length+l2.length) (xs++news)) (h2:w.grownBy w' v.ownBlock) (hxs:xs.length=l.length*m) (hx:RDl w O m l xs) (hn:RDl w O m l2 news) (hone:∀ u∈xs++news,u.oneCell'=true)
  (hat:∀ b,v'.ownBlock=some b→v.ownBlock=some b∨w.heap.size≤b):∃ O',zt0 w O T m v w' O' v' (l++l2):=by
 obtain ⟨_,_,_,_,hO⟩:=h
 have hv':∀ b,v'.ownBlock=some b→b<w'.heap.size:=fun b hb=>(h1.lt b hb).2
 have hx':Ext (fun b=>v.ownBlock=some b) w w':=⟨h2.os,h2.tape,h2.output,h2.size,fun b hb hf=>h2.block b hb (fun e=>hf e.symm)⟩
 have ht:Tr O w (fun x=>O x∨v'.ownBlock=some x) w':=⟨h2.size,fun b hb ho=>hx'.block b hb fun e=>ho (hO b e),fun b hb ho h'=>by
  rcases h' with h'|h'
  ·exact ho h'
  ·rcases hat b h' with h''|h''
   ·exact ho (hO b h'')
   ·omega⟩
 refine ⟨fun x=>O x∨v'.ownBlock=some x,⟨⟨xs++news,by simpa using h1,(RDl.append hxs hx hn).tr ht,hone,fun b hb => .inr hb⟩,hx',ht,fun b hb => .inl hb,fun x hx => ?_,hat,fun b hb => ?_⟩⟩
 ·rcases hx with hx|hx
  ·exact Nat.lt_of_lt_of_le (hB x hx) h2.size
  ·exact hv' x hx
 ·rcases hb with hb|hb
  ·exact .inl hb
  ·rcases hat b hb with h'|h'
   ·exact .inl (hO b h')
   ·exact .inr h'
theorem za8 {P:Program} {w:World} (t ty e:TypeId) (i:TypeInfo) (z:Value) (size bytes:Nat) (ht:P.underlying t=some (.slice e)) (hi:P.info? e=some i) (hz:i.zero=some z)
  (hsize:i.size=size) (hby:i.bytes=bytes) (v:Value) (n:Nat) (xs:List Value) (hown:w.ownsRow 0 e size v n xs)
  (a:Addr) (m c:Nat) (news:List Value) (hl:news.length=m*size) (hnews:∀ j u,news[j]? = some u→w.cell? (a.add j)=some u) (h1:∀ u∈news,u.oneCell'=true)
  (h63:n+m≤maxLen) (hbytes:(n+m)*bytes≤140737488355328) {v':Value} {w':World} (hr:(Builtin.append_ #[t,t] ty #[v,.slice (some a) m c]).run P w = .ok v' w') {b:Nat} (hb:v'.ownBlock=some b) (hlt:b<w.heap.size):v.ownBlock=some b:=by
 subst hsize
 subst hby
 have hsmall:n+m≤9223372036854775807:=by simp only [maxLen] at h63;omega
 rcases hown.2 with ⟨rfl,rfl⟩|⟨g,cap,cur,rfl,_,hg,hnc,hcm,hcs,htake⟩
 ·by_cases hm:m=0
  ·subst hm
   have hn:news=[]:=ya (by simpa using hl)
   subst hn
   have:(Builtin.append_ #[t,t] ty #[.slice none 0 0,.slice (some a) 0 c]).run P w = .ok (.slice none 0 0) w:=by
    simp [Builtin.append_,run_underlying ht,sizeOf,typeInfo,hi,Builtin.lenOf,Builtin.firstCells,loadCells,loadCellsFrom]
   rw [this] at hr
   cases hr
   exact hb
  ·have h:=run_append_nil (P:=P) w t ty e i z ht hi hz a m c news hl hnews (by omega) (by omega) (by have hb:=hbytes;simp only [Nat.zero_add] at hb;omega)
   rw [h] at hr
   cases hr
   simp only [Value.ownBlock,Option.some.injEq] at hb
   omega
 ·by_cases hroom:n+m≤cap
  ·have hfit:n*i.size+news.length≤cur.size:=by rw [hl,hcs,←Nat.add_mul];exact yf _ hroom
   have h:=run_append_room (P:=P) w t ty e i ht hi g n cap cur hg a m c news hl hnews h1 hroom hfit
   rw [h] at hr
   cases hr
   exact hb
  ·have holds:∀ j u,xs[j]? = some u→w.cell? ((⟨g,0,none⟩:Addr).add j)=some u:=hown.cells (g:=g) rfl
   have h:=run_append_grow (P:=P) w t ty e i z ht hi hz ⟨g,0,none⟩ n cap xs hown.1 holds a m c news hl hnews (by omega) (by omega) (growslice_fits (by omega) hbytes)
   rw [h] at hr
   cases hr
   simp only [Value.ownBlock,Option.some.injEq] at hb
   omega
theorem zbw {P:Program} {w:World} {O:Nat→Prop} {T m by_:Nat} {t ty:TypeId} {z:Value} {v x:Value} {l l2:List (List D)} (ht:P.underlying t=some (.slice T)) (hi:inf P T=some (z,m,by_)) (hz:z.cells.size=m) (hm:0<m) (hby:0<by_)
  (h:Own w O T m v l) (hB:Bd O w) (hx:RD w O (.sl T m l2) x) (hb:(l.length+l2.length)*by_≤140737488355328) :
  ∃ v' w' O',(Builtin.append_ #[t,t] ty #[v,x]).run P w = .ok v' w'∧zt0 w O T m v w' O' v' (l++l2):=by
 obtain ⟨i,i1,i2,i3,i4⟩:=zgb hi
 have hO:=h
 obtain ⟨xs,h1,h2,h3,h4⟩:=h
 have hlb:l.length*by_≤140737488355328:=Nat.le_trans (yf _ (Nat.le_add_right _ _)) hb
 have main:∀ (ad:Addr) (cap:Nat) (ys:List Value),x = .slice (some ad) l2.length cap→ys.length=l2.length*m→(∀ j u,ys[j]? = some u→w.cell? (ad.add j)=some u)→(∀ u∈ys,u.oneCell'=true)→RDl w O m l2 ys →
   ∃ v' w' O',(Builtin.append_ #[t,t] ty #[v,x]).run P w = .ok v' w'∧zt0 w O T m v w' O' v' (l++l2):=by
  intro ad cap ys hxe hnl hnews hone hrd
  subst hxe
  have hbig:l.length+l2.length≤140737488355328:=Nat.le_trans (Nat.le_mul_of_pos_right _ hby) hb
  obtain ⟨v',w',hr,r1,r2,r3⟩:=run_append_own (P:=P) w 0 t ty T i z m by_ ht i1 i2 i3 i4 hz hm v l.length xs h1 ad l2.length cap _ hnl hnews hone (by unfold maxLen;omega) hb (yh _)
  have hat:∀ b,v'.ownBlock=some b→v.ownBlock=some b∨w.heap.size≤b:=by
   intro c hc
   rcases Nat.lt_or_ge c w.heap.size with hlt|hge
   ·left
    rcases r1.2 with ⟨rfl,_⟩|⟨g,cap',cur,rfl,_,hg,_⟩
    ·simp [Value.ownBlock] at hc
    ·simp only [Value.ownBlock,Option.some.injEq] at hc
     subst hc
     exact za8 (P:=P) t ty T i z m by_ ht i1 i2 i3 i4 v l.length xs h1 ad l2.length cap _ hnl hnews hone (by unfold maxLen;omega) hb hr rfl hlt
   ·exact .inr hge
  obtain ⟨O',hG⟩:=hO.zzq hB r1 r2 h1.1 h2 hrd (fun u hu=>by
   rcases yd.1 hu with hu|hu
   ·exact h3 u hu
   ·exact hone u hu) hat
  exact ⟨v',w',O',hr,hG⟩
 rcases hx with ⟨⟨p,rfl⟩,rfl⟩|⟨b,q,cap,cs,fr,rfl,k2,k3,k4,k5,k6,k7⟩
 ·cases p with
  | none =>
   refine ⟨v,w,O,run_append_owned_none w 0 t ty T i m ht i1 v l.length xs h1,?_⟩
   simp only [List.append_nil]
   exact ⟨hO,Ext.refl _ _,Tr.refl O w,fun _ h=>h,hB,fun b hb => .inl hb,fun b hb => .inl hb⟩
  | some ad=>exact main ad 0 [] rfl (by simp) (by simp) (by simp) trivial
 ·have hlen:l2.length*m≤cap*m:=yf m k2
  have hnl:((cs.toList.drop q).take (l2.length*m)).length=l2.length*m:=by simp;omega
  have hnews:∀ j u,((cs.toList.drop q).take (l2.length*m))[j]? = some u→w.cell? ((⟨b,q,none⟩:Addr).add j)=some u:=fun j u e=>by
   rw [Addr.add_lit,cell_of_row w b _ cs fr.1 fr.2 k5]
   rw [List.getElem?_take] at e
   split at e
   ·simpa using e
   ·cases e
  exact main ⟨b,q,none⟩ cap _ rfl hnl hnews (RDl.one k7) (RDl.z9e k7)
theorem z5n {P:Program} {w:World} (t u ty e:TypeId) (i:TypeInfo) (ht:P.underlying t=some (.slice e)) (hu:P.underlying u=some .string) (hi:P.info? e=some i) (hz:i.zero=some (.int .u8 0))
  (_hs:i.size=1) (hby:i.bytes=1) (s:ByteArray) (h0:0<s.size) (hb:s.size≤140737488355328) :
  (Builtin.append_ #[t,u] ty #[.slice none 0 0,.string s]).run P w =
   .ok (.slice (some ⟨w.heap.size,0,none⟩) s.size (grownCap w s.size 0 e)) (w.drew.alloc (.cells (s.data.map (fun b=>Value.int .u8 b.toNat)++Builtin.zeroCells (Value.int .u8 0).cells (grownCap w s.size 0 e - s.size)) e)) :=
 run_append_nil_string w t u ty e i _ ht hu hi hz s h0 (by omega) (by rw [hby];omega)
def zdq (b:UInt8):List D:=[.int .u8 (b.toNat:Nat)]
theorem z5p {w:World} {O:Nat→Prop}:∀ (s:List UInt8),RDl w O 1 (s.map zdq) (s.map fun b=>Value.int .u8 (b.toNat:Nat))
 | []=>trivial
 | b::s=>⟨⟨_,_,rfl,rfl,rfl⟩,by simpa using z5p s⟩
theorem zcm {P:Program} {w:World} {O:Nat→Prop} {T:Nat} {t u ty:TypeId} {v:Value} {l:List (List D)} {s:List UInt8} (ht:P.underlying t=some (.slice T)) (hu:P.underlying u=some .string) (hi:inf P T=some (.int .u8 0,1,1))
  (h:Own w O T 1 v l) (hB:Bd O w) (hb:l.length+s.length≤140737488355328) :
  ∃ v' w' O',(Builtin.append_ #[t,u] ty #[v,.string ⟨s.toArray⟩]).run P w = .ok v' w'∧zt0 w O T 1 v w' O' v' (l++s.map zdq):=by
 obtain ⟨i,i1,i2,i3,i4⟩:=zgb hi
 have hO:=h
 obtain ⟨xs,h1,h2,h3,h4⟩:=h
 have hsz:(⟨s.toArray⟩:ByteArray).size=s.length:=by simp [ByteArray.size]
 have hsc:Lib.strCells ⟨s.toArray⟩=s.map fun b=>Value.int .u8 (b.toNat:Nat):=by simp [Lib.strCells]
 obtain ⟨v',w',hr,r1,r2,r3⟩:=Lib.run_append_own_string (P:=P) (ty:=ty) w 0 t u T i ht hu i1 i2 i3 i4 v l.length xs h1 ⟨s.toArray⟩ (by unfold maxLen;omega) (by omega) (yh _)
 have hat:∀ b,v'.ownBlock=some b→v.ownBlock=some b∨w.heap.size≤b:=by
  intro c hc
  rcases Nat.lt_or_ge c w.heap.size with hlt|hge
  ·left
   rcases h1.2 with ⟨rfl,h0⟩|⟨g,cap,cur,rfl,_,hg,hnc,hcm,hcs,htake⟩
   ·by_cases hm:s.length=0
    ·rw [r3.2 ⟨rfl,by omega⟩] at hc
     exact hc
    ·have h:=z5n (P:=P) (w:=w) t u ty T i ht hu i1 i2 i3 i4 ⟨s.toArray⟩ (by omega) (by omega)
     rw [h] at hr
     cases hr
     simp only [Value.ownBlock,Option.some.injEq] at hc
     omega
   ·by_cases hroom:l.length+(⟨s.toArray⟩:ByteArray).size≤cap
    ·have h:=Lib.run_append_room_string (P:=P) (ty:=ty) w t u T i ht hu i1 i3 g l.length cap cur hg ⟨s.toArray⟩ hroom (by omega)
     rw [h] at hr
     cases hr
     exact hc
    ·have holds:∀ j u,xs[j]? = some u→w.cell? ((⟨g,0,none⟩:Addr).add j)=some u:=h1.cells (g:=g) rfl
     have h:=Lib.run_append_grow_string (P:=P) (ty:=ty) w t u T i _ ht hu i1 i2 ⟨g,0,none⟩ l.length cap xs (by rw [i3];exact h1.1) holds ⟨s.toArray⟩ (by omega) (by omega) (growslice_fits (by omega) (by rw [i4];omega))
     rw [h] at hr
     cases hr
     simp only [Value.ownBlock,Option.some.injEq] at hc
     omega
  ·exact .inr hge
 rw [hsz,hsc] at r1
 obtain ⟨O',hG⟩:=hO.zzq hB (l2:=s.map zdq) (by simpa using r1) r2 h1.1 h2 (z5p s) (fun u hu=>by
  rcases yd.1 hu with hu|hu
  ·exact h3 u hu
  ·obtain ⟨b,_,rfl⟩:=List.mem_map.1 hu
   rfl) hat
 exact ⟨v',w',O',hr,hG⟩

section
variable {C:Cx} {n:Nat} {ds:List Deferred} {k:Act→World→Prop} {L:Env} {w:World} {ops:Array Oper} {o:Oper} {rest:List Oper} {d:Nat} {v:Value}
theorem OW.zml {O:Nat→Prop} {t T m by_:Nat} {x y:Operand} {z vx vy:Value} {l l2:List (List D)} (hg:o.guard=none) (hd:o.dst=some d) (hn:ye d n=true) (ho:o.op = .call { callee:=.builtin .append,args := #[x,y],argTypes := #[t,t] })
  (ht:C.P.underlying t=some (.slice T)) (hi:inf C.P T=some (z,m,by_)) (hz:z.cells.size=m) (hm:ye 0 m=true) (hby:ye 0 by_=true) (hx:ev L x=some vx) (hy:ev L y=some vy)
  (hown:Own w O T m vx l) (hB:Bd O w) (hdat:RD w O (.sl T m l2) vy) (hb:(l.length+l2.length)*by_≤140737488355328)
  (h:∀ v' w' O',zt0 w O T m vx w' O' v' (l++l2)→OW C n ds ops rest k ((d,v')::L) w'):OW C n ds ops (o::rest) k L w:=by
 obtain ⟨v',w',O',hr,hG⟩:=zbw (ty:=o.type) ht hi hz (by simpa [Nat.blt_eq] using hm) (by simpa [Nat.blt_eq] using hby) hown hB hdat hb
 refine OW.val (v:=v') (w':=w') hg hd hn (fun a ha => ?_) (h v' w' O' hG)
 simp only [execOp,ho,resolve,invoke,builtin,Sem.run_bind,Sem.run_pure,Result.andThen_ok,yc,List.map_cons,List.map_nil,ha.ev hx,ha.ev hy,hr]
theorem OW.zt6 {O:Nat→Prop} {t u T:Nat} {x y:Operand} {vx:Value} {l:List (List D)} {s:List UInt8} (hg:o.guard=none) (hd:o.dst=some d) (hn:ye d n=true) (ho:o.op = .call { callee:=.builtin .append,args := #[x,y],argTypes := #[t,u] })
  (ht:C.P.underlying t=some (.slice T)) (hu:C.P.underlying u=some .string) (hi:inf C.P T=some (.int .u8 0,1,1)) (hx:ev L x=some vx) (hy:ev L y=some (.string ⟨s.toArray⟩))
  (hown:Own w O T 1 vx l) (hB:Bd O w) (hb:l.length+s.length≤140737488355328)
  (h:∀ v' w' O',zt0 w O T 1 vx w' O' v' (l++s.map zdq)→OW C n ds ops rest k ((d,v')::L) w'):OW C n ds ops (o::rest) k L w:=by
 obtain ⟨v',w',O',hr,hG⟩:=zcm (ty:=o.type) ht hu hi hown hB hb
 refine OW.val (v:=v') (w':=w') hg hd hn (fun a ha => ?_) (h v' w' O' hG)
 simp only [execOp,ho,resolve,invoke,builtin,Sem.run_bind,Sem.run_pure,Result.andThen_ok,yc,List.map_cons,List.map_nil,ha.ev hx,ha.ev hy,hr]
def RV (C:Cx) (L:Env) (w:World) (r:ResultVar) (v:Value):Prop :=
 match r with
 | .tmp t=>Env.get L t=some v
 | .cell t T=>∃ b U cs g m,Env.get L t=some (.pointer (some ⟨b,0,none⟩))∧shp C.P T=some (g,m)∧z0r w b U cs∧cs.length=m∧(match g with|true=>v = .agg cs.toArray|false=>cs[0]? = some v)
def RVs (C:Cx) (L:Env) (w:World):List ResultVar→List Value→Prop
 | [],vs=>vs=[]
 | r::rs,vs=>∃ v vs',vs=v::vs'∧RV C L w r v∧RVs C L w rs vs'
def zlu (a:Act):ResultVar→Sem Value
 | .tmp t=>pure (a.tmps.getD t undef)
 | .cell p t=>do loadVar t (←asAddr (a.tmps.getD p undef))
theorem zdh (fn:Func) (a:Act):results fn a.tmps=(do let vs←fn.results.mapM (zlu a);pure (if h:vs.size=1 then vs[0] else .tuple vs)):=rfl
theorem RV.run {a:Act} (ha:Has n L a) {r:ResultVar} {v:Value} (h1:RV C L w r v):(zlu a r).run C.P w = .ok v w:=by
 cases r with
 | tmp t=>simp [zlu,ha.get t v h1]
 | cell p T =>
  obtain ⟨b,U,cs,g,m,k1,k2,k3,k4,k5⟩:=h1
  cases g with
  | true =>
   simp only at k5
   subst k5
   have h2:=z9z (P:=C.P) (w:=w) (b:=b) (o:=0) k2 k4 (fun j v e=>by rw [Nat.zero_add,k3.cell];exact e)
   simp [zlu,ha.get p _ k1,asAddr,h2]
  | false =>
   simp only at k5
   have h2:=z68 (P:=C.P) (w:=w) (a:=⟨b,0,none⟩) k2 ((k3.cell 0).trans k5)
   simp [zlu,ha.get p _ k1,asAddr,h2]
theorem RVs.run {a:Act} (ha:Has n L a):∀ {rs:List ResultVar} {vs:List Value},RVs C L w rs vs→(rs.mapM (zlu a)).run C.P w = .ok vs w
 | [],vs,h=>by simp only [RVs] at h;subst h;rfl
 | r::rs,vs,h=>by
  obtain ⟨v,vs',rfl,h1,h2⟩:=h
  have ih:=RVs.run ha h2
  simp only [List.mapM_cons,Sem.run_bind,h1.run ha,ih,Result.andThen_ok,Sem.run_pure]
theorem Out.many {rs:List ResultVar} {vs:List Value} (h:C.fn.results=rs.toArray) (hv:RVs C L w rs vs) (h1:Nat.beq vs.length 1=false):Out C n L w (.tuple vs.toArray):=fun a ha=>by
 have h2:=RVs.run (C:=C) ha hv
 have h3:vs.length≠1:=Nat.ne_of_beq_eq_false h1
 rw [zdh]
 simp only [h,Sem.run_bind]
 rw [yi,Sem.run_map]
 simp only [h2,Result.andThen_ok,Sem.run_pure]
 simp [h3]
theorem Out.single {r:ResultVar} {v:Value} (h:C.fn.results = #[r]) (hv:RV C L w r v):Out C n L w v:=fun a ha=>by
 rw [zdh]
 simp only [h,Sem.run_bind]
 rw [yi,Sem.run_map]
 simp [RV.run ha hv]
end
theorem Own.len {w:World} {O:Nat→Prop} {T m:Nat} {v:Value} {l:List (List D)} (h:Own w O T m v l):∃ p c,v = .slice p l.length c:=by
 obtain ⟨xs,h1,_⟩:=h
 rcases h1.2 with ⟨rfl,h0⟩|⟨g,cap,cur,rfl,_⟩
 ·exact ⟨none,0,by rw [h0]⟩
 ·exact ⟨_,cap,rfl⟩
theorem Own.z7b {w':World} {O:Nat→Prop} {b T m len:Nat} {cs:List Value} {l:List (List D)} (hb:z0r w' b T cs) (hl:l.length=len) (hm:len≤maxLen) (hs:cs.length=len*m) (h:RDl w' O m l cs) (ho:O b) :
  Own w' O T m (.slice (some ⟨b,0,none⟩) len len) l:=by
 subst hl
 refine ⟨cs,⟨hs,.inr ⟨b,l.length,cs.toArray,rfl,yh _,hb,Nat.le_refl _,hm,by simp [hs],by simp [←hs]⟩⟩,h,fun x hx=>RDl.one h x (by rw [←hs,List.take_length];exact hx),fun c hc=>by simp only [Value.ownBlock,Option.some.injEq] at hc;subst hc;exact ho⟩
end Go.Lk
end
