import Derived.Test.YtfdoofnmjehecaaGreatDoorPLmC
import Derived.Lib.AppendStr
set_option linter.all false
namespace Go.Lk
open _root_.Option renaming bind_eq_some_iff → ya
open _root_.List renaming drop_drop → yb, eq_nil_of_length_eq_zero → yc, length_append → yd, length_cons → ye
open _root_.Nat renaming blt → yf, eq_of_beq_eq_true → yg, le_of_ble_eq_true → yh, le_refl → yi, mul_le_mul_right → yj, succ_mul → yk
open Go.RowKit

def Bd (O:Nat→Prop) (w:World):Prop := ∀ x,O x→x<w.heap.size
theorem Bd.ext {O F:Nat→Prop} {w w':World} (h:Bd O w) (x:Ext F w w'):Bd O w':=fun b hb=>Nat.lt_of_lt_of_le (h b hb) x.size
theorem Bd.ins {O:Nat→Prop} {w:World} {b:Nat} (h:Bd O w) (hb:b<w.heap.size):Bd (Ins O b) w:=fun x hx=>by
 rcases hx with rfl|hx
 ·exact hb
 ·exact h x hx

theorem Ext.zb0 {P:Program} {w:World} {b o:Nat} {T:TypeId} {cs vs:List Value} (hb:z2b w b T cs) (hl:o+vs.length≤cs.length) (h1:∀ v∈vs,v.oneCell'=true) :
  ∃ w',(storeCells ⟨b,o,none⟩ vs).run P w = .ok () w'∧z2b w' b T (cs.take o++vs++cs.drop (o+vs.length))∧Ext (At b) w w':=by
 have h:=run_storeCells_at P b o T vs 0 cs.toArray w hb (by simpa using hl) h1
 refine ⟨_,h,?_,⟨rfl,rfl,rfl,by simp,fun k _ hk=>setRow_other w b k _ hk⟩⟩
 have:=setRow_heap w b cs.toArray (cs.take o++vs++cs.drop (o+vs.length)).toArray T (0,0) hb
 simpa [z2b] using this

section
variable {C:Cx} {n:Nat} {ds:List Deferred} {k:Act→World→Prop} {L:Env} {w:World} {ops:Array Oper} {o:Oper} {rest:List Oper} {d:Nat} {v:Value}

theorem OW.box {T:TypeId} {x:Operand} {u:Value} {cs:List Value} (hg:o.guard=none) (hd:o.dst=some d) (hn:yf d n=true) (ho:o.op = .box T x) (hx:ev L x=some u) (hcs:u.cells=cs.toArray)
  (h:∀ b w',z2b w' b T cs→Ext z18 w w'→w.heap.size≤b→OW C n ds ops rest k ((d,.pointer (some ⟨b,0,none⟩))::L) w'):OW C n ds ops (o::rest) k L w :=
 OW.val (w':=w.alloc (.cells cs.toArray T)) hg hd hn (fun a ha=>by
  simp [execOp,ho,ha.ev hx,Instr.box,newVar,newRow,hcs]) (h _ _ (z2b.new w T cs) (Ext.alloc _ _ _) (yi _))
theorem OW.alloc {T:TypeId} {z:Value} {cs:List Value} (hg:o.guard=none) (hd:o.dst=some d) (hn:yf d n=true) (ho:o.op = .alloc T) (hz:zer C.P T=some z) (hcs:z.cells=cs.toArray)
  (h:∀ b w',z2b w' b T cs→Ext z18 w w'→w.heap.size≤b→OW C n ds ops rest k ((d,.pointer (some ⟨b,0,none⟩))::L) w'):OW C n ds ops (o::rest) k L w :=
 OW.val (w':=w.alloc (.cells cs.toArray T)) hg hd hn (fun a ha=>by
  obtain ⟨i,h5,h6⟩:=ya.1 hz
  simp [execOp,ho,Instr.alloc,zeroValue,typeInfo,h5,h6,newVar,newRow,hcs]) (h _ _ (z2b.new w T cs) (Ext.alloc _ _ _) (yi _))
theorem EX.fieldAddr {T:TypeId} {x:Operand} {i j b q m:Nat} {g:Bool} (ho:o.op = .fieldAddr T x i) (hf:fld C.P T i=some (j,g,m)) (hx:ev L x=some (.pointer (some ⟨b,q,none⟩))):EX C n L w o (.pointer (some ⟨b,q+j,none⟩)) :=
 fun a ha=>by simp only [execOp,ho,ha.ev hx,Sem.run_bind,zgo hf,Result.andThen_ok];rfl
theorem OW.fieldAddr {T:TypeId} {x:Operand} {i j b q m:Nat} {g:Bool} (hg:o.guard=none) (hd:o.dst=some d) (hn:yf d n=true) (ho:o.op = .fieldAddr T x i) (hf:fld C.P T i=some (j,g,m)) (hx:ev L x=some (.pointer (some ⟨b,q,none⟩))) (h:OW C n ds ops rest k ((d,.pointer (some ⟨b,q+j,none⟩))::L) w):OW C n ds ops (o::rest) k L w :=
 OW.val hg hd hn (EX.fieldAddr ho hf hx) h
theorem EX.field {T:TypeId} {x:Operand} {i j m:Nat} {cs:List Value} (ho:o.op = .field T x i) (hf:fld C.P T i=some (j,false,m)) (hx:ev L x=some (.agg cs.toArray)) (hv:cs[j]? = some v):EX C n L w o (v) :=
 fun a ha=>by simp only [execOp,ho,ha.ev hx,Sem.run_bind,zld hf hv,Result.andThen_ok];rfl
theorem EX.zs0 {T:TypeId} {x:Operand} {i j m:Nat} {cs:List Value} (ho:o.op = .field T x i) (hf:fld C.P T i=some (j,true,m)) (hx:ev L x=some (.agg cs.toArray)):EX C n L w o (.agg ((cs.drop j).take m).toArray) :=
 fun a ha=>by simp only [execOp,ho,ha.ev hx,Sem.run_bind,zj1 hf,Result.andThen_ok];rfl
theorem EX.zgb {T U:TypeId} {x:Operand} {b q m:Nat} {cs:List Value} (ho:o.op = .load T x) (hT:shp C.P T=some (false,m)) (hx:ev L x=some (.pointer (some ⟨b,q,none⟩)))
  (hb:z2b w b U cs) (hv:cs[q]? = some v):EX C n L w o (v) :=
 fun a ha=>by
  simp only [execOp,ho,ha.ev hx,Sem.run_bind,Instr.loadAt,Instr.sureAddr,Sem.run_pure,Result.andThen_ok,z6q hT ((hb.cell q).trans hv)]
theorem OW.zgb {T U:TypeId} {x:Operand} {b q m:Nat} {cs:List Value} (hg:o.guard=none) (hd:o.dst=some d) (hn:yf d n=true) (ho:o.op = .load T x) (hT:shp C.P T=some (false,m)) (hx:ev L x=some (.pointer (some ⟨b,q,none⟩)))
  (hb:z2b w b U cs) (hv:cs[q]? = some v) (h:OW C n ds ops rest k ((d,v)::L) w):OW C n ds ops (o::rest) k L w :=
 OW.val hg hd hn (EX.zgb ho hT hx hb hv) h
theorem EX.zui {T:TypeId} {x:Operand} {p:Addr} {m:Nat} (ho:o.op = .load T x) (hT:shp C.P T=some (false,m)) (hx:ev L x=some (.pointer (some p)))
  (hv:w.cell? p=some v):EX C n L w o (v) :=
 fun a ha=>by
  simp only [execOp,ho,ha.ev hx,Sem.run_bind,Instr.loadAt,Instr.sureAddr,Sem.run_pure,Result.andThen_ok,z6q hT hv]
theorem EX.zsd {T:TypeId} {x:Operand} {b q m:Nat} {vs:List Value} (ho:o.op = .load T x) (hT:shp C.P T=some (true,m)) (hx:ev L x=some (.pointer (some ⟨b,q,none⟩)))
  (hl:vs.length=m) (hc:∀ j u,vs[j]? = some u→w.cell? ⟨b,q+j,none⟩=some u):EX C n L w o (.agg vs.toArray) :=
 fun a ha=>by
  simp only [execOp,ho,ha.ev hx,Sem.run_bind,Instr.loadAt,Instr.sureAddr,Sem.run_pure,Result.andThen_ok,z9h hT hl hc]
theorem OW.store {T U:TypeId} {x y:Operand} {b q m:Nat} {g:Bool} {u:Value} {cs vs cs':List Value} (hg:o.guard=none) (hd:o.dst=none) (ho:o.op = .store T x y) (hT:shp C.P T=some (g,m)) (hx:ev L x=some (.pointer (some ⟨b,q,none⟩)))
  (hy:ev L y=some u) (hu:u.cells=vs.toArray) (hm:vs.length=m) (hb:z2b w b U cs) (hq:Nat.ble (q+vs.length) cs.length=true) (h1:vs.all (·.oneCell')=true) (hcs:cs.take q++vs++cs.drop (q+vs.length)=cs')
  (h:∀ w',z2b w' b U cs'→Ext (At b) w w'→OW C n ds ops rest k L w'):OW C n ds ops (o::rest) k L w:=by
 obtain ⟨w',hr,hb',hx'⟩:=Ext.zb0 (P:=C.P) (o:=q) (vs:=vs) hb (yh hq) (by simpa using h1)
 refine OW.unit (w':=w') hg hd (fun a ha => ?_) (h w' (hcs▸hb') hx')
 simp [execOp,ho,ha.ev hx,ha.ev hy,Instr.storeAt,Instr.sureAddr,storeVar,hu,(z1c hT).2,hm,hr]
end

structure EAt (w:World) (O:Nat→Prop) (b q:Nat) (cs:List Value):Prop where
 out:¬O b
 row:∃ r T fr,w.heap[b]? = some (.cells r T fr)∧∀ j u,cs[j]? = some u→r[q+j]? = some u
theorem EAt.at_ {w:World} {O:Nat→Prop} {b q:Nat} {cs:List Value} (h:EAt w O b q cs):∀ j u,cs[j]? = some u→w.cell? ⟨b,q+j,none⟩=some u:=by
 obtain ⟨r,T,fr,h1,h2⟩:=h.row
 intro j u e
 rw [cell_of_row w b _ r T fr h1]
 exact h2 j u e
theorem EAt.tr {w w':World} {O O':Nat→Prop} {b q:Nat} {cs:List Value} (h:EAt w O b q cs) (t:Tr O w O' w'):EAt w' O' b q cs:=by
 obtain ⟨r,T,fr,h1,h2⟩:=h.row
 have hb:b<w.heap.size:=by
  rcases Nat.lt_or_ge b w.heap.size with hb|hb
  ·exact hb
  ·simp [Array.getElem?_eq_none hb] at h1
 exact ⟨t.owned b hb h.out,r,T,fr,(t.block b hb h.out).trans h1,h2⟩
def z98 (w:World) (O:Nat→Prop) (b q n:Nat) (x:List D):Prop := ∃ cs,cs.length=n∧EAt w O b q cs∧RDs w O x cs
theorem RDl.at {w:World} {O:Nat→Prop} {n:Nat}:∀ {l:List (List D)} {cs:List Value} {i:Nat} {x:List D},RDl w O n l cs→l[i]? = some x→RDs w O x ((cs.drop (i*n)).take n)
 | [],_,_,_,_,h=>by simp at h
 | y::l,cs,0,x,h,e=>by simp at e;subst e;simpa using h.1
 | y::l,cs,i+1,x,h,e=>by
  have:=RDl.at (i:=i) h.2 (by simpa using e)
  rw [yb] at this
  rwa [yk,Nat.add_comm]
theorem RD.elem {w:World} {O:Nat→Prop} {T n:Nat} {l:List (List D)} {v:Value} {i:Nat} {x:List D} (h:RD w O (.sl T n l) v) (hi:l[i]? = some x) :
  ∃ b q cap,v = .slice (some ⟨b,q,none⟩) l.length cap∧i<l.length∧z98 w O b (q+i*n) n x:=by
 have hlt:i<l.length:=by
  rcases Nat.lt_or_ge i l.length with h'|h'
  ·exact h'
  ·simp [List.getElem?_eq_none h'] at hi
 rcases h with ⟨_,h⟩|⟨b,q,cap,cs,fr,h1,h2,h3,h4,h5,h6,h7⟩
 ·subst h;simp at hi
 ·refine ⟨b,q,cap,h1,hlt,((cs.toList.drop q).drop (i*n)).take n,?_,?_,RDl.at h7 hi⟩
  ·have:(i+1)*n≤cap*n:=yj n (by omega)
   rw [yk] at this
   simp
   omega
  ·refine ⟨h4,cs,fr.1,fr.2,h5,fun j u e => ?_⟩
   rw [List.getElem?_take] at e
   split at e
   ·simpa [Nat.add_assoc] using e
   ·cases e
theorem RD.len {w:World} {O:Nat→Prop} {T n:Nat} {l:List (List D)} {v:Value} (h:RD w O (.sl T n l) v):∃ p c,v = .slice p l.length c:=by
 rcases h with ⟨⟨p,h1⟩,h2⟩|⟨b,q,cap,cs,fr,h1,_⟩
 ·exact ⟨p,0,by subst h2;exact h1⟩
 ·exact ⟨_,cap,h1⟩
theorem RDl.drop {w:World} {O:Nat→Prop} {n:Nat}:∀ {l:List (List D)} {cs:List Value} (i:Nat),RDl w O n l cs→RDl w O n (l.drop i) (cs.drop (i*n))
 | l,cs,0,h=>by simpa using h
 | [],cs,i+1,_=>by simp [RDl,RD.RDl]
 | y::l,cs,i+1,h=>by
  have:=RDl.drop (n:=n) i h.2
  rw [yb] at this
  rw [yk,Nat.add_comm (i*n)]
  exact this
theorem RDl.take {w:World} {O:Nat→Prop} {n:Nat}:∀ {l:List (List D)} {cs:List Value} (i:Nat),RDl w O n l cs→RDl w O n (l.take i) cs
 | l,cs,0,_=>by simp [RDl,RD.RDl]
 | [],cs,i+1,_=>by simp [RDl,RD.RDl]
 | y::l,cs,i+1,h=>⟨h.1,RDl.take (n:=n) i h.2⟩
theorem RD.sub {P:Program} {w:World} {O:Nat→Prop} {T n t:Nat} {l:List (List D)} {v:Value} {a b:Nat} {lo hi:Option Value} {g:Bool} (ht:P.underlying t=some (.slice T)) (hT:shp P T=some (g,n)) (h:RD w O (.sl T n l) v)
  (hlo:LoV lo a 0) (hhi:LoV hi b l.length) (hab:a≤b) (hb:b≤l.length) :
  ∃ v',(Instr.sliceAt t v lo hi none).run P w = .ok v' w∧RD w O (.sl T n ((l.take b).drop a)) v':=by
 have key:∀ (p:Option Addr) (cap:Nat),l.length≤cap→(Instr.sliceAt t (.slice p l.length cap) lo hi none).run P w = .ok (.slice (if cap=a then p else p.map (·.add (a*n))) (b - a) (cap - a)) w:=by
  intro p cap hc
  have i3:(a:Int)≤(b:Int):=Int.ofNat_le.2 hab
  have i4:(b:Int)≤(cap:Int):=Int.ofNat_le.2 (by omega)
  simp only [Instr.sliceAt,Sem.run_bind,run_underlying ht,Result.andThen_ok,Instr.slice]
  cases lo with
  | none =>
   simp only [LoV] at hlo
   subst hlo
   cases hi with
   | none=>simp only [LoV] at hhi;subst hhi;simp [Instr.sliceBounds,(z1c hT).2]
   | some y=>obtain ⟨kd,rfl⟩:=hhi;simp [Instr.sliceBounds,Instr.sliceBound,asIntOf,(z1c hT).2,show b≤cap by omega]
  | some z =>
   obtain ⟨kz,rfl⟩:=hlo
   cases hi with
   | none=>simp only [LoV] at hhi;subst hhi;simp [Instr.sliceBounds,Instr.sliceBound,asIntOf,(z1c hT).2,hab]
   | some y=>obtain ⟨kd,rfl⟩:=hhi;simp [Instr.sliceBounds,Instr.sliceBound,asIntOf,(z1c hT).2,hab,show b≤cap by omega]
 rcases h with ⟨⟨p,rfl⟩,rfl⟩|⟨bb,q,cap,cs,fr,rfl,h2,h3,h4,h5,h6,h7⟩
 ·have hb0:b=0:=by simpa using hb
  have ha0:a=0:=by omega
  subst hb0 ha0
  have:=key p 0 (yi _)
  simp only [List.length_nil] at this
  refine ⟨_,this,?_⟩
  simp [RD]
 ·refine ⟨_,key _ cap h2,?_⟩
  right
  have hlen:((l.take b).drop a).length=b - a:=by simp;omega
  have h8:RDl w O n ((l.take b).drop a) ((cs.toList.drop q).drop (a*n)):=RDl.drop a (RDl.take b h7)
  by_cases hca:cap=a
  ·have:b=a:=by omega
   subst this
   have e0:(l.take b).drop b=[]:=yc (by rw [hlen];omega)
   rw [if_pos hca,e0]
   exact ⟨bb,q,cap - b,cs,fr,by simp,by simp,by omega,h4,h5,by rw [hca];simp;exact Nat.le_trans (Nat.le_add_right _ _) h6,trivial⟩
  ·rw [if_neg hca]
   refine ⟨bb,q+a*n,cap - a,cs,fr,by rw [hlen];simp [Addr.add_lit],by omega,by omega,h4,h5,?_,by rw [←yb];exact h8⟩
   rw [Nat.sub_mul]
   have:a*n≤cap*n:=yj n (by omega)
   omega

section
variable {C:Cx} {n:Nat} {ds:List Deferred} {k:Act→World→Prop} {L:Env} {w:World} {ops:Array Oper} {o:Oper} {rest:List Oper} {d:Nat} {v:Value}
theorem EX.indexAddr {t T m:TypeId} {gg:Bool} {x y:Operand} {b q len cap:Nat} {kd:IntKind} {i:Int} {j:Nat} (ho:o.op = .indexAddr t x y)
  (ht:C.P.underlying t=some (.slice T)) (hT:shp C.P T=some (gg,m)) (hx:ev L x=some (.slice (some ⟨b,q,none⟩) len cap)) (hy:ev L y=some (.int kd i)) (hi:i=(j:Nat)) (hj:j<len):EX C n L w o (.pointer (some ⟨b,q+j*m,none⟩)) :=
 fun a ha=>by
  subst hi
  simp [execOp,ho,ha.ev hx,ha.ev hy,Instr.indexAt,asIntOf,run_underlying ht,(z1c hT).2,hj,Addr.add_lit]
def flat (m:Nat):Nat→List (Nat × Value)→Option (List Value)
 | _,[]=>some []
 | i,(j,v)::r=>match Nat.beq i j,Nat.beq v.cells.size m,flat m (i+1) r with
  | true,true,some cs=>some (v.cells.toList++cs)
  | _,_,_=>none
theorem zcu:∀ (l:List Value) (k off:Nat) (cs:Array Value),off+k+l.length≤cs.size →
  (l.zipIdx k).foldl (fun cs (x:Value × Nat)=>cs.setIfInBounds (off+x.2) x.1) cs=(cs.toList.take (off+k)++l++cs.toList.drop (off+k+l.length)).toArray
 | [],k,off,cs,_=>by simp
 | x::l,k,off,cs,h=>by
  simp only [ye] at h
  simp only [List.zipIdx_cons,List.foldl_cons]
  rw [zcu l (k+1) off _ (by simp;omega)]
  congr 1
  simp only [Array.toList_setIfInBounds,ye]
  rw [List.take_set,List.drop_set_of_lt (by omega)]
  have e1:(cs.toList.take (off+(k+1))).set (off+k) x=cs.toList.take (off+k)++[x]:=by
   rw [show off+(k+1)=(off+k)+1 by omega,List.take_succ_eq_append_getElem (by simp;omega),List.set_append]
   rw [if_neg (by simp;omega)]
   simp
   rw [show off+k - min (off+k) cs.size=0 by omega]
   rfl
  rw [e1,show off+(k+1)+l.length=off+k+(l.length+1) by omega]
  simp
theorem za6 (m len:Nat):∀ (r:List (Nat × Value)) (i:Nat) (cs:Array Value) (out:List Value),flat m i r=some out→(i+r.length)*m≤cs.size →
  Instr.fill (fun i=>some (i*m,m)) cs r=some ((cs.toList.take (i*m)++out++cs.toList.drop ((i+r.length)*m)).toArray)∧out.length=r.length*m
 | [],i,cs,out,h,_=>by
  simp only [flat,Option.some.injEq] at h
  subst h
  simp [Instr.fill]
 | (j,v)::r,i,cs,out,h,hl=>by
  unfold flat at h
  split at h
  ·rename_i cs' h1 h2 h3
   simp only [Option.some.injEq] at h
   subst h
   have h1:=yg h1
   have h2:=yg h2
   subst h1
   simp only [ye] at hl
   have hl1:(i+1)*m≤(i+(r.length+1))*m:=yj m (by omega)
   rw [yk] at hl1
   have hf:(v.cells.zipIdx.foldl (fun cs (c,j)=>cs.setIfInBounds (i*m+j) c) cs)=(cs.toList.take (i*m)++v.cells.toList++cs.toList.drop (i*m+v.cells.toList.length)).toArray:=by
    have:=zcu v.cells.toList 0 (i*m) cs (by simp [h2];omega)
    simp only [Nat.add_zero] at this
    rw [←this,←Array.foldl_toList,Array.toList_zipIdx]
   have ih:=za6 m len r (i+1) (cs.toList.take (i*m)++v.cells.toList++cs.toList.drop (i*m+v.cells.toList.length)).toArray cs' h3 (by
    simp [h2]
    rw [show i+1+r.length=i+(r.length+1) by omega]
    omega)
   refine ⟨?_,?_⟩
   ·unfold Instr.fill
    simp only
    rw [if_neg (by simp [h2];omega),hf,ih.1]
    congr 2
    have e1:(cs.toList.take (i*m)).length=i*m:=by simp;omega
    have e2:(cs.toList.take (i*m)++v.cells.toList).length=(i+1)*m:=by rw [yd,e1,yk];simp [h2]
    have e3:(i+1+r.length)*m=(i+1)*m+r.length*m:=by rw [Nat.add_mul]
    have e4:(i+(r.length+1))*m=(i+1)*m+r.length*m:=by rw [←e3];congr 1;omega
    have t1:((cs.toList.take (i*m)++v.cells.toList)++cs.toList.drop (i*m+v.cells.toList.length)).take ((i+1)*m)=cs.toList.take (i*m)++v.cells.toList:=by
     rw [←e2];exact List.take_left
    have t2:((cs.toList.take (i*m)++v.cells.toList)++cs.toList.drop (i*m+v.cells.toList.length)).drop ((i+1+r.length)*m)=cs.toList.drop ((i+(r.length+1))*m):=by
     rw [List.drop_append,e2,e3,List.drop_eq_nil_of_le (by omega),List.nil_append,yb,e4]
     congr 1
     simp [h2,yk]
    rw [t1,t2,ye]
    simp
   ·rw [yd,ih.2,ye,yk]
    simp [h2]
    omega
  ·cases h
theorem OW.buildSlice {t T m:TypeId} {gg:Bool} {len:Nat} {z:Value} {parts:Array (Nat × Operand)} {vs:List (Nat × Value)} {cs:List Value} (hg:o.guard=none) (hd:o.dst=some d) (hn:yf d n=true) (ho:o.op = .buildSlice t len parts)
  (ht:C.P.underlying t=some (.slice T)) (hT:shp C.P T=some (gg,m)) (hz:zer C.P T=some z) (_hzm:z.cells.size=m) (hp:evp L parts.toList=some vs) (hb:flat m 0 vs=some cs) (hlen:vs.length=len) (hbig:Nat.ble (len*m) 16777216=true)
  (h:∀ b w',z2b w' b T cs→Ext z18 w w'→w.heap.size≤b→OW C n ds ops rest k ((d,.slice (some ⟨b,0,none⟩) len len)::L) w'):OW C n ds ops (o::rest) k L w :=
 OW.val (w':=w.alloc (.cells cs.toArray T)) hg hd hn (fun a ha=>by
  have e:(parts.map fun (i,x)=>(i,a.eval x))=vs.toArray:=by apply Array.toList_inj.1;simpa using ha.evp hp
  have hbig':¬len*m>2 ^ 24:=by have:=yh hbig;omega
  obtain ⟨i,h6,h7⟩:=ya.1 hz
  have key:∀ A:Array Value,A.size=len*m→Instr.fill (fun i=>some (i*m,m)) A vs=some cs.toArray:=fun A hA=>by
   have:=(za6 m len vs 0 A cs hb (by rw [hlen,hA];simp)).1
   rw [this]
   simp [hlen,←hA]
  by_cases h0:len*m=0
  ·simp only [execOp,ho,e,Instr.buildSlice,Sem.run_bind,run_underlying ht,Result.andThen_ok,(z1c hT).2,if_neg hbig',if_pos h0,Sem.run_pure]
   rw [key _ (by simp)]
   simp [newRow]
  ·simp only [execOp,ho,e,Instr.buildSlice,Sem.run_bind,run_underlying ht,Result.andThen_ok,(z1c hT).2,if_neg hbig',if_neg h0,Sem.run_pure,zeroValue,typeInfo,run_program,h6,h7]
   rw [key _ (by simp)]
   simp [newRow]) (h _ _ (z2b.new w T cs) (Ext.alloc _ _ _) (yi _))
end
theorem RD.z6m {w w':World} {O:Nat→Prop} {b T m len:Nat} {cs:List Value} {l:List (List D)} (hb:z2b w' b T cs) (hB:Bd O w) (hw:w.heap.size≤b) (hl:l.length=len) (hm:len≤maxLen) (hs:cs.length=len*m) (h:RDl w' O m l cs) :
  RD w' O (.sl T m l) (.slice (some ⟨b,0,none⟩) len len):=by
 subst hl
 exact .inr ⟨b,0,l.length,cs.toArray,(T,(0,0)),rfl,yi _,hm,fun ho=>by have:=hB b ho;omega,hb,by simp [hs],by simpa using h⟩

def Own (w:World) (O:Nat→Prop) (T m:Nat) (v:Value) (l:List (List D)):Prop :=
 ∃ xs,w.ownsRow 0 T m v l.length xs∧RDl w O m l xs∧(∀ x∈xs,x.oneCell'=true)∧∀ b,v.ownBlock=some b→O b
theorem Own.nil (w:World) (O:Nat→Prop) (T m:Nat):Own w O T m (.slice none 0 0) []:=⟨[],World.ownsRow_nil w 0 T m,trivial,by simp,by simp [Value.ownBlock]⟩
theorem RDl.tr {O O':Nat→Prop} {w w':World} {m:Nat} {d:List (List D)} {v:List Value} (h:RDl w O m d v) (t:Tr O w O' w'):RDl w' O' m d v :=
 RDl.keep (fun b hb ho=>⟨t.block b hb ho,t.owned b hb ho⟩) m d v h
theorem Own.keep {w w':World} {O O' F:Nat→Prop} {T m:Nat} {v:Value} {l:List (List D)} (h:Own w O T m v l) (x:Ext F w w') (hf:∀ b,v.ownBlock=some b→¬F b) (t:Tr O w O' w') (ho:∀ b,O b→O' b):Own w' O' T m v l:=by
 obtain ⟨xs,h1,h2,h3,h4⟩:=h
 refine ⟨xs,⟨h1.1,?_⟩,h2.tr t,h3,fun b hb=>ho b (h4 b hb)⟩
 rcases h1.2 with h5|⟨g,cap,cur,rfl,h6,h7,h8⟩
 ·exact .inl h5
 ·exact .inr ⟨g,cap,cur,rfl,h6,(x.block g (Array.getElem?_eq_some_iff.1 h7).1 (hf g rfl)).trans h7,h8⟩
def Del (O:Nat→Prop) (v:Value):Nat→Prop:=fun x=>O x∧v.ownBlock≠some x
theorem RDl.z95 {w:World} {O:Nat→Prop} {m:Nat}:∀ {l:List (List D)} {cs:List Value},RDl w O m l (cs.take (l.length*m))→RDl w O m l cs
 | [],_,_=>trivial
 | z::l,cs,hc=>by
  refine ⟨?_,?_⟩
  ·have:=hc.1
   rwa [List.take_take,Nat.min_eq_left (by simp [yk])] at this
  ·have h2:=hc.2
   have e:(cs.take ((z::l).length*m)).drop m=(cs.drop m).take (l.length*m):=by
    rw [List.drop_take]
    congr 1
    simp [yk]
   rw [e] at h2
   exact RDl.z95 h2
theorem Own.data {w:World} {O:Nat→Prop} {T m:Nat} {v:Value} {l:List (List D)} (h:Own w O T m v l):RD w (Del O v) (.sl T m l) v:=by
 obtain ⟨xs,h1,h2,_,h4⟩:=h
 have h2':RDl w (Del O v) m l xs:=h2.tr (Tr.drop w fun x hx=>hx.1)
 rcases h1.2 with ⟨rfl,h0⟩|⟨g,cap,cur,rfl,_,h7,h8,h9,h10,h11⟩
 ·exact .inl ⟨⟨_,rfl⟩,yc h0⟩
 ·refine .inr ⟨g,0,cap,cur,(_,(0,0)),rfl,h8,h9,fun ho=>ho.2 rfl,h7,by simp [h10],?_⟩
  rw [←h11] at h2'
  simp only [List.drop_zero]
  exact h2'.z95
end Go.Lk
