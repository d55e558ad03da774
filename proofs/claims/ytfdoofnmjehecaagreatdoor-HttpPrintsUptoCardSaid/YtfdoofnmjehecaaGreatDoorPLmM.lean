import Derived.Test.YtfdoofnmjehecaaGreatDoorPLmH
import Derived.Lib.FrozenHead
set_option linter.all false
namespace Go.Lk
open _root_.List renaming append_assoc → ya, eq_nil_of_length_eq_zero → yb, length_append → yc, length_drop → yd, length_take → ye, size_toArray → yf, take_left → yg, toArray → yh
open _root_.Nat renaming add_zero → yi, mul_le_mul_right → yj
open _root_.Array renaming getElem?_eq_some_iff → yk, length_toList → yl
open Go.RowKit

def zts (w:World) (T m:Nat) (v:Value) (n:Nat) (xs:List Value):Prop :=
 xs.length=n*m∧((v = .slice none 0 0∧n=0)∨∃ g cap cur fz,v = .slice (some ⟨g,0,none⟩) n cap∧w.heap[g]? = some (.cells cur T fz)∧(fz.2=0∨cur.size≤fz.1)∧n≤cap∧cap≤maxLen∧cur.size=cap*m∧cur.toList.take (n*m)=xs)
def z8w (w:World) (O:Nat→Prop) (T m:Nat) (v:Value) (l:List (List D)):Prop :=
 ∃ xs,zts w T m v l.length xs∧RDl w O m l xs∧(∀ x∈xs,x.oneCell'=true)∧∀ b,v.ownBlock=some b→O b
theorem zl8 {w:World} {T m n:Nat} {v:Value} {xs:List Value} (h:w.ownsRow 0 T m v n xs):zts w T m v n xs:=by
 refine ⟨h.1,?_⟩
 rcases h.2 with hn|⟨g,cap,cur,hv,_,hg,rest⟩
 ·exact .inl hn
 ·exact .inr ⟨g,cap,cur,(0,0),hv,hg,.inl rfl,rest⟩
theorem z8w.keep {w w':World} {O O' F:Nat→Prop} {T m:Nat} {v:Value} {l:List (List D)} (h:z8w w O T m v l) (x:Ext F w w') (hf:∀ b,v.ownBlock=some b→¬F b) (t:Tr O w O' w') (ho:∀ b,O b→O' b):z8w w' O' T m v l:=by
 obtain ⟨xs,h1,h2,h3,h4⟩:=h
 refine ⟨xs,⟨h1.1,?_⟩,h2.tr t,h3,fun b hb=>ho b (h4 b hb)⟩
 rcases h1.2 with h5|⟨g,cap,cur,fz,rfl,h7,h8⟩
 ·exact .inl h5
 ·exact .inr ⟨g,cap,cur,fz,rfl,(x.block g (yk.1 h7).1 (hf g rfl)).trans h7,h8⟩
theorem z8w.nil (w:World) (O:Nat→Prop) (T m:Nat):z8w w O T m (.slice none 0 0) []:=⟨[],zl8 (World.ownsRow_nil w 0 T m),trivial,by simp,by simp [Value.ownBlock]⟩
theorem z8w.lt {w:World} {O:Nat→Prop} {T m:Nat} {v:Value} {l:List (List D)} (h:z8w w O T m v l):∀ b,v.ownBlock=some b→b<w.heap.size:=by
 obtain ⟨xs,h1,_⟩:=h
 intro b hb
 rcases h1.2 with ⟨rfl,_⟩|⟨g,cap,cur,fz,rfl,h7,_⟩
 ·simp [Value.ownBlock] at hb
 ·simp only [Value.ownBlock,Option.some.injEq] at hb
  subst hb
  exact (yk.1 h7).1
theorem z8w.len {w:World} {O:Nat→Prop} {T m:Nat} {v:Value} {l:List (List D)} (h:z8w w O T m v l):∃ p c,v = .slice p l.length c:=by
 obtain ⟨xs,h1,_⟩:=h
 rcases h1.2 with ⟨rfl,h0⟩|⟨g,cap,cur,fz,rfl,_⟩
 ·exact ⟨none,0,by rw [h0]⟩
 ·exact ⟨_,_,rfl⟩
theorem z8w.data {w:World} {O:Nat→Prop} {T m:Nat} {v:Value} {l:List (List D)} (h:z8w w O T m v l):RD w (Del O v) (.sl T m l) v:=by
 obtain ⟨xs,h1,h2,_,h4⟩:=h
 have h2':RDl w (Del O v) m l xs:=h2.tr (Tr.drop w fun x hx=>hx.1)
 rcases h1.2 with ⟨rfl,h0⟩|⟨g,cap,cur,fz,rfl,h7,_,h8,h9,h10,h11⟩
 ·exact .inl ⟨⟨_,rfl⟩,yb h0⟩
 ·refine .inr ⟨g,0,cap,cur,(_,fz),rfl,h8,h9,fun ho=>ho.2 rfl,h7,by simp [h10],?_⟩
  rw [←h11] at h2'
  simp only [List.drop_zero]
  exact h2'.z95
theorem zts.cells {w:World} {T m n:Nat} {v:Value} {xs:List Value} (h:zts w T m v n xs) {g:Nat} (hg:v.ownBlock=some g):∀ j u,xs[j]? = some u→w.cell? ((⟨g,0,none⟩:Addr).add j)=some u:=by
 intro j u hu
 rcases h.2 with ⟨rfl,_⟩|⟨g',cap,cur,fz,rfl,hgg,_,_,_,_,htake⟩
 ·simp [Value.ownBlock] at hg
 ·simp [Value.ownBlock] at hg
  subst hg
  rw [Addr.add_lit,cell_of_row w g' _ cur T fz hgg]
  rw [←htake,List.getElem?_take] at hu
  split at hu
  ·simpa using hu
  ·cases hu
theorem z47 (P:Program) (g o:Nat) (t:TypeId) (fz:Nat × Nat):∀ (vs:List Value) (i:Nat) (cur:Array Value) (w:World),w.heap[g]? = some (.cells cur t fz)→(fz.2=0∨cur.size≤fz.1)→o+i+vs.length≤cur.size→(∀ v∈vs,v.oneCell'=true) →
  (storeCells ⟨g,o,none⟩ vs i).run P w = .ok () (w.setRow g (cur.toList.take (o+i)++vs++cur.toList.drop (o+i+vs.length)).toArray)
 | [],i,cur,w,hg,_,_,_=>by
  simp only [storeCells,List.append_nil,List.length_nil,yi,List.take_append_drop,Array.toArray_toList]
  rw [setRow_self w g cur t fz hg]
  rfl
 | v::rest,i,cur,w,hg,hfz,hl,h1=>by
  have hi:o+i<cur.size:=by simp at hl;omega
  have hadd:(⟨g,o,none⟩:Addr).add i=⟨g,o+i,none⟩:=Addr.add_lit ..
  have hcell:w.cell? ⟨g,o+i,none⟩=some cur[o+i]:=by simp [World.cell?,hg,hi]
  have hfro:w.frozen? ⟨g,o+i,none⟩=false:=by
   obtain ⟨lo,hi'⟩:=fz
   simp only [World.frozen?,hg,Bool.and_eq_false_iff,decide_eq_false_iff_not]
   simp only at hfz
   rcases hfz with h|h
   ·right;omega
   ·left;omega
  have hst:(store ((⟨g,o,none⟩:Addr).add i) v).run P w = .ok () (w.setRow g (cur.setIfInBounds (o+i) v)):=by
   rw [hadd,run_store P w _ v _ (h1 v (by simp)),hcell]
   simp [hfro,setCell_eq_setRow w g (o+i) cur t fz v hg]
  have ih:=z47 P g o t fz rest (i+1) (cur.setIfInBounds (o+i) v) (w.setRow g (cur.setIfInBounds (o+i) v)) (setRow_heap w g cur _ t _ hg) (by simpa using hfz) (by simp at hl ⊢;omega) (fun x hx=>h1 x (by simp [hx]))
  simp only [storeCells,Sem.run_bind,hst,Result.andThen_ok,ih,setRow_setRow]
  congr 3
  have e:=list_seg_step cur.toList (o+i) v rest (by simp at hl ⊢;omega)
  simpa [Array.toList_setIfInBounds,Nat.add_assoc] using e
theorem Ext.setRow (w:World) (g:Nat) (cur:Array Value):Ext (fun y=>y=g) w (w.setRow g cur):=⟨rfl,rfl,rfl,by simp,fun k _ hk=>setRow_other w g k _ fun e=>hk e⟩
theorem z8w.store {P:Program} {w:World} {O:Nat→Prop} {T m:Nat} {v:Value} {l:List (List D)} {x:List D} {vs:List Value} {b len cap j:Nat} (h:z8w w O T m v l) (hv:v = .slice (some ⟨b,0,none⟩) len cap) (hj:j<l.length) (hm:vs.length=m)
  (h1:vs.all (·.oneCell')=true) (hx:RDs w O x vs):∃ w',(storeCells ⟨b,j*m,none⟩ vs).run P w = .ok () w'∧z8w w' O T m v (l.set j x)∧Ext (fun y=>v.ownBlock=some y) w w':=by
 obtain ⟨xs,k1,k2,k3,k4⟩:=h
 rcases k1.2 with ⟨k5,_⟩|⟨g,cap',cur,fz,k5,k7,kf,k8,k9,k10,k11⟩
 ·rw [k5] at hv;cases hv
 ·have hv2:=hv.symm.trans k5
  simp only [Value.slice.injEq,Option.some.injEq,Addr.mk.injEq,and_true] at hv2
  obtain ⟨rfl,rfl,rfl⟩:=hv2
  have hle:(j+1)*m≤cap*m:=yj m (by omega)
  have e0:(j+1)*m=j*m+m:=Nat.succ_mul j m
  have hr:=z47 P b (j*m) T fz vs 0 cur w k7 kf (by rw [hm,k10];omega) (by simpa using h1)
  simp only [yi,hm] at hr
  have hblk:v.ownBlock=some b:=by rw [k5];rfl
  have hF:Ext (fun y=>v.ownBlock=some y) w (w.setRow b (cur.toList.take (j*m)++vs++cur.toList.drop (j*m+m)).toArray):=(Ext.setRow w b _).mono fun y _ hy=>by rw [hy];exact hblk
  have t:Tr O w O _:=Tr.z3r hF fun y _ hy=>k4 y hy
  have hrd:RDl w O m l cur.toList:=by
   rw [←k11] at k2
   exact RDl.z95 (by simpa using k2)
  have hrd2:=(RDl.set hx hm (j:=j) hrd hj (by rw [yl,k10];exact hle)).tr t
  have hlen:(cur.toList.take (j*m)++vs++cur.toList.drop (j*m+m)).length=cap*m:=by
   simp only [yc,ye,yd,yl,k10,hm]
   omega
  refine ⟨_,hr,⟨(cur.toList.take (j*m)++vs++cur.toList.drop (j*m+m)).take (l.length*m),⟨?_,.inr ⟨b,cap,(cur.toList.take (j*m)++vs++cur.toList.drop (j*m+m)).toArray,fz,?_,setRow_heap w b cur _ T _ k7,?_,?_,k9,?_,?_⟩⟩,?_,?_,k4⟩,hF⟩
  ·have hc:l.length*m≤cap*m:=yj m k8
   simp only [ye,hlen,List.length_set]
   omega
  ·simpa using k5
  ·rw [yf,hlen,←k10];exact kf
  ·simpa using k8
  ·simpa using hlen
  ·simp
  ·simpa using RDl.z7c hrd2
  ·simpa using RDl.one hrd2
structure zrj (w:World) (O:Nat→Prop) (T m:Nat) (v:Value) (w':World) (O':Nat→Prop) (v':Value) (l:List (List D)):Prop where
 own:z8w w' O' T m v' l
 ext:Ext (fun b=>v.ownBlock=some b) w w'
 tr:Tr O w O' w'
 more:∀ b,O b→O' b
 bd:Bd O' w'
 at_:∀ b,v'.ownBlock=some b→v.ownBlock=some b∨w.heap.size≤b
 only:∀ b,O' b→O b∨w.heap.size≤b
theorem zay {P:Program} {w:World} {O:Nat→Prop} {T:Nat} {t u ty:TypeId} {v:Value} {l:List (List D)} {s:List UInt8} (ht:P.underlying t=some (.slice T)) (hu:P.underlying u=some .string) (hi:inf P T=some (.int .u8 0,1,1))
  (h:z8w w O T 1 v l) (hB:Bd O w) (hb:l.length+s.length≤140737488355328) :
  ∃ v' w' O',(Builtin.append_ #[t,u] ty #[v,.string ⟨s.toArray⟩]).run P w = .ok v' w'∧zrj w O T 1 v w' O' v' (l++s.map z6a):=by
 obtain ⟨i,i1,i2,i3,i4⟩:=zad hi
 have hO:=h
 obtain ⟨xs,h1,h2,h3,h4⟩:=h
 have hsz:(⟨s.toArray⟩:ByteArray).size=s.length:=by simp [ByteArray.size]
 have hsc:Lib.strCells ⟨s.toArray⟩=s.map fun b=>Value.int .u8 (b.toNat:Nat):=by simp [Lib.strCells]
 rcases h1.2 with ⟨rfl,h0⟩|⟨g,cap,cur,fz,rfl,hg,hfz,hnc,hcm,hcs,htake⟩
 ·have hl:l=[]:=yb h0
  subst hl
  obtain ⟨v',w',O',hr,G⟩:=z7k (P:=P) (ty:=ty) ht hu hi (Own.nil w O T 1) hB hb
  obtain ⟨ys,y1,y2⟩:=G.own
  exact ⟨v',w',O',hr,⟨ys,zl8 y1,y2⟩,G.ext,G.tr,G.more,G.bd,G.at_,G.only⟩
 ·have hxl:xs.length=l.length:=by simpa using h1.1
  have hcs':cur.size=cap:=by simpa using hcs
  have hrdn:RDl w O 1 (l++s.map z6a) (xs++Lib.strCells ⟨s.toArray⟩):=by rw [hsc];exact RDl.append h1.1 h2 (z3z s)
  have hone:∀ u∈xs++Lib.strCells ⟨s.toArray⟩,u.oneCell'=true:=fun u hu=>by
   rcases List.mem_append.1 hu with hu|hu
   ·exact h3 u hu
   ·exact Lib.strCells_oneCell _ u hu
  have hlen:(xs++Lib.strCells ⟨s.toArray⟩).length=(l++s.map z6a).length*1:=by simp [hsc,hxl]
  by_cases hroom:l.length+s.length≤cap
  ·have hst:=z47 P g l.length T fz (Lib.strCells ⟨s.toArray⟩) 0 cur w hg hfz (by rw [Lib.strCells_length,hsz];omega) (Lib.strCells_oneCell _)
   simp only [yi,Lib.strCells_length,hsz] at hst
   have hr:(Builtin.append_ #[t,u] ty #[.slice (some ⟨g,0,none⟩) l.length cap,.string ⟨s.toArray⟩]).run P w =
     .ok (.slice (some ⟨g,0,none⟩) (l.length+s.length) cap) (w.setRow g (cur.toList.take l.length++Lib.strCells ⟨s.toArray⟩++cur.toList.drop (l.length+s.length)).toArray):=by
    have hf:=Lib.run_firstCells_string (P:=P) w 1 ⟨s.toArray⟩
    rw [hsz] at hf
    simp [Builtin.append_,run_underlying ht,run_underlying hu,sizeOf,typeInfo,i1,i3,Builtin.lenOf,hsz,hroom,hf,Addr.add_lit,hst]
   have hF:Ext (fun b=>(Value.slice (some ⟨g,0,none⟩) l.length cap).ownBlock=some b) w (w.setRow g (cur.toList.take l.length++Lib.strCells ⟨s.toArray⟩++cur.toList.drop (l.length+s.length)).toArray):=(Ext.setRow w g _).mono fun y _ hy=>by rw [hy];rfl
   have t:Tr O w O _:=Tr.z3r hF fun y _ hy=>h4 y hy
   have e1:(cur.toList.take l.length++Lib.strCells ⟨s.toArray⟩++cur.toList.drop (l.length+s.length)).length=cap:=by
    simp only [yc,ye,yd,yl,Lib.strCells_length,hsz,hcs']
    omega
   refine ⟨_,_,O,hr,⟨xs++Lib.strCells ⟨s.toArray⟩,⟨hlen,.inr ⟨g,cap,_,fz,by simp,setRow_heap w g cur _ T _ hg,?_,by simpa using hroom,hcm,by simpa using e1,?_⟩⟩,hrdn.tr t,hone,fun b hb=>h4 b hb⟩,hF,t,fun _ h=>h,hB.ext hF,fun b hb => .inl hb,fun b hb => .inl hb⟩
   ·rw [yf,e1,←hcs'];exact hfz
   ·have ht':cur.toList.take l.length=xs:=by simpa using htake
    rw [ht',←hlen]
    exact yg
  ·have holds:∀ j u,xs[j]? = some u→w.cell? ((⟨g,0,none⟩:Addr).add j)=some u:=h1.cells (g:=g) rfl
   have hr:=Lib.run_append_grow_string (P:=P) (ty:=ty) w t u T i (.int .u8 0) ht hu i1 i2 ⟨g,0,none⟩ l.length cap xs (by rw [i3];simpa using hxl) holds ⟨s.toArray⟩ (by rw [hsz];omega) (by rw [hsz];omega) (by rw [i4,hsz];exact growslice_fits (by omega) (by omega))
   rw [hsz] at hr
   have hge:=grownCap_ge w (l.length+s.length) cap T
   have hcm2:grownCap w (l.length+s.length) cap T≤maxLen:=grownCap_le_maxLen w (l.length+s.length) cap T (by unfold maxLen;omega)
   have hz1:(Value.int IntKind.u8 0).cells.size=1:=rfl
   have e1:(yh xs++yh (Lib.strCells ⟨s.toArray⟩)++Builtin.zeroCells (Value.int .u8 0).cells (grownCap w (l.length+s.length) cap T - (l.length+s.length))).size=grownCap w (l.length+s.length) cap T:=by
    simp only [Array.size_append,yf,size_zeroCells,hz1,hxl,Lib.strCells_length,hsz]
    omega
   obtain ⟨cur',ecur⟩:∃ c,c=yh xs++yh (Lib.strCells ⟨s.toArray⟩)++Builtin.zeroCells (Value.int .u8 0).cells (grownCap w (l.length+s.length) cap T - (l.length+s.length)):=⟨_,rfl⟩
   rw [←ecur] at hr e1
   have hF:Ext z18 w (w.drew.alloc (.cells cur' T)):=⟨rfl,rfl,rfl,by simp,fun k hk _=>heap_alloc_old w.drew _ hk⟩
   have hnew:(w.drew.alloc (.cells cur' T)).heap[w.heap.size]? = some (.cells cur' T (0,0)):=heap_alloc_new w.drew _
   have t:Tr O w (fun x=>O x∨x=w.heap.size) (w.drew.alloc (.cells cur' T)):=⟨hF.size,fun b hb _=>hF.block b hb id,fun b hb ho h'=>by
    rcases h' with h'|h'
    ·exact ho h'
    ·omega⟩
   refine ⟨_,_,fun x=>O x∨x=w.heap.size,hr,⟨xs++Lib.strCells ⟨s.toArray⟩,⟨hlen,.inr ⟨w.heap.size,_,cur',(0,0),by simp,hnew,.inl rfl,by simpa using hge,hcm2,by simpa using e1,?_⟩⟩,hrdn.tr t,hone,fun b hb => .inr ?_⟩,hF.mono fun _ _ h=>h.elim,t,fun _ h => .inl h,fun x hx => ?_,fun b hb => .inr ?_,fun b hb=>hb.imp id fun h=>Nat.le_of_eq h.symm⟩
   ·rw [←hlen,ecur]
    simp only [Array.toList_append,ya]
    rw [←ya]
    exact yg
   ·simp only [Value.ownBlock,Option.some.injEq] at hb
    exact hb.symm
   ·rcases hx with hx|hx
    ·exact Nat.lt_of_lt_of_le (hB x hx) hF.size
    ·subst hx
     exact (yk.1 hnew).1
   ·simp only [Value.ownBlock,Option.some.injEq] at hb
    omega
section
variable {C:Cx} {n:Nat} {ds:List Deferred} {k:Act→World→Prop} {L:Env} {w:World} {ops:Array Oper} {o:Oper} {rest:List Oper} {d:Nat}
theorem OW.zp0 {O:Nat→Prop} {t u T:Nat} {x y:Operand} {vx:Value} {l:List (List D)} {s:List UInt8} (hg:o.guard=none) (hd:o.dst=some d) (hn:Nat.blt d n=true) (ho:o.op = .call { callee:=.builtin .append,args := #[x,y],argTypes := #[t,u] })
  (ht:C.P.underlying t=some (.slice T)) (hu:C.P.underlying u=some .string) (hi:inf C.P T=some (.int .u8 0,1,1)) (hx:ev L x=some vx) (hy:ev L y=some (.string ⟨s.toArray⟩))
  (hown:z8w w O T 1 vx l) (hB:Bd O w) (hb:l.length+s.length≤140737488355328)
  (h:∀ v' w' O',zrj w O T 1 vx w' O' v' (l++s.map z6a)→OW C n ds ops rest k ((d,v')::L) w'):OW C n ds ops (o::rest) k L w:=by
 obtain ⟨v',w',O',hr,hG⟩:=zay (ty:=o.type) ht hu hi hown hB hb
 refine OW.val (v:=v') (w':=w') hg hd hn (fun a ha => ?_) (h v' w' O' hG)
 simp only [execOp,ho,resolve,invoke,builtin,Sem.run_bind,Sem.run_pure,Result.andThen_ok,List.map_toArray,List.map_cons,List.map_nil,ha.ev hx,ha.ev hy,hr]
theorem OW.zt6 {O:Nat→Prop} {T U:TypeId} {x y:Operand} {l:List (List D)} {a:List D} {b len cap j m:Nat} {g:Bool} {u v:Value} {vs:List Value} (hg:o.guard=none) (hd:o.dst=none) (ho:o.op = .store T x y) (hT:shp C.P T=some (g,m)) (hx:ev L x=some (.pointer (some ⟨b,j*m,none⟩)))
  (hy:ev L y=some u) (hu:u.cells=vs.toArray) (hm:vs.length=m) (hv:v = .slice (some ⟨b,0,none⟩) len cap) (hown:z8w w O U m v l) (hj:j<l.length) (h1:vs.all (·.oneCell')=true) (hr:RDs w O a vs)
  (h:∀ w',z8w w' O U m v (l.set j a)→Ext (fun y=>v.ownBlock=some y) w w'→OW C n ds ops rest k L w'):OW C n ds ops (o::rest) k L w:=by
 obtain ⟨w',hrun,ho',hx'⟩:=z8w.store (P:=C.P) hown hv hj hm h1 hr
 refine OW.unit (w':=w') hg hd (fun a ha => ?_) (h w' ho' hx')
 simp [execOp,ho,ha.ev hx,ha.ev hy,Instr.storeAt,Instr.sureAddr,storeVar,hu,(z1c hT).2,hm,hrun]
theorem OW.toBytesM {O:Nat→Prop} {t u T:TypeId} {x:Operand} {s:List UInt8} (hg:o.guard=none) (hd:o.dst=some d) (hn:Nat.blt d n=true) (ho:o.op = .convert t u x)
  (ht:C.P.underlying t=some .string) (hu:C.P.underlying u=some (.slice T)) (hT:C.P.underlying T=some (.int .u8)) (hx:ev L x=some (.string ⟨s.toArray⟩)) (h0:s.length≤9223372036854775807)
  (h:∀ v' w',Ext z18 w w'→v'.ownBlock=some w.heap.size→w'.heap.size=w.heap.size+1→(∀ O:Nat→Prop,O w.heap.size→z8w w' O T 1 v' ((unb s).map (eI .u8)))→OW C n ds ops rest k ((d,v')::L) w'):OW C n ds ops (o::rest) k L w:=by
 have hsz:(⟨s.toArray⟩:ByteArray).size=s.length:=by simp [ByteArray.size]
 refine OW.val (v:=.slice (some ⟨w.heap.size,0,none⟩) s.length (grownCap w s.length 0 T)) (w':=Lib.bytesWorld w T ⟨s.toArray⟩) hg hd hn (fun a ha => ?_) (h _ _ ?_ rfl ?_ fun O hO => ?_)
 ·have:=Lib.run_convert_string_bytes (P:=C.P) w t u T ⟨s.toArray⟩ ht hu hT
  rw [hsz] at this
  simp only [execOp,ho,ha.ev hx,Sem.run_bind,this,Result.andThen_ok]
  rfl
 ·refine ⟨?_,?_,?_,?_,fun b hb _=>Lib.bytesWorld_at_old w T _ b hb⟩
  ·simp only [Lib.bytesWorld,World.freeze];split<;>rfl
  ·simp only [Lib.bytesWorld,World.freeze];split<;>rfl
  ·simp only [Lib.bytesWorld,World.freeze];split<;>rfl
  ·rw [Lib.bytesWorld_size];omega
 ·rw [Lib.bytesWorld_size]
 ·have hge:=grownCap_ge w s.length 0 T
  have e:(unb s).map (eI .u8)=s.map z6a:=by simp [unb,z6a,eI]
  have e2:(Lib.bytesCells w T ⟨s.toArray⟩).toList.take s.length=s.map fun b=>Value.int .u8 (b.toNat:Nat):=by
   simp [Lib.bytesCells,List.take_append_of_le_length]
  rw [e]
  refine ⟨s.map fun b=>Value.int .u8 (b.toNat:Nat),⟨by simp,.inr ⟨w.heap.size,grownCap w s.length 0 T,_,_,by simp,Lib.bytesWorld_at_new w T _,.inr (Nat.le_refl _),by simpa using hge,grownCap_le_maxLen w _ 0 T (by unfold maxLen;omega),?_,by simpa using e2⟩⟩,z3z s,fun x hx => ?_,fun b hb => ?_⟩
  ·simp [Lib.bytesCells,hsz]
   omega
  ·obtain ⟨b,_,rfl⟩:=List.mem_map.1 hx
   rfl
  ·simp only [Value.ownBlock,Option.some.injEq] at hb
   rw [←hb]
   exact hO
end
end Go.Lk
