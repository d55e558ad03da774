import Derived.Test.YtfdoofnmjehecaaGreatDoorPLmD
import Derived.Lib.ConvBytes
set_option linter.all false
section
namespace Go.Lk
open _root_.List renaming eq_nil_of_length_eq_zero → ya, length_cons → yb, map_toArray → yc, mem_append → yd
open _root_.Nat renaming blt → ye, mul_le_mul_right → yf, succ_mul → yg, zero_le → yh
open _root_.Array renaming mapM_eq_mapM_toList → yi
open Go.RowKit

theorem RDl.one {w:World} {O:Nat→Prop} {n:Nat}:∀ {l:List (List D)} {cs:List Value},RDl w O n l cs→∀ v∈cs.take (l.length*n),v.oneCell'=true
 | [],cs,_=>by simp
 | y::l,cs,h=>by
  intro v hv
  have e:cs.take ((y::l).length*n)=cs.take n++(cs.drop n).take (l.length*n):=by
   rw [yb,yg,Nat.add_comm,List.take_add]
  rw [e] at hv
  rcases yd.1 hv with hv|hv
  ·exact RDs.one _ _ h.1 v hv
  ·exact RDl.one h.2 v hv
theorem RDl.z7c {w:World} {O:Nat→Prop} {n:Nat}:∀ {l:List (List D)} {cs:List Value},RDl w O n l cs→RDl w O n l (cs.take (l.length*n))
 | [],_,_=>trivial
 | y::l,cs,h=>by
  refine ⟨?_,?_⟩
  ·rw [List.take_take,Nat.min_eq_left (by simp [yg])]
   exact h.1
  ·have e:(cs.take ((y::l).length*n)).drop n=(cs.drop n).take (l.length*n):=by
    rw [List.drop_take]
    congr 1
    simp [yg]
   rw [e]
   exact RDl.z7c h.2
theorem RDl.append {w:World} {O:Nat→Prop} {n:Nat}:∀ {l1 l2:List (List D)} {c1 c2:List Value},c1.length=l1.length*n→RDl w O n l1 c1→RDl w O n l2 c2→RDl w O n (l1++l2) (c1++c2)
 | [],l2,c1,c2,hl,_,h2=>by
  have:c1=[]:=ya (by simpa using hl)
  subst this
  simpa using h2
 | y::l1,l2,c1,c2,hl,h1,h2=>by
  have hn:n≤c1.length:=by rw [hl,yb,yg];omega
  refine ⟨?_,?_⟩
  ·rw [List.take_append_of_le_length hn];exact h1.1
  ·rw [List.drop_append_of_le_length hn]
   exact RDl.append (by rw [List.length_drop,hl,yb,yg];omega) h1.2 h2

def inf (P:Program) (T:TypeId):Option (Value × Nat × Nat) :=
 match P.info? T with
 | some i=>i.zero.map fun z=>(z,i.size,i.bytes)
 | none=>none
theorem zad {P:Program} {T:TypeId} {z:Value} {m by_:Nat} (h:inf P T=some (z,m,by_)):∃ i,P.info? T=some i∧i.zero=some z∧i.size=m∧i.bytes=by_:=by
 unfold inf at h
 split at h
 ·rename_i i h1
  obtain ⟨z',h2,h3⟩:=Option.map_eq_some_iff.1 h
  cases h3
  exact ⟨i,h1,h2,rfl,rfl⟩
 ·cases h
structure zot (w:World) (O:Nat→Prop) (T m:Nat) (v:Value) (w':World) (O':Nat→Prop) (v':Value) (l:List (List D)):Prop where
 own:Own w' O' T m v' l
 ext:Ext (fun b=>v.ownBlock=some b) w w'
 tr:Tr O w O' w'
 more:∀ b,O b→O' b
 bd:Bd O' w'
 at_:∀ b,v'.ownBlock=some b→v.ownBlock=some b∨w.heap.size≤b
 only:∀ b,O' b→O b∨w.heap.size≤b
theorem Own.zv4 {w w':World} {O:Nat→Prop} {T m:Nat} {v v':Value} {l:List (List D)} {xs:List Value} (h:Own w O T m v l) (hB:Bd O w) {l2:List (List D)} {news:List Value}
  (h1:w'.ownsRow 0 T m v' (l.length+l2.length) (xs++news)) (h2:w.grownBy w' v.ownBlock) (hxs:xs.length=l.length*m) (hx:RDl w O m l xs) (hn:RDl w O m l2 news) (hone:∀ u∈xs++news,u.oneCell'=true)
  (hat:∀ b,v'.ownBlock=some b→v.ownBlock=some b∨w.heap.size≤b):∃ O',zot w O T m v w' O' v' (l++l2):=by
 obtain ⟨_,_,_,_,hO⟩:=h
 have hv':∀ b,v'.ownBlock=some b→b<w'.heap.size:=fun b hb=>(h1.lt b hb).2
 have hx':Ext (fun b=>v.ownBlock=some b) w w':=⟨h2.os,h2.tape,h2.output,h2.size,fun b hb hf=>h2.block b hb (fun e=>hf e.symm)⟩
 have ht:Tr O w (fun x=>O x∨v'.ownBlock=some x) w':=⟨h2.size,fun b hb ho=>hx'.block b hb fun e=>ho (hO b e),fun b hb ho h'=>by
  rcases h' with h'|h'
  ·exact ho h'
  ·rcases hat b h' with h''|h''
   ·exact ho (hO b h'')
   ·omega⟩
 refine ⟨fun x=>O x∨v'.ownBlock=some x,⟨⟨xs++news,by simpa using h1,(RDl.append hxs hx hn).tr ht,hone,fun b hb => .inr hb⟩,hx',ht,fun b hb => .inl hb,fun x hx => ?_,hat,fun b hb => ?_⟩⟩
 ·rcases hx with hx|hx
  ·exact Nat.lt_of_lt_of_le (hB x hx) h2.size
  ·exact hv' x hx
 ·rcases hb with hb|hb
  ·exact .inl hb
  ·rcases hat b hb with h'|h'
   ·exact .inl (hO b h')
   ·exact .inr h'
theorem z9n {P:Program} {w:World} (t ty e:TypeId) (i:TypeInfo) (z:Value) (size bytes:Nat) (ht:P.underlying t=some (.slice e)) (hi:P.info? e=some i) (hz:i.zero=some z)
  (hsize:i.size=size) (hby:i.bytes=bytes) (v:Value) (n:Nat) (xs:List Value) (hown:w.ownsRow 0 e size v n xs)
  (a:Addr) (m c:Nat) (news:List Value) (hl:news.length=m*size) (hnews:∀ j u,news[j]? = some u→w.cell? (a.add j)=some u) (h1:∀ u∈news,u.oneCell'=true)
  (h63:n+m≤maxLen) (hbytes:(n+m)*bytes≤140737488355328) {v':Value} {w':World} (hr:(Builtin.append_ #[t,t] ty #[v,.slice (some a) m c]).run P w = .ok v' w') {b:Nat} (hb:v'.ownBlock=some b) (hlt:b<w.heap.size):v.ownBlock=some b:=by
 subst hsize
 subst hby
 have hsmall:n+m≤9223372036854775807:=by simp only [maxLen] at h63;omega
 rcases hown.2 with ⟨rfl,rfl⟩|⟨g,cap,cur,rfl,_,hg,hnc,hcm,hcs,htake⟩
 ·by_cases hm:m=0
  ·subst hm
   have hn:news=[]:=ya (by simpa using hl)
   subst hn
   have:(Builtin.append_ #[t,t] ty #[.slice none 0 0,.slice (some a) 0 c]).run P w = .ok (.slice none 0 0) w:=by
    simp [Builtin.append_,run_underlying ht,sizeOf,typeInfo,hi,Builtin.lenOf,Builtin.firstCells,loadCells,loadCellsFrom]
   rw [this] at hr
   cases hr
   exact hb
  ·have h:=run_append_nil (P:=P) w t ty e i z ht hi hz a m c news hl hnews (by omega) (by omega) (by have hb:=hbytes;simp only [Nat.zero_add] at hb;omega)
   rw [h] at hr
   cases hr
   simp only [Value.ownBlock,Option.some.injEq] at hb
   omega
 ·by_cases hroom:n+m≤cap
  ·have hfit:n*i.size+news.length≤cur.size:=by rw [hl,hcs,←Nat.add_mul];exact yf _ hroom
   have h:=run_append_room (P:=P) w t ty e i ht hi g n cap cur hg a m c news hl hnews h1 hroom hfit
   rw [h] at hr
   cases hr
   exact hb
  ·have holds:∀ j u,xs[j]? = some u→w.cell? ((⟨g,0,none⟩:Addr).add j)=some u:=hown.cells (g:=g) rfl
   have h:=run_append_grow (P:=P) w t ty e i z ht hi hz ⟨g,0,none⟩ n cap xs hown.1 holds a m c news hl hnews (by omega) (by omega) (growslice_fits (by omega) hbytes)
   rw [h] at hr
   cases hr
   simp only [Value.ownBlock,Option.some.injEq] at hb
   omega
theorem zax {P:Program} {w:World} {O:Nat→Prop} {T m by_:Nat} {t ty:TypeId} {z:Value} {v x:Value} {l l2:List (List D)} (ht:P.underlying t=some (.slice T)) (hi:inf P T=some (z,m,by_)) (hz:z.cells.size=m) (hm:0<m) (hby:0<by_)
  (h:Own w O T m v l) (hB:Bd O w) (hx:RD w O (.sl T m l2) x) (hb:(l.length+l2.length)*by_≤140737488355328) :
  ∃ v' w' O',(Builtin.append_ #[t,t] ty #[v,x]).run P w = .ok v' w'∧zot w O T m v w' O' v' (l++l2):=by
 obtain ⟨i,i1,i2,i3,i4⟩:=zad hi
 have hO:=h
 obtain ⟨xs,h1,h2,h3,h4⟩:=h
 have hlb:l.length*by_≤140737488355328:=Nat.le_trans (yf _ (Nat.le_add_right _ _)) hb
 have main:∀ (ad:Addr) (cap:Nat) (ys:List Value),x = .slice (some ad) l2.length cap→ys.length=l2.length*m→(∀ j u,ys[j]? = some u→w.cell? (ad.add j)=some u)→(∀ u∈ys,u.oneCell'=true)→RDl w O m l2 ys →
   ∃ v' w' O',(Builtin.append_ #[t,t] ty #[v,x]).run P w = .ok v' w'∧zot w O T m v w' O' v' (l++l2):=by
  intro ad cap ys hxe hnl hnews hone hrd
  subst hxe
  have hbig:l.length+l2.length≤140737488355328:=Nat.le_trans (Nat.le_mul_of_pos_right _ hby) hb
  obtain ⟨v',w',hr,r1,r2,r3⟩:=run_append_own (P:=P) w 0 t ty T i z m by_ ht i1 i2 i3 i4 hz hm v l.length xs h1 ad l2.length cap _ hnl hnews hone (by unfold maxLen;omega) hb (yh _)
  have hat:∀ b,v'.ownBlock=some b→v.ownBlock=some b∨w.heap.size≤b:=by
   intro c hc
   rcases Nat.lt_or_ge c w.heap.size with hlt|hge
   ·left
    rcases r1.2 with ⟨rfl,_⟩|⟨g,cap',cur,rfl,_,hg,_⟩
    ·simp [Value.ownBlock] at hc
    ·simp only [Value.ownBlock,Option.some.injEq] at hc
     subst hc
     exact z9n (P:=P) t ty T i z m by_ ht i1 i2 i3 i4 v l.length xs h1 ad l2.length cap _ hnl hnews hone (by unfold maxLen;omega) hb hr rfl hlt
   ·exact .inr hge
  obtain ⟨O',hG⟩:=hO.zv4 hB r1 r2 h1.1 h2 hrd (fun u hu=>by
   rcases yd.1 hu with hu|hu
   ·exact h3 u hu
   ·exact hone u hu) hat
  exact ⟨v',w',O',hr,hG⟩
 rcases hx with ⟨⟨p,rfl⟩,rfl⟩|⟨b,q,cap,cs,fr,rfl,k2,k3,k4,k5,k6,k7⟩
 ·cases p with
  | none =>
   refine ⟨v,w,O,run_append_owned_none w 0 t ty T i m ht i1 v l.length xs h1,?_⟩
   simp only [List.append_nil]
   exact ⟨hO,Ext.refl _ _,Tr.refl O w,fun _ h=>h,hB,fun b hb => .inl hb,fun b hb => .inl hb⟩
  | some ad=>exact main ad 0 [] rfl (by simp) (by simp) (by simp) trivial
 ·have hlen:l2.length*m≤cap*m:=yf m k2
  have hnl:((cs.toList.drop q).take (l2.length*m)).length=l2.length*m:=by simp;omega
  have hnews:∀ j u,((cs.toList.drop q).take (l2.length*m))[j]? = some u→w.cell? ((⟨b,q,none⟩:Addr).add j)=some u:=fun j u e=>by
   rw [Addr.add_lit,cell_of_row w b _ cs fr.1 fr.2 k5]
   rw [List.getElem?_take] at e
   split at e
   ·simpa using e
   ·cases e
  exact main ⟨b,q,none⟩ cap _ rfl hnl hnews (RDl.one k7) (RDl.z7c k7)
theorem z63 {P:Program} {w:World} (t u ty e:TypeId) (i:TypeInfo) (ht:P.underlying t=some (.slice e)) (hu:P.underlying u=some .string) (hi:P.info? e=some i) (hz:i.zero=some (.int .u8 0))
  (_hs:i.size=1) (hby:i.bytes=1) (s:ByteArray) (h0:0<s.size) (hb:s.size≤140737488355328) :
  (Builtin.append_ #[t,u] ty #[.slice none 0 0,.string s]).run P w =
   .ok (.slice (some ⟨w.heap.size,0,none⟩) s.size (grownCap w s.size 0 e)) (w.drew.alloc (.cells (s.data.map (fun b=>Value.int .u8 b.toNat)++Builtin.zeroCells (Value.int .u8 0).cells (grownCap w s.size 0 e - s.size)) e)) :=
 run_append_nil_string w t u ty e i _ ht hu hi hz s h0 (by omega) (by rw [hby];omega)
def z6a (b:UInt8):List D:=[.int .u8 (b.toNat:Nat)]
theorem z3z {w:World} {O:Nat→Prop}:∀ (s:List UInt8),RDl w O 1 (s.map z6a) (s.map fun b=>Value.int .u8 (b.toNat:Nat))
 | []=>trivial
 | b::s=>⟨⟨_,_,rfl,rfl,rfl⟩,by simpa using z3z s⟩
theorem z7k {P:Program} {w:World} {O:Nat→Prop} {T:Nat} {t u ty:TypeId} {v:Value} {l:List (List D)} {s:List UInt8} (ht:P.underlying t=some (.slice T)) (hu:P.underlying u=some .string) (hi:inf P T=some (.int .u8 0,1,1))
  (h:Own w O T 1 v l) (hB:Bd O w) (hb:l.length+s.length≤140737488355328) :
  ∃ v' w' O',(Builtin.append_ #[t,u] ty #[v,.string ⟨s.toArray⟩]).run P w = .ok v' w'∧zot w O T 1 v w' O' v' (l++s.map z6a):=by
 obtain ⟨i,i1,i2,i3,i4⟩:=zad hi
 have hO:=h
 obtain ⟨xs,h1,h2,h3,h4⟩:=h
 have hsz:(⟨s.toArray⟩:ByteArray).size=s.length:=by simp [ByteArray.size]
 have hsc:Lib.strCells ⟨s.toArray⟩=s.map fun b=>Value.int .u8 (b.toNat:Nat):=by simp [Lib.strCells]
 obtain ⟨v',w',hr,r1,r2,r3⟩:=Lib.run_append_own_string (P:=P) (ty:=ty) w 0 t u T i ht hu i1 i2 i3 i4 v l.length xs h1 ⟨s.toArray⟩ (by unfold maxLen;omega) (by omega) (yh _)
 have hat:∀ b,v'.ownBlock=some b→v.ownBlock=some b∨w.heap.size≤b:=by
  intro c hc
  rcases Nat.lt_or_ge c w.heap.size with hlt|hge
  ·left
   rcases h1.2 with ⟨rfl,h0⟩|⟨g,cap,cur,rfl,_,hg,hnc,hcm,hcs,htake⟩
   ·by_cases hm:s.length=0
    ·rw [r3.2 ⟨rfl,by omega⟩] at hc
     exact hc
    ·have h:=z63 (P:=P) (w:=w) t u ty T i ht hu i1 i2 i3 i4 ⟨s.toArray⟩ (by omega) (by omega)
     rw [h] at hr
     cases hr
     simp only [Value.ownBlock,Option.some.injEq] at hc
     omega
   ·by_cases hroom:l.length+(⟨s.toArray⟩:ByteArray).size≤cap
    ·have h:=Lib.run_append_room_string (P:=P) (ty:=ty) w t u T i ht hu i1 i3 g l.length cap cur hg ⟨s.toArray⟩ hroom (by omega)
     rw [h] at hr
     cases hr
     exact hc
    ·have holds:∀ j u,xs[j]? = some u→w.cell? ((⟨g,0,none⟩:Addr).add j)=some u:=h1.cells (g:=g) rfl
     have h:=Lib.run_append_grow_string (P:=P) (ty:=ty) w t u T i _ ht hu i1 i2 ⟨g,0,none⟩ l.length cap xs (by rw [i3];exact h1.1) holds ⟨s.toArray⟩ (by omega) (by omega) (growslice_fits (by omega) (by rw [i4];omega))
     rw [h] at hr
     cases hr
     simp only [Value.ownBlock,Option.some.injEq] at hc
     omega
  ·exact .inr hge
 rw [hsz,hsc] at r1
 obtain ⟨O',hG⟩:=hO.zv4 hB (l2:=s.map z6a) (by simpa using r1) r2 h1.1 h2 (z3z s) (fun u hu=>by
  rcases yd.1 hu with hu|hu
  ·exact h3 u hu
  ·obtain ⟨b,_,rfl⟩:=List.mem_map.1 hu
   rfl) hat
 exact ⟨v',w',O',hr,hG⟩

section
variable {C:Cx} {n:Nat} {ds:List Deferred} {k:Act→World→Prop} {L:Env} {w:World} {ops:Array Oper} {o:Oper} {rest:List Oper} {d:Nat} {v:Value}
theorem OW.zji {O:Nat→Prop} {t T m by_:Nat} {x y:Operand} {z vx vy:Value} {l l2:List (List D)} (hg:o.guard=none) (hd:o.dst=some d) (hn:ye d n=true) (ho:o.op = .call { callee:=.builtin .append,args := #[x,y],argTypes := #[t,t] })
  (ht:C.P.underlying t=some (.slice T)) (hi:inf C.P T=some (z,m,by_)) (hz:z.cells.size=m) (hm:ye 0 m=true) (hby:ye 0 by_=true) (hx:ev L x=some vx) (hy:ev L y=some vy)
  (hown:Own w O T m vx l) (hB:Bd O w) (hdat:RD w O (.sl T m l2) vy) (hb:(l.length+l2.length)*by_≤140737488355328)
  (h:∀ v' w' O',zot w O T m vx w' O' v' (l++l2)→OW C n ds ops rest k ((d,v')::L) w'):OW C n ds ops (o::rest) k L w:=by
 obtain ⟨v',w',O',hr,hG⟩:=zax (ty:=o.type) ht hi hz (by simpa [Nat.blt_eq] using hm) (by simpa [Nat.blt_eq] using hby) hown hB hdat hb
 refine OW.val (v:=v') (w':=w') hg hd hn (fun a ha => ?_) (h v' w' O' hG)
 simp only [execOp,ho,resolve,invoke,builtin,Sem.run_bind,Sem.run_pure,Result.andThen_ok,yc,List.map_cons,List.map_nil,ha.ev hx,ha.ev hy,hr]
theorem OW.zp1 {O:Nat→Prop} {t u T:Nat} {x y:Operand} {vx:Value} {l:List (List D)} {s:List UInt8} (hg:o.guard=none) (hd:o.dst=some d) (hn:ye d n=true) (ho:o.op = .call { callee:=.builtin .append,args := #[x,y],argTypes := #[t,u] })
  (ht:C.P.underlying t=some (.slice T)) (hu:C.P.underlying u=some .string) (hi:inf C.P T=some (.int .u8 0,1,1)) (hx:ev L x=some vx) (hy:ev L y=some (.string ⟨s.toArray⟩))
  (hown:Own w O T 1 vx l) (hB:Bd O w) (hb:l.length+s.length≤140737488355328)
  (h:∀ v' w' O',zot w O T 1 vx w' O' v' (l++s.map z6a)→OW C n ds ops rest k ((d,v')::L) w'):OW C n ds ops (o::rest) k L w:=by
 obtain ⟨v',w',O',hr,hG⟩:=z7k (ty:=o.type) ht hu hi hown hB hb
 refine OW.val (v:=v') (w':=w') hg hd hn (fun a ha => ?_) (h v' w' O' hG)
 simp only [execOp,ho,resolve,invoke,builtin,Sem.run_bind,Sem.run_pure,Result.andThen_ok,yc,List.map_cons,List.map_nil,ha.ev hx,ha.ev hy,hr]
def RV (C:Cx) (L:Env) (w:World) (r:ResultVar) (v:Value):Prop :=
 match r with
 | .tmp t=>Env.get L t=some v
 | .cell t T=>∃ b U cs g m,Env.get L t=some (.pointer (some ⟨b,0,none⟩))∧shp C.P T=some (g,m)∧z2b w b U cs∧cs.length=m∧(match g with|true=>v = .agg cs.toArray|false=>cs[0]? = some v)
def RVs (C:Cx) (L:Env) (w:World):List ResultVar→List Value→Prop
 | [],vs=>vs=[]
 | r::rs,vs=>∃ v vs',vs=v::vs'∧RV C L w r v∧RVs C L w rs vs'
def ziz (a:Act):ResultVar→Sem Value
 | .tmp t=>pure (a.tmps.getD t undef)
 | .cell p t=>do loadVar t (←asAddr (a.tmps.getD p undef))
theorem zcf (fn:Func) (a:Act):results fn a.tmps=(do let vs←fn.results.mapM (ziz a);pure (if h:vs.size=1 then vs[0] else .tuple vs)):=rfl
theorem RV.run {a:Act} (ha:Has n L a) {r:ResultVar} {v:Value} (h1:RV C L w r v):(ziz a r).run C.P w = .ok v w:=by
 cases r with
 | tmp t=>simp [ziz,ha.get t v h1]
 | cell p T =>
  obtain ⟨b,U,cs,g,m,k1,k2,k3,k4,k5⟩:=h1
  cases g with
  | true =>
   simp only at k5
   subst k5
   have h2:=z9h (P:=C.P) (w:=w) (b:=b) (o:=0) k2 k4 (fun j v e=>by rw [Nat.zero_add,k3.cell];exact e)
   simp [ziz,ha.get p _ k1,asAddr,h2]
  | false =>
   simp only at k5
   have h2:=z6q (P:=C.P) (w:=w) (a:=⟨b,0,none⟩) k2 ((k3.cell 0).trans k5)
   simp [ziz,ha.get p _ k1,asAddr,h2]
theorem RVs.run {a:Act} (ha:Has n L a):∀ {rs:List ResultVar} {vs:List Value},RVs C L w rs vs→(rs.mapM (ziz a)).run C.P w = .ok vs w
 | [],vs,h=>by simp only [RVs] at h;subst h;rfl
 | r::rs,vs,h=>by
  obtain ⟨v,vs',rfl,h1,h2⟩:=h
  have ih:=RVs.run ha h2
  simp only [List.mapM_cons,Sem.run_bind,h1.run ha,ih,Result.andThen_ok,Sem.run_pure]
theorem Out.many {rs:List ResultVar} {vs:List Value} (h:C.fn.results=rs.toArray) (hv:RVs C L w rs vs) (h1:Nat.beq vs.length 1=false):Out C n L w (.tuple vs.toArray):=fun a ha=>by
 have h2:=RVs.run (C:=C) ha hv
 have h3:vs.length≠1:=Nat.ne_of_beq_eq_false h1
 rw [zcf]
 simp only [h,Sem.run_bind]
 rw [yi,Sem.run_map]
 simp only [h2,Result.andThen_ok,Sem.run_pure]
 simp [h3]
theorem Out.single {r:ResultVar} {v:Value} (h:C.fn.results = #[r]) (hv:RV C L w r v):Out C n L w v:=fun a ha=>by
 rw [zcf]
 simp only [h,Sem.run_bind]
 rw [yi,Sem.run_map]
 simp [RV.run ha hv]
end
theorem Own.len {w:World} {O:Nat→Prop} {T m:Nat} {v:Value} {l:List (List D)} (h:Own w O T m v l):∃ p c,v = .slice p l.length c:=by
 obtain ⟨xs,h1,_⟩:=h
 rcases h1.2 with ⟨rfl,h0⟩|⟨g,cap,cur,rfl,_⟩
 ·exact ⟨none,0,by rw [h0]⟩
 ·exact ⟨_,cap,rfl⟩
theorem Own.z6m {w':World} {O:Nat→Prop} {b T m len:Nat} {cs:List Value} {l:List (List D)} (hb:z2b w' b T cs) (hl:l.length=len) (hm:len≤maxLen) (hs:cs.length=len*m) (h:RDl w' O m l cs) (ho:O b) :
  Own w' O T m (.slice (some ⟨b,0,none⟩) len len) l:=by
 subst hl
 refine ⟨cs,⟨hs,.inr ⟨b,l.length,cs.toArray,rfl,yh _,hb,Nat.le_refl _,hm,by simp [hs],by simp [←hs]⟩⟩,h,fun x hx=>RDl.one h x (by rw [←hs,List.take_length];exact hx),fun c hc=>by simp only [Value.ownBlock,Option.some.injEq] at hc;subst hc;exact ho⟩
end Go.Lk
end
section
namespace Go.Lk
open _root_.List renaming length_map → ya, toArray → yb
open _root_.UInt8 renaming ofNat → yc
open Go.RowKit

theorem bnd {α β:Type} {x:Option α} {f:α→Option β} {r:β} (h:(x >>= f)=some r):∃ a,x=some a∧f a=some r:=by
 cases x with
 | none=>cases h
 | some a=>exact ⟨a,rfl,h⟩
inductive Jn (R α:Type) where
 | done (r:R)
 | go (a:α)
def chk (b:Bool):Option Unit:=if b then some () else none
theorem z4a {b:Bool} {u:Unit} (h:chk b=some u):b=true:=by
 cases b with
 | true=>rfl
 | false=>cases h
def ix {α:Type} (l:List α) (i:Int):Option α:=if 0≤i then l[i.toNat]? else none
theorem zk8 {α:Type} {l:List α} {i:Int} {x:α} (h:ix l i=some x):∃ j:Nat,i=(j:Nat)∧l[j]? = some x:=by
 unfold ix at h
 split at h
 ·exact ⟨i.toNat,by omega,h⟩
 ·cases h
def sub {α:Type} (l:List α) (a b:Int):Option (List α):=if 0≤a∧a≤b∧b≤(l.length:Int) then some ((l.take b.toNat).drop a.toNat) else none
theorem zdg {α:Type} {l:List α} {a b:Int} {x:List α} (h:sub l a b=some x):∃ p q:Nat,a=(p:Nat)∧b=(q:Nat)∧p≤q∧q≤l.length∧x=(l.take q).drop p:=by
 unfold sub at h
 split at h
 ·rename_i hc
  cases h
  exact ⟨a.toNat,b.toNat,by omega,by omega,by omega,by omega,rfl⟩
 ·cases h
def cat (a b:List UInt8):Option (List UInt8):=if a.length+b.length≤9223372036854775807 then some (a++b) else none
theorem zm5 {a b x:List UInt8} (h:cat a b=some x):x=a++b∧a.length+b.length≤9223372036854775807:=by
 unfold cat at h
 split at h
 ·rename_i hc
  cases h
  exact ⟨rfl,hc⟩
 ·cases h
def app {α:Type} (by_:Nat) (l l2:List α):Option (List α):=if (l.length+l2.length)*by_≤140737488355328 then some (l++l2) else none
theorem zgx {α:Type} {by_:Nat} {l l2 x:List α} (h:app by_ l l2=some x):x=l++l2∧(l.length+l2.length)*by_≤140737488355328:=by
 unfold app at h
 split at h
 ·rename_i hc
  cases h
  exact ⟨rfl,hc⟩
 ·cases h

def eI (k:IntKind) (n:Int):List D:=[.int k n]
def eB (b:Bool):List D:=[.bool b]
def eS (s:List UInt8):List D:=[.str s]

section
variable {α:Type} {f:α→List D} {l:List α} {w:World} {O:Nat→Prop} {T n:Nat} {v:Value}
end

section
variable {C:Cx} {n:Nat} {ds:List Deferred} {k:Act→World→Prop} {L:Env} {w:World} {ops:Array Oper} {o:Oper} {rest:List Oper} {d:Nat} {v:Value}
theorem EX.zc1 {t T m:TypeId} {gg:Bool} {x y:Operand} {b q len cap:Nat} {kd:IntKind} {i:Int} {j:Nat} {u:Value} (ho:o.op = .indexAddr t x y)
  (ht:C.P.underlying t=some (.slice T)) (hT:shp C.P T=some (gg,m)) (hx:ev L x=some u) (hu:u = .slice (some ⟨b,q,none⟩) len cap) (hy:ev L y=some (.int kd i)) (hi:i=(j:Nat)) (hj:j<len) :
  EX C n L w o (.pointer (some ⟨b,q+j*m,none⟩)):=EX.indexAddr ho ht hT (by rw [hx,hu]) hy hi hj
theorem EX.zvx {t e:TypeId} {x:Operand} {u:Value} {l:Nat} (ho:o.op = .call { callee:=.builtin .len,args := #[x],argTypes := #[t] })
  (ht:C.P.underlying t=some (.slice e)) (hx:ev L x=some u) (hu:∃ p c,u = .slice p l c):EX C n L w o (.int .i64 (l:Nat)):=by
 obtain ⟨p,c,rfl⟩:=hu
 exact EX.zvv ho ht hx
end
def ztt {α:Type} (l:List α) (i:Int) (a:α):Option (List α):=if 0≤i∧i<l.length then some (l.set i.toNat a) else none
theorem zlh {α:Type} {l l':List α} {i:Int} {a:α} {j:Nat} (h:ztt l i a=some l') (hj:i=(j:Nat)):l'=l.set j a:=by
 unfold ztt at h
 split at h
 ·cases h;subst hj;rfl
 ·cases h
def unb (s:List UInt8):List Int:=s.map fun b=>(b.toNat:Int)
def byt (l:List Int):List UInt8:=l.map fun n=>yc n.toNat
theorem zq2 {w:World} {O:Nat→Prop} {k:IntKind} {x:Int} {cs:List Value} (h:RDs w O (eI k x) cs):cs=[.int k x]:=by
 obtain ⟨v,r,rfl,h1,rfl⟩:=h
 simp only [RD] at h1
 subst h1
 rfl
theorem zq3 {w:World} {O:Nat→Prop} {x:List UInt8} {cs:List Value} (h:RDs w O (eS x) cs):cs=[.string ⟨yb x⟩]:=by
 obtain ⟨v,r,rfl,h1,rfl⟩:=h
 simp only [RD] at h1
 subst h1
 rfl
theorem Own.mem {w:World} {O:Nat→Prop} {T m:Nat} {v:Value} {l:List (List D)} (h:Own w O T m v l):∀ b,v.ownBlock=some b→O b:=by
 obtain ⟨_,_,_,_,h⟩:=h
 exact h
theorem Own.down {w:World} {O O':Nat→Prop} {T m:Nat} {v:Value} {l:List (List D)} (h:Own w O T m v l) (ho:∀ x,O' x→O x) (hv:∀ b,v.ownBlock=some b→O' b):Own w O' T m v l:=by
 obtain ⟨xs,h1,h2,h3,_⟩:=h
 exact ⟨xs,h1,h2.tr (Tr.drop w ho),h3,hv⟩
section
variable {C:Cx} {n:Nat} {ds:List Deferred} {k:Act→World→Prop} {L:Env} {w:World} {ops:Array Oper} {o:Oper} {rest:List Oper} {d:Nat} {v:Value}
theorem OW.toBytes {O:Nat→Prop} {t u T:TypeId} {x:Operand} {s:List UInt8} (hg:o.guard=none) (hd:o.dst=some d) (hn:Nat.blt d n=true) (ho:o.op = .convert t u x)
  (ht:C.P.underlying t=some .string) (hu:C.P.underlying u=some (.slice T)) (hT:C.P.underlying T=some (.int .u8)) (hx:ev L x=some (.string ⟨s.toArray⟩)) (hB:Bd O w) (h0:s.length≤9223372036854775807)
  (h:∀ v' w',Ext z18 w w'→RD w' O (.sl T 1 ((unb s).map (eI .u8))) v'→OW C n ds ops rest k ((d,v')::L) w'):OW C n ds ops (o::rest) k L w:=by
 have hsz:(⟨s.toArray⟩:ByteArray).size=s.length:=by simp [ByteArray.size]
 refine OW.val (v:=.slice (some ⟨w.heap.size,0,none⟩) s.length (grownCap w s.length 0 T)) (w':=Lib.bytesWorld w T ⟨s.toArray⟩) hg hd hn (fun a ha => ?_) (h _ _ ?_ ?_)
 ·have:=Lib.run_convert_string_bytes (P:=C.P) w t u T ⟨s.toArray⟩ ht hu hT
  rw [hsz] at this
  simp only [execOp,ho,ha.ev hx,Sem.run_bind,this,Result.andThen_ok]
  rfl
 ·refine ⟨?_,?_,?_,?_,fun b hb _=>Lib.bytesWorld_at_old w T _ b hb⟩
  ·simp only [Lib.bytesWorld,World.freeze];split<;>rfl
  ·simp only [Lib.bytesWorld,World.freeze];split<;>rfl
  ·simp only [Lib.bytesWorld,World.freeze];split<;>rfl
  ·rw [Lib.bytesWorld_size];omega
 ·refine .inr ⟨w.heap.size,0,grownCap w s.length 0 T,_,(_,_),by simp [unb],by simpa [unb] using grownCap_ge w s.length 0 T,grownCap_le_maxLen w _ 0 T (by unfold maxLen;omega),fun ho=>Nat.lt_irrefl _ (hB _ ho),Lib.bytesWorld_at_new w T _,?_,?_⟩
  ·have:=grownCap_ge w s.length 0 T
   simp [Lib.bytesCells,hsz]
   omega
  ·have e:(unb s).map (eI .u8)=s.map z6a:=by simp [unb,z6a,eI]
   rw [e]
   refine RDl.z95 ?_
   have e2:(List.drop 0 (Lib.bytesCells w T ⟨s.toArray⟩).toList).take ((s.map z6a).length*1)=s.map fun b=>Value.int .u8 (b.toNat:Nat):=by
    simp [Lib.bytesCells,List.take_append_of_le_length]
   rw [e2]
   exact z3z s
theorem RDl.u8 {O:Nat→Prop}:∀ {l:List Int} {cs:List Value},RDl w O 1 (l.map (eI .u8)) cs→l.length≤cs.length→cs.take l.length=l.map (Value.int .u8)
 | [],_,_,_=>by simp
 | x::l,[],_,hl=>by simp at hl
 | x::l,c::cs,h,hl=>by
  have h1:=zq2 h.1
  have h2:=RDl.u8 (l:=l) (cs:=cs) (by simpa using h.2) (by simpa using hl)
  simp only [List.take_succ_cons,List.take_zero,List.cons.injEq,and_true] at h1
  simp [h1,h2]
theorem zht:∀ (l:List Int) (a:List UInt8),l.foldl (fun r n=>ByteArray.push r (yc n.toNat)) ⟨a.toArray⟩=⟨(a++byt l).toArray⟩
 | [],a=>by simp [byt]
 | x::l,a=>by
  have e:ByteArray.push ⟨a.toArray⟩ (yc x.toNat)=⟨(a++[yc x.toNat]).toArray⟩:=by simp [ByteArray.push]
  rw [List.foldl_cons,e,zht l]
  simp [byt]
theorem EX.toStr {O:Nat→Prop} {t u T:TypeId} {x:Operand} {l:List Int} {vx:Value} (ho:o.op = .convert t u x)
  (ht:C.P.underlying t=some (.slice T)) (hT:C.P.underlying T=some (.int .u8)) (hu:C.P.underlying u=some .string) (hx:ev L x=some vx) (hr:RD w O (.sl T 1 (l.map (eI .u8))) vx):EX C n L w o (.string ⟨yb (byt l)⟩) :=
 fun a ha=>by
  rcases hr with ⟨⟨p,rfl⟩,h2⟩|⟨b,q,cap,cs,fr,rfl,h2,h3,h4,h5,h6,h7⟩
  ·have:l=[]:=by simpa using h2
   subst this
   simp only [execOp,ho,ha.ev hx,Sem.run_bind,run_convert_bytes_string w t u T p 0 0 ht hT hu]
   cases p with
   | none =>
    simp only [Conv.bytesToString,Sem.run_pure,Result.andThen_ok]
    rfl
   | some ad =>
    have h9:=run_loadCells_list (P:=C.P) (w:=w) ad [] (fun j v e=>by simp at e)
    have h10:=run_bytesToString (P:=C.P) w ad 0 0 [] (by simpa using h9)
    simp only [h10,Result.andThen_ok]
    rfl
  ·rw [ya] at h2
   have h8:(cs.toList.drop q).take l.length=l.map (Value.int .u8):=RDl.u8 h7 (by simp;omega)
   have h9:=run_loadCells_list (P:=C.P) (w:=w) ⟨b,q,none⟩ (l.map (Value.int .u8)) (fun j v e=>by
    rw [Addr.add_lit,cell_of_row w b _ cs fr.1 fr.2 h5]
    rw [←h8,List.getElem?_take] at e
    split at e
    ·simpa using e
    ·cases e)
   rw [ya] at h9
   have h10:=run_bytesToString (P:=C.P) w ⟨b,q,none⟩ l.length cap l h9
   have e:=zht l []
   simp only [List.nil_append] at e
   rw [show ByteArray.empty=(⟨yb []⟩:ByteArray) from rfl,e] at h10
   simp only [ya] at *
   simp only [execOp,ho,ha.ev hx,Sem.run_bind,run_convert_bytes_string w t u T _ l.length cap ht hT hu,h10,Result.andThen_ok]
   rfl
theorem OW.toStr {O:Nat→Prop} {t u T:TypeId} {x:Operand} {l:List Int} {vx:Value} (hg:o.guard=none) (hd:o.dst=some d) (hn:Nat.blt d n=true) (ho:o.op = .convert t u x)
  (ht:C.P.underlying t=some (.slice T)) (hT:C.P.underlying T=some (.int .u8)) (hu:C.P.underlying u=some .string) (hx:ev L x=some vx) (hr:RD w O (.sl T 1 (l.map (eI .u8))) vx) (h:OW C n ds ops rest k ((d,.string ⟨yb (byt l)⟩)::L) w):OW C n ds ops (o::rest) k L w :=
 OW.val hg hd hn (EX.toStr ho ht hT hu hx hr) h
end
def zba:Nat→List Value→Env
 | _,[]=>[]
 | i,v::vs=>(i,v)::zba (i+1) vs
theorem z8a:∀ (vs:List Value) (i t:Nat) (v:Value),Env.get (zba i vs) t=some v→i≤t∧vs[t - i]? = some v
 | [],_,_,_,h=>by cases h
 | u::vs,i,t,v,h=>by
  unfold zba Env.get at h
  split at h
  ·rename_i hb
   have:=Nat.eq_of_beq_eq_true hb
   subst this
   cases h
   exact ⟨Nat.le_refl _,by simp⟩
  ·rename_i hb
   have hne:=Nat.ne_of_beq_eq_false hb
   obtain ⟨h1,h2⟩:=z8a vs (i+1) t v h
   refine ⟨by omega,?_⟩
   have:t - i=(t - (i+1))+1:=by omega
   rw [this]
   simpa using h2
theorem zcm {P:Program} {f:FuncId} {fn:Func} {c:Code} {args:List Value} {w:World} {R:Ending→World→Prop} (hf:P.funcs[f]? = some fn) (hb:fn.body=some c)
  (n:Nat) (hn:fn.ntmps=n) (hl:Nat.ble args.length n=true) (h:TW { P:=P,f:=f,fn:=fn,R:=R,hf:=hf } n [] [.code c] (zba 0 args) w):Calls P f args.toArray w R :=
 zfp hf hb _ n hn hl (fun t v e=>by simpa using (z8a args 0 t v e).2) h
theorem zdv {P:Program} {f:FuncId} {fn:Func} {c:Code} {args:List Value} {w:World} {R:Ending→World→Prop} (hf:P.funcs[f]? = some fn) (hb:fn.body=some c)
  (n:Nat) (hn:fn.ntmps=n) (hl:Nat.ble args.length n=true) (h:TW { P:=P,f:=f,fn:=fn,R:=R,hf:=hf,lv:=true } n [] [.code c] (zba 0 args) w):Calls P f args.toArray w R :=
 z9a true hf hb _ n hn hl (fun t v e=>by simpa using (z8a args 0 t v e).2) h
theorem Own.lt {w:World} {O:Nat→Prop} {T m:Nat} {v:Value} {l:List (List D)} (h:Own w O T m v l):∀ b,v.ownBlock=some b→b<w.heap.size:=by
 obtain ⟨xs,h1,_⟩:=h
 exact fun b hb=>(h1.lt b hb).2
end Go.Lk
end
