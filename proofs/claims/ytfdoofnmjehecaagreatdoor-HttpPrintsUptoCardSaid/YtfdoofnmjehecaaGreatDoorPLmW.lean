import Derived.Test.YtfdoofnmjehecaaGreatDoorPLmH
import Derived.Laws.IdiomRangeMap
set_option linter.all false
namespace Go.Lk
open _root_.Bool renaming false_eq_true → ya
open _root_.List renaming eraseIdx_cons_succ → yb
open _root_.Array renaming getElem?_eq_some_iff → yc
open Go.RowKit
def kdT:Option IntKind→TypeDesc
 | some k => .int k
 | none => .string
def zj7:Option IntKind→D→Prop
 | some k,.int k' _=>k'=k
 | none,.str _=>True
 | _,_=>False
def kEq:D→D→Bool
 | .int _ a,.int _ b=>decide (a=b)
 | .str a,.str b=>decide (a=b)
 | _,_=>false
def mgD:List (List D)→D→Option (List D)
 | [],_=>none
 | (k'::ds)::r,k=>if kEq k k'=true then some ds else mgD r k
 | []::r,k=>mgD r k
def z6l:List (List D)→D→List D→List (List D)
 | [],k,v=>[k::v]
 | (k'::ds)::r,k,v=>if kEq k k'=true then (k::v)::r else (k'::ds)::z6l r k v
 | []::r,k,v=>[]::z6l r k v
def zbe:List (List D)→D→List (List D)
 | [],_=>[]
 | (k'::ds)::r,k=>if kEq k k'=true then r else (k'::ds)::zbe r k
 | []::r,k=>[]::zbe r k
section
variable (w:World) (O:Nat→Prop) (ky:Option IntKind) (g:Bool)
def zja (ds:List D) (v:Value):Prop:=match g with
 | true=>∃ vs,v = .agg (List.toArray vs)∧RDs w O ds vs
 | false=>∃ d,ds=[d]∧RD w O d v
def zlq (e:MapEntry) (x:List D):Prop := ∃ k ds,x=k::ds∧zj7 ky k∧RD w O k e.key∧zja w O g ds e.val
def z3i:List MapEntry→List (List D)→Prop
 | [],[]=>True
 | e::es,x::l=>zlq w O ky g e x∧z3i es l
 | _,_=>False
end
def zm9 (es:List MapEntry):Value:=.agg ((es.map fun e=>Value.tuple #[e.key,e.val]).toArray)
section
variable {w w':World} {O O':Nat→Prop} {ky:Option IntKind} {g:Bool}
theorem zja.tr {ds:List D} {v:Value} (h:zja w O g ds v) (t:Tr O w O' w'):zja w' O' g ds v:=by
 cases g with
 | true =>
  obtain ⟨vs,h1,h2⟩:=h
  exact ⟨vs,h1,h2.tr t⟩
 | false =>
  obtain ⟨d,h1,h2⟩:=h
  exact ⟨d,h1,h2.tr t⟩
theorem zlq.tr {e:MapEntry} {x:List D} (h:zlq w O ky g e x) (t:Tr O w O' w'):zlq w' O' ky g e x:=by
 obtain ⟨k,ds,h1,h2,h3,h4⟩:=h
 exact ⟨k,ds,h1,h2,h3.tr t,h4.tr t⟩
theorem z3i.tr:∀ {es:List MapEntry} {l:List (List D)},z3i w O ky g es l→Tr O w O' w'→z3i w' O' ky g es l
 | [],[],_,_=>trivial
 | _::_,_::_,h,t=>⟨h.1.tr t,z3i.tr h.2 t⟩
 | [],_::_,h,_=>h.elim
 | _::_,[],h,_=>h.elim
theorem z3i.len:∀ {es:List MapEntry} {l:List (List D)},z3i w O ky g es l→es.length=l.length
 | [],[],_=>rfl
 | _::_,_::_,h=>by simp [z3i.len h.2]
 | [],_::_,h=>h.elim
 | _::_,[],h=>h.elim
theorem zlq.alike {e e':MapEntry} {x:List D} (h:zlq w O ky g e x) (h1:e'.key=e.key) (h2:e'.val=e.val):zlq w O ky g e' x:=by
 unfold zlq at h ⊢
 rw [h1,h2]
 exact h
theorem z3i.enc:∀ {es es':List MapEntry} {l:List (List D)},z3i w O ky g es l→zm9 es=zm9 es'→z3i w O ky g es' l:=by
 have key:∀ {es es':List MapEntry} {l:List (List D)},z3i w O ky g es l→(es.map fun e=>Value.tuple #[e.key,e.val])=(es'.map fun e=>Value.tuple #[e.key,e.val])→z3i w O ky g es' l:=by
  intro es
  induction es with
  | nil =>
   intro es' l h e
   have:es'=[]:=by simpa using e.symm
   subst this
   exact h
  | cons a es ih =>
   intro es' l h e
   cases es' with
   | nil=>simp at e
   | cons b es' =>
    cases l with
    | nil=>exact h.elim
    | cons x l =>
     simp only [List.map_cons,List.cons.injEq,Value.tuple.injEq] at e
     obtain ⟨e1,e2⟩:=e
     have e3:a.key=b.key∧a.val=b.val:=by simpa using e1
     exact ⟨h.1.alike e3.1.symm e3.2.symm,ih h.2 e2⟩
 intro es es' l h e
 refine key h ?_
 unfold zm9 at e
 have:=Value.agg.inj e
 simpa using this
theorem z3i.get:∀ {es:List MapEntry} {l:List (List D)} {i:Nat} {e:MapEntry},z3i w O ky g es l→es[i]? = some e→∃ x,l[i]? = some x∧zlq w O ky g e x
 | e0::es,x::l,0,e,h,he=>by
  simp at he
  subst he
  exact ⟨x,rfl,h.1⟩
 | e0::es,x::l,i+1,e,h,he=>by simpa using z3i.get h.2 (by simpa using he)
 | [],_,_,_,_,he=>by simp at he
 | _::_,[],_,_,h,_=>h.elim
theorem z3i.erase:∀ {es:List MapEntry} {l:List (List D)} (i:Nat),z3i w O ky g es l→z3i w O ky g (es.eraseIdx i) (l.eraseIdx i)
 | [],[],_,_=>by simp;trivial
 | e::es,x::l,0,h=>by simpa using h.2
 | e::es,x::l,i+1,h=>by
  simp only [yb]
  exact ⟨h.1,z3i.erase i h.2⟩
 | [],_::_,_,h=>h.elim
 | _::_,[],_,h=>h.elim
theorem zc3 {k:D} {v:Value} (hk:zj7 ky k) (h:RD w O k v):MapKept.IsKey (kdT ky) v:=by
 cases ky<;>cases k<;>simp only [zj7] at hk
 ·simp only [RD] at h
  subst h
  simp [MapKept.IsKey,kdT]
 ·simp only [RD] at h
  subst h hk
  simp [MapKept.IsKey,kdT]
theorem zpk {k k':D} {v v':Value} (hk:zj7 ky k) (hk':zj7 ky k') (h:RD w O k v) (h':RD w O k' v'):kEq k k'=true↔v=v':=by
 cases ky<;>cases k<;>simp only [zj7] at hk<;>cases k'<;>simp only [zj7] at hk'
 ·simp only [RD] at h h'
  subst h h'
  simp [kEq]
 ·simp only [RD] at h h'
  subst h h' hk hk'
  simp [kEq]
theorem find_spec {k:D} {kv:Value} (hk:zj7 ky k) (hkv:RD w O k kv):∀ (es:List MapEntry) (l:List (List D)) (i:Nat),z3i w O ky g es l →
  (Instr.findNow (kdT ky) kv es i=some none∧mgD l k=none∧zbe l k=l∧(∀ x∈es,x.key≠kv)∧∀ vd val,zja w O g vd val→∀ c,z3i w O ky g (es++[⟨kv,val,c⟩]) (z6l l k vd)) ∨
  ∃ j e ds,Instr.findNow (kdT ky) kv es i=some (some (i+j,e.val))∧es[j]? = some e∧e.key=kv∧mgD l k=some ds∧zja w O g ds e.val∧z3i w O ky g (es.eraseIdx j) (zbe l k) ∧
   ∀ vd val,zja w O g vd val→z3i w O ky g (es.modify j fun e => { e with key:=kv,val:=val }) (z6l l k vd)
 | [],[],i,_ => .inl ⟨rfl,rfl,rfl,by simp,fun vd val hv c=>⟨⟨k,vd,rfl,hk,hkv,hv⟩,trivial⟩⟩
 | e::es,x::l,i,h=>by
  obtain ⟨⟨k',ds,rfl,h2,h3,h4⟩,h5⟩:=h
  have hi:=zpk hk h2 hkv h3
  obtain ⟨r,hr,hiff⟩:=MapKept.sameNow_of_keys (zc3 hk hkv) (zc3 h2 h3)
  by_cases hq:kEq k k'=true
  ·have hkk:=hi.1 hq
   have hrt:r=true:=hiff.2 hkk
   subst hrt
   refine .inr ⟨0,e,ds,by simp [Instr.findNow,hr],rfl,hkk.symm,by simp [mgD,hq],h4,by simpa [zbe,hq] using h5,fun vd val hv => ?_⟩
   simp only [z6l,hq,if_true,List.modify_zero_cons]
   exact ⟨⟨k,vd,rfl,hk,hkv,hv⟩,h5⟩
  ·have hne:¬kv=e.key:=fun q=>hq (hi.2 q)
   have hrf:r=false:=by
    cases r with
    | false=>rfl
    | true=>exact (hne (hiff.1 rfl)).elim
   subst hrf
   rcases find_spec hk hkv es l (i+1) h5 with ⟨f1,f2,f3,f4,f5⟩|⟨j,e',ds',f1,f2,f3,f4,f5,f6,f7⟩
   ·refine .inl ⟨by simp [Instr.findNow,hr,f1],by simp [mgD,hq,f2],by simp [zbe,hq,f3],fun x hx => ?_,fun vd val hv c => ?_⟩
    ·rcases List.mem_cons.1 hx with rfl|hx
     ·exact fun q=>hne q.symm
     ·exact f4 x hx
    ·simp only [z6l,hq,ya,if_false,List.cons_append]
     exact ⟨⟨k',ds,rfl,h2,h3,h4⟩,f5 vd val hv c⟩
   ·refine .inr ⟨j+1,e',ds',by simp [Instr.findNow,hr,f1];omega,by simpa using f2,f3,by simp [mgD,hq,f4],f5,?_,fun vd val hv => ?_⟩
    ·simp only [zbe,hq,ya,if_false,yb]
     exact ⟨⟨k',ds,rfl,h2,h3,h4⟩,f6⟩
    ·simp only [z6l,hq,ya,if_false,List.modify_succ_cons]
     exact ⟨⟨k',ds,rfl,h2,h3,h4⟩,f7 vd val hv⟩
 | [],_::_,_,h=>h.elim
 | _::_,[],_,h=>h.elim
def MapAt (w:World) (m:Nat) (us:List Value):Prop := ∃ es clock,w.heap[m]? = some (.map es clock)∧MapKept.Stamped es clock∧us=[zm9 es.toList]
theorem MapAt.keep {F:Nat→Prop} {m:Nat} {us:List Value} (h:MapAt w m us) (x:Ext F w w') (hf:¬F m):MapAt w' m us:=by
 obtain ⟨es,clock,h1,h2,h3⟩:=h
 exact ⟨es,clock,(x.block m (yc.1 h1).1 hf).trans h1,h2,h3⟩
section
variable {P:Program} {t kt et:TypeId} {m:Nat} {es:Array MapEntry} {clock:Nat} {l:List (List D)} {k:D} {kv:Value}
theorem zn6 {P:Program} {T:TypeId} {z:Value} {w:World} (h:zer P T=some z):(zeroValue T).run P w = .ok z w:=by
 unfold zer at h
 cases hi:P.info? T with
 | none=>rw [hi] at h;cases h
 | some i =>
  rw [hi] at h
  simp only [Option.bind_some] at h
  simp [zeroValue,typeInfo,Sem.run_bind,Sem.run,hi,h]
theorem zj2 (ht:P.underlying t=some (.map kt et)) (hkt:P.underlying kt=some (kdT ky)) {z:Value} (hz:zer P et=some z) (hb:w.heap[m]? = some (.map es clock)) (h:z3i w O ky g es.toList l) (hk:zj7 ky k) (hkv:RD w O k kv) (c:Bool) :
  ∃ v ok,(Instr.lookup t (.map (some m)) kv c).run P w = .ok (if c=true then .tuple #[v,.bool ok] else v) w∧((mgD l k=none∧v=z∧ok=false)∨∃ ds,mgD l k=some ds∧zja w O g ds v∧ok=true):=by
 have hz':(zeroValue et).run P w = .ok z w:=zn6 hz
 rcases find_spec hk hkv es.toList l 0 h with ⟨f1,f2,_⟩|⟨j,e,ds,f1,_,_,f4,f5,_⟩
 ·refine ⟨z,false,?_,.inl ⟨f2,rfl,rfl⟩⟩
  simp only [Instr.lookup,Sem.run_bind,run_underlying ht,Result.andThen_ok,MapKept.run_getObj_map hb,Sem.run_pure,MapKept.run_checkKey hkt (zc3 hk hkv),MapKept.run_findKey hkt f1,hz']
 ·refine ⟨e.val,true,?_,.inr ⟨ds,f4,f5,rfl⟩⟩
  simp only [Instr.lookup,Sem.run_bind,run_underlying ht,Result.andThen_ok,MapKept.run_getObj_map hb,Sem.run_pure,MapKept.run_checkKey hkt (zc3 hk hkv),MapKept.run_findKey hkt f1]
theorem Ext.zfc {o o':Obj} (hb:w.heap[m]? = some o):Ext (At m) w { w with heap:=w.heap.setIfInBounds m o' } :=
 ⟨rfl,rfl,rfl,by simp,fun b hb' hne=>(MapKept.heap_set (w:=w) (o':=o') hb).2 b hne⟩
theorem z8q (ht:P.underlying t=some (.map kt et)) (hkt:P.underlying kt=some (kdT ky)) (hb:w.heap[m]? = some (.map es clock)) (hs:MapKept.Stamped es clock) (h:z3i w O ky g es.toList l) (hk:zj7 ky k) (hkv:RD w O k kv) {vd:List D} {val:Value} (hv:zja w O g vd val) :
  ∃ es' clock' w',(Instr.mapUpdate t (.map (some m)) kv val).run P w = .ok () w'∧w'.heap[m]? = some (.map es' clock')∧MapKept.Stamped es' clock'∧z3i w O ky g es'.toList (z6l l k vd)∧Ext (At m) w w':=by
 have hik:=zc3 hk hkv
 rcases find_spec hk hkv es.toList l 0 h with ⟨f1,f2,f3,f4,f5⟩|⟨j,e,ds,f1,f2,f3,f4,f5,f6,f7⟩
 ·refine ⟨es.push { key:=kv,val:=val,born:=clock },clock+1,{ w with heap:=w.heap.setIfInBounds m (.map (es.push { key:=kv,val:=val,born:=clock }) (clock+1)) },?_,(MapKept.heap_set hb).1,MapKept.stamped_push hs f4,by simpa using f5 vd val hv clock,Ext.zfc hb⟩
  simp [Instr.mapUpdate,run_underlying ht,MapKept.run_getObj_map hb,MapKept.run_checkKey hkt hik,MapKept.run_findKey hkt f1,MapKept.run_setObj_map _ hb,Result.andThen]
 ·have hj:es[j]? = some e:=by simpa using f2
  have hkey:∀ e',es[j]? = some e'→({ e' with key:=kv,val:=val }:MapEntry).key=e'.key:=fun e' he'=>by rw [hj] at he';cases he';exact f3.symm
  refine ⟨es.modify j fun e => { e with key:=kv,val:=val },clock,{ w with heap:=w.heap.setIfInBounds m (.map (es.modify j fun e => { e with key:=kv,val:=val }) clock) },?_,(MapKept.heap_set hb).1,MapKept.stamped_modify hs _ _ (fun _ _=>rfl) (fun e' _ he'=>hkey e' he'),by rw [Array.toList_modify];exact f7 vd val hv,Ext.zfc hb⟩
  simp [Instr.mapUpdate,run_underlying ht,MapKept.run_getObj_map hb,MapKept.run_checkKey hkt hik,MapKept.run_findKey hkt f1,hj,f3,MapKept.run_keyThatStays hik,MapKept.run_setObj_map _ hb,Result.andThen]
theorem zj0 {ty:TypeId} (ht:P.underlying t=some (.map kt et)) (hkt:P.underlying kt=some (kdT ky)) (hb:w.heap[m]? = some (.map es clock)) (hs:MapKept.Stamped es clock) (h:z3i w O ky g es.toList l) (hk:zj7 ky k) (hkv:RD w O k kv) {ts:Array TypeId} (h0:ts[0]? = some t) :
  ∃ es' clock' w',(Builtin.delete_ ts ty #[.map (some m),kv]).run P w = .ok (.tuple #[]) w'∧w'.heap[m]? = some (.map es' clock')∧MapKept.Stamped es' clock'∧z3i w O ky g es'.toList (zbe l k)∧Ext (At m) w w':=by
 have hik:=zc3 hk hkv
 rcases find_spec hk hkv es.toList l 0 h with ⟨f1,f2,f3,f4,f5⟩|⟨j,e,ds,f1,f2,f3,f4,f5,f6,f7⟩
 ·refine ⟨es,clock,{ w with heap:=w.heap.setIfInBounds m (.map es clock) },?_,(MapKept.heap_set hb).1,hs,by rw [f3];exact h,Ext.zfc hb⟩
  simp [Builtin.delete_,h0,run_underlying ht,MapKept.run_getObj_map hb,MapKept.run_checkKey hkt hik,MapKept.run_findKey hkt f1,MapKept.run_setObj_map _ hb,Result.andThen]
 ·have hj:es[j]? = some e:=by simpa using f2
  have hlt:j<es.size:=(yc.1 hj).1
  have he:(es.eraseIdxIfInBounds j).toList=es.toList.eraseIdx j:=by
   unfold Array.eraseIdxIfInBounds
   rw [dif_pos hlt,Array.toList_eraseIdx]
  refine ⟨es.eraseIdxIfInBounds j,clock,{ w with heap:=w.heap.setIfInBounds m (.map (es.eraseIdxIfInBounds j) clock) },?_,(MapKept.heap_set hb).1,MapKept.stamped_erase hs _,by rw [he];exact f6,Ext.zfc hb⟩
  simp [Builtin.delete_,h0,run_underlying ht,MapKept.run_getObj_map hb,MapKept.run_checkKey hkt hik,MapKept.run_findKey hkt f1,MapKept.run_setObj_map _ hb,Result.andThen]
def z9m (es:List MapEntry) (seen:List Nat):List MapEntry:=es.filter fun e => !seen.contains e.born
def encI (m since:Nat) (seen:List Nat) (last:Nat):Value:=.agg #[.map (some m),.int .i64 since,.int .i64 last,.agg ((seen.map fun n:Nat=>Value.int .i64 (n:Int)).toArray)]
theorem zh3 {m m' since since' last last':Nat} {seen seen':List Nat} (h:encI m since seen last=encI m' since' seen' last'):m=m'∧since=since'∧seen=seen'∧last=last':=by
 simp only [encI,Value.agg.injEq,Array.mk.injEq,List.cons.injEq,Value.map.injEq,Option.some.injEq,Value.int.injEq,true_and,and_true] at h
 obtain ⟨h1,h2,h3,h4⟩:=h
 refine ⟨h1,by omega,?_,by omega⟩
 have h5:(seen.map fun n:Nat=>Value.int .i64 (n:Int))=seen'.map fun n:Nat=>Value.int .i64 (n:Int):=by simpa using h4
 refine (List.map_inj_right fun a b e => ?_).1 h5
 have:=(Value.int.inj e).2
 omega
def z9t (w:World) (r:Nat) (us:List Value):Prop := ∃ m since seen last,w.heap[r]? = some (.mapIter (some m) since seen last)∧us=[encI m since seen.toList last]
theorem z9t.keep {F:Nat→Prop} {m:Nat} {us:List Value} (h:z9t w m us) (x:Ext F w w') (hf:¬F m):z9t w' m us:=by
 obtain ⟨q,since,seen,last,h1,h2⟩:=h
 exact ⟨q,since,seen,last,(x.block m (yc.1 h1).1 hf).trans h1,h2⟩
theorem zf7 {r since last:Nat} {q:Option Nat} {seen:Array Nat} (hb:w.heap[r]? = some (.mapIter q since seen last)):(getObj r).run P w = .ok (.mapIter q since seen last) w:=by
 simp [getObj,Sem.run,hb]
theorem zlg {r since last:Nat} {q:Option Nat} {seen:Array Nat} (o':Obj) (hb:w.heap[r]? = some (.mapIter q since seen last)):(setObj r o').run P w = .ok () { w with heap:=w.heap.setIfInBounds r o' }:=by
 simp [setObj,Sem.run,hb]
theorem zlf (ht:P.underlying t=some (.map kt et)) (hb:w.heap[m]? = some (.map es clock)) :
  (Instr.range t (.map (some m))).run P w = .ok (.pointer (some ⟨w.heap.size,0,none⟩)) (w.alloc (.mapIter (some m) clock #[] clock)):=by
 simp [Instr.range,run_underlying ht,MapKept.run_getObj_map hb]
theorem zn5 {ty:TypeId} {r:Nat} {seen:Array Nat} (hb:w.heap[m]? = some (.map es clock)) (hr:w.heap[r]? = some (.mapIter (some m) clock seen clock)) (hold:∀ x∈es.toList,x.born<clock) :
  (z9m es.toList seen.toList=[]∧(Instr.next (.pointer (some ⟨r,0,none⟩)) false ty).run P w = .ok (.tuple #[.bool false]) w) ∨
  ∃ (i:Nat) (e:MapEntry),(z9m es.toList seen.toList)[i]? = some e∧∃ w',Ext (At r) w w'∧w'.heap[r]? = some (.mapIter (some m) clock (seen.push e.born) clock)∧(Instr.next (.pointer (some ⟨r,0,none⟩)) false ty).run P w = .ok (.tuple #[.bool true,e.key,e.val]) w':=by
 simp only [Instr.next,Sem.run_bind,zf7 hr,MapKept.run_getObj_map hb,Result.andThen_ok,Go.next_test_false seen es clock clock hold (Nat.le_refl _),ya,if_false]
 have hL:z9m es.toList seen.toList=(es.filter fun e => !seen.contains e.born).toList:=by
  unfold z9m
  rw [Array.toList_filter]
  congr 1
  funext e
  rw [Array.contains_toList]
 have hmem:∀ x∈(Array.filter (fun e => !seen.contains e.born) es).toList,x.born<clock:=fun x hx=>hold x (by simp at hx ⊢;exact hx.1)
 rw [hL]
 generalize Array.filter (fun e => !seen.contains e.born) es=L at hmem ⊢
 have e1:L.filter (fun x=>decide (x.born<clock))=L:=Array.filter_eq_self.2 (fun x hx=>by simpa using hmem x (by simpa using hx))
 have e2:L.filter (fun x=>decide (x.born≥clock)) = #[]:=by
  rw [Array.filter_eq_empty_iff]
  intro x hx
  have:=hmem x (by simpa using hx)
  simp
  omega
 simp only [e1,e2,Array.append_empty]
 by_cases h0:L.size=0
 ·left
  have:L = #[]:=Array.eq_empty_of_size_eq_zero h0
  subst this
  refine ⟨rfl,?_⟩
  simp [choose,Sem.run,Question.forced]
 ·right
  have hne:L.isEmpty=false:=by simp [Array.isEmpty,h0]
  simp only [hne,ya,if_false,Array.empty_append,Array.size_map]
  have hch:∃ (j:Nat) (w1:World),j<L.size∧Ext z18 w w1∧w1.heap=w.heap∧(choose (Question.mapNext L.size)).run P w = .ok j w1:=by
   by_cases hf:L.size≤1
   ·exact ⟨0,w,by omega,Ext.refl _ _,rfl,by simp [choose,Sem.run,Question.forced,hf]⟩
   ·exact ⟨_,w.drew,Nat.mod_lt _ (by omega),⟨rfl,rfl,rfl,Nat.le_refl _,fun _ _ _=>rfl⟩,rfl,by
     simp only [choose,Sem.run,Question.forced,decide_eq_true_eq,hf,if_false,Question.cut]
     rfl⟩
  obtain ⟨j,w1,hj,hx,hh,hc⟩:=hch
  have hr1:w1.heap[r]? = some (.mapIter (some m) clock seen clock):=by rw [hh];exact hr
  refine ⟨j,L[j],by simp [hj],{ w1 with heap:=w1.heap.setIfInBounds r (.mapIter (some m) clock (seen.push L[j].born) clock) },?_,(MapKept.heap_set hr1).1,?_⟩
  ·exact (hx.mono fun _ _ h=>h.elim).trans (Ext.zfc hr1)
  ·simp only [hc,Result.andThen_ok]
   simp [hj,zlg _ hr1,Result.andThen]
theorem zlc {r last:Nat} {seen:Array Nat} {since:Nat} {b:Nat} {e:MapEntry} (hb:w.heap[m]? = some (.map es last)) (hr:w.heap[r]? = some (.mapIter (some m) since seen last)) (hs:seen.back? = some b) (he:es.toList.find? (fun e=>e.born==b)=some e) :
  (Instr.entry (.pointer (some ⟨r,0,none⟩))).run P w = .ok (.tuple #[e.key,e.val]) w:=by
 have he':es.find? (fun e=>e.born==b)=some e:=by rw [←Array.find?_toList];exact he
 simp [Instr.entry,zf7 hr,MapKept.run_getObj_map hb,hs,he',Result.andThen]
end
theorem Stamped.nil:MapKept.Stamped #[] 0:=⟨by simp,by simp,by simp⟩
inductive MC where
 | cont (ky:Option IntKind) (g:Bool) (l:List (List D))
 | it (ky:Option IntKind) (g:Bool) (cur:Option (List D)) (rem:List (List D))
def zt9 (w:World) (O:Nat→Prop) (m:Nat) (es:Array MapEntry) (clock:Nat):Prop:=w.heap[m]? = some (.map es clock)∧MapKept.Stamped es clock∧¬O m
def zvf (w:World) (O:Nat→Prop) (ky:Option IntKind) (g:Bool) (es:Array MapEntry) (seen:Array Nat):Option (List D)→Prop
 | none=>True
 | some x=>∃ b e,seen.back? = some b∧es.toList.find? (fun e=>e.born==b)=some e∧zlq w O ky g e x
def MR (w:World) (O:Nat→Prop):MC→Value→Prop
 | .cont ky g l,u=>∃ es,u=zm9 es∧z3i w O ky g es l
 | .it ky g cur rem,u=>∃ m seen clock es,u=encI m clock seen.toList clock∧zt9 w O m es clock∧z3i w O ky g (z9m es.toList seen.toList) rem∧zvf w O ky g es seen cur
theorem zt9.tr {m:Nat} {es:Array MapEntry} {clock:Nat} (h:zt9 w O m es clock) (t:Tr O w O' w'):zt9 w' O' m es clock :=
 have hm:=(yc.1 h.1).1
 ⟨(t.block m hm h.2.2).trans h.1,h.2.1,t.owned m hm h.2.2⟩
theorem MR.tr {c:MC} {u:Value} (h:MR w O c u) (t:Tr O w O' w'):MR w' O' c u:=by
 cases c with
 | cont ky g l =>
  obtain ⟨es,h1,h2⟩:=h
  exact ⟨es,h1,h2.tr t⟩
 | it ky g cur rem =>
  obtain ⟨m,seen,clock,es,h1,h2,h3,h4⟩:=h
  refine ⟨m,seen,clock,es,h1,h2.tr t,h3.tr t,?_⟩
  cases cur with
  | none=>trivial
  | some x =>
   obtain ⟨b,e,h5,h6,h7⟩:=h4
   exact ⟨b,e,h5,h6,h7.tr t⟩
def zdn (w:World) (b T:Nat) (us:List Value):Prop:=(T<1000000∧z2b w b T us)∨(1000000≤T∧T<2000000∧MapAt w b us)∨(2000000≤T∧z9t w b us)
theorem zdn.un {b T:Nat} {us:List Value} (h:zdn w b T us) (ht:T<1000000):z2b w b T us:=by
 rcases h with h|h|h
 ·exact h.2
 ·omega
 ·omega
theorem zdn.map {b T:Nat} {us:List Value} (h:zdn w b T us) (ht:1000000≤T) (hu:T<2000000):MapAt w b us:=by
 rcases h with h|h|h
 ·omega
 ·exact h.2.2
 ·omega
theorem zdn.iter {b T:Nat} {us:List Value} (h:zdn w b T us) (ht:2000000≤T):z9t w b us:=by
 rcases h with h|h|h
 ·omega
 ·omega
 ·exact h.2
theorem zdn.keep {F:Nat→Prop} {b T:Nat} {us:List Value} (h:zdn w b T us) (x:Ext F w w') (hf:¬F b):zdn w' b T us :=
 h.imp (fun h=>⟨h.1,h.2.keep x hf⟩) fun h=>h.imp (fun h=>⟨h.1,h.2.1,h.2.2.keep x hf⟩) fun h=>⟨h.1,h.2.keep x hf⟩
theorem MapAt.lt {m:Nat} {us:List Value} (h:MapAt w m us):m<w.heap.size:=by
 obtain ⟨es,clock,h1,_⟩:=h
 exact (yc.1 h1).1
theorem z9t.lt {m:Nat} {us:List Value} (h:z9t w m us):m<w.heap.size:=by
 obtain ⟨_,_,_,_,h1,_⟩:=h
 exact (yc.1 h1).1
theorem zdn.lt {b T:Nat} {us:List Value} (h:zdn w b T us):b<w.heap.size:=by
 rcases h with h|h|h
 ·exact h.2.lt
 ·exact h.2.2.lt
 ·exact h.2.lt
def zd6 (l:List (List D)) (k:D) (z:List D):List D:=match mgD l k with
 | some ds=>ds
 | none=>z
def zeq (l:List (List D)) (k:D):Bool:=match mgD l k with
 | some _=>true
 | none=>false
end
end Go.Lk
