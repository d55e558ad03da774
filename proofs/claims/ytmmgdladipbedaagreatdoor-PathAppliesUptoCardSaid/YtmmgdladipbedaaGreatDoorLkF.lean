import Derived.Test.YtmmgdladipbedaaGreatDoorLkD
import Derived.Orders
set_option linter.all false
section
namespace Go.Lk
open _root_.List renaming length_map → ya, toArray → yb
open _root_.UInt8 renaming ofNat → yc
open Go.RowKit
variable [Lb]

theorem bnd {α β:Type} {x:Option α} {f:α→Option β} {r:β} (h:(x >>= f)=some r):∃ a,x=some a∧f a=some r:=by
 cases x with
 | none=>cases h
 | some a=>exact ⟨a,rfl,h⟩
inductive Jn (R α:Type) where
 | done (r:R)
 | go (a:α)
def chk (b:Bool):Option Unit:=if b then some () else none
theorem z86 {b:Bool} {u:Unit} (h:chk b=some u):b=true:=by
 cases b with
 | true=>rfl
 | false=>cases h
def ix {α:Type} (l:List α) (i:Int):Option α:=if 0≤i then l[i.toNat]? else none
theorem znl {α:Type} {l:List α} {i:Int} {x:α} (h:ix l i=some x):∃ j:Nat,i=(j:Nat)∧l[j]? = some x:=by
 unfold ix at h
 split at h
 ·exact ⟨i.toNat,by omega,h⟩
 ·cases h
def sub {α:Type} (l:List α) (a b:Int):Option (List α):=if 0≤a∧a≤b∧b≤(l.length:Int) then some ((l.take b.toNat).drop a.toNat) else none
theorem zf4 {α:Type} {l:List α} {a b:Int} {x:List α} (h:sub l a b=some x):∃ p q:Nat,a=(p:Nat)∧b=(q:Nat)∧p≤q∧q≤l.length∧x=(l.take q).drop p:=by
 unfold sub at h
 split at h
 ·rename_i hc
  cases h
  exact ⟨a.toNat,b.toNat,by omega,by omega,by omega,by omega,rfl⟩
 ·cases h
def cat (a b:List UInt8):Option (List UInt8):=if a.length+b.length≤9223372036854775807 then some (a++b) else none
theorem zpy {a b x:List UInt8} (h:cat a b=some x):x=a++b∧a.length+b.length≤9223372036854775807:=by
 unfold cat at h
 split at h
 ·rename_i hc
  cases h
  exact ⟨rfl,hc⟩
 ·cases h
def app {α:Type} (by_:Nat) (l l2:List α):Option (List α):=if (l.length+l2.length)*by_≤140737488355328 then some (l++l2) else none
theorem zpt {α:Type} {by_:Nat} {l l2 x:List α} (h:app by_ l l2=some x):x=l++l2∧(l.length+l2.length)*by_≤140737488355328:=by
 unfold app at h
 split at h
 ·rename_i hc
  cases h
  exact ⟨rfl,hc⟩
 ·cases h

def eI (k:IntKind) (n:Int):List D:=[.int k n]
def eS (s:List UInt8):List D:=[.str s]

section
variable {α:Type} {f:α→List D} {l:List α} {w:World} {O:Nat→Prop} {T n:Nat} {v:Value}
end

section
variable {C:Cx} {n:Nat} {ds:List Deferred} {k:Act→World→Prop} {L:Env} {w:World} {ops:Array Oper} {o:Oper} {rest:List Oper} {d:Nat} {v:Value}
theorem EX.zd4 {t T m:TypeId} {gg:Bool} {x y:Operand} {b q len cap:Nat} {kd:IntKind} {i:Int} {j:Nat} {u:Value} (ho:o.op = .indexAddr t x y)
  (ht:C.P.underlying t=some (.slice T)) (hT:shp C.P T=some (gg,m)) (hx:ev L x=some u) (hu:u = .slice (some ⟨b,q,none⟩) len cap) (hy:ev L y=some (.int kd i)) (hi:i=(j:Nat)) (hj:j<len) :
  EX C n L w o (.pointer (some ⟨b,q+j*m,none⟩)):=EX.indexAddr ho ht hT (by rw [hx,hu]) hy hi hj
theorem EX.lenV {t e:TypeId} {x:Operand} {u:Value} {l:Nat} (ho:o.op = .call { callee:=.builtin .len,args := #[x],argTypes := #[t] })
  (ht:C.P.underlying t=some (.slice e)) (hx:ev L x=some u) (hu:∃ p c,u = .slice p l c):EX C n L w o (.int .i64 (l:Nat)):=by
 obtain ⟨p,c,rfl⟩:=hu
 exact EX.zvf ho ht hx
end
def zy6 {α:Type} (l:List α) (i:Int) (a:α):Option (List α):=if 0≤i∧i<l.length then some (l.set i.toNat a) else none
theorem zou {α:Type} {l l':List α} {i:Int} {a:α} {j:Nat} (h:zy6 l i a=some l') (hj:i=(j:Nat)):l'=l.set j a:=by
 unfold zy6 at h
 split at h
 ·cases h;subst hj;rfl
 ·cases h
def unb (s:List UInt8):List Int:=s.map fun b=>(b.toNat:Int)
def byt (l:List Int):List UInt8:=l.map fun n=>yc n.toNat
theorem zua {w:World} {O:Nat→Prop} {k:IntKind} {x:Int} {cs:List Value} (h:RDs w O (eI k x) cs):cs=[.int k x]:=by
 obtain ⟨v,r,rfl,h1,rfl⟩:=h
 simp only [RD] at h1
 subst h1
 rfl
theorem zub {w:World} {O:Nat→Prop} {x:List UInt8} {cs:List Value} (h:RDs w O (eS x) cs):cs=[.string ⟨yb x⟩]:=by
 obtain ⟨v,r,rfl,h1,rfl⟩:=h
 simp only [RD] at h1
 subst h1
 rfl
theorem Own.mem {w:World} {O:Nat→Prop} {T m:Nat} {v:Value} {l:List (List D)} (h:Own w O T m v l):∀ b,v.ownBlock=some b→O b:=by
 obtain ⟨_,_,_,_,h⟩:=h
 exact h
theorem Own.down {w:World} {O O':Nat→Prop} {T m:Nat} {v:Value} {l:List (List D)} (h:Own w O T m v l) (ho:∀ x,O' x→O x) (hv:∀ b,v.ownBlock=some b→O' b):Own w O' T m v l:=by
 obtain ⟨xs,h1,h2,h3,_⟩:=h
 exact ⟨xs,h1,h2.tr (Tr.drop w ho),h3,hv⟩
section
variable {C:Cx} {n:Nat} {ds:List Deferred} {k:Act→World→Prop} {L:Env} {w:World} {ops:Array Oper} {o:Oper} {rest:List Oper} {d:Nat} {v:Value}
theorem OW.toBytes {O:Nat→Prop} {t u T:TypeId} {x:Operand} {s:List UInt8} (hg:o.guard=none) (hd:o.dst=some d) (hn:Nat.blt d n=true) (ho:o.op = .convert t u x)
  (ht:C.P.underlying t=some .string) (hu:C.P.underlying u=some (.slice T)) (hT:C.P.underlying T=some (.int .u8)) (hx:ev L x=some (.string ⟨s.toArray⟩)) (hB:Bd O w) (h0:s.length≤9223372036854775807)
  (h:∀ v' w',Ext z0h w w'→RD w' O (.sl T 1 ((unb s).map (eI .u8))) v'→OW C n ds ops rest k ((d,v')::L) w'):OW C n ds ops (o::rest) k L w:=by
 have hsz:(⟨s.toArray⟩:ByteArray).size=s.length:=by simp [ByteArray.size]
 refine OW.val (v:=.slice (some ⟨w.heap.size,0,none⟩) s.length (grownCap w s.length 0 T)) (w':=Lib.bytesWorld w T ⟨s.toArray⟩) hg hd hn (fun a ha => ?_) (h _ _ ?_ ?_)
 ·have:=Lib.run_convert_string_bytes (P:=C.P) w t u T ⟨s.toArray⟩ ht hu hT
  rw [hsz] at this
  simp only [execOp,ho,ha.ev hx,Sem.run_bind,this,Result.andThen_ok]
  rfl
 ·refine ⟨?_,?_,?_,?_,fun b hb _=>Lib.bytesWorld_at_old w T _ b hb⟩
  ·simp only [Lib.bytesWorld,World.freeze];split<;>rfl
  ·simp only [Lib.bytesWorld,World.freeze];split<;>rfl
  ·simp only [Lib.bytesWorld,World.freeze];split<;>rfl
  ·rw [Lib.bytesWorld_size];omega
 ·refine .inr ⟨w.heap.size,0,grownCap w s.length 0 T,_,(_,_),by simp [unb],by simpa [unb] using grownCap_ge w s.length 0 T,grownCap_le_maxLen w _ 0 T (by unfold maxLen;omega),fun ho=>Nat.lt_irrefl _ (hB _ ho),Lib.bytesWorld_at_new w T _,?_,?_⟩
  ·have:=grownCap_ge w s.length 0 T
   simp [Lib.bytesCells,hsz]
   omega
  ·have e:(unb s).map (eI .u8)=s.map zdq:=by simp [unb,zdq,eI]
   rw [e]
   refine RDl.zem ?_
   have e2:(List.drop 0 (Lib.bytesCells w T ⟨s.toArray⟩).toList).take ((s.map zdq).length*1)=s.map fun b=>Value.int .u8 (b.toNat:Nat):=by
    simp [Lib.bytesCells,List.take_append_of_le_length]
   rw [e2]
   exact z5p s
theorem RDl.u8 {O:Nat→Prop}:∀ {l:List Int} {cs:List Value},RDl w O 1 (l.map (eI .u8)) cs→l.length≤cs.length→cs.take l.length=l.map (Value.int .u8)
 | [],_,_,_=>by simp
 | x::l,[],_,hl=>by simp at hl
 | x::l,c::cs,h,hl=>by
  have h1:=zua h.1
  have h2:=RDl.u8 (l:=l) (cs:=cs) (by simpa using h.2) (by simpa using hl)
  simp only [List.take_succ_cons,List.take_zero,List.cons.injEq,and_true] at h1
  simp [h1,h2]
theorem zk7:∀ (l:List Int) (a:List UInt8),l.foldl (fun r n=>ByteArray.push r (yc n.toNat)) ⟨a.toArray⟩=⟨(a++byt l).toArray⟩
 | [],a=>by simp [byt]
 | x::l,a=>by
  have e:ByteArray.push ⟨a.toArray⟩ (yc x.toNat)=⟨(a++[yc x.toNat]).toArray⟩:=by simp [ByteArray.push]
  rw [List.foldl_cons,e,zk7 l]
  simp [byt]
theorem EX.toStr {O:Nat→Prop} {t u T:TypeId} {x:Operand} {l:List Int} {vx:Value} (ho:o.op = .convert t u x)
  (ht:C.P.underlying t=some (.slice T)) (hT:C.P.underlying T=some (.int .u8)) (hu:C.P.underlying u=some .string) (hx:ev L x=some vx) (hr:RD w O (.sl T 1 (l.map (eI .u8))) vx):EX C n L w o (.string ⟨yb (byt l)⟩) :=
 fun a ha=>by
  rcases hr with ⟨⟨p,rfl⟩,h2⟩|⟨b,q,cap,cs,fr,rfl,h2,h3,h4,h5,h6,h7⟩
  ·have:l=[]:=by simpa using h2
   subst this
   simp only [execOp,ho,ha.ev hx,Sem.run_bind,run_convert_bytes_string w t u T p 0 0 ht hT hu]
   cases p with
   | none =>
    simp only [Conv.bytesToString,Sem.run_pure,Result.andThen_ok]
    rfl
   | some ad =>
    have h9:=run_loadCells_list (P:=C.P) (w:=w) ad [] (fun j v e=>by simp at e)
    have h10:=run_bytesToString (P:=C.P) w ad 0 0 [] (by simpa using h9)
    simp only [h10,Result.andThen_ok]
    rfl
  ·rw [ya] at h2
   have h8:(cs.toList.drop q).take l.length=l.map (Value.int .u8):=RDl.u8 h7 (by simp;omega)
   have h9:=run_loadCells_list (P:=C.P) (w:=w) ⟨b,q,none⟩ (l.map (Value.int .u8)) (fun j v e=>by
    rw [Addr.add_lit,cell_of_row w b _ cs fr.1 fr.2 h5]
    rw [←h8,List.getElem?_take] at e
    split at e
    ·simpa using e
    ·cases e)
   rw [ya] at h9
   have h10:=run_bytesToString (P:=C.P) w ⟨b,q,none⟩ l.length cap l h9
   have e:=zk7 l []
   simp only [List.nil_append] at e
   rw [show ByteArray.empty=(⟨yb []⟩:ByteArray) from rfl,e] at h10
   simp only [ya] at *
   simp only [execOp,ho,ha.ev hx,Sem.run_bind,run_convert_bytes_string w t u T _ l.length cap ht hT hu,h10,Result.andThen_ok]
   rfl
theorem OW.toStr {O:Nat→Prop} {t u T:TypeId} {x:Operand} {l:List Int} {vx:Value} (hg:o.guard=none) (hd:o.dst=some d) (hn:Nat.blt d n=true) (ho:o.op = .convert t u x)
  (ht:C.P.underlying t=some (.slice T)) (hT:C.P.underlying T=some (.int .u8)) (hu:C.P.underlying u=some .string) (hx:ev L x=some vx) (hr:RD w O (.sl T 1 (l.map (eI .u8))) vx) (h:OW C n ds ops rest k ((d,.string ⟨yb (byt l)⟩)::L) w):OW C n ds ops (o::rest) k L w :=
 OW.val hg hd hn (EX.toStr ho ht hT hu hx hr) h
end
def zcd:Nat→List Value→Env
 | _,[]=>[]
 | i,v::vs=>(i,v)::zcd (i+1) vs
theorem z8b:∀ (vs:List Value) (i t:Nat) (v:Value),Env.get (zcd i vs) t=some v→i≤t∧vs[t - i]? = some v
 | [],_,_,_,h=>by cases h
 | u::vs,i,t,v,h=>by
  unfold zcd Env.get at h
  split at h
  ·rename_i hb
   have:=Nat.eq_of_beq_eq_true hb
   subst this
   cases h
   exact ⟨Nat.le_refl _,by simp⟩
  ·rename_i hb
   have hne:=Nat.ne_of_beq_eq_false hb
   obtain ⟨h1,h2⟩:=z8b vs (i+1) t v h
   refine ⟨by omega,?_⟩
   have:t - i=(t - (i+1))+1:=by omega
   rw [this]
   simpa using h2
theorem zdr {P:Program} {f:FuncId} {fn:Func} {c:Code} {args:List Value} {w:World} {R:Ending→World→Prop} (hf:P.funcs[f]? = some fn) (hb:fn.body=some c)
  (n:Nat) (hn:fn.ntmps=n) (hl:Nat.ble args.length n=true) (h:TW { P:=P,f:=f,fn:=fn,R:=R,hf:=hf } n [] [.code c] (zcd 0 args) w):Calls P f args.toArray w R :=
 zhk hf hb _ n hn hl (fun t v e=>by simpa using (z8b args 0 t v e).2) h
theorem zmq {P:Program} {f:FuncId} {fn:Func} {c:Code} {args:List Value} {w:World} {R:Ending→World→Prop} (hf:P.funcs[f]? = some fn) (hb:fn.body=some c)
  (n:Nat) (hn:fn.ntmps=n) (hl:Nat.ble args.length n=true) (h:TW { P:=P,f:=f,fn:=fn,R:=R,hf:=hf,lv:=true } n [] [.code c] (zcd 0 args) w):Calls P f args.toArray w R :=
 z9i true hf hb _ n hn hl (fun t v e=>by simpa using (z8b args 0 t v e).2) h
theorem Own.lt {w:World} {O:Nat→Prop} {T m:Nat} {v:Value} {l:List (List D)} (h:Own w O T m v l):∀ b,v.ownBlock=some b→b<w.heap.size:=by
 obtain ⟨xs,h1,_⟩:=h
 exact fun b hb=>(h1.lt b hb).2
end Go.Lk
end
section
namespace Go.Lk
open _root_.Option renaming getD_some → ya, map_some → yb
open _root_.Bool renaming and_eq_true → yc, not_eq_true' → yd, or_eq_true → ye
open _root_.List renaming all_eq_true → yf, any_eq_false → yg, any_eq_true → yh, length_filter_le → yi, mem_append_left → yj, mem_append_right → yk, mem_cons_of_mem → yl, mem_cons_self → ym, mem_filter → yn, mem_range → yo, range → yp
open _root_.Nat renaming beq → yq, blt → yr, decEq → ys, eq_of_beq_eq_true → yt, lt_or_ge → yu, strongRecOn → yv, testBit → yw
open _root_.Array renaming getD → yx, getElem?_eq_none → yy, getElem?_eq_some_iff → yz, getElem?_setIfInBounds_ne → yaa, replicate → yab
open Go.RowKit
variable [Lb]

def zck (o:Oper):List Nat:=(o.after.toList.filter (Region.binds .any ·)).map (·.on)
abbrev Anc:=List Nat
def behind (anc:Anc) (i j:Nat):Bool:=yw (anc.getD i 0) j
def zps (anc:Anc):List Nat→Nat→Nat
 | [],m=>m
 | p::ps,m=>zps anc ps (m ||| (1 <<< p) ||| anc.getD p 0)
def zr1 (ops:Array Oper) (anc:Anc):Bool:=(yp ops.size).all fun i=>((ops[i]?).map fun o=>yq (anc.getD i 0) (zps anc (zck o) 0)).getD false
def z4y (ops:Array Oper) (i:Nat):Option Tmp:=(ops[i]?).bind (·.dst)
inductive Gt where
 | fin
 | one (e:Nat) (kp qs:List Nat) (sub:Gt)
 | alt (e:Nat) (kp qs:List Nat) (sub rest:Gt)
def Gt.zne:Gt→List Nat
 | .fin=>[]
 | .one e _ _ _=>[e]
 | .alt e _ _ _ r=>e::r.zne
def Gt.pick:Gt→Nat→Option (List Nat × List Nat × Gt)
 | .fin,_=>none
 | .one e kp qs sub,i=>if e=i then some (kp,qs,sub) else none
 | .alt e kp qs sub r,i=>if e=i then some (kp,qs,sub) else r.pick i
def z11 (l:List Nat) (qs:List Nat):List Nat:=l.filter fun q => !(qs.any (yq q))
def zfv (anc:Anc) (rem wai:List Nat) (g:Gt):Bool:=wai.all (fun q=>rem.any fun e=>behind anc q e)&&rem.all fun i=>g.zne.contains i||rem.any fun j=>behind anc i j
def z9u (anc:Anc) (rem wai done:List Nat) (e:Nat) (kp qs:List Nat):Bool:=rem.contains e&&(done.all fun q=>kp.contains q||behind anc e q)&&kp.all (done.contains ·)&&qs.all fun q=>wai.contains q&&behind anc q e
def z2v (anc:Anc):List Nat→List Nat→List Nat→Gt→Bool
 | _,_,_,.fin=>true
 | rem,wai,done,.one e kp qs sub=>z9u anc rem wai done e kp qs&&zfv anc (z11 rem [e]) (z11 wai qs) sub&&z2v anc (z11 rem [e]) (z11 wai qs) (kp++qs) sub
 | rem,wai,done,.alt e kp qs sub r=>z9u anc rem wai done e kp qs&&zfv anc (z11 rem [e]) (z11 wai qs) sub&&z2v anc (z11 rem [e]) (z11 wai qs) (kp++qs) sub&&z2v anc rem wai done r
theorem z2v.pick {anc:Anc} {i:Nat} {kp qs:List Nat} {sub:Gt}:∀ {g:Gt} {rem wai done:List Nat},z2v anc rem wai done g=true→g.pick i=some (kp,qs,sub) →
  z9u anc rem wai done i kp qs=true∧zfv anc (z11 rem [i]) (z11 wai qs) sub=true∧z2v anc (z11 rem [i]) (z11 wai qs) (kp++qs) sub=true
 | .fin,_,_,_,_,h=>by cases h
 | .one e kp' qs' sub',rem,wai,done,h,hp=>by
  unfold Gt.pick at hp
  split at hp
  ·rename_i e1
   subst e1
   cases hp
   simp only [z2v,yc] at h
   exact ⟨h.1.1,h.1.2,h.2⟩
  ·cases hp
 | .alt e kp' qs' sub' r,rem,wai,done,h,hp=>by
  unfold Gt.pick at hp
  simp only [z2v,yc] at h
  split at hp
  ·rename_i e1
   subst e1
   cases hp
   exact ⟨h.1.1.1,h.1.1.2,h.1.2⟩
  ·exact z2v.pick h.2 hp
theorem Gt.zgu {i:Nat}:∀ {g:Gt},i∈g.zne→∃ p,g.pick i=some p
 | .fin,h=>by cases h
 | .one e kp qs sub,h=>by
  simp only [Gt.zne,List.mem_singleton] at h
  exact ⟨(kp,qs,sub),by simp [Gt.pick,h]⟩
 | .alt e kp qs sub r,h=>by
  by_cases e1:e=i
  ·exact ⟨(kp,qs,sub),by simp [Gt.pick,e1]⟩
  ·rcases List.mem_cons.1 h with rfl|h
   ·exact (e1 rfl).elim
   ·obtain ⟨p,hp⟩:=Gt.zgu h
    exact ⟨p,by simp [Gt.pick,e1,hp]⟩
theorem z3g {l qs:List Nat} {q:Nat}:q∈z11 l qs↔q∈l∧q∉qs:=by
 unfold z11
 rw [yn,yd,yg]
 refine and_congr_right fun _=>⟨fun h hm=>h q hm (Nat.beq_refl q),fun h x hx e => ?_⟩
 exact h ((yt e)▸hx)
def zz8 (ops:Array Oper):Bool:=(yp ops.size).all fun i=>((ops[i]?).map fun o=>(zck o).all (yr · i)).getD false
def zef (anc:Anc) (Q:List Nat) (ts:List Tmp) (i:Nat):List Oper→Nat→Bool
 | [],_=>true
 | o::r,j=>((match o.dst with|some d => !(ts.any (yq d))|none=>true) || !(Q.contains j)||behind anc i j)&&zef anc Q ts i r (j+1)
def zwq (ops:Array Oper) (anc:Anc) (Q:List Nat):Bool:=(yp ops.size).all fun i=>((ops[i]?).map fun o=>zef anc Q (o.looksAt ops) i ops.toList 0).getD false
def zz7 (ops:Array Oper) (n:Nat) (Q E:List Nat):Bool:=Q.all fun q=>match z4y ops q with|some t=>decide (t<n) && !(E.any fun e=>z4y ops e==some t)|none=>false
def z3r (ops:Array Oper) (E:List Nat):List Nat:=(yp ops.size).filter fun i => !(E.contains i)
def z6x (ops:Array Oper) (anc:Anc) (n:Nat) (E qs:List Nat) (g:Gt):Bool :=
 zz8 ops&&zr1 ops anc&&zwq ops anc (z3r ops E)&&Region.noSelect ops&&zz7 ops n (z3r ops E) E&&E.all (· < ops.size)&&qs.all ((z3r ops E).contains ·) &&
 zfv anc E (z11 (z3r ops E) qs) g&&z2v anc E (z11 (z3r ops E) qs) qs g
theorem z9s {anc:Anc} {Q:List Nat} {ts:List Tmp} {i:Nat}:∀ {l:List Oper} {j0:Nat},zef anc Q ts i l j0=true→∀ (k:Nat) (o:Oper) (d:Nat),l[k]? = some o→o.dst=some d→d∈ts→(j0+k)∈Q→behind anc i (j0+k)=true
 | [],_,_,k,o,d,h,_,_,_=>by simp at h
 | x::l,j0,hl,k,o,d,h,hd,ht,hq=>by
  simp only [zef,yc] at hl
  cases k with
  | zero =>
   simp only [List.getElem?_cons_zero,Option.some.injEq] at h
   subst h
   have h1:=hl.1
   rw [hd] at h1
   have h2:ts.any (yq d)=true:=yh.2 ⟨d,ht,Nat.beq_refl d⟩
   have h3:j0∈Q:=by simpa using hq
   simp [h2,h3] at h1
   exact h1
  | succ k =>
   have:=z9s hl.2 k o d (by simpa using h) hd ht (by rw [Nat.add_assoc,Nat.add_comm 1 k];exact hq)
   rwa [Nat.add_assoc,Nat.add_comm 1 k] at this
section
variable {P:Program} {ops:Array Oper} {anc:Anc}
def z5h (P:Program) (ops:Array Oper) (a:Act) (w:World) (q:Nat):Prop :=
 ∀ o,ops[q]? = some o→∀ d,o.dst=some d→(Region.wanted o (yielded ops a.tmps)=true→∃ v,a.tmps[d]? = some v∧(execOp a.eval o).run P w = .ok (.value v) w) ∧
  (Region.wanted o (yielded ops a.tmps)=false→a.tmps[d]? = some undef)
structure Off (ops:Array Oper) (S:List Nat) (a b:Act):Prop where
 size:a.tmps.size=b.tmps.size
 defers:a.defers=b.defers
 get:∀ t,(∀ q∈S,z4y ops q≠some t)→a.tmps[t]? = b.tmps[t]?
def DRa (C:Cx) (ds:List Deferred) (ops:Array Oper) (K:Act→World→Prop):(done:List Nat)→Gt→Act→World→Prop
 | done,.fin,a,w=>(∀ q∈done,z5h C.P ops a w q)∧K a w
 | done,.one e kp qs sub,a,w=>(∀ q∈done,z5h C.P ops a w q)∧∀ o,ops[e]? = some o →
   wpList C.P ops (QT C ds (fun a' w'=>∃ b',Off ops qs a' b'∧DRa C ds ops K (kp++qs) sub b' w')) [o] a w
 | done,.alt e kp qs sub r,a,w=>(∀ o,ops[e]? = some o →
   wpList C.P ops (QT C ds (fun a' w'=>∃ b',Off ops qs a' b'∧DRa C ds ops K (kp++qs) sub b' w')) [o] a w)∧DRa C ds ops K done r a w
theorem DRa.zri {C:Cx} {ds:List Deferred} {ops:Array Oper} {K:Act→World→Prop} {done:List Nat} {a:Act} {w:World}:∀ {g:Gt},DRa C ds ops K done g a w→∀ q∈done,z5h C.P ops a w q
 | .fin,h=>h.1
 | .one ..,h=>h.1
 | .alt _ _ _ _ r,h=>DRa.zri (g:=r) h.2
theorem DRa.pick {C:Cx} {ds:List Deferred} {ops:Array Oper} {K:Act→World→Prop} {done kp qs:List Nat} {a:Act} {w:World} {i:Nat} {o:Oper} {sub:Gt} (ho:ops[i]? = some o):∀ {g:Gt},DRa C ds ops K done g a w→g.pick i=some (kp,qs,sub) →
  wpList C.P ops (QT C ds (fun a' w'=>∃ b',Off ops qs a' b'∧DRa C ds ops K (kp++qs) sub b' w')) [o] a w
 | .fin,_,hp=>by cases hp
 | .one e _ _ _,h,hp=>by
  unfold Gt.pick at hp
  split at hp
  ·rename_i e1
   subst e1
   cases hp
   exact h.2 o ho
  ·cases hp
 | .alt e _ _ _ r,h,hp=>by
  unfold Gt.pick at hp
  split at hp
  ·rename_i e1
   subst e1
   cases hp
   exact h.1 o ho
  ·exact DRa.pick ho (g:=r) h.2 hp

theorem zbo {o:Oper} {j:Nat}:j∈zck o↔∃ e∈o.after,Region.binds .any e=true∧e.on=j:=by
 simp only [zck,List.mem_map,yn]
 constructor
 ·rintro ⟨e,⟨h1,h2⟩,h3⟩;exact ⟨e,by simpa using h1,h2,h3⟩
 ·rintro ⟨e,h1,h2,h3⟩;exact ⟨e,⟨by simpa using h1,h2⟩,h3⟩
theorem zfi {anc:Anc} {j:Nat}:∀ {ps:List Nat} {m:Nat},yw (zps anc ps m) j=true→yw m j=true∨∃ p∈ps,j=p∨behind anc p j=true
 | [],m,h => .inl h
 | p::ps,m,h=>by
  simp only [zps] at h
  rcases zfi h with h|⟨q,h1,h2⟩
  ·rw [Nat.testBit_or,Nat.testBit_or,ye,ye] at h
   rcases h with (h|h)|h
   ·exact .inl h
   ·refine .inr ⟨p,ym,.inl ?_⟩
    rw [Nat.one_shiftLeft,Nat.testBit_two_pow] at h
    simp at h
    exact h.symm
   ·exact .inr ⟨p,ym,.inr h⟩
  ·exact .inr ⟨q,yl _ h1,h2⟩
theorem zdb (h:zr1 ops anc=true) {i j:Nat} {o:Oper} (ho:ops[i]? = some o) (hb:behind anc i j=true):∃ p∈zck o,j=p∨behind anc p j=true:=by
 have:=yf.1 h i (yo.2 (yz.1 ho).1)
 simp only [ho,yb,ya] at this
 have:=yt this
 unfold behind at hb
 rw [this] at hb
 rcases zfi hb with h|h
 ·simp at h
 ·exact h
theorem z2z {listed:Array Bool} {i j:Nat} {o:Oper} (ha:zr1 ops anc=true) (hlow:∀ (i:Nat) (o:Oper),ops[i]? = some o→∀ j∈zck o,j<i) (hd:∀ i,listed.getD i false=true→∀ o,ops[i]? = some o→∀ j∈zck o,listed.getD j false=true)
  (ho:ops[i]? = some o) (hr:∀ e∈o.after,Region.binds .any e=true→listed.getD e.on false=true) (h:behind anc i j=true):listed.getD j false=true:=by
 have key:∀ k,listed.getD k false=true→k<ops.size→∀ j,behind anc k j=true→listed.getD j false=true:=by
  intro k
  induction k using yv with
  | _ k ih =>
   intro hk hlt j hb
   have hok:ops[k]? = some ops[k]:=by simp [hlt]
   obtain ⟨p,hp,hj⟩:=zdb ha hok hb
   have hlp:=hd k hk _ hok p hp
   rcases hj with rfl|hj
   ·exact hlp
   ·have hpk:=hlow k _ hok p hp
    exact ih p hpk hlp (by omega) j hj
 obtain ⟨p,hp,hj⟩:=zdb ha ho h
 obtain ⟨e,h1,h2,rfl⟩:=zbo.1 hp
 have hle:=hr e h1 h2
 rcases hj with rfl|hj
 ·exact hle
 ·have hpk:=hlow i o ho e.on hp
  have:=(yz.1 ho).1
  exact key e.on hle (by omega) j hj
structure Stat (ops:Array Oper) (anc:Anc) (Q E:List Nat):Prop where
 okA:zr1 ops anc=true
 low:∀ (i:Nat) (o:Oper),ops[i]? = some o→∀ j∈zck o,j<i
 look:∀ (i:Nat) (o:Oper),ops[i]? = some o→∀ t∈o.looksAt ops,∀ j,j<ops.size→j∈Q→z4y ops j=some t→behind anc i j=true
 sel:∀ (i:Nat) (o:Oper),ops[i]? = some o→∀ cs b,o.op ≠ .select cs b
 cov:∀ i,i<ops.size→i∈Q∨i∈E
 dst:∀ q∈Q,∃ t,z4y ops q=some t∧∀ e∈E,z4y ops e≠some t
 dis:∀ q∈Q,q∉E
 rng:∀ e∈E,e<ops.size
structure zva (ops:Array Oper) (anc:Anc) (Q E:List Nat) (listed:Array Bool) (rem wai done:List Nat) (g:Gt) (a b:Act):Prop where
 sz:listed.size=ops.size
 down:∀ i,listed.getD i false=true→∀ o,ops[i]? = some o→∀ j∈zck o,listed.getD j false=true
 size:a.tmps.size=b.tmps.size
 defers:a.defers=b.defers
 get:∀ t,(∀ q∈done,listed.getD q false=false→z4y ops q≠some t)→a.tmps[t]? = b.tmps[t]?
 zvi:∀ e∈rem,listed.getD e false=false∧e∈E
 zy7:∀ q∈wai,listed.getD q false=false∧q∈Q
 zyj:∀ i∈Q,listed.getD i false=true∨i∈done∨i∈wai
 zyi:∀ i∈E,listed.getD i false=true∨i∈rem
 zq7:∀ q∈done,q∈Q
 cov:zfv anc rem wai g=true
 alts:z2v anc rem wai done g=true

theorem zhu {listed:Array Bool} {i:Nat} (h:listed.getD i true=false):i<listed.size:=by
 rcases yu i listed.size with h'|h'
 ·exact h'
 ·simp [yx,Nat.not_lt.2 h'] at h
theorem zg8 {listed:Array Bool} {i:Nat} (h:listed.getD i true=false):listed.getD i false=false:=by
 have hl:=zhu h
 simp [yx,hl] at h ⊢
 exact h
theorem zg7 {listed:Array Bool} {i:Nat} (hl:i<listed.size) (h:listed.getD i false=false):listed.getD i true=false:=by
 simp [yx,hl] at h ⊢
 exact h
theorem zkd {listed:Array Bool} {i:Nat} (h:i<listed.size) (d:Bool):(listed.setIfInBounds i true).getD i d=true:=by
 simp [yx,h]
theorem zlj {Q E:List Nat} {listed:Array Bool} {rem wai done:List Nat} {g:Gt} {a b:Act} (hs:Stat ops anc Q E) (hi:zva ops anc Q E listed rem wai done g a b) {i:Nat} {o:Oper} (ho:ops[i]? = some o)
  (hr:∀ e∈o.after,Region.binds .any e=true→listed.getD e.on false=true):(∀ t∈o.looksAt ops,a.tmps[t]? = b.tmps[t]?):=by
 intro t ht
 refine hi.get t fun q hq hl e => ?_
 have hlt:q<ops.size:=by
  unfold z4y at e
  rcases yu q ops.size with h|h
  ·exact h
  ·simp [yy h] at e
 rw [z2z hs.okA hs.low hi.down ho hr (hs.look i o ho t ht q hlt (hi.zq7 q hq) e)] at hl
 cases hl
theorem zl3 {a b:Act} {o:Oper} (hsel:∀ cs b,o.op ≠ .select cs b) (h:∀ t∈o.looksAt ops,a.tmps[t]? = b.tmps[t]?):execOp a.eval o=execOp b.eval o :=
 execOp_congr o hsel fun x hx=>by
  cases x with
  | tmp t =>
   have:=h t (by unfold Oper.looksAt;exact yj _ (List.mem_filterMap.2 ⟨.tmp t,by simpa using hx,rfl⟩))
   simp [Act.eval,this]
  | const v=>rfl
  | global g=>rfl
  | func f=>rfl
theorem zhb {a b:Act} {o:Oper} (h:∀ t∈o.looksAt ops,a.tmps[t]? = b.tmps[t]?):Region.wanted o (yielded ops a.tmps)=Region.wanted o (yielded ops b.tmps):=by
 unfold Region.wanted
 cases hg:o.guard with
 | none=>rfl
 | some gw =>
  obtain ⟨j,want⟩:=gw
  have:yielded ops a.tmps j=yielded ops b.tmps j:=by
   unfold yielded
   cases ht:(ops[j]?).bind (·.dst) with
   | none=>rfl
   | some t =>
    have:=h t (by unfold Oper.looksAt;rw [hg];exact yk _ (by simp [ht]))
    simp [this]
  simp only [this]
theorem z9g {o:Oper} {a b:Act} {na nb:Act→World→Prop} {Qa Qb:Exit→Act→World→Prop} (hn:∀ dd v w,nb ({ b with defers:=dd++b.defers }.put o.dst v) w→na ({ a with defers:=dd++a.defers }.put o.dst v) w)
  (hp:∀ ch w,Qb (.panic ch) b w→Qa (.panic ch) a w) (hout:¬LetsOut Qb):∀ r,o.upon P b nb Qb r→o.upon P a na Qa r:=by
 have hn0:∀ v w,nb (b.put o.dst v) w→na (a.put o.dst v) w:=fun v w h=>hn [] v w h
 intro r h
 cases r with
 | ok x w' =>
  cases x<;>simp only [Oper.upon] at h ⊢ <;>
   first
    | exact hn0 _ _ h
    | exact hn [_] _ _ h
    | exact Calls.mono h (fun e w2 he=>by
      cases e with
      | returned v=>exact hn0 _ _ he
      | panicked ch=>exact hp _ _ he
      | outgrown=>exact (hout he).elim)
    | exact Rows.mono h (fun _ _ he=>hn0 _ _ he)
 | halt x w'=>cases x<;>simp only [Oper.upon] at h ⊢ <;> first|exact hp _ _ h|exact h
end
theorem zco {C:Cx} {ds:List Deferred} {K:Act→World→Prop}:¬LetsOut (QT C ds K):=fun ⟨_,_,h⟩=>h

theorem zko {ops:Array Oper} {anc:Anc} {Q E:List Nat} (hs:Stat ops anc Q E) {listed:Array Bool} (hz:listed.size=ops.size) (hr:Region.ready .any ops listed=[]):∀ i,i<ops.size→listed.getD i false=true:=by
 intro i
 induction i using yv with
 | _ i ih =>
  intro hlt
  rcases hb:listed.getD i false with _|_
  ·have hm:i∈Region.ready .any ops listed:=mem_ready.2 ⟨zg7 (by omega) hb,ops[i],by simp [hlt],fun e he hbnd=>by
    have h1:=hs.low i ops[i] (by simp [hlt]) e.on (zbo.2 ⟨e,he,hbnd,rfl⟩)
    exact ih e.on h1 (by omega)⟩
   rw [hr] at hm
   cases hm
  ·rfl
theorem zjb {C:Cx} {ds:List Deferred} {ops:Array Oper} {anc:Anc} {K:Act→World→Prop} {Q E:List Nat} (hs:Stat ops anc Q E) {listed:Array Bool} {rem wai done:List Nat} {g:Gt} {a b:Act} {w:World}
  (hall:∀ i,i<ops.size→listed.getD i false=true) (hd:a.defers=ds) (hi:zva ops anc Q E listed rem wai done g a b) (hr:DRa C ds ops K done g b w):QT C ds K .normal a w:=by
 have hab:a=b:=by
  have h1:a.tmps=b.tmps:=Array.ext_getElem? fun t=>hi.get t fun q _ hl e=>by
   have hlt:q<ops.size:=by
    unfold z4y at e
    rcases yu q ops.size with h|h
    ·exact h
    ·simp [yy h] at e
   rw [hall q hlt] at hl
   cases hl
  cases a;cases b
  simp only at h1
  have h2:=hi.defers
  simp only at h2
  subst h1 h2
  rfl
 subst hab
 have no:∀ e kp qs sub,z9u anc rem wai done e kp qs=true∧sub=sub→False:=fun e kp qs (sub:Gt) ⟨h,_⟩=>by
  simp only [z9u,yc] at h
  have hm:e∈rem:=by simpa using h.1.1.1
  obtain ⟨h1,h2⟩:=hi.zvi e hm
  rw [hall _ (hs.rng e h2)] at h1
  cases h1
 have ha:=hi.alts
 cases g with
 | fin=>exact ⟨hd,hr.2⟩
 | one e kp qs sub=>simp only [z2v,yc] at ha;exact (no e kp qs sub ⟨ha.1.1,rfl⟩).elim
 | alt e kp qs sub r=>simp only [z2v,yc] at ha;exact (no e kp qs sub ⟨ha.1.1.1,rfl⟩).elim
theorem filter_lt {n:Nat} {listed:Array Bool} {i:Nat} (hz:listed.size=n) (hi:listed.getD i true=false) {fuel:Nat} (h:((yp n).filter fun i => !listed.getD i true).length≤fuel+1) :
  ((yp n).filter fun j => !(listed.setIfInBounds i true).getD j true).length≤fuel:=by
 have hlt:=zhu hi
 have hsub:((yp n).filter fun j => !(listed.setIfInBounds i true).getD j true)=((yp n).filter fun j => !listed.getD j true).filter (fun j=>j != i):=by
  rw [List.filter_filter]
  refine List.filter_congr fun j _ => ?_
  rcases ys i j with hne|rfl
  ·rw [getD_set_ne true hne]
   have:(j != i)=true:=by simp;omega
   simp [this]
  ·simp [zkd hlt]
 rw [hsub]
 have hmem:i∈(yp n).filter fun j => !listed.getD j true:=by
  rw [yn]
  exact ⟨yo.2 (by omega),by simp only [hi];rfl⟩
 have hlen:(((yp n).filter fun j => !listed.getD j true).filter (fun j=>j != i)).length<((yp n).filter fun j => !listed.getD j true).length:=by
  refine Nat.lt_of_le_of_ne (yi _ _) fun e => ?_
  rw [List.length_filter_eq_length_iff] at e
  have:=e i hmem
  simp at this
 omega
theorem zl1 {C:Cx} (hlv:C.lv=false) {ds:List Deferred} {ops:Array Oper} {anc:Anc} {K:Act→World→Prop} {Q E:List Nat} (hs:Stat ops anc Q E):∀ (fuel:Nat) (listed:Array Bool) (rem wai done:List Nat) (g:Gt) (a b:Act) (w:World),
  ((yp ops.size).filter fun i => !listed.getD i true).length≤fuel→a.defers=ds→zva ops anc Q E listed rem wai done g a b→DRa C ds ops K done g b w→wpAny C.P .any ops (QT C ds K) fuel listed a w:=by
 intro fuel
 induction fuel with
 | zero =>
  intro listed rem wai done g a b w hf hd hi hr
  have hnil:((yp ops.size).filter fun i => !listed.getD i true)=[]:=List.eq_nil_of_length_eq_zero (by omega)
  have hall:∀ i,i<ops.size→listed.getD i false=true:=fun i hlt=>by
   have:i∉((yp ops.size).filter fun i => !listed.getD i true):=by rw [hnil];simp
   rw [yn] at this
   have hz:=hi.sz
   rcases hb:listed.getD i false with _|_
   ·exact absurd ⟨yo.2 hlt,by simp only [zg7 (by omega:i<listed.size) hb];rfl⟩ this
   ·rfl
  refine ⟨?_,zjb hs hall hd hi hr⟩
  refine List.eq_nil_iff_forall_not_mem.2 fun i hm => ?_
  obtain ⟨h0,o,ho,_⟩:=mem_ready.1 hm
  have h1:=zg8 h0
  rw [hall i (yz.1 ho).1] at h1
  cases h1
 | succ fuel ih =>
  intro listed rem wai done g a b w hf hd hi hr
  refine ⟨fun hn=>zjb hs (zko hs hi.sz hn) hd hi hr,fun i hm => ?_⟩
  obtain ⟨h0,o,ho,hready⟩:=mem_ready.1 hm
  have hlt:=zhu h0
  have h0':=zg8 h0
  have hlook:=zlj hs hi ho hready
  have hex:=zl3 (hs.sel i o ho) hlook
  have hwt:=zhb hlook
  have hf':=filter_lt hi.sz h0 hf
  have hdown':∀ j,(listed.setIfInBounds i true).getD j false=true→∀ o,ops[j]? = some o→∀ k∈zck o,(listed.setIfInBounds i true).getD k false=true:=by
   intro j hj o' ho' k hk
   rcases ys i j with hne|rfl
   ·rw [getD_set_ne false hne] at hj
    exact getD_set_true (hi.down j hj o' ho' k hk)
   ·rw [ho] at ho'
    cases ho'
    obtain ⟨e,h1,h2,rfl⟩:=zbo.1 hk
    exact getD_set_true (hready e h1 h2)
  unfold wpOp
  simp only [ho]
  rcases hs.cov i (by have:=hi.sz;omega) with hiq|hie
  ·-- a quiet one
   have hdone:i∈done:=by
    rcases hi.zyj i hiq with h|h|h
    ·rw [h0'] at h;cases h
    ·exact h
    ·have hc:=hi.cov
     simp only [zfv,yc,yf] at hc
     obtain ⟨e,he,hb⟩:=yh.1 (hc.1 i h)
     have h1:=z2z hs.okA hs.low hi.down ho hready hb
     rw [(hi.zvi e he).1] at h1
     cases h1
   have hstab:z5h C.P ops b w i:=hr.zri i hdone
   obtain ⟨d,hdd,hdE⟩:=hs.dst i hiq
   have hod:o.dst=some d:=by simpa [z4y,ho] using hdd
   have hst:=hstab o ho d hod
   have key:∀ v,b.tmps[d]? = some v→zva ops anc Q E (listed.setIfInBounds i true) rem wai done g (a.put o.dst v) b:=fun v hv=>by
    refine ⟨by simpa using hi.sz,hdown',by simpa [hod,Act.put] using hi.size,by simpa [hod,Act.put] using hi.defers,fun t ht => ?_,fun e he => ?_,fun q hq => ?_,fun e he => ?_,fun e he => ?_,hi.zq7,hi.cov,hi.alts⟩
    ·rw [hod]
     simp only [Act.put]
     rcases ys d t with hne|rfl
     ·rw [yaa hne]
      refine hi.get t fun q hq hl => ?_
      rcases ys i q with hne2|rfl
      ·exact ht q hq (by rw [getD_set_ne false hne2];exact hl)
      ·rw [hdd];intro e;exact hne (Option.some.inj e)
     ·have hsz:d<a.tmps.size:=by
       rw [hi.size]
       exact (yz.1 hv).1
      rw [hv]
      simp [hsz]
    ·obtain ⟨k1,k2⟩:=hi.zvi e he
     have hne:i≠e:=fun h=>hs.dis i hiq (h▸k2)
     exact ⟨by rw [getD_set_ne false hne];exact k1,k2⟩
    ·obtain ⟨k1,k2⟩:=hi.zy7 q hq
     have hne:i≠q:=fun h=>by
      subst h
      have hc:=hi.cov
      simp only [zfv,yc,yf] at hc
      obtain ⟨e,he,hb⟩:=yh.1 (hc.1 i hq)
      have h1:=z2z hs.okA hs.low hi.down ho hready hb
      rw [(hi.zvi e he).1] at h1
      cases h1
     exact ⟨by rw [getD_set_ne false hne];exact k1,k2⟩
    ·rcases hi.zyj e he with h|h
     ·exact .inl (getD_set_true h)
     ·exact .inr h
    ·rcases hi.zyi e he with h|h
     ·exact .inl (getD_set_true h)
     ·exact .inr h
   by_cases hw:Region.wanted o (yielded ops a.tmps)=true
   ·rw [if_pos hw]
    obtain ⟨v,hv,hrun⟩:=hst.1 (by rw [←hwt];exact hw)
    left
    unfold Oper.wp
    rw [hex,hrun,Oper.upon_value]
    exact ih _ rem wai done g _ b w hf' (by simpa [hod,Act.put] using hd) (key v hv) hr
   ·rw [if_neg hw]
    have hu:=hst.2 (by rw [←hwt];simpa using hw)
    exact ih _ rem wai done g _ b w hf' (by simpa [hod,Act.put] using hd) (key undef hu) hr
  ·-- one that acts: a choice
   have him:i∈rem:=by
    rcases hi.zyi i hie with h|h
    ·rw [h0'] at h;cases h
    ·exact h
   have hhead:i∈g.zne:=by
    have hc:=hi.cov
    simp only [zfv,yc,yf,ye] at hc
    rcases hc.2 i him with h|h
    ·simpa using h
    ·obtain ⟨e,he,hb⟩:=yh.1 h
     have h1:=z2z hs.okA hs.low hi.down ho hready hb
     rw [(hi.zvi e he).1] at h1
     cases h1
   obtain ⟨⟨kp,qs,sub⟩,hpick⟩:=Gt.zgu hhead
   have hwp:=hr.pick ho hpick
   obtain ⟨hnode,hcov,halts⟩:=z2v.pick hi.alts hpick
   simp only [z9u,yc] at hnode
   obtain ⟨⟨⟨_,hn2⟩,hn3⟩,hn4⟩:=hnode
   ·have hdrop:∀ q∈done,q∈kp∨listed.getD q false=true:=fun q hq=>by
     have:=yf.1 hn2 q hq
     rw [ye] at this
     rcases this with h|h
     ·exact .inl (by simpa using h)
     ·exact .inr (z2z hs.okA hs.low hi.down ho hready h)
    have hkd:∀ q∈kp,q∈done:=fun q hq=>by simpa using yf.1 hn3 q hq
    have hqw:∀ q∈qs,q∈wai:=fun q hq=>by
     have:=yf.1 hn4 q hq
     rw [yc] at this
     simpa using this.1
    have hEd:∀ q∈Q,o.dst≠none→z4y ops q≠o.dst:=fun q hq hne heq=>by
     obtain ⟨t,h1,h2⟩:=hs.dst q hq
     have:z4y ops i=o.dst:=by simp [z4y,ho]
     exact h2 i hie (by rw [this,←heq,h1])
    have key:∀ (dd:List Deferred) (v:Value) (b':Act),Off ops qs ({ b with defers:=dd++b.defers }.put o.dst v) b' →
      zva ops anc Q E (listed.setIfInBounds i true) (z11 rem [i]) (z11 wai qs) (kp++qs) sub ({ a with defers:=dd++a.defers }.put o.dst v) b':=fun dd v b' ho'=>by
     have hget:∀ t,(∀ q∈done,listed.getD q false=false→z4y ops q≠some t)∨o.dst=some t→({ a with defers:=dd++a.defers }.put o.dst v).tmps[t]? = ({ b with defers:=dd++b.defers }.put o.dst v).tmps[t]?:=fun t ht=>by
      cases hdst:o.dst with
      | none =>
       rw [hdst] at ht
       exact hi.get t (ht.resolve_right (by simp))
      | some d =>
       rw [hdst] at ht
       simp only [Act.put]
       rcases ys d t with hne|rfl
       ·rw [yaa hne,yaa hne]
        exact hi.get t (ht.resolve_right fun e=>hne (Option.some.inj e))
       ·rcases yu d a.tmps.size with hl|hl
        ·have hl2:d<b.tmps.size:=by rw [←hi.size];exact hl
         simp [hl,hl2]
        ·have hl2:b.tmps.size≤d:=by rw [←hi.size];exact hl
         rw [yy (by simpa using hl),yy (by simpa using hl2)]
     refine ⟨by simpa using hi.sz,hdown',?_,?_,fun t ht => ?_,fun e he => ?_,fun q hq => ?_,fun q hq => ?_,fun q hq => ?_,fun q hq => ?_,hcov,halts⟩
     ·rw [←ho'.size]
      cases o.dst<;>simpa [Act.put] using hi.size
     ·rw [←ho'.defers]
      have:=hi.defers
      cases o.dst<;>simp [Act.put,this]
     ·rw [←ho'.get t fun q hq => ?_]
      ·refine hget t (.inl fun q hq hl=>ht q (yj _ ((hdrop q hq).resolve_right (by rw [hl];simp))) ?_)
       have hne:i≠q:=fun h=>hs.dis q (hi.zq7 q hq) (h▸hie)
       rw [getD_set_ne false hne]
       exact hl
      ·obtain ⟨m1,m2⟩:=hi.zy7 q (hqw q hq)
       have hne:i≠q:=fun h=>hs.dis q m2 (h▸hie)
       exact ht q (yk _ hq) (by rw [getD_set_ne false hne];exact m1)
     ·obtain ⟨h1,h2⟩:=z3g.1 he
      obtain ⟨k1,k2⟩:=hi.zvi e h1
      have hne:i≠e:=fun h=>h2 (by simp [h])
      exact ⟨by rw [getD_set_ne false hne];exact k1,k2⟩
     ·obtain ⟨k1,k2⟩:=hi.zy7 q (z3g.1 hq).1
      have hne:i≠q:=fun h=>hs.dis q k2 (h▸hie)
      exact ⟨by rw [getD_set_ne false hne];exact k1,k2⟩
     ·rcases hi.zyj q hq with h|h|h
      ·exact .inl (getD_set_true h)
      ·rcases hdrop q h with h|h
       ·exact .inr (.inl (yj _ h))
       ·exact .inl (getD_set_true h)
      ·by_cases hqq:q∈qs
       ·exact .inr (.inl (yk _ hqq))
       ·exact .inr (.inr (z3g.2 ⟨h,hqq⟩))
     ·rcases hi.zyi q hq with h|h
      ·exact .inl (getD_set_true h)
      ·rcases ys i q with hne|rfl
       ·exact .inr (z3g.2 ⟨h,by simpa using fun e=>hne e.symm⟩)
       ·exact .inl (zkd hlt false)
     ·rcases List.mem_append.1 hq with h|h
      ·exact hi.zq7 q (hkd q h)
      ·exact (hi.zy7 q (hqw q h)).2
    unfold wpList at hwp
    by_cases hw:Region.wanted o (yielded ops a.tmps)=true
    ·rw [if_pos hw]
     rw [if_pos (by rw [←hwt];exact hw)] at hwp
     rcases hwp with hwp|⟨_,hout⟩
     ·left
      unfold Oper.wp at hwp ⊢
      rw [hex]
      refine z9g (nb:=wpList C.P ops _ []) (fun dd v w2 hn => ?_) (fun ch w2 hq=>by
       have hq:PN C b ch w2:=hq
       show PN C a ch w2
       unfold PN at hq ⊢
       rw [hlv] at hq ⊢
       exact ⟨hi.defers.trans hq.1,hq.2⟩) zco _ hwp
      obtain ⟨hdef,b',h1,h2⟩:=hn
      refine ih _ _ _ (kp++qs) sub _ b' w2 hf' ?_ (key dd v b' h1) h2
      rw [←hdef]
      have:=hi.defers
      cases o.dst<;>simp [Act.put,this]
     ·exact (zco hout).elim
    ·rw [if_neg hw]
     rw [if_neg (by rw [←hwt];exact hw)] at hwp
     obtain ⟨hdef,b',h1,h2⟩:=hwp
     exact ih _ _ _ (kp++qs) sub _ b' w hf' (by cases hdst:o.dst<;>simpa [hdst,Act.put] using hd) (key [] undef b' h1) h2
theorem zbr {ops:Array Oper} {E:List Nat} {i:Nat}:i∈z3r ops E↔i<ops.size∧i∉E:=by
 unfold z3r
 simp
theorem z6x.stat {ops:Array Oper} {anc:Anc} {n:Nat} {E qs:List Nat} {g:Gt} (h:z6x ops anc n E qs g=true):Stat ops anc (z3r ops E) E:=by
 simp only [z6x,yc] at h
 obtain ⟨⟨⟨⟨⟨⟨⟨⟨h1,h0⟩,h2⟩,h3⟩,h5⟩,h7⟩,h8⟩,h9⟩,h10⟩:=h
 refine ⟨h0,fun i o ho j hj => ?_,fun i o ho t ht j hj hjq hd => ?_,fun i o ho cs b=>Region.noSelect_spec h3 i o cs b ho,fun i hi => ?_,fun q hq => ?_,fun q hq=>(zbr.1 hq).2,fun e he => ?_⟩
 ·have:=yf.1 h1 i (yo.2 (yz.1 ho).1)
  simp only [ho,yb,ya] at this
  simpa using yf.1 this j hj
 ·have:=yf.1 h2 i (yo.2 (yz.1 ho).1)
  simp only [ho,yb,ya] at this
  have hoj:ops.toList[j]? = some ops[j]:=by simp [hj]
  have:=z9s this j ops[j] t hoj (by simpa [z4y,hj] using hd) ht (by simpa using hjq)
  simpa using this
 ·by_cases h:i∈E
  ·exact .inr h
  ·exact .inl (zbr.2 ⟨hi,h⟩)
 ·have:=yf.1 h5 q hq
  split at this
  ·rename_i t ht
   refine ⟨t,ht,fun e he hc => ?_⟩
   simp only [yc,yd,yg] at this
   exact this.2 e he (by simp [hc])
  ·cases this
 ·simpa using yf.1 h7 e he

theorem Has.over {n:Nat} {qv L:Env} {a:Act} (hq:qv.all (fun p=>yr p.1 n)=true) (h:Has n L a):∃ b,Has n (qv++L) b∧b.defers=a.defers∧∀ t,(∀ p∈qv,p.1≠t)→a.tmps[t]? = b.tmps[t]?:=by
 induction qv with
 | nil=>exact ⟨a,h,rfl,fun _ _=>rfl⟩
 | cons p qv ih =>
  simp only [List.all_cons,yc] at hq
  obtain ⟨b,h1,h3,h4⟩:=ih hq.2
  refine ⟨b.put (some p.1) p.2,h1.put (by simpa [Nat.blt_eq] using hq.1),h3,fun t ht => ?_⟩
  simp only [Act.put]
  rw [yaa (ht p ym)]
  exact h4 t fun q hq=>ht q (yl _ hq)
theorem Has.off {n:Nat} {qv L:Env} {a:Act} {ops:Array Oper} {S:List Nat} (hq:qv.all (fun p=>yr p.1 n&&S.any fun q=>z4y ops q==some p.1)=true) (h:Has n L a):∃ b,Has n (qv++L) b∧Off ops S a b:=by
 have h1:qv.all (fun p=>yr p.1 n)=true:=yf.2 fun p hp=>by
  have:=yf.1 hq p hp
  simp only [yc] at this
  exact this.1
 obtain ⟨b,e1,e2,e3⟩:=h.over h1
 refine ⟨b,e1,by rw [h.size,e1.size],e2.symm,fun t ht=>e3 t fun p hp e => ?_⟩
 have:=yf.1 hq p hp
 simp only [yc,yh] at this
 obtain ⟨_,q,hq,hqe⟩:=this
 exact ht q hq (by simpa [e] using hqe)
def zy4 (ops:Array Oper) (n:Nat) (S:List Nat) (qv:Env):Bool:=qv.all (fun p=>yr p.1 n&&S.any fun q=>z4y ops q==some p.1)

theorem zql {ops:Array Oper} {anc:Anc} {n:Nat} {E qs:List Nat} {g:Gt} {a b:Act} (h:z6x ops anc n E qs g=true) (ho:Off ops qs a b):zva ops anc (z3r ops E) E (yab ops.size false) E (z11 (z3r ops E) qs) qs g a b:=by
 simp only [z6x,yc] at h
 obtain ⟨⟨⟨⟨⟨⟨⟨⟨h1,h0⟩,h2⟩,h3⟩,h5⟩,h7⟩,h8⟩,h9⟩,h10⟩:=h
 have hno:∀ i,(yab ops.size false).getD i false=false:=fun i=>by
  rw [Array.getD_eq_getD_getElem?,Array.getElem?_replicate]
  split<;>rfl
 refine ⟨by simp,fun i hi=>(by rw [hno] at hi;cases hi),ho.size,ho.defers,fun t ht=>ho.get t fun q hq=>ht q hq (hno q),fun e he=>⟨hno e,he⟩,fun q hq=>⟨hno q,(z3g.1 hq).1⟩,fun i hi => ?_,fun i hi => .inr hi,fun q hq => ?_,h9,h10⟩
 ·by_cases hq:i∈qs
  ·exact .inr (.inl hq)
  ·exact .inr (.inr (z3g.2 ⟨hi,hq⟩))
 ·simpa using yf.1 h8 q hq

section
variable {C:Cx} {n:Nat} {ds:List Deferred} {ops:Array Oper} {K:Act→World→Prop} {done:List Nat} {L:Env} {w:World}
def DK (C:Cx) (n:Nat) (ds:List Deferred) (ops:Array Oper) (K:Act→World→Prop) (kp:List Nat) (qs:List Nat) (g:Gt):Act→World→Prop :=
 fun a' w'=>∃ b',Off ops qs a' b'∧DRa C ds ops K (kp++qs) g b' w'
def DP (C:Cx) (n:Nat) (ds:List Deferred) (ops:Array Oper) (K:Act→World→Prop) (done:List Nat) (qs:List Nat) (g:Gt) (L:Env) (w:World):Prop :=
 ∀ a,Has n L a→a.defers=ds→DK C n ds ops K done qs g a w
end
section
variable {C:Cx} {n:Nat} {ds:List Deferred} {k:Act→World→Prop} {L:Env} {w:World}
end
theorem TW.zvz {C:Cx} {n:Nat} {ds:List Deferred} {k:List Item} {L:Env} {w:World} {id:Nat} {l:List Oper} (anc:Anc) (E qs:List Nat) (g:Gt) (hm:C.P.follows .mixedOrders=true) (hok:z6x l.toArray anc n E qs g=true)
  (h:∀ w',Ext z0h w w'→DP { C with lv:=false } n ds l.toArray (TWa C k) [] qs g L w'):TW C n ds (.code (.region id l.toArray true)::k) L w:=fun a ha hd cs=>by
 obtain ⟨b,hoff,h2⟩:=h { w with drawn:=w.drawn+1 } ⟨rfl,rfl,rfl,Nat.le_refl _,fun _ _ _=>rfl⟩ a ha hd
 have hsound:=zl1 (C:={ C with lv:=false }) rfl (ds:=ds) (K:=TWa C k) (z6x.stat hok) l.toArray.size (yab l.toArray.size false) E (z11 (z3r l.toArray E) qs) qs g a b { w with drawn:=w.drawn+1 }
  (Nat.le_trans (yi _ _) (by simp)) hd (zql hok hoff) h2
 refine (?_:zvb C cs _).of_steps (.one step_region_draw)
 simp only [Region.schedule,hm,Bool.true_or,if_true]
 exact z4u (C:={ C with lv:=false }) (wpAny_sound _ _ _ _ _ hsound) cs
end Go.Lk
end
