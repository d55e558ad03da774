import Derived.WalkKit
import Derived.WalkSpells
import Derived.WalkLawsBesides
import Derived.Recover
import Derived.Lib.Strings
set_option linter.all false
section
namespace Go.Lk
open _root_.Nat renaming le_refl → ya, le_trans → yb, lt_of_lt_of_le → yc, lt_or_ge → yd
open _root_.Array renaming getElem?_eq_none → ye
open Go.RowKit

class Lb where
 n:Nat
inductive D where
 | int (k:IntKind) (n:Int)
 | bool (b:Bool)
 | str (s:List UInt8)
 | sl (T n:Nat) (l:List (List D))
 | fsl (T n:Nat) (l:List (List D))
 | val (v:Value)

variable [Lb]
def RD (w:World) (O:Nat→Prop):D→Value→Prop
 | .int k n,v=>v = .int k n
 | .bool b,v=>v = .bool b
 | .str s,v=>v = .string ⟨s.toArray⟩
 | .val u,v=>v=u∧u.oneCell'=true
 | .sl T n l,v=>((∃ p:Option Addr,v = .slice p 0 0)∧l=[])∨∃ b off cap cs,∃ fr:TypeId × (Nat × Nat),v = .slice (some ⟨b,off,none⟩) l.length cap∧l.length≤cap∧cap≤maxLen ∧
   ¬O b∧w.heap[b]? = some (.cells cs fr.1 fr.2)∧off+cap*n≤cs.size∧RDl n l (cs.toList.drop off)
 | .fsl T n l,v=>((∃ p:Option Addr,v = .slice p 0 0)∧l=[])∨∃ b off cap cs,∃ fr:TypeId × (Nat × Nat),v = .slice (some ⟨b,off,none⟩) l.length cap∧l.length≤cap∧cap≤maxLen ∧
   ¬O b∧w.heap[b]? = some (.cells cs fr.1 fr.2)∧off+cap*n≤cs.size∧RDl n l (cs.toList.drop off)∧Lb.n≤b∧fr.2=(0,0)
where
 RDs:List D→List Value→Prop
 | [],vs=>vs=[]
 | d::ds,vs=>∃ v vs',vs=v::vs'∧RD w O d v∧RDs ds vs'
 RDl (n:Nat):List (List D)→List Value→Prop
 | [],_=>True
 | x::xs,cs=>RDs x (cs.take n)∧RDl n xs (cs.drop n)

abbrev RDs (w:World) (O:Nat→Prop) (ds:List D) (vs:List Value):Prop:=RD.RDs w O ds vs
abbrev RDl (w:World) (O:Nat→Prop) (n:Nat) (l:List (List D)) (vs:List Value):Prop:=RD.RDl w O n l vs

section
variable {w w':World} {O O':Nat→Prop}
mutual
theorem RD.keep (h:∀ b,b<w.heap.size→¬O b→w'.heap[b]? = w.heap[b]? ∧ ¬O' b):∀ (d:D) (v:Value),RD w O d v→RD w' O' d v
 | .int k n,v,r=>by simpa [RD] using r
 | .bool b,v,r=>by simpa [RD] using r
 | .str s,v,r=>by simpa [RD] using r
 | .val u,v,r=>by simpa [RD] using r
 | .sl T n l,v,r=>by
  rw [RD] at r ⊢
  rcases r with r|⟨b,off,cap,cs,fr,h1,h2,h3,h4,h5,h6,h7⟩
  ·exact .inl r
  ·have hb:b<w.heap.size:=by
    rcases yd b w.heap.size with hb|hb
    ·exact hb
    ·simp [ye hb] at h5
   obtain ⟨k1,k2⟩:=h b hb h4
   exact .inr ⟨b,off,cap,cs,fr,h1,h2,h3,k2,k1.trans h5,h6,RDl.keep h n l _ h7⟩
 | .fsl T n l,v,r=>by
  rw [RD] at r ⊢
  rcases r with r|⟨b,off,cap,cs,fr,h1,h2,h3,h4,h5,h6,h7,h8⟩
  ·exact .inl r
  ·have hb:b<w.heap.size:=by
    rcases yd b w.heap.size with hb|hb
    ·exact hb
    ·simp [ye hb] at h5
   obtain ⟨k1,k2⟩:=h b hb h4
   exact .inr ⟨b,off,cap,cs,fr,h1,h2,h3,k2,k1.trans h5,h6,RDl.keep h n l _ h7,h8⟩
theorem RDs.keep (h:∀ b,b<w.heap.size→¬O b→w'.heap[b]? = w.heap[b]? ∧ ¬O' b):∀ (ds:List D) (vs:List Value),RDs w O ds vs→RDs w' O' ds vs
 | [],vs,r=>r
 | d::ds,vs,r=>by
  obtain ⟨v,vs',h1,h2,h3⟩:=r
  exact ⟨v,vs',h1,RD.keep h d v h2,RDs.keep h ds vs' h3⟩
theorem RDl.keep (h:∀ b,b<w.heap.size→¬O b→w'.heap[b]? = w.heap[b]? ∧ ¬O' b):∀ (n:Nat) (l:List (List D)) (vs:List Value),RDl w O n l vs→RDl w' O' n l vs
 | _,[],_,_=>trivial
 | n,x::xs,_,r=>⟨RDs.keep h x _ r.1,RDl.keep h n xs _ r.2⟩
end
end

mutual
theorem RD.one {w:World} {O:Nat→Prop}:∀ (d:D) (v:Value),RD w O d v→v.oneCell'=true
 | .int k n,v,r=>by simp only [RD] at r;subst r;rfl
 | .bool b,v,r=>by simp only [RD] at r;subst r;rfl
 | .str s,v,r=>by simp only [RD] at r;subst r;rfl
 | .val u,v,r=>by simp only [RD] at r;rw [r.1];exact r.2
 | .sl T n l,v,r=>by
  rw [RD] at r
  rcases r with ⟨⟨_,r⟩,_⟩|⟨b,off,cap,cs,fr,h1,_⟩<;>simp_all [Value.oneCell']
 | .fsl T n l,v,r=>by
  rw [RD] at r
  rcases r with ⟨⟨_,r⟩,_⟩|⟨b,off,cap,cs,fr,h1,_⟩<;>simp_all [Value.oneCell']
theorem RDs.one {w:World} {O:Nat→Prop}:∀ (ds:List D) (vs:List Value),RDs w O ds vs→∀ v∈vs,v.oneCell'=true
 | [],vs,r=>by simp only [RDs,RD.RDs] at r;subst r;simp
 | d::ds,vs,r=>by
  obtain ⟨v,vs',h1,h2,h3⟩:=r
  subst h1
  intro u hu
  rcases List.mem_cons.1 hu with rfl|hu
  ·exact RD.one d _ h2
  ·exact RDs.one ds vs' h3 u hu
end
theorem RD.weak {w:World} {O:Nat→Prop} {T n:Nat} {l:List (List D)} {v:Value} (h:RD w O (.fsl T n l) v):RD w O (.sl T n l) v:=by
 unfold RD at h ⊢
 rcases h with h|⟨b,off,cap,cs,fr,h1,h2,h3,h4,h5,h6,h7,_⟩
 ·exact .inl h
 ·exact .inr ⟨b,off,cap,cs,fr,h1,h2,h3,h4,h5,h6,h7⟩
theorem RD.zx8 {w:World} {O:Nat→Prop} {T T' n:Nat} {l:List (List D)} {v:Value} (h:RD w O (.sl T' n l) v) (hb:∀ b,v.ownBlock=some b→Lb.n≤b∧∃ cs U,w.heap[b]? = some (.cells cs U (0,0))):RD w O (.fsl T n l) v:=by
 unfold RD at h ⊢
 rcases h with h|⟨b,off,cap,cs,fr,h1,h2,h3,h4,h5,h6,h7⟩
 ·exact .inl h
 ·obtain ⟨k1,cs',U,k2⟩:=hb b (by rw [h1];rfl)
  have e:fr.2=(0,0):=by
   rw [h5] at k2
   simp only [Option.some.injEq,Obj.cells.injEq] at k2
   exact k2.2.2
  exact .inr ⟨b,off,cap,cs,fr,h1,h2,h3,h4,h5,h6,h7,k1,e⟩
structure Ext (F:Nat→Prop) (w w':World):Prop where
 os:w'.os=w.os
 tape:w'.tape=w.tape
 output:w'.output=w.output
 size:w.heap.size≤w'.heap.size
 block:∀ b,b<w.heap.size→¬F b→w'.heap[b]? = w.heap[b]?
def z0h:Nat→Prop:=fun _=>False
def At (b:Nat):Nat→Prop:=fun x=>x=b
def Ins (O:Nat→Prop) (b:Nat):Nat→Prop:=fun x=>x=b∨O x

theorem World.zb6 (w:World) (o:Obj) (i:Nat) (h:i<w.heap.size):(w.alloc o).heap[i]? = w.heap[i]?:=by
 show (w.heap.push o)[i]? = _
 rw [Array.getElem?_push,if_neg (by omega)]
theorem Ext.refl (F:Nat→Prop) (w:World):Ext F w w:=⟨rfl,rfl,rfl,ya _,fun _ _ _=>rfl⟩
theorem Ext.mono {F G:Nat→Prop} {w w':World} (h:Ext F w w') (hf:∀ x,x<w.heap.size→F x→G x):Ext G w w' :=
 ⟨h.os,h.tape,h.output,h.size,fun b hb hg=>h.block b hb fun hx=>hg (hf b hb hx)⟩
theorem Ext.trans {F:Nat→Prop} {a b c:World} (h:Ext F a b) (k:Ext F b c):Ext F a c :=
 ⟨k.os.trans h.os,k.tape.trans h.tape,k.output.trans h.output,yb h.size k.size,fun i hi hf =>
  (k.block i (yc hi h.size) hf).trans (h.block i hi hf)⟩
theorem Ext.step {F G:Nat→Prop} {a b c:World} (h:Ext F a b) (k:Ext G b c) (hg:∀ x,x<a.heap.size→G x→F x):Ext F a c :=
 ⟨k.os.trans h.os,k.tape.trans h.tape,k.output.trans h.output,yb h.size k.size,fun i hi hf =>
  (k.block i (yc hi h.size) fun hx=>hf (hg i hi hx)).trans (h.block i hi hf)⟩
theorem Ext.z3u {w w':World} (h:Below w.heap.size w w'):Ext z0h w w':=⟨h.os,h.tape,h.output,h.size,fun k hk _=>h.block k hk⟩
theorem Ext.drew (F:Nat→Prop) (w:World):Ext F w w.drew:=⟨rfl,rfl,rfl,ya _,fun _ _ _=>rfl⟩
theorem Ext.alloc (F:Nat→Prop) (w:World) (o:Obj):Ext F w (w.alloc o):=⟨rfl,rfl,rfl,by simp,fun k hk _=>World.zb6 w o k hk⟩
structure Tr (O:Nat→Prop) (w:World) (O':Nat→Prop) (w':World):Prop where
 size:w.heap.size≤w'.heap.size
 block:∀ b,b<w.heap.size→¬O b→w'.heap[b]? = w.heap[b]?
 owned:∀ b,b<w.heap.size→¬O b→¬O' b

theorem Tr.refl (O:Nat→Prop) (w:World):Tr O w O w:=⟨ya _,fun _ _ _=>rfl,fun _ _ h=>h⟩
theorem Tr.trans {O1 O2 O3:Nat→Prop} {a b c:World} (h:Tr O1 a O2 b) (k:Tr O2 b O3 c):Tr O1 a O3 c :=
 ⟨yb h.size k.size,fun i hi ho=>(k.block i (yc hi h.size) (h.owned i hi ho)).trans (h.block i hi ho),
  fun i hi ho=>k.owned i (yc hi h.size) (h.owned i hi ho)⟩
theorem Tr.z2p {F O:Nat→Prop} {w w':World} (h:Ext F w w') (hf:∀ x,x<w.heap.size→F x→O x):Tr O w O w' :=
 ⟨h.size,fun b hb ho=>h.block b hb fun hx=>ho (hf b hb hx),fun _ _ ho=>ho⟩
theorem Tr.z7b {F O:Nat→Prop} {w w':World} {b:Nat} (h:Ext F w w') (hf:∀ x,x<w.heap.size→F x→O x) (hb:w.heap.size≤b):Tr O w (Ins O b) w' :=
 ⟨h.size,fun c hc ho=>h.block c hc fun hx=>ho (hf c hc hx),fun c hc ho=>by rintro (rfl|h')<;>first|omega|exact ho h'⟩
theorem Tr.drop {O O':Nat→Prop} (w:World) (h:∀ x,O' x→O x):Tr O w O' w:=⟨ya _,fun _ _ _=>rfl,fun b _ ho h'=>ho (h b h')⟩
theorem RD.tr {O O':Nat→Prop} {w w':World} {d:D} {v:Value} (h:RD w O d v) (t:Tr O w O' w'):RD w' O' d v :=
 RD.keep (fun b hb ho=>⟨t.block b hb ho,t.owned b hb ho⟩) d v h
theorem RDs.tr {O O':Nat→Prop} {w w':World} {d:List D} {v:List Value} (h:RDs w O d v) (t:Tr O w O' w'):RDs w' O' d v :=
 RDs.keep (fun b hb ho=>⟨t.block b hb ho,t.owned b hb ho⟩) d v h

def z0r (w:World) (b:Nat) (T:TypeId) (cs:List Value):Prop:=w.heap[b]? = some (.cells cs.toArray T (0,0))
theorem z0r.lt {w:World} {b:Nat} {T:TypeId} {cs:List Value} (h:z0r w b T cs):b<w.heap.size:=by
 rcases yd b w.heap.size with hb|hb
 ·exact hb
 ·simp [z0r,ye hb] at h
theorem z0r.keep {F:Nat→Prop} {w w':World} {b:Nat} {T:TypeId} {cs:List Value} (h:z0r w b T cs) (k:Ext F w w') (hf:¬F b):z0r w' b T cs :=
 (k.block b h.lt hf).trans h
theorem z0r.cell {w:World} {b:Nat} {T:TypeId} {cs:List Value} (h:z0r w b T cs) (j:Nat):w.cell? ⟨b,j,none⟩=cs[j]?:=by
 rw [cell_of_row w b j cs.toArray T (0,0) h];simp
theorem z0r.new (w:World) (T:TypeId) (cs:List Value):z0r (w.alloc (.cells cs.toArray T)) w.heap.size T cs:=heap_alloc_new w _
end Go.Lk
end
section
namespace Go.Lk
open _root_.Array renaming replicate → ya
open Go.RowKit
variable [Lb]

abbrev Env:=List (Nat × Value)
def Env.get:Env→Nat→Option Value
 | [],_=>none
 | (s,v)::r,t=>match Nat.beq s t with
  | true=>some v
  | false=>Env.get r t

structure Has (n:Nat) (L:Env) (a:Act):Prop where
 size:a.tmps.size=n
 get:∀ t v,Env.get L t=some v→a.tmps[t]? = some v

theorem Has.put {n d:Nat} {L:Env} {a:Act} {v:Value} (h:Has n L a) (hd:d<n):Has n ((d,v)::L) (a.put (some d) v):=by
 refine ⟨by simp [Act.put,h.size],fun t u hu => ?_⟩
 simp only [Act.put]
 unfold Env.get at hu
 split at hu
 ·rename_i e
  have e:=Nat.eq_of_beq_eq_true e
  subst e
  cases hu
  simp [h.size,hd]
 ·rename_i e
  have e:=Nat.ne_of_beq_eq_false e
  rw [Array.getElem?_setIfInBounds_ne e]
  exact h.get t u hu
theorem Has.same {n:Nat} {L:Env} {a:Act} {v:Value} (h:Has n L a):Has n L (a.put none v):=h
def ev (L:Env):Operand→Option Value
 | .tmp t=>Env.get L t
 | .const v=>some v
 | .global g=>some (.pointer (some ⟨g,0,none⟩))
 | .func f=>some (.func (.func f) #[] #[])
def evs (L:Env):List Operand→Option (List Value)
 | []=>some []
 | x::xs=>match ev L x,evs L xs with
  | some v,some vs=>some (v::vs)
  | _,_=>none
theorem Has.ev {n:Nat} {L:Env} {a:Act} (h:Has n L a) {x:Operand} {v:Value} (e:ev L x=some v):a.eval x=v:=by
 cases x with
 | tmp t=>simp only [Lk.ev] at e;simp [Act.eval,h.get t v e]
 | const u=>simpa [Lk.ev,Act.eval] using e
 | global g=>simpa [Lk.ev,Act.eval] using e
 | func f=>simpa [Lk.ev,Act.eval] using e
theorem Has.evs {n:Nat} {L:Env} {a:Act} (h:Has n L a):∀ {xs:List Operand} {vs:List Value},evs L xs=some vs→xs.map a.eval=vs
 | [],vs,e=>by simp [Lk.evs] at e;subst e;rfl
 | x::xs,vs,e=>by
  simp only [Lk.evs] at e
  split at e
  ·rename_i v vs' h1 h2
   cases e
   simp [h.ev h1,h.evs h2]
  ·cases e

structure Cx where
 P:Program
 f:FuncId
 fn:Func
 R:Ending→World→Prop
 hf:P.funcs[f]? = some fn
 dfr:Bool:=false     -- a deferred call
 lv:Bool:=false      -- what it has deferred is run behind a panic

def base (C:Cx):Frame:={ (default:Frame) with fn:=C.f,kind:=match C.dfr with|true => .deferred|false => .normal }
def leave (C:Cx) (fr:Frame) (w:World) (e:Ending):Prop:=match C.dfr with
 | true=>fr.kind = .deferred∧fr.going C.P w e
 | false=>fr.leaving C.P w e
theorem zgg {C:Cx} {fr:Frame} {w:World} {v:Value} (hk:fr.kind=(base C).kind) (h1:fr.mode = .returning) (h2:fr.defers=[]) (hf:fr.fn=C.f) (hr:(results C.fn fr.tmps).run C.P w = .ok v w):leave C fr w (.returned v):=by
 unfold leave
 unfold base at hk
 cases hd:C.dfr<;>simp only [hd] at hk ⊢
 ·exact ⟨h1,h2,hk,C.fn,hf▸C.hf,hr⟩
 ·exact ⟨hk,h1,h2,C.fn,hf▸C.hf,hr⟩
theorem znt {C:Cx} {fr:Frame} {w:World} {ch:List PanicEntry} (hk:fr.kind=(base C).kind) (h1:fr.mode = .panicking ch) (h2:fr.defers=[]) (hf:fr.fn=C.f):leave C fr w (.panicked ch):=by
 unfold leave
 unfold base at hk
 cases hd:C.dfr<;>simp only [hd] at hk ⊢
 ·exact ⟨h1,h2,C.fn,hf▸C.hf⟩
 ·exact ⟨hk,h1,h2,C.fn,hf▸C.hf⟩

def zvb (C:Cx) (cs:List Frame) (m:Machine):Prop :=
 ∃ e w' fr,C.R e w'∧Comes C.P m (lone fr cs w') e∧fr.fn=C.f∧leave C fr w' e
theorem zvb.of_steps {C:Cx} {cs:List Frame} {m m':Machine} (s:Steps C.P m m') (h:zvb C cs m'):zvb C cs m:=by
 obtain ⟨e,w',fr,h1,h2,h3⟩:=h
 exact ⟨e,w',fr,h1,h2.of_steps s,h3⟩

def TWa (C:Cx) (todo:List Item) (a:Act) (w:World):Prop := ∀ cs,zvb C cs (lone ((base C).at a todo) cs w)
def TW (C:Cx) (n:Nat) (ds:List Deferred) (todo:List Item) (L:Env) (w:World):Prop := ∀ a,Has n L a→a.defers=ds→TWa C todo a w

section
variable {C:Cx} {n:Nat} {ds:List Deferred} {k:List Item} {L:Env} {w:World}
theorem TW.skip (h:TW C n ds k L w):TW C n ds (.code .skip::k) L w:=fun a ha hd cs=>(h a ha hd cs).of_steps (.one step_skip)
theorem TW.label {l:Nat} (h:TW C n ds k L w):TW C n ds (.code (.label l)::k) L w:=fun a ha hd cs=>(h a ha hd cs).of_steps (.one step_label)
theorem TW.inBlock {i:Nat} (h:TW C n ds k L w):TW C n ds (.inBlock i::k) L w:=fun a ha hd cs=>(h a ha hd cs).of_steps (.one step_inBlock)
theorem TW.seq {x y:Code} (h:TW C n ds (.code x :: .code y::k) L w):TW C n ds (.code (.seq x y)::k) L w:=fun a ha hd cs=>(h a ha hd cs).of_steps (.one step_seq)
theorem TW.block {i:Nat} {x:Code} (h:TW C n ds (.code x :: .inBlock i::k) L w):TW C n ds (.code (.block i x)::k) L w:=fun a ha hd cs=>(h a ha hd cs).of_steps (.one step_block)
theorem TW.loop {x:Code} (h:TW C n ds (.code x :: .inLoop x::k) L w):TW C n ds (.code (.loop x)::k) L w:=fun a ha hd cs=>(h a ha hd cs).of_steps (.one step_loop)
theorem TW.inLoop {x:Code} (h:TW C n ds (.code x :: .inLoop x::k) L w):TW C n ds (.inLoop x::k) L w:=fun a ha hd cs=>(h a ha hd cs).of_steps (.one step_inLoop)
theorem TW.exit {i:Nat} {k':List Item} (he:exitTo i k=some k') (h:TW C n ds k' L w):TW C n ds (.code (.exit i)::k) L w:=fun a ha hd cs=>(h a ha hd cs).of_steps (.one (step_exit he))
theorem TW.cond {c:Operand} {x y:Code} {b:Bool} (hc:ev L c=some (.bool b)) (ht:b=true→TW C n ds (.code x::k) L w) (hf:b=false→TW C n ds (.code y::k) L w) :
  TW C n ds (.code (.cond c x y)::k) L w:=fun a ha hd cs=>by
 have s:=step_cond (P:=C.P) (b:=base C) (a:=a) (k:=k) (cs:=cs) (w:=w) (x:=x) (y:=y) (ha.ev hc)
 cases b with
 | true=>exact (ht rfl a ha hd cs).of_steps (.one s)
 | false=>exact (hf rfl a ha hd cs).of_steps (.one s)
theorem TW.zmy {c:Operand} {x y:Code} (hc:ev L c=some (.bool true)) (h:TW C n ds (.code x::k) L w):TW C n ds (.code (.cond c x y)::k) L w :=
 TW.cond hc (fun _=>h) (fun e=>by cases e)
theorem TW.zja {c:Operand} {x y:Code} (hc:ev L c=some (.bool false)) (h:TW C n ds (.code y::k) L w):TW C n ds (.code (.cond c x y)::k) L w :=
 TW.cond hc (fun e=>by cases e) (fun _=>h)
def Out (C:Cx) (n:Nat) (L:Env) (w:World) (v:Value):Prop := ∀ a,Has n L a→(results C.fn a.tmps).run C.P w = .ok v w
theorem TW.ret {v:Value} (hr:Out C n L w v) (h:C.R (.returned v) w):TW C n [] (.code .ret::k) L w:=fun a ha hd _ =>
 ⟨.returned v,w,_,h,.one step_ret,rfl,zgg rfl rfl hd rfl (hr a ha)⟩
theorem TW.fin {v:Value} (hr:Out C n L w v) (h:C.R (.returned v) w):TW C n [] [] L w:=fun a ha hd _ =>
 ⟨.returned v,w,_,h,.one step_end,rfl,zgg rfl rfl hd rfl (hr a ha)⟩
theorem Out.unit (h:C.fn.results = #[]):Out C n L w (.tuple #[]):=fun _ _=>results_none h _ _ _
def PN (C:Cx) (a:Act) (ch:List PanicEntry) (w:World):Prop:=match C.lv,C.dfr with
 | true,false=>Leaves C.P C.fn a.tmps C.R a.defers (.panicking ch) w
 | _,_=>a.defers=[]∧C.R (.panicked ch) w
theorem PN.nil {C:Cx} {a:Act} {ch:List PanicEntry} {w:World} (hd:a.defers=[]) (h:C.R (.panicked ch) w):PN C a ch w:=by
 unfold PN
 split
 ·rw [hd];exact h
 ·exact ⟨hd,h⟩
def LV (C:Cx) (n:Nat) (ds:List Deferred) (L:Env) (w:World) (u:FrameMode):Prop := ∀ a,Has n L a→a.defers=ds→Leaves C.P C.fn a.tmps C.R ds u w
theorem TW.retD (hN:C.dfr=false) (h:LV C n ds L w .returning):TW C n ds (.code .ret::k) L w:=fun a ha hd cs=>by
 obtain ⟨e,w',fr,h1,h2,h3,h4⟩:=leaves_steps ds .returning w { (base C).at a (.code .ret::k) with mode:=.returning } cs rfl hd rfl C.hf (by simp [base,hN,Frame.at]) (h a ha hd)
 exact ⟨e,w',fr,h1,Comes.of_steps (.one step_ret) h2,h3,by unfold leave;rw [hN];exact h4⟩
def QT (C:Cx) (ds:List Deferred) (K:Act→World→Prop):Exit→Act→World→Prop
 | .normal,a,w=>a.defers=ds∧K a w
 | .panic ch,a,w=>PN C a ch w
 | _,_,_=>False
def OW (C:Cx) (n:Nat) (ds:List Deferred) (ops:Array Oper) (rest:List Oper) (k:Act→World→Prop) (L:Env) (w:World):Prop :=
 ∀ a,Has n L a→a.defers=ds→wpList C.P ops (QT C ds k) rest a w

theorem z4u {ops:Array Oper} {l:List Nat} {a:Act} (h:wpOps C.P ops (QT C ds (TWa C k)) l a w) (cs:List Frame) :
  zvb C cs (lone ((base C).at a (.inRegion ops l::k)) cs w):=by
 obtain ⟨e,a',w',hq,harr⟩:=wp_ops l a w h (base C) k cs
 cases e with
 | normal=>exact (hq.2 cs).of_steps harr
 | panic ch =>
  obtain ⟨todo,hs⟩:=harr
  have hq:PN C a' ch w':=hq
  unfold PN at hq
  split at hq
  ·rename_i hl hN
   obtain ⟨e,w2,fr,h1,h2,h3,h4⟩:=leaves_steps a'.defers (.panicking ch) w' { (base C).at a' todo with mode:=.panicking ch } cs rfl rfl rfl C.hf (by simp [base,hN,Frame.at]) hq
   exact ⟨e,w2,fr,h1,Comes.of_steps hs h2,h3,by unfold leave;rw [hN];exact h4⟩
  ·exact ⟨.panicked ch,w',_,hq.2,hs,rfl,znt rfl rfl hq.1 rfl⟩
 | exit _=>exact hq.elim
 | goto _=>exact hq.elim
 | ret=>exact hq.elim
 | outgrown=>exact hq.elim
theorem TW.region {id:Nat} {l:List Oper} (h:OW C n ds l.toArray l (TWa C k) L w):TW C n ds (.code (.region id l.toArray false)::k) L w:=fun a ha hd cs=>by
 have h':=h a ha hd
 have h2:wpOps C.P l.toArray (QT C ds (TWa C k)) (List.range l.toArray.size) a w:=by
  rw [List.range_eq_range',←Array.length_toList,wpOps_eq_wpList l.toArray.toList 0 (by simp)];exact h'
 exact (z4u h2 cs).of_steps (.one step_region)
theorem OW.done {ops:Array Oper} (h:TW C n ds k L w):OW C n ds ops [] (TWa C k) L w:=fun a ha hd=>⟨hd,h a ha hd⟩
end
section
variable {C:Cx} {n:Nat} {ds:List Deferred} {k:Act→World→Prop} {L:Env} {w:World}
theorem OW.fin {ops:Array Oper} (h:∀ a,Has n L a→a.defers=ds→k a w):OW C n ds ops [] k L w:=fun a ha hd=>⟨hd,h a ha hd⟩
def EX (C:Cx) (n:Nat) (L:Env) (w:World) (o:Oper) (v:Value):Prop := ∀ a,Has n L a→(execOp a.eval o).run C.P w = .ok (.value v) w

theorem OW.val {ops:Array Oper} {o:Oper} {rest:List Oper} {d:Nat} {v:Value} {w':World} (hg:o.guard=none) (hd:o.dst=some d) (hn:Nat.blt d n=true)
  (hr:∀ a,Has n L a→(execOp a.eval o).run C.P w = .ok (.value v) w') (h:OW C n ds ops rest k ((d,v)::L) w'):OW C n ds ops (o::rest) k L w:=fun a ha hds =>
 wpList_plain hg fun K hK=>by
  unfold Oper.wp
  rw [hr a ha,Oper.upon_value,hd]
  exact hK _ _ (h _ (ha.put (by simpa [Nat.blt_eq] using hn)) (by simpa [Act.put] using hds))
theorem OW.unit {ops:Array Oper} {o:Oper} {rest:List Oper} {w':World} (hg:o.guard=none) (hd:o.dst=none)
  (hr:∀ a,Has n L a→(execOp a.eval o).run C.P w = .ok .skip w') (h:OW C n ds ops rest k L w'):OW C n ds ops (o::rest) k L w:=fun a ha hds =>
 wpList_plain hg fun K hK=>by
  unfold Oper.wp
  rw [hr a ha,Oper.upon_skip,hd]
  exact hK _ _ (h _ ha.same (by simpa [Act.put] using hds))
theorem OW.yes {ops:Array Oper} {o:Oper} {rest:List Oper} {j s:Nat} {b:Bool} (hg:o.guard=some (j,b)) (hj:(ops[j]?).bind (·.dst)=some s) (hs:Env.get L s=some (.bool b))
  (h:OW C n ds ops ({ o with guard:=none }::rest) k L w):OW C n ds ops (o::rest) k L w:=fun a ha hds=>by
 have h':=h a ha hds
 have hw:Region.wanted o (yielded ops a.tmps)=true:=by
  simp [Region.wanted,hg,yielded,hj,ha.get s _ hs]
 unfold wpList at h' ⊢
 rw [if_pos (by simp [Region.wanted])] at h'
 rw [if_pos hw]
 exact h'
def dOk (n:Nat):Option Nat→Bool
 | some d=>Nat.blt d n
 | none=>true
def zpl (C:Cx) (n:Nat) (ds:List Deferred) (ops:Array Oper) (rest:List Oper) (k:Act→World→Prop) (L:Env) (d:Option Nat):Ending→World→Prop
 | .returned v,w=>OW C n ds ops rest k (match d with|some d=>(d,v)::L|none=>L) w
 | .panicked ch,w=>∀ a,Has n L a→a.defers=ds→PN C a ch w
 | .outgrown,_=>False
theorem OW.enter {ops:Array Oper} {o:Oper} {rest:List Oper} {d:Option Nat} {g:FuncId} {args:Array Value} {w':World} (hg:o.guard=none) (hd:o.dst=d) (hn:dOk n d=true)
  (hr:∀ a,Has n L a→(execOp a.eval o).run C.P w = .ok (.enter g args) w') (h:Calls C.P g args w' (zpl C n ds ops rest k L d)):OW C n ds ops (o::rest) k L w:=fun a ha hds =>
 wpList_plain hg fun K hK=>by
  unfold Oper.wp
  rw [hr a ha,Oper.upon_enter]
  refine h.mono fun e w2 he => ?_
  cases e with
  | returned v =>
   refine hK _ _ ?_
   subst hd
   cases hdst:o.dst with
   | none=>rw [hdst] at he;exact he _ ha.same (by simpa [Act.put] using hds)
   | some d=>rw [hdst] at he hn;exact he _ (ha.put (by simpa [dOk,Nat.blt_eq] using hn)) (by simpa [Act.put] using hds)
  | panicked ch=>exact he a ha hds
  | outgrown=>exact he.elim
end

theorem z9i {P:Program} {f:FuncId} {fn:Func} {c:Code} {args:List Value} {w:World} {R:Ending→World→Prop} (lv:Bool) (hf:P.funcs[f]? = some fn) (hb:fn.body=some c)
  (L:Env) (n:Nat) (hn:fn.ntmps=n) (hl:Nat.ble args.length n=true) (hL:∀ t v,Env.get L t=some v→args[t]? = some v)
  (h:TW { P:=P,f:=f,fn:=fn,R:=R,hf:=hf,lv:=lv } n [] [.code c] L w):Calls P f args.toArray w R:=by
 intro cs
 have hl':=Nat.le_of_ble_eq_true hl
 have henter:Frame.enter P f args.toArray .normal=(base { P:=P,f:=f,fn:=fn,R:=R,hf:=hf,lv:=lv }).at { tmps:=args.toArray++ya (fn.ntmps - args.toArray.size) undef,defers:=[] } [.code c]:=by
  simp [Frame.enter,Frame.at,hf,hb,base]
 have:=h { tmps:=args.toArray++ya (fn.ntmps - args.toArray.size) undef,defers:=[] }
  ⟨by simp [hn];omega,fun t v e=>by
   have h1:=hL t v e
   have h2:t<args.length:=by
    rcases Nat.lt_or_ge t args.length with h2|h2
    ·exact h2
    ·simp [List.getElem?_eq_none h2] at h1
   simp [Array.getElem?_append,h2]
   simpa [List.getElem?_eq_getElem h2] using h1⟩ rfl cs
 rw [←henter] at this
 exact this
theorem zhk {P:Program} {f:FuncId} {fn:Func} {c:Code} {args:List Value} {w:World} {R:Ending→World→Prop} (hf:P.funcs[f]? = some fn) (hb:fn.body=some c)
  (L:Env) (n:Nat) (hn:fn.ntmps=n) (hl:Nat.ble args.length n=true) (hL:∀ t v,Env.get L t=some v→args[t]? = some v)
  (h:TW { P:=P,f:=f,fn:=fn,R:=R,hf:=hf } n [] [.code c] L w):Calls P f args.toArray w R:=z9i false hf hb L n hn hl hL h
end Go.Lk
end
section
namespace Go.Lk
open _root_.Nat renaming blt → ya
open _root_.Int renaming natCast_nonneg → yb
open _root_.Array renaming toList_inj → yc
open Go.RowKit
variable [Lb]

def aggD:TypeDesc→Bool
 | .struct _ | .array _ _=>true
 | _=>false
def shp (P:Program) (T:TypeId):Option (Bool × Nat) :=
 match P.underlying T,P.info? T with
 | some d,some i=>some (aggD d,i.size)
 | _,_=>none
def fld (P:Program) (T:TypeId) (i:Nat):Option (Nat × Bool × Nat) :=
 match P.underlying T with
 | some (.struct fs)=>match fs[i]? with
  | some f=>match shp P f.type with
   | some (b,n)=>if n=0 then none else some (f.offset,b,n)
   | none=>none
  | none=>none
 | _=>none
def zer (P:Program) (T:TypeId):Option Value:=(P.info? T).bind (·.zero)

section
variable {P:Program} {w:World}
theorem z0j {T:TypeId} {b:Bool} {n:Nat} (h:shp P T=some (b,n)):(isAgg T).run P w = .ok b w∧(sizeOf T).run P w = .ok n w:=by
 unfold shp at h
 split at h
 ·rename_i d i h1 h2
  simp only [Option.some.injEq,Prod.mk.injEq] at h
  obtain ⟨rfl,rfl⟩:=h
  constructor
  ·simp only [isAgg,Sem.run_bind,run_underlying h1,Result.andThen_ok]
   cases d<;>rfl
  ·simp [sizeOf,typeInfo,h2]
 ·cases h
theorem zrg {T:TypeId} {b:Bool} {n:Nat} (h:shp P T=some (b,n)):∃ i,P.info? T=some i∧i.size=n:=by
 unfold shp at h
 split at h
 ·rename_i d i h1 h2
  simp only [Option.some.injEq,Prod.mk.injEq] at h
  exact ⟨i,h2,h.2⟩
 ·cases h
theorem z68 {T:TypeId} {n:Nat} {a:Addr} {v:Value} (h:shp P T=some (false,n)) (hc:w.cell? a=some v):(loadVar T a).run P w = .ok v w:=by
 simp only [loadVar,Sem.run_bind,(z0j h).1,Result.andThen_ok]
 simp [hc]
theorem z9z {T:TypeId} {n:Nat} {b o:Nat} {cs:List Value} (h:shp P T=some (true,n)) (hn:cs.length=n) (hc:∀ j v,cs[j]? = some v→w.cell? ⟨b,o+j,none⟩=some v) :
  (loadVar T ⟨b,o,none⟩).run P w = .ok (.agg cs.toArray) w:=by
 have hl:=run_loadCells_list (P:=P) (w:=w) ⟨b,o,none⟩ cs (fun j v e=>by rw [Addr.add_lit];exact hc j v e)
 subst hn
 simp only [loadVar,Sem.run_bind,(z0j h).1,Result.andThen_ok,(z0j h).2,hl,if_true]
 rfl
theorem zin {T:TypeId} {i k n:Nat} {g:Bool} {b o:Nat} (h:fld P T i=some (k,g,n)):(Instr.fieldAt T (.pointer (some ⟨b,o,none⟩)) i).run P w = .ok (.pointer (some ⟨b,o+k,none⟩)) w:=by
 unfold fld at h
 split at h
 ·rename_i fs h1
  split at h
  ·rename_i f h2
   split at h
   ·rename_i g' n' h3
    split at h
    ·cases h
    ·rename_i hn
     simp only [Option.some.injEq,Prod.mk.injEq] at h
     obtain ⟨rfl,rfl,rfl⟩:=h
     simp only [Instr.fieldAt,Sem.run_bind,run_underlying h1,Result.andThen_ok,h2,Instr.sureAddr,Sem.run_pure,fieldPlace,(z0j h3).2,if_neg hn,Addr.add_lit]
   ·cases h
  ·cases h
 ·cases h
theorem zoq {T:TypeId} {i k n:Nat} {cs:List Value} (h:fld P T i=some (k,false,n)) {v:Value} (hv:cs[k]? = some v):(Instr.field T (.agg cs.toArray) i).run P w = .ok v w:=by
 unfold fld at h
 split at h
 ·rename_i fs h1
  split at h
  ·rename_i f h2
   split at h
   ·rename_i g' n' h3
    split at h
    ·cases h
    ·rename_i hn
     simp only [Option.some.injEq,Prod.mk.injEq] at h
     obtain ⟨rfl,rfl,rfl⟩:=h
     simp only [Instr.field,Sem.run_bind,run_underlying h1,Result.andThen_ok,h2,asAgg,Sem.run_pure,part,(z0j h3).1,List.getElem?_toArray,hv]
     rfl
   ·cases h
  ·cases h
 ·cases h
theorem zly {T:TypeId} {i k n:Nat} {cs:List Value} (h:fld P T i=some (k,true,n)):(Instr.field T (.agg cs.toArray) i).run P w = .ok (.agg ((cs.drop k).take n).toArray) w:=by
 unfold fld at h
 split at h
 ·rename_i fs h1
  split at h
  ·rename_i f h2
   split at h
   ·rename_i g' n' h3
    split at h
    ·cases h
    ·rename_i hn
     simp only [Option.some.injEq,Prod.mk.injEq] at h
     obtain ⟨rfl,rfl,rfl⟩:=h
     simp only [Instr.field,Sem.run_bind,run_underlying h1,Result.andThen_ok,h2,asAgg,Sem.run_pure,part,(z0j h3).1,(z0j h3).2,if_true]
     rw [List.extract_toArray,List.extract_eq_take_drop]
     simp
   ·cases h
  ·cases h
 ·cases h
end

def zs0 (k:IntKind) (a b:Int):Int:=k.wrap (BitVec.ofInt k.bits a &&& BitVec.ofInt k.bits b).toNat
def orI (k:IntKind) (a b:Int):Int:=k.wrap (BitVec.ofInt k.bits a ||| BitVec.ofInt k.bits b).toNat
def xorI (k:IntKind) (a b:Int):Int:=k.wrap (BitVec.ofInt k.bits a ^^^ BitVec.ofInt k.bits b).toNat
def zmi (k:IntKind) (a b:Int):Int:=k.wrap (BitVec.ofInt k.bits a &&& ~~~ BitVec.ofInt k.bits b).toNat
def zcn (k:IntKind) (a b:Int):Int:=k.wrap (a*2 ^ (min b.toNat k.bits))
def zpk (k:IntKind) (a b:Int):Int:=a.fdiv (2 ^ (min b.toNat k.bits))
def zzw (k:IntKind) (a:Int):Int:=k.wrap (BitVec.ofInt k.bits (if k.signed then -1 else k.max) ^^^ BitVec.ofInt k.bits a).toNat
def zxr (op:BinOp) (k:IntKind) (a b:Int):Option Value :=
 match op with
 | .add=>some (.int k (k.wrap (a+b)))
 | .sub=>some (.int k (k.wrap (a - b)))
 | .mul=>some (.int k (k.wrap (a*b)))
 | .and=>some (.int k (zs0 k a b))
 | .or=>some (.int k (orI k a b))
 | .xor=>some (.int k (xorI k a b))
 | .andNot=>some (.int k (zmi k a b))
 | .eql=>some (.bool (decide (a=b)))
 | .neq=>some (.bool (!decide (a=b)))
 | .lss=>some (.bool (decide (a<b)))
 | .leq=>some (.bool (decide (a≤b)))
 | .gtr=>some (.bool (decide (b<a)))
 | .geq=>some (.bool (decide (b≤a)))
 | _=>none
def zzs (op:BinOp) (k:IntKind) (a b:Int):Option Value :=
 match op with
 | .quo=>some (.int k (k.wrap (a.tdiv b)))
 | .rem=>some (.int k (a.tmod b))
 | _=>none
def zse (op:BinOp) (k:IntKind) (a b:Int):Option Value :=
 match op with
 | .shl=>some (.int k (zcn k a b))
 | .shr=>some (.int k (zpk k a b))
 | _=>none
def slt (a b:List UInt8):Bool:=Op.bytesLess a b
def zzf (op:BinOp) (a b:List UInt8):Option Value :=
 match op with
 | .eql=>some (.bool (decide (a=b)))
 | .neq=>some (.bool (!decide (a=b)))
 | .lss=>some (.bool (slt a b))
 | .leq=>some (.bool (slt a b||decide (a=b)))
 | .gtr=>some (.bool (!(slt a b||decide (a=b))))
 | .geq=>some (.bool (!slt a b))
 | _=>none
def iun (op:UnOp) (k:IntKind) (a:Int):Option Value :=
 match op with
 | .neg=>some (.int k (k.wrap (0 - a)))
 | .xor=>some (.int k (zzw k a))
 | _=>none

def Lo (L:Env) (lo:Option Operand) (a e:Nat):Prop :=
 match lo with
 | none=>a=e
 | some y=>∃ kd i,ev L y=some (.int kd i)∧i=(a:Nat)
def LoV (lo:Option Value) (a e:Nat):Prop :=
 match lo with
 | none=>a=e
 | some y=>∃ kd,y = .int kd (a:Nat)
theorem Lo.val {n:Nat} {L:Env} {ac:Act} (ha:Has n L ac) {lo:Option Operand} {a e:Nat} (h:Lo L lo a e):LoV (lo.map ac.eval) a e:=by
 cases lo with
 | none=>exact h
 | some y=>obtain ⟨kd,i,h1,h2⟩:=h;exact ⟨kd,by rw [ha.ev h1,h2]⟩
section
variable {C:Cx} {n:Nat} {ds:List Deferred} {k:Act→World→Prop} {L:Env} {w:World} {ops:Array Oper} {o:Oper} {rest:List Oper} {d:Nat} {v:Value}

theorem EX.move {x:Operand} (ho:o.op = .move x) (hx:ev L x=some v):EX C n L w o (v) :=
 fun a ha=>by simp [execOp,ho,ha.ev hx]
theorem OW.move {x:Operand} (hg:o.guard=none) (hd:o.dst=some d) (hn:ya d n=true) (ho:o.op = .move x) (hx:ev L x=some v) (h:OW C n ds ops rest k ((d,v)::L) w):OW C n ds ops (o::rest) k L w :=
 OW.val hg hd hn (EX.move ho hx) h
theorem EX.assign {x:Operand} (ho:o.op = .assign x) (hx:ev L x=some v):EX C n L w o (v) :=
 fun a ha=>by simp [execOp,ho,ha.ev hx]
theorem OW.assign {x:Operand} (hg:o.guard=none) (hd:o.dst=some d) (hn:ya d n=true) (ho:o.op = .assign x) (hx:ev L x=some v) (h:OW C n ds ops rest k ((d,v)::L) w):OW C n ds ops (o::rest) k L w :=
 OW.val hg hd hn (EX.assign ho hx) h
theorem EX.zwu {c x y:Operand} (ho:o.op = .pick c x y) (hc:ev L c=some (.bool true)) (hx:ev L x=some v):EX C n L w o (v) :=
 fun a ha=>by simp [execOp,ho,ha.ev hc,ha.ev hx,asBool]
theorem EX.zwt {c x y:Operand} (ho:o.op = .pick c x y) (hc:ev L c=some (.bool false)) (hx:ev L y=some v):EX C n L w o (v) :=
 fun a ha=>by simp [execOp,ho,ha.ev hc,ha.ev hx,asBool]
theorem EX.zs4 {op:BinOp} {t u:TypeId} {x y:Operand} {kd:IntKind} {p q:Int} (ho:o.op = .binOp op t x y u)
  (hx:ev L x=some (.int kd p)) (hy:ev L y=some (.int kd q)) (hv:zxr op kd p q=some v):EX C n L w o (v) :=
 fun a ha=>by
  simp only [execOp,ho,ha.ev hx,ha.ev hy,eqGuard_at_int]
  cases op<;>simp only [zxr,Option.some.injEq,reduceCtorEq] at hv<;>subst hv<;>simp [binOp,Op.intArith,Op.intBits,Op.intCmp,bne,BEq.beq,zs0,orI,xorI,zmi]
theorem OW.zs4 {op:BinOp} {t u:TypeId} {x y:Operand} {kd:IntKind} {p q:Int} (hg:o.guard=none) (hd:o.dst=some d) (hn:ya d n=true) (ho:o.op = .binOp op t x y u)
  (hx:ev L x=some (.int kd p)) (hy:ev L y=some (.int kd q)) (hv:zxr op kd p q=some v) (h:OW C n ds ops rest k ((d,v)::L) w):OW C n ds ops (o::rest) k L w :=
 OW.val hg hd hn (EX.zs4 ho hx hy hv) h
theorem EX.zzz {op:BinOp} {t u:TypeId} {x y:Operand} {kd:IntKind} {p q:Int} (ho:o.op = .binOp op t x y u)
  (hx:ev L x=some (.int kd p)) (hy:ev L y=some (.int kd q)) (hq:q≠0) (hv:zzs op kd p q=some v):EX C n L w o (v) :=
 fun a ha=>by
  simp only [execOp,ho,ha.ev hx,ha.ev hy,eqGuard_at_int]
  cases op<;>simp only [zzs,Option.some.injEq,reduceCtorEq] at hv<;>subst hv<;>simp [binOp,Op.intDiv,hq]
theorem EX.zsw {op:BinOp} {t u:TypeId} {x y:Operand} {kd kq:IntKind} {p q:Int} (ho:o.op = .binOp op t x y u)
  (hx:ev L x=some (.int kd p)) (hy:ev L y=some (.int kq q)) (hq:0≤q) (hv:zse op kd p q=some v):EX C n L w o (v) :=
 fun a ha=>by
  have hq':¬q<0:=by omega
  simp only [execOp,ho,ha.ev hx,ha.ev hy,eqGuard_at_int]
  cases op<;>simp only [zse,Option.some.injEq,reduceCtorEq] at hv<;>subst hv<;>simp [binOp,Op.shift,hq',zcn,zpk]
theorem EX.binS {op:BinOp} {t u:TypeId} {x y:Operand} {p q:List UInt8} (ho:o.op = .binOp op t x y u)
  (hx:ev L x=some (.string ⟨p.toArray⟩)) (hy:ev L y=some (.string ⟨q.toArray⟩)) (hv:zzf op p q=some v):EX C n L w o (v) :=
 fun a ha=>by
  have e:(p==q)=decide (p=q):=by rw [Bool.eq_iff_iff];simp
  simp only [execOp,ho,ha.ev hx,ha.ev hy,eqGuard_at_string]
  cases op<;>simp only [zzf,Option.some.injEq,reduceCtorEq] at hv<;>subst hv<;>simp [binOp,Op.stringOp,slt,e]
theorem EX.catS {t u:TypeId} {x y:Operand} {p q:List UInt8} (ho:o.op = .binOp .add t x y u)
  (hx:ev L x=some (.string ⟨p.toArray⟩)) (hy:ev L y=some (.string ⟨q.toArray⟩)) (hl:p.length+q.length≤9223372036854775807):EX C n L w o (.string ⟨(p++q).toArray⟩) :=
 fun a ha=>by
  have e:(⟨p.toArray⟩++⟨q.toArray⟩:ByteArray)=⟨(p++q).toArray⟩:=by
   apply Go.WideShapes.bytes_inj
   simp
  simp only [execOp,ho,ha.ev hx,ha.ev hy,eqGuard_at_string,binOp,Sem.run_bind,Sem.run_pure,Result.andThen_ok]
  rw [run_string_add_sum _ _ _ (by simpa [ByteArray.size] using hl),e]
  rfl
theorem EX.zzo {op:BinOp} {t u:TypeId} {x y:Operand} {p q:Bool} (ho:o.op = .binOp op t x y u) (ht:C.P.underlying t=some .bool)
  (hx:ev L x=some (.bool p)) (hy:ev L y=some (.bool q)) (hv:(match op with | .eql=>some (Value.bool (p==q)) | .neq=>some (.bool (!(p==q)))|_=>none)=some v):EX C n L w o (v) :=
 fun a ha=>by
  simp only [execOp,ho,ha.ev hx,ha.ev hy,eqGuard_at_bool]
  cases op<;>simp only [Option.some.injEq,reduceCtorEq] at hv<;>subst hv
  ·simp [run_eql_bool _ _ _ _ ht]
  ·simp [run_neq_bool _ _ _ _ ht]
theorem EX.unI {op:UnOp} {t:TypeId} {x:Operand} {kd:IntKind} {p:Int} (ho:o.op = .unOp op t x)
  (hx:ev L x=some (.int kd p)) (hv:iun op kd p=some v):EX C n L w o (v) :=
 fun a ha=>by
  simp only [execOp,ho,ha.ev hx]
  cases op<;>simp only [iun,Option.some.injEq,reduceCtorEq] at hv<;>subst hv<;>simp [Op.unary,Op.intArith,Op.intBits,zzw]
theorem EX.notB {t:TypeId} {x:Operand} {p:Bool} (ho:o.op = .unOp .not t x)
  (hx:ev L x=some (.bool p)):EX C n L w o (.bool (!p)) :=
 fun a ha=>by simp [execOp,ho,ha.ev hx,Op.unary]
theorem EX.zyf {s t:TypeId} {sd:TypeDesc} {x:Operand} {kd kt:IntKind} {p:Int} (ho:o.op = .convert s t x)
  (hs:C.P.underlying s=some sd) (ht:C.P.underlying t=some (.int kt)) (hx:ev L x=some (.int kd p)):EX C n L w o (.int kt (kt.wrap p)) :=
 fun a ha=>by
  simp only [execOp,ho,ha.ev hx,convert,Sem.run_bind,run_underlying hs,run_underlying ht,Result.andThen_ok,Conv.intToInt]
  rfl
theorem EX.zyh {s t:TypeId} {x:Operand} {p:ByteArray} (ho:o.op = .convert s t x)
  (hs:C.P.underlying s=some .string) (ht:C.P.underlying t=some .string) (hx:ev L x=some (.string p)):EX C n L w o (.string p) :=
 fun a ha=>by
  simp only [execOp,ho,ha.ev hx,convert,Sem.run_bind,run_underlying hs,run_underlying ht,Result.andThen_ok]
  rfl
theorem EX.lenS {t:TypeId} {x:Operand} {p:List UInt8} (ho:o.op = .call { callee:=.builtin .len,args := #[x],argTypes := #[t] })
  (ht:C.P.underlying t=some .string) (hx:ev L x=some (.string ⟨p.toArray⟩)):EX C n L w o (.int .i64 (p.length:Nat)) :=
 fun a ha=>by
  have e:(⟨p.toArray⟩:ByteArray).size=p.length:=by simp [ByteArray.size]
  simp [execOp,ho,resolve,invoke,builtin,Builtin.len_,ha.ev hx,run_underlying ht,goInt,e]
theorem EX.zvf {t e:TypeId} {x:Operand} {p:Option Addr} {l c:Nat} (ho:o.op = .call { callee:=.builtin .len,args := #[x],argTypes := #[t] })
  (ht:C.P.underlying t=some (.slice e)) (hx:ev L x=some (.slice p l c)):EX C n L w o (.int .i64 (l:Nat)) :=
 fun a ha=>by
  simp [execOp,ho,resolve,invoke,builtin,Builtin.len_,ha.ev hx,run_underlying ht,goInt]
theorem OW.zvf {t e:TypeId} {x:Operand} {p:Option Addr} {l c:Nat} (hg:o.guard=none) (hd:o.dst=some d) (hn:ya d n=true) (ho:o.op = .call { callee:=.builtin .len,args := #[x],argTypes := #[t] })
  (ht:C.P.underlying t=some (.slice e)) (hx:ev L x=some (.slice p l c)) (h:OW C n ds ops rest k ((d,.int .i64 (l:Nat))::L) w):OW C n ds ops (o::rest) k L w :=
 OW.val hg hd hn (EX.zvf ho ht hx) h
theorem EX.zwa {t:TypeId} {x y:Operand} {p:List UInt8} {kd:IntKind} {i:Int} {j:Nat} {c:UInt8} (ho:o.op = .index t x y)
  (ht:C.P.underlying t=some .string) (hx:ev L x=some (.string ⟨p.toArray⟩)) (hy:ev L y=some (.int kd i)) (hi:i=(j:Nat)) (hc:p[j]? = some c):EX C n L w o (.int .u8 (c.toNat:Nat)) :=
 fun a ha=>by
  subst hi
  have hj:j<p.length:=by
   rcases Nat.lt_or_ge j p.length with hj|hj
   ·exact hj
   ·simp [List.getElem?_eq_none hj] at hc
  have hc':p[j]=c:=by simpa [List.getElem?_eq_getElem hj] using hc
  have e:(⟨p.toArray⟩:ByteArray)[j]? = some c:=by
   rw [getElem?_pos (⟨p.toArray⟩:ByteArray) j (by simpa [ByteArray.size] using hj)]
   simp [←hc']
   rfl
  simp [execOp,ho,Instr.index,ha.ev hx,ha.ev hy,asIntOf,run_underlying ht,e]
theorem EX.zx3 {t:TypeId} {x:Operand} {lo hi:Option Operand} {p:List UInt8} {a b:Nat} (ho:o.op = .slice t x lo hi none)
  (ht:C.P.underlying t=some .string) (hx:ev L x=some (.string ⟨p.toArray⟩))
  (hlo:Lo L lo a 0) (hhi:Lo L hi b p.length) (hab:a≤b) (hb:b≤p.length):EX C n L w o (.string ⟨((p.take b).drop a).toArray⟩) :=
 fun ac ha=>by
  have e:(⟨p.toArray⟩:ByteArray).extract a b=⟨((p.take b).drop a).toArray⟩:=by
   apply Go.WideShapes.bytes_inj
   rw [Go.Lib.extract_data]
   simp [List.drop_take]
  have hp:(⟨p.toArray⟩:ByteArray).size=p.length:=by simp [ByteArray.size]
  have i1:(0:Int)≤(a:Int):=yb _
  have i2:(0:Int)≤(b:Int):=yb _
  have i3:(a:Int)≤(b:Int):=Int.ofNat_le.2 hab
  have i4:(b:Int)≤(p.length:Int):=Int.ofNat_le.2 hb
  have hlo:=hlo.val ha
  have hhi:=hhi.val ha
  simp only [execOp,ho,Instr.sliceAt,Sem.run_bind,run_underlying ht,Result.andThen_ok,ha.ev hx,Instr.slice]
  revert hlo hhi
  generalize lo.map ac.eval=lo'
  generalize hi.map ac.eval=hi'
  intro hlo hhi
  cases lo' with
  | none =>
   simp only [LoV] at hlo
   subst hlo
   cases hi' with
   | none=>simp only [LoV] at hhi;subst hhi;simp [Instr.sliceBounds,hp,e]
   | some y=>obtain ⟨kd,rfl⟩:=hhi;simp [Instr.sliceBounds,Instr.sliceBound,hp,e,asIntOf,hb]
  | some z =>
   obtain ⟨kz,rfl⟩:=hlo
   cases hi' with
   | none=>simp only [LoV] at hhi;subst hhi;simp [Instr.sliceBounds,Instr.sliceBound,hp,e,asIntOf,hab]
   | some y=>obtain ⟨kd,rfl⟩:=hhi;simp [Instr.sliceBounds,Instr.sliceBound,hp,e,asIntOf,hb,hab]
theorem EX.zu7 {t:TypeId} {td:TypeDesc} {x:Operand} {u:Value} (ho:o.op = .makeInterface t x) (ht:C.P.underlying t=some td)
  (hc:(match td with | .interface _=>false|_=>true)=true) (hx:ev L x=some u):EX C n L w o (.iface t u) :=
 fun a ha=>by
  simp only [execOp,ho,ha.ev hx,Instr.makeInterface,Sem.run_bind,run_underlying ht,Result.andThen_ok]
  cases td<;>first|rfl|cases hc
theorem EX.extract {x:Operand} {i:Nat} {vs:Array Value} (ho:o.op = .extract x i) (hx:ev L x=some (.tuple vs)) (hv:vs[i]? = some v):EX C n L w o (v) :=
 fun a ha=>by simp [execOp,ho,ha.ev hx,Instr.extract,hv]
theorem OW.extract {x:Operand} {i:Nat} {vs:Array Value} (hg:o.guard=none) (hd:o.dst=some d) (hn:ya d n=true) (ho:o.op = .extract x i) (hx:ev L x=some (.tuple vs)) (hv:vs[i]? = some v) (h:OW C n ds ops rest k ((d,v)::L) w):OW C n ds ops (o::rest) k L w :=
 OW.val hg hd hn (EX.extract ho hx hv) h
theorem EX.nilCheck {x:Operand} {p:Addr} (ho:o.op = .nilCheck x) (hx:ev L x=some (.pointer (some p))):EX C n L w o (.pointer (some p)) :=
 fun a ha=>by simp [execOp,ho,ha.ev hx]
theorem OW.nilCheck {x:Operand} {p:Addr} (hg:o.guard=none) (hd:o.dst=some d) (hn:ya d n=true) (ho:o.op = .nilCheck x) (hx:ev L x=some (.pointer (some p))) (h:OW C n ds ops rest k ((d,.pointer (some p))::L) w):OW C n ds ops (o::rest) k L w :=
 OW.val hg hd hn (EX.nilCheck ho hx) h
theorem EX.zwi {fn:Fn} {first cap:Array Operand} {vs us:List Value} (ho:o.op = .makeFunc fn first cap) (hf:evs L first.toList=some us) (hc:evs L cap.toList=some vs):EX C n L w o (.func fn us.toArray vs.toArray) :=
 fun a ha=>by
  have e1:first.map a.eval=us.toArray:=by apply yc.1;simpa using ha.evs hf
  have e2:cap.map a.eval=vs.toArray:=by apply yc.1;simpa using ha.evs hc
  simp [execOp,ho,Instr.makeFunc,e1,e2]
def built (P:Program) (T:TypeId) (parts:List (Nat × Value)):Option (List Value) :=
 match P.underlying T,zer P T with
 | some (.struct fs),some z =>
  match (fs.toList.mapM fun f=>(P.info? f.type).map fun i=>(f.offset,i.size)) with
  | some places=>(Instr.fill (places.toArray[·]?) z.cells parts).map (·.toList)
  | none=>none
 | _,_=>none
def evp (L:Env):List (Nat × Operand)→Option (List (Nat × Value))
 | []=>some []
 | (i,x)::xs=>match ev L x,evp L xs with
  | some v,some vs=>some ((i,v)::vs)
  | _,_=>none
theorem Has.evp {a:Act} (h:Has n L a):∀ {xs:List (Nat × Operand)} {vs:List (Nat × Value)},evp L xs=some vs→xs.map (fun p=>(p.1,a.eval p.2))=vs
 | [],vs,e=>by simp [Lk.evp] at e;subst e;rfl
 | (i,x)::xs,vs,e=>by
  simp only [Lk.evp] at e
  split at e
  ·rename_i v vs' h1 h2
   cases e
   simp [h.ev h1,h.evp h2]
  ·cases e
theorem z69 (P:Program) (w:World):∀ (fs:List Field) {places:List (Nat × Nat)},(fs.mapM fun f=>(P.info? f.type).map fun i=>(f.offset,i.size))=some places →
  (fs.mapM (fun f=>do pure (f.offset,←sizeOf f.type):Field→Sem (Nat × Nat))).run P w = .ok places w
 | [],places,h=>by simp at h;subst h;rfl
 | f::fs,places,h=>by
  simp only [List.mapM_cons,Option.bind_eq_bind] at h ⊢
  cases h1:P.info? f.type with
  | none=>simp [h1] at h
  | some i =>
   cases h2:(fs.mapM fun f=>(P.info? f.type).map fun i=>(f.offset,i.size)) with
   | none=>simp [h1,h2] at h
   | some ps =>
    simp [h1,h2] at h
    subst h
    have ih:=z69 P w fs h2
    simp only [Sem.run_bind,sizeOf,typeInfo,run_program,Result.andThen_ok,h1,Sem.run_pure] at ih ⊢
    rw [ih]
    rfl
theorem EX.build {T:TypeId} {parts:Array (Nat × Operand)} {vs:List (Nat × Value)} {cs:List Value} (ho:o.op = .build T parts) (hp:evp L parts.toList=some vs)
  (hb:built C.P T vs=some cs):EX C n L w o (.agg cs.toArray) :=
 fun a ha=>by
  have e:(parts.map fun (i,x)=>(i,a.eval x))=vs.toArray:=by apply yc.1;simpa using ha.evp hp
  unfold built zer at hb
  split at hb
  ·rename_i fs z h1 h2
   split at hb
   ·rename_i places h3
    simp only [Option.map_eq_some_iff] at hb
    obtain ⟨cs',h4,rfl⟩:=hb
    obtain ⟨i,h5,h6⟩:=Option.bind_eq_some_iff.1 h2
    have h7:=z69 C.P w fs.toList h3
    have h8:(fs.mapM (fun f=>do pure (f.offset,←sizeOf f.type):Field→Sem (Nat × Nat))).run C.P w = .ok places.toArray w:=by
     rw [Array.mapM_eq_mapM_toList,Sem.run_map,h7]
     rfl
    simp only [execOp,ho,e,Instr.build,Sem.run_bind,zeroValue,typeInfo,run_program,Result.andThen_ok,h5,Sem.run_pure,h6,run_underlying h1,h8,h4]
   ·cases hb
  ·cases hb
end
end Go.Lk
end
