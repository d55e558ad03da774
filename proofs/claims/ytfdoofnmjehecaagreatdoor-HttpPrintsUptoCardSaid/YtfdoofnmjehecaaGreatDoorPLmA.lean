import Derived.WalkKit
import Derived.WalkSpells
import Derived.WalkLawsBesides
import Derived.Recover
set_option linter.all false
section
namespace Go.Lk
open _root_.List renaming toArray → ya
open _root_.Nat renaming le_refl → yb, le_trans → yc, lt_of_lt_of_le → yd
open _root_.Array renaming getElem?_eq_none → ye
open Go.RowKit
abbrev Z:=List UInt8

def NF:Nat:=4294967295
def fnV (f:Nat) (us vs:List Value):Value:=match Nat.beq f NF with
 | true => .nilFunc
 | false => .func (.func f) (ya us) (ya vs)
theorem zk2 (f:Nat) (us vs:List Value):(fnV f us vs).oneCell'=true:=by unfold fnV;split<;>rfl
theorem zfw {f:Nat} (h:Nat.beq f NF=false) (us vs:List Value):fnV f us vs = .func (.func f) (ya us) (ya vs):=by unfold fnV;rw [h]
inductive D where
 | int (k:IntKind) (n:Int)
 | bool (b:Bool)
 | str (s:List UInt8)
 | sl (T n:Nat) (l:List (List D))
 | val (v:Value)
 | fn (n:Nat)

def RD (w:World) (O:Nat→Prop):D→Value→Prop
 | .int k n,v=>v = .int k n
 | .bool b,v=>v = .bool b
 | .str s,v=>v = .string ⟨s.toArray⟩
 | .val u,v=>v=u∧u.oneCell'=true
 | .fn n,v=>v=fnV n [] []
 | .sl T n l,v=>((∃ p:Option Addr,v = .slice p 0 0)∧l=[])∨∃ b off cap cs,∃ fr:TypeId × (Nat × Nat),v = .slice (some ⟨b,off,none⟩) l.length cap∧l.length≤cap∧cap≤maxLen ∧
   ¬O b∧w.heap[b]? = some (.cells cs fr.1 fr.2)∧off+cap*n≤cs.size∧RDl n l (cs.toList.drop off)
where
 RDs:List D→List Value→Prop
 | [],vs=>vs=[]
 | d::ds,vs=>∃ v vs',vs=v::vs'∧RD w O d v∧RDs ds vs'
 RDl (n:Nat):List (List D)→List Value→Prop
 | [],_=>True
 | x::xs,cs=>RDs x (cs.take n)∧RDl n xs (cs.drop n)

abbrev RDs (w:World) (O:Nat→Prop) (ds:List D) (vs:List Value):Prop:=RD.RDs w O ds vs
abbrev RDl (w:World) (O:Nat→Prop) (n:Nat) (l:List (List D)) (vs:List Value):Prop:=RD.RDl w O n l vs

section
variable {w w':World} {O O':Nat→Prop}
mutual
theorem RD.keep (h:∀ b,b<w.heap.size→¬O b→w'.heap[b]? = w.heap[b]? ∧ ¬O' b):∀ (d:D) (v:Value),RD w O d v→RD w' O' d v
 | .int k n,v,r=>by simpa [RD] using r
 | .bool b,v,r=>by simpa [RD] using r
 | .str s,v,r=>by simpa [RD] using r
 | .val u,v,r=>by simpa [RD] using r
 | .fn n,v,r=>by simpa [RD] using r
 | .sl T n l,v,r=>by
  rw [RD] at r ⊢
  rcases r with r|⟨b,off,cap,cs,fr,h1,h2,h3,h4,h5,h6,h7⟩
  ·exact .inl r
  ·have hb:b<w.heap.size:=by
    rcases Nat.lt_or_ge b w.heap.size with hb|hb
    ·exact hb
    ·simp [ye hb] at h5
   obtain ⟨k1,k2⟩:=h b hb h4
   exact .inr ⟨b,off,cap,cs,fr,h1,h2,h3,k2,k1.trans h5,h6,RDl.keep h n l _ h7⟩
theorem RDs.keep (h:∀ b,b<w.heap.size→¬O b→w'.heap[b]? = w.heap[b]? ∧ ¬O' b):∀ (ds:List D) (vs:List Value),RDs w O ds vs→RDs w' O' ds vs
 | [],vs,r=>r
 | d::ds,vs,r=>by
  obtain ⟨v,vs',h1,h2,h3⟩:=r
  exact ⟨v,vs',h1,RD.keep h d v h2,RDs.keep h ds vs' h3⟩
theorem RDl.keep (h:∀ b,b<w.heap.size→¬O b→w'.heap[b]? = w.heap[b]? ∧ ¬O' b):∀ (n:Nat) (l:List (List D)) (vs:List Value),RDl w O n l vs→RDl w' O' n l vs
 | _,[],_,_=>trivial
 | n,x::xs,_,r=>⟨RDs.keep h x _ r.1,RDl.keep h n xs _ r.2⟩
end
end

mutual
theorem RD.one {w:World} {O:Nat→Prop}:∀ (d:D) (v:Value),RD w O d v→v.oneCell'=true
 | .int k n,v,r=>by simp only [RD] at r;subst r;rfl
 | .bool b,v,r=>by simp only [RD] at r;subst r;rfl
 | .str s,v,r=>by simp only [RD] at r;subst r;rfl
 | .val u,v,r=>by simp only [RD] at r;rw [r.1];exact r.2
 | .fn n,v,r=>by simp only [RD] at r;rw [r];exact zk2 _ _ _
 | .sl T n l,v,r=>by
  rw [RD] at r
  rcases r with ⟨⟨_,r⟩,_⟩|⟨b,off,cap,cs,fr,h1,_⟩<;>simp_all [Value.oneCell']
theorem RDs.one {w:World} {O:Nat→Prop}:∀ (ds:List D) (vs:List Value),RDs w O ds vs→∀ v∈vs,v.oneCell'=true
 | [],vs,r=>by simp only [RDs,RD.RDs] at r;subst r;simp
 | d::ds,vs,r=>by
  obtain ⟨v,vs',h1,h2,h3⟩:=r
  subst h1
  intro u hu
  rcases List.mem_cons.1 hu with rfl|hu
  ·exact RD.one d _ h2
  ·exact RDs.one ds vs' h3 u hu
end
structure Ext (F:Nat→Prop) (w w':World):Prop where
 os:w'.os=w.os
 tape:w'.tape=w.tape
 output:w'.output=w.output
 size:w.heap.size≤w'.heap.size
 block:∀ b,b<w.heap.size→¬F b→w'.heap[b]? = w.heap[b]?
def z18:Nat→Prop:=fun _=>False
def At (b:Nat):Nat→Prop:=fun x=>x=b
def Ins (O:Nat→Prop) (b:Nat):Nat→Prop:=fun x=>x=b∨O x

theorem World.zac (w:World) (o:Obj) (i:Nat) (h:i<w.heap.size):(w.alloc o).heap[i]? = w.heap[i]?:=by
 show (w.heap.push o)[i]? = _
 rw [Array.getElem?_push,if_neg (by omega)]
theorem Ext.refl (F:Nat→Prop) (w:World):Ext F w w:=⟨rfl,rfl,rfl,yb _,fun _ _ _=>rfl⟩
theorem Ext.mono {F G:Nat→Prop} {w w':World} (h:Ext F w w') (hf:∀ x,x<w.heap.size→F x→G x):Ext G w w' :=
 ⟨h.os,h.tape,h.output,h.size,fun b hb hg=>h.block b hb fun hx=>hg (hf b hb hx)⟩
theorem Ext.trans {F:Nat→Prop} {a b c:World} (h:Ext F a b) (k:Ext F b c):Ext F a c :=
 ⟨k.os.trans h.os,k.tape.trans h.tape,k.output.trans h.output,yc h.size k.size,fun i hi hf =>
  (k.block i (yd hi h.size) hf).trans (h.block i hi hf)⟩
theorem Ext.step {F G:Nat→Prop} {a b c:World} (h:Ext F a b) (k:Ext G b c) (hg:∀ x,x<a.heap.size→G x→F x):Ext F a c :=
 ⟨k.os.trans h.os,k.tape.trans h.tape,k.output.trans h.output,yc h.size k.size,fun i hi hf =>
  (k.block i (yd hi h.size) fun hx=>hf (hg i hi hx)).trans (h.block i hi hf)⟩
theorem Ext.z3a {w w':World} (h:Below w.heap.size w w'):Ext z18 w w':=⟨h.os,h.tape,h.output,h.size,fun k hk _=>h.block k hk⟩
theorem Ext.drew (F:Nat→Prop) (w:World):Ext F w w.drew:=⟨rfl,rfl,rfl,yb _,fun _ _ _=>rfl⟩
theorem Ext.alloc (F:Nat→Prop) (w:World) (o:Obj):Ext F w (w.alloc o):=⟨rfl,rfl,rfl,by simp,fun k hk _=>World.zac w o k hk⟩
structure Tr (O:Nat→Prop) (w:World) (O':Nat→Prop) (w':World):Prop where
 size:w.heap.size≤w'.heap.size
 block:∀ b,b<w.heap.size→¬O b→w'.heap[b]? = w.heap[b]?
 owned:∀ b,b<w.heap.size→¬O b→¬O' b

theorem Tr.refl (O:Nat→Prop) (w:World):Tr O w O w:=⟨yb _,fun _ _ _=>rfl,fun _ _ h=>h⟩
theorem Tr.trans {O1 O2 O3:Nat→Prop} {a b c:World} (h:Tr O1 a O2 b) (k:Tr O2 b O3 c):Tr O1 a O3 c :=
 ⟨yc h.size k.size,fun i hi ho=>(k.block i (yd hi h.size) (h.owned i hi ho)).trans (h.block i hi ho),
  fun i hi ho=>k.owned i (yd hi h.size) (h.owned i hi ho)⟩
theorem Tr.z3r {F O:Nat→Prop} {w w':World} (h:Ext F w w') (hf:∀ x,x<w.heap.size→F x→O x):Tr O w O w' :=
 ⟨h.size,fun b hb ho=>h.block b hb fun hx=>ho (hf b hb hx),fun _ _ ho=>ho⟩
theorem Tr.z6m {F O:Nat→Prop} {w w':World} {b:Nat} (h:Ext F w w') (hf:∀ x,x<w.heap.size→F x→O x) (hb:w.heap.size≤b):Tr O w (Ins O b) w' :=
 ⟨h.size,fun c hc ho=>h.block c hc fun hx=>ho (hf c hc hx),fun c hc ho=>by rintro (rfl|h')<;>first|omega|exact ho h'⟩
theorem Tr.drop {O O':Nat→Prop} (w:World) (h:∀ x,O' x→O x):Tr O w O' w:=⟨yb _,fun _ _ _=>rfl,fun b _ ho h'=>ho (h b h')⟩
theorem RD.tr {O O':Nat→Prop} {w w':World} {d:D} {v:Value} (h:RD w O d v) (t:Tr O w O' w'):RD w' O' d v :=
 RD.keep (fun b hb ho=>⟨t.block b hb ho,t.owned b hb ho⟩) d v h
theorem RDs.tr {O O':Nat→Prop} {w w':World} {d:List D} {v:List Value} (h:RDs w O d v) (t:Tr O w O' w'):RDs w' O' d v :=
 RDs.keep (fun b hb ho=>⟨t.block b hb ho,t.owned b hb ho⟩) d v h

def z2b (w:World) (b:Nat) (T:TypeId) (cs:List Value):Prop:=w.heap[b]? = some (.cells cs.toArray T (0,0))
theorem z2b.lt {w:World} {b:Nat} {T:TypeId} {cs:List Value} (h:z2b w b T cs):b<w.heap.size:=by
 rcases Nat.lt_or_ge b w.heap.size with hb|hb
 ·exact hb
 ·simp [z2b,ye hb] at h
theorem z2b.keep {F:Nat→Prop} {w w':World} {b:Nat} {T:TypeId} {cs:List Value} (h:z2b w b T cs) (k:Ext F w w') (hf:¬F b):z2b w' b T cs :=
 (k.block b h.lt hf).trans h
theorem z2b.cell {w:World} {b:Nat} {T:TypeId} {cs:List Value} (h:z2b w b T cs) (j:Nat):w.cell? ⟨b,j,none⟩=cs[j]?:=by
 rw [cell_of_row w b j cs.toArray T (0,0) h];simp
theorem z2b.new (w:World) (T:TypeId) (cs:List Value):z2b (w.alloc (.cells cs.toArray T)) w.heap.size T cs:=heap_alloc_new w _
end Go.Lk
end
section
namespace Go.Lk
open _root_.Array renaming replicate → ya
open Go.RowKit

abbrev Env:=List (Nat × Value)
def Env.get:Env→Nat→Option Value
 | [],_=>none
 | (s,v)::r,t=>match Nat.beq s t with
  | true=>some v
  | false=>Env.get r t

structure Has (n:Nat) (L:Env) (a:Act):Prop where
 size:a.tmps.size=n
 get:∀ t v,Env.get L t=some v→a.tmps[t]? = some v

theorem Has.put {n d:Nat} {L:Env} {a:Act} {v:Value} (h:Has n L a) (hd:d<n):Has n ((d,v)::L) (a.put (some d) v):=by
 refine ⟨by simp [Act.put,h.size],fun t u hu => ?_⟩
 simp only [Act.put]
 unfold Env.get at hu
 split at hu
 ·rename_i e
  have e:=Nat.eq_of_beq_eq_true e
  subst e
  cases hu
  simp [h.size,hd]
 ·rename_i e
  have e:=Nat.ne_of_beq_eq_false e
  rw [Array.getElem?_setIfInBounds_ne e]
  exact h.get t u hu
theorem Has.same {n:Nat} {L:Env} {a:Act} {v:Value} (h:Has n L a):Has n L (a.put none v):=h
def ev (L:Env):Operand→Option Value
 | .tmp t=>Env.get L t
 | .const v=>some v
 | .global g=>some (.pointer (some ⟨g,0,none⟩))
 | .func f=>some (.func (.func f) #[] #[])
def evs (L:Env):List Operand→Option (List Value)
 | []=>some []
 | x::xs=>match ev L x,evs L xs with
  | some v,some vs=>some (v::vs)
  | _,_=>none
theorem Has.ev {n:Nat} {L:Env} {a:Act} (h:Has n L a) {x:Operand} {v:Value} (e:ev L x=some v):a.eval x=v:=by
 cases x with
 | tmp t=>simp only [Lk.ev] at e;simp [Act.eval,h.get t v e]
 | const u=>simpa [Lk.ev,Act.eval] using e
 | global g=>simpa [Lk.ev,Act.eval] using e
 | func f=>simpa [Lk.ev,Act.eval] using e
theorem Has.evs {n:Nat} {L:Env} {a:Act} (h:Has n L a):∀ {xs:List Operand} {vs:List Value},evs L xs=some vs→xs.map a.eval=vs
 | [],vs,e=>by simp [Lk.evs] at e;subst e;rfl
 | x::xs,vs,e=>by
  simp only [Lk.evs] at e
  split at e
  ·rename_i v vs' h1 h2
   cases e
   simp [h.ev h1,h.evs h2]
  ·cases e

structure Cx where
 P:Program
 f:FuncId
 fn:Func
 R:Ending→World→Prop
 hf:P.funcs[f]? = some fn
 dfr:Bool:=false     -- a deferred call
 lv:Bool:=false      -- what it has deferred is run behind a panic

def base (C:Cx):Frame:={ (default:Frame) with fn:=C.f,kind:=match C.dfr with|true => .deferred|false => .normal }
def leave (C:Cx) (fr:Frame) (w:World) (e:Ending):Prop:=match C.dfr with
 | true=>fr.kind = .deferred∧fr.going C.P w e
 | false=>fr.leaving C.P w e
theorem zen {C:Cx} {fr:Frame} {w:World} {v:Value} (hk:fr.kind=(base C).kind) (h1:fr.mode = .returning) (h2:fr.defers=[]) (hf:fr.fn=C.f) (hr:(results C.fn fr.tmps).run C.P w = .ok v w):leave C fr w (.returned v):=by
 unfold leave
 unfold base at hk
 cases hd:C.dfr<;>simp only [hd] at hk ⊢
 ·exact ⟨h1,h2,hk,C.fn,hf▸C.hf,hr⟩
 ·exact ⟨hk,h1,h2,C.fn,hf▸C.hf,hr⟩
theorem zki {C:Cx} {fr:Frame} {w:World} {ch:List PanicEntry} (hk:fr.kind=(base C).kind) (h1:fr.mode = .panicking ch) (h2:fr.defers=[]) (hf:fr.fn=C.f):leave C fr w (.panicked ch):=by
 unfold leave
 unfold base at hk
 cases hd:C.dfr<;>simp only [hd] at hk ⊢
 ·exact ⟨h1,h2,C.fn,hf▸C.hf⟩
 ·exact ⟨hk,h1,h2,C.fn,hf▸C.hf⟩

def zra (C:Cx) (cs:List Frame) (m:Machine):Prop :=
 ∃ e w' fr,C.R e w'∧Comes C.P m (lone fr cs w') e∧fr.fn=C.f∧leave C fr w' e
theorem zra.of_steps {C:Cx} {cs:List Frame} {m m':Machine} (s:Steps C.P m m') (h:zra C cs m'):zra C cs m:=by
 obtain ⟨e,w',fr,h1,h2,h3⟩:=h
 exact ⟨e,w',fr,h1,h2.of_steps s,h3⟩

def TWa (C:Cx) (todo:List Item) (a:Act) (w:World):Prop := ∀ cs,zra C cs (lone ((base C).at a todo) cs w)
def TW (C:Cx) (n:Nat) (ds:List Deferred) (todo:List Item) (L:Env) (w:World):Prop := ∀ a,Has n L a→a.defers=ds→TWa C todo a w

section
variable {C:Cx} {n:Nat} {ds:List Deferred} {k:List Item} {L:Env} {w:World}
theorem TW.skip (h:TW C n ds k L w):TW C n ds (.code .skip::k) L w:=fun a ha hd cs=>(h a ha hd cs).of_steps (.one step_skip)
theorem TW.label {l:Nat} (h:TW C n ds k L w):TW C n ds (.code (.label l)::k) L w:=fun a ha hd cs=>(h a ha hd cs).of_steps (.one step_label)
theorem TW.inBlock {i:Nat} (h:TW C n ds k L w):TW C n ds (.inBlock i::k) L w:=fun a ha hd cs=>(h a ha hd cs).of_steps (.one step_inBlock)
theorem TW.seq {x y:Code} (h:TW C n ds (.code x :: .code y::k) L w):TW C n ds (.code (.seq x y)::k) L w:=fun a ha hd cs=>(h a ha hd cs).of_steps (.one step_seq)
theorem TW.block {i:Nat} {x:Code} (h:TW C n ds (.code x :: .inBlock i::k) L w):TW C n ds (.code (.block i x)::k) L w:=fun a ha hd cs=>(h a ha hd cs).of_steps (.one step_block)
theorem TW.loop {x:Code} (h:TW C n ds (.code x :: .inLoop x::k) L w):TW C n ds (.code (.loop x)::k) L w:=fun a ha hd cs=>(h a ha hd cs).of_steps (.one step_loop)
theorem TW.inLoop {x:Code} (h:TW C n ds (.code x :: .inLoop x::k) L w):TW C n ds (.inLoop x::k) L w:=fun a ha hd cs=>(h a ha hd cs).of_steps (.one step_inLoop)
theorem TW.exit {i:Nat} {k':List Item} (he:exitTo i k=some k') (h:TW C n ds k' L w):TW C n ds (.code (.exit i)::k) L w:=fun a ha hd cs=>(h a ha hd cs).of_steps (.one (step_exit he))
theorem TW.cond {c:Operand} {x y:Code} {b:Bool} (hc:ev L c=some (.bool b)) (ht:b=true→TW C n ds (.code x::k) L w) (hf:b=false→TW C n ds (.code y::k) L w) :
  TW C n ds (.code (.cond c x y)::k) L w:=fun a ha hd cs=>by
 have s:=step_cond (P:=C.P) (b:=base C) (a:=a) (k:=k) (cs:=cs) (w:=w) (x:=x) (y:=y) (ha.ev hc)
 cases b with
 | true=>exact (ht rfl a ha hd cs).of_steps (.one s)
 | false=>exact (hf rfl a ha hd cs).of_steps (.one s)
theorem TW.zjq {c:Operand} {x y:Code} (hc:ev L c=some (.bool true)) (h:TW C n ds (.code x::k) L w):TW C n ds (.code (.cond c x y)::k) L w :=
 TW.cond hc (fun _=>h) (fun e=>by cases e)
theorem TW.zh0 {c:Operand} {x y:Code} (hc:ev L c=some (.bool false)) (h:TW C n ds (.code y::k) L w):TW C n ds (.code (.cond c x y)::k) L w :=
 TW.cond hc (fun e=>by cases e) (fun _=>h)
def Out (C:Cx) (n:Nat) (L:Env) (w:World) (v:Value):Prop := ∀ a,Has n L a→(results C.fn a.tmps).run C.P w = .ok v w
theorem TW.ret {v:Value} (hr:Out C n L w v) (h:C.R (.returned v) w):TW C n [] (.code .ret::k) L w:=fun a ha hd _ =>
 ⟨.returned v,w,_,h,.one step_ret,rfl,zen rfl rfl hd rfl (hr a ha)⟩
theorem TW.fin {v:Value} (hr:Out C n L w v) (h:C.R (.returned v) w):TW C n [] [] L w:=fun a ha hd _ =>
 ⟨.returned v,w,_,h,.one step_end,rfl,zen rfl rfl hd rfl (hr a ha)⟩
theorem Out.unit (h:C.fn.results = #[]):Out C n L w (.tuple #[]):=fun _ _=>results_none h _ _ _
def PN (C:Cx) (a:Act) (ch:List PanicEntry) (w:World):Prop:=match C.lv,C.dfr with
 | true,false=>Leaves C.P C.fn a.tmps C.R a.defers (.panicking ch) w
 | _,_=>a.defers=[]∧C.R (.panicked ch) w
theorem PN.nil {C:Cx} {a:Act} {ch:List PanicEntry} {w:World} (hd:a.defers=[]) (h:C.R (.panicked ch) w):PN C a ch w:=by
 unfold PN
 split
 ·rw [hd];exact h
 ·exact ⟨hd,h⟩
def LV (C:Cx) (n:Nat) (ds:List Deferred) (L:Env) (w:World) (u:FrameMode):Prop := ∀ a,Has n L a→a.defers=ds→Leaves C.P C.fn a.tmps C.R ds u w
theorem TW.zvd (hN:C.dfr=false) (h:LV C n ds L w .returning):TW C n ds (.code .ret::k) L w:=fun a ha hd cs=>by
 obtain ⟨e,w',fr,h1,h2,h3,h4⟩:=leaves_steps ds .returning w { (base C).at a (.code .ret::k) with mode:=.returning } cs rfl hd rfl C.hf (by simp [base,hN,Frame.at]) (h a ha hd)
 exact ⟨e,w',fr,h1,Comes.of_steps (.one step_ret) h2,h3,by unfold leave;rw [hN];exact h4⟩
def QT (C:Cx) (ds:List Deferred) (K:Act→World→Prop):Exit→Act→World→Prop
 | .normal,a,w=>a.defers=ds∧K a w
 | .panic ch,a,w=>PN C a ch w
 | _,_,_=>False
def OW (C:Cx) (n:Nat) (ds:List Deferred) (ops:Array Oper) (rest:List Oper) (k:Act→World→Prop) (L:Env) (w:World):Prop :=
 ∀ a,Has n L a→a.defers=ds→wpList C.P ops (QT C ds k) rest a w

theorem z5g {ops:Array Oper} {l:List Nat} {a:Act} (h:wpOps C.P ops (QT C ds (TWa C k)) l a w) (cs:List Frame) :
  zra C cs (lone ((base C).at a (.inRegion ops l::k)) cs w):=by
 obtain ⟨e,a',w',hq,harr⟩:=wp_ops l a w h (base C) k cs
 cases e with
 | normal=>exact (hq.2 cs).of_steps harr
 | panic ch =>
  obtain ⟨todo,hs⟩:=harr
  have hq:PN C a' ch w':=hq
  unfold PN at hq
  split at hq
  ·rename_i hl hN
   obtain ⟨e,w2,fr,h1,h2,h3,h4⟩:=leaves_steps a'.defers (.panicking ch) w' { (base C).at a' todo with mode:=.panicking ch } cs rfl rfl rfl C.hf (by simp [base,hN,Frame.at]) hq
   exact ⟨e,w2,fr,h1,Comes.of_steps hs h2,h3,by unfold leave;rw [hN];exact h4⟩
  ·exact ⟨.panicked ch,w',_,hq.2,hs,rfl,zki rfl rfl hq.1 rfl⟩
 | exit _=>exact hq.elim
 | goto _=>exact hq.elim
 | ret=>exact hq.elim
 | outgrown=>exact hq.elim
theorem TW.region {id:Nat} {l:List Oper} (h:OW C n ds l.toArray l (TWa C k) L w):TW C n ds (.code (.region id l.toArray false)::k) L w:=fun a ha hd cs=>by
 have h':=h a ha hd
 have h2:wpOps C.P l.toArray (QT C ds (TWa C k)) (List.range l.toArray.size) a w:=by
  rw [List.range_eq_range',←Array.length_toList,wpOps_eq_wpList l.toArray.toList 0 (by simp)];exact h'
 exact (z5g h2 cs).of_steps (.one step_region)
theorem OW.done {ops:Array Oper} (h:TW C n ds k L w):OW C n ds ops [] (TWa C k) L w:=fun a ha hd=>⟨hd,h a ha hd⟩
end
section
variable {C:Cx} {n:Nat} {ds:List Deferred} {k:Act→World→Prop} {L:Env} {w:World}
theorem OW.fin {ops:Array Oper} (h:∀ a,Has n L a→a.defers=ds→k a w):OW C n ds ops [] k L w:=fun a ha hd=>⟨hd,h a ha hd⟩
def EX (C:Cx) (n:Nat) (L:Env) (w:World) (o:Oper) (v:Value):Prop := ∀ a,Has n L a→(execOp a.eval o).run C.P w = .ok (.value v) w

theorem OW.val {ops:Array Oper} {o:Oper} {rest:List Oper} {d:Nat} {v:Value} {w':World} (hg:o.guard=none) (hd:o.dst=some d) (hn:Nat.blt d n=true)
  (hr:∀ a,Has n L a→(execOp a.eval o).run C.P w = .ok (.value v) w') (h:OW C n ds ops rest k ((d,v)::L) w'):OW C n ds ops (o::rest) k L w:=fun a ha hds =>
 wpList_plain hg fun K hK=>by
  unfold Oper.wp
  rw [hr a ha,Oper.upon_value,hd]
  exact hK _ _ (h _ (ha.put (by simpa [Nat.blt_eq] using hn)) (by simpa [Act.put] using hds))
theorem OW.unit {ops:Array Oper} {o:Oper} {rest:List Oper} {w':World} (hg:o.guard=none) (hd:o.dst=none)
  (hr:∀ a,Has n L a→(execOp a.eval o).run C.P w = .ok .skip w') (h:OW C n ds ops rest k L w'):OW C n ds ops (o::rest) k L w:=fun a ha hds =>
 wpList_plain hg fun K hK=>by
  unfold Oper.wp
  rw [hr a ha,Oper.upon_skip,hd]
  exact hK _ _ (h _ ha.same (by simpa [Act.put] using hds))
theorem OW.yes {ops:Array Oper} {o:Oper} {rest:List Oper} {j s:Nat} {b:Bool} (hg:o.guard=some (j,b)) (hj:(ops[j]?).bind (·.dst)=some s) (hs:Env.get L s=some (.bool b))
  (h:OW C n ds ops ({ o with guard:=none }::rest) k L w):OW C n ds ops (o::rest) k L w:=fun a ha hds=>by
 have h':=h a ha hds
 have hw:Region.wanted o (yielded ops a.tmps)=true:=by
  simp [Region.wanted,hg,yielded,hj,ha.get s _ hs]
 unfold wpList at h' ⊢
 rw [if_pos (by simp [Region.wanted])] at h'
 rw [if_pos hw]
 exact h'
def dOk (n:Nat):Option Nat→Bool
 | some d=>Nat.blt d n
 | none=>true
def zlu (C:Cx) (n:Nat) (ds:List Deferred) (ops:Array Oper) (rest:List Oper) (k:Act→World→Prop) (L:Env) (d:Option Nat):Ending→World→Prop
 | .returned v,w=>OW C n ds ops rest k (match d with|some d=>(d,v)::L|none=>L) w
 | .panicked ch,w=>∀ a,Has n L a→a.defers=ds→PN C a ch w
 | .outgrown,_=>False
theorem OW.enter {ops:Array Oper} {o:Oper} {rest:List Oper} {d:Option Nat} {g:FuncId} {args:Array Value} {w':World} (hg:o.guard=none) (hd:o.dst=d) (hn:dOk n d=true)
  (hr:∀ a,Has n L a→(execOp a.eval o).run C.P w = .ok (.enter g args) w') (h:Calls C.P g args w' (zlu C n ds ops rest k L d)):OW C n ds ops (o::rest) k L w:=fun a ha hds =>
 wpList_plain hg fun K hK=>by
  unfold Oper.wp
  rw [hr a ha,Oper.upon_enter]
  refine h.mono fun e w2 he => ?_
  cases e with
  | returned v =>
   refine hK _ _ ?_
   subst hd
   cases hdst:o.dst with
   | none=>rw [hdst] at he;exact he _ ha.same (by simpa [Act.put] using hds)
   | some d=>rw [hdst] at he hn;exact he _ (ha.put (by simpa [dOk,Nat.blt_eq] using hn)) (by simpa [Act.put] using hds)
  | panicked ch=>exact he a ha hds
  | outgrown=>exact he.elim
end

theorem z9a {P:Program} {f:FuncId} {fn:Func} {c:Code} {args:List Value} {w:World} {R:Ending→World→Prop} (lv:Bool) (hf:P.funcs[f]? = some fn) (hb:fn.body=some c)
  (L:Env) (n:Nat) (hn:fn.ntmps=n) (hl:Nat.ble args.length n=true) (hL:∀ t v,Env.get L t=some v→args[t]? = some v)
  (h:TW { P:=P,f:=f,fn:=fn,R:=R,hf:=hf,lv:=lv } n [] [.code c] L w):Calls P f args.toArray w R:=by
 intro cs
 have hl':=Nat.le_of_ble_eq_true hl
 have henter:Frame.enter P f args.toArray .normal=(base { P:=P,f:=f,fn:=fn,R:=R,hf:=hf,lv:=lv }).at { tmps:=args.toArray++ya (fn.ntmps - args.toArray.size) undef,defers:=[] } [.code c]:=by
  simp [Frame.enter,Frame.at,hf,hb,base]
 have:=h { tmps:=args.toArray++ya (fn.ntmps - args.toArray.size) undef,defers:=[] }
  ⟨by simp [hn];omega,fun t v e=>by
   have h1:=hL t v e
   have h2:t<args.length:=by
    rcases Nat.lt_or_ge t args.length with h2|h2
    ·exact h2
    ·simp [List.getElem?_eq_none h2] at h1
   simp [Array.getElem?_append,h2]
   simpa [List.getElem?_eq_getElem h2] using h1⟩ rfl cs
 rw [←henter] at this
 exact this
theorem zfp {P:Program} {f:FuncId} {fn:Func} {c:Code} {args:List Value} {w:World} {R:Ending→World→Prop} (hf:P.funcs[f]? = some fn) (hb:fn.body=some c)
  (L:Env) (n:Nat) (hn:fn.ntmps=n) (hl:Nat.ble args.length n=true) (hL:∀ t v,Env.get L t=some v→args[t]? = some v)
  (h:TW { P:=P,f:=f,fn:=fn,R:=R,hf:=hf } n [] [.code c] L w):Calls P f args.toArray w R:=z9a false hf hb L n hn hl hL h
end Go.Lk
end
