import Derived.WalkKit
import Derived.WalkSpells
import Derived.WalkLawsBesides
import Derived.Recover
import Derived.Lib.Strings
import Derived.Lib.AppendStr
import Derived.Lib.ConvBytes
import Derived.Orders
import Derived.Lib.UnsafeStr
import Derived.Lib.Builder
import Derived.Laws.Externs
import Derived.Laws.IdiomRangeMap
import Derived.Lib.FrozenHead
import Derived.Shelf.Unicode.ValidAny
import Derived.Carry
set_option linter.all false
namespace Go.Lk
open _root_.Option renaming bind_eq_some_iff → ya, getD_some → yb, map_eq_some_iff → yc, map_some → yd
open _root_.Bool renaming and_eq_true → ye, false_eq_true → yf, or_eq_true → yg
open _root_.List renaming all_eq_true → yh, any_eq_true → yi, append_nil → yj, drop_drop → yk, drop_take → yl, eq_nil_of_length_eq_zero → ym, foldl_cons → yn, length_append → yo, length_cons → yp, length_drop → yq, length_map → yr, length_take → yt, mapM_cons → yu, map_cons → yv, map_nil → yw, map_toArray → yx, mem_append → yy, mem_append_left → yz, mem_cons_self → yaa, mem_range → yab, range → yac, range' → yad, range_eq_range' → yae, take_append_of_le_length → yaf, take_take → yag, toArray → yah
open _root_.Nat renaming add_comm → yai, add_zero → yaj, beq → yak, ble → yal, blt → yam, decEq → yan, eq_of_beq_eq_true → yao, le_of_ble_eq_true → yap, le_refl → yaq, le_trans → yar, lt_of_lt_of_le → yas, lt_or_ge → yat, min_eq_left → yau, mul_le_mul_right → yav, ne_of_beq_eq_false → yaw, strongRecOn → yax, succ_mul → yay, testBit → yaz, zero_le → ya0
open _root_.Array renaming getD_eq_getD_getElem? → ya1, getElem?_eq_some_iff → ya2, getElem?_setIfInBounds_ne → ya3, length_toList → ya4, mapM_eq_mapM_toList → ya5, replicate → ya6, toList_inj → ya7, toList_setIfInBounds → ya8
open _root_.UInt8 renaming ofNat → ya9
section
open Go.RowKit
abbrev Z:=List UInt8
def NF:Nat:=4294967295
def fnV(f:Nat)(us vs:List Value):Value:=match yak f NF with|true=>.nilFunc|false=>.func (.func f) (yah us) (yah vs)
theorem zx2(f:Nat)(us vs:List Value):(fnV f us vs).oneCell'=true:=by unfold fnV;split<;>rfl
theorem zpt{f:Nat}(h:yak f NF=false)(us vs:List Value):fnV f us vs=.func (.func f) (yah us) (yah vs):=by grind[fnV]
inductive D where|int(k:IntKind)(n:Int)|bool(b:Bool)|str(s:List UInt8)|sl(T n:Nat)(l:List (List D))|val(v:Value)|fn(n:Nat)
def RD(w:World)(O:Nat→Prop):D→Value→Prop|.int k n,v=>v=.int k n|.bool b,v=>v=.bool b|.str s,v=>v=.string ⟨s.toArray⟩|.val u,v=>v=u∧u.oneCell'=true|.fn n,v=>v=fnV n [] []|.sl T n l,v=>(∃p:Option Addr,v=.slice p 0 0)∧l=[]∨∃b off cap cs,∃fr:TypeId×Nat×Nat,v=.slice (some ⟨b,off,none⟩) l.length cap∧l.length≤cap∧cap≤maxLen∧¬O b∧w.heap[b]?=some (.cells cs fr.1 fr.2)∧off+cap*n≤cs.size∧RDl n l (cs.toList.drop off)
where RDs:List D→List Value→Prop|[],vs=>vs=[]|d::ds,vs=>∃v a,vs=v::a∧RD w O d v∧RDs ds a;RDl(n:Nat):List (List D)→List Value→Prop|[],_=>True|x::xs,cs=>RDs x (cs.take n)∧RDl n xs (cs.drop n)
abbrev RDs(w:World)(O:Nat→Prop)(ds:List D)(vs:List Value):Prop:=RD.RDs w O ds vs
abbrev RDl(w:World)(O:Nat→Prop)(n:Nat)(l:List (List D))(vs:List Value):Prop:=RD.RDl w O n l vs
section
variable{w w':World}{O O':Nat→Prop}
mutual
theorem RD.keep (h:∀ b,b<w.heap.size→¬O b→w'.heap[b]? = w.heap[b]? ∧ ¬O' b):∀ (d:D) (v:Value),RD w O d v→RD w' O' d v
 | .int k n,v,r=>by grind [RD]
 | .bool b,v,r=>by grind [RD]
 | .str s,v,r=>by grind [RD]
 | .val u,v,r=>by grind [RD]
 | .fn n,v,r=>by grind [RD]
 | .sl T n l,v,r=>by
  rw [RD] at r ⊢
  rcases r with r|⟨b,off,cap,cs,fr,e,h2,f,g,i,j,m⟩
  ·exact .inl r
  ·have c:b<w.heap.size:=by
    rcases yat b w.heap.size with c|c
    ·exact c
    ·grind
   obtain ⟨k1,o⟩:=h b c g
   exact .inr ⟨b,off,cap,cs,fr,e,h2,f,o,k1.trans i,j,RDl.keep h n l _ m⟩
theorem RDs.keep (h:∀ b,b<w.heap.size→¬O b→w'.heap[b]? = w.heap[b]? ∧ ¬O' b):∀ (ds:List D) (vs:List Value),RDs w O ds vs→RDs w' O' ds vs
 | [],vs,r=>r
 | d::ds,vs,r=>by
  obtain ⟨v,a,e,h2,f⟩:=r
  exact ⟨v,a,e,RD.keep h d v h2,RDs.keep h ds a f⟩
theorem RDl.keep (h:∀ b,b<w.heap.size→¬O b→w'.heap[b]? = w.heap[b]? ∧ ¬O' b):∀ (n:Nat) (l:List (List D)) (vs:List Value),RDl w O n l vs→RDl w' O' n l vs
 | _,[],_,_=>trivial
 | n,x::xs,_,r=>⟨RDs.keep h x _ r.1,RDl.keep h n xs _ r.2⟩
end
end
mutual
theorem RD.one {w:World} {O:Nat→Prop}:∀ (d:D) (v:Value),RD w O d v→v.oneCell'=true
 | .int k n,v,r=>by simp only [RD] at r;subst r;rfl
 | .bool b,v,r=>by simp only [RD] at r;subst r;rfl
 | .str s,v,r=>by simp only [RD] at r;subst r;rfl
 | .val u,v,r=>by grind [RD]
 | .fn n,v,r=>by grind [RD,zx2]
 | .sl T n l,v,r=>by
  grind [RD,Value.oneCell']
theorem RDs.one {w:World} {O:Nat→Prop}:∀ (ds:List D) (vs:List Value),RDs w O ds vs→∀ v∈vs,v.oneCell'=true
 | [],vs,r=>by simp_all [RD.RDs]
 | d::ds,vs,r=>by
  obtain ⟨v,c,e,h2,f⟩:=r
  subst e
  intro u a
  rcases List.mem_cons.1 a with rfl|a
  ·exact RD.one d _ h2
  ·exact RDs.one ds c f u a
end
structure Ext(F:Nat→Prop)(w w':World):Prop where
 os:w'.os=w.os
 tape:w'.tape=w.tape
 output:w'.output=w.output
 size:w.heap.size≤w'.heap.size
 block:∀b,b<w.heap.size→¬F b→w'.heap[b]?=w.heap[b]?
def z0x:Nat→Prop:=fun _=>False
def At(b:Nat):Nat→Prop:=fun x=>x=b
def Ins(O:Nat→Prop)(b:Nat):Nat→Prop:=fun x=>x=b∨O x
theorem World.zhp(w:World)(o:Obj)(i:Nat)(h:i<w.heap.size):(w.alloc o).heap[i]?=w.heap[i]?:=by show(w.heap.push o)[i]?=_;grind
theorem Ext.refl(F:Nat→Prop)(w:World):Ext F w w:=⟨rfl,rfl,rfl,yaq _,fun _ _ _=>rfl⟩
theorem Ext.mono{F G:Nat→Prop}{w w':World}(h:Ext F w w')(hf:∀x,x<w.heap.size→F x→G x):Ext G w w':=⟨h.os,h.tape,h.output,h.size,fun b a c=>h.block b a fun d=>c (hf b a d)⟩
theorem Ext.trans{F:Nat→Prop}{a b c:World}(h:Ext F a b)(k:Ext F b c):Ext F a c:=⟨k.os.trans h.os,k.tape.trans h.tape,k.output.trans h.output,yar h.size k.size,fun i d hf=>(k.block i (yas d h.size) hf).trans (h.block i d hf)⟩
theorem Ext.step{F G:Nat→Prop}{a b c:World}(h:Ext F a b)(k:Ext G b c)(e:∀x,x<a.heap.size→G x→F x):Ext F a c:=⟨k.os.trans h.os,k.tape.trans h.tape,k.output.trans h.output,yar h.size k.size,fun i d hf=>(k.block i (yas d h.size) fun f=>hf (e i d f)).trans (h.block i d hf)⟩
theorem Ext.z4u{w w':World}(h:Below w.heap.size w w'):Ext z0x w w':=⟨h.os,h.tape,h.output,h.size,fun k a _=>h.block k a⟩
theorem Ext.drew(F:Nat→Prop)(w:World):Ext F w w.drew:=⟨rfl,rfl,rfl,yaq _,fun _ _ _=>rfl⟩
theorem Ext.alloc(F:Nat→Prop)(w:World)(o:Obj):Ext F w (w.alloc o):=⟨rfl,rfl,rfl,by simp,fun k a _=>World.zhp w o k a⟩
structure Tr(O:Nat→Prop)(w:World)(O':Nat→Prop)(w':World):Prop where
 size:w.heap.size≤w'.heap.size
 block:∀b,b<w.heap.size→¬O b→w'.heap[b]?=w.heap[b]?
 owned:∀b,b<w.heap.size→¬O b→¬O' b
theorem Tr.refl(O:Nat→Prop)(w:World):Tr O w O w:=⟨yaq _,fun _ _ _=>rfl,fun _ _ h=>h⟩
theorem Tr.trans{e O2 f:Nat→Prop}{a b c:World}(h:Tr e a O2 b)(k:Tr O2 b f c):Tr e a f c:=⟨yar h.size k.size,fun i d ho=>(k.block i (yas d h.size) (h.owned i d ho)).trans (h.block i d ho),fun i d ho=>k.owned i (yas d h.size) (h.owned i d ho)⟩
theorem Tr.z6e{F O:Nat→Prop}{w w':World}(h:Ext F w w')(hf:∀x,x<w.heap.size→F x→O x):Tr O w O w':=⟨h.size,fun b a ho=>h.block b a fun c=>ho (hf b a c),fun _ _ ho=>ho⟩
theorem Tr.zb7{F O:Nat→Prop}{w w':World}{b:Nat}(h:Ext F w w')(hf:∀x,x<w.heap.size→F x→O x)(f:w.heap.size≤b):Tr O w (Ins O b) w':=⟨h.size,fun c a ho=>h.block c a fun e=>ho (hf c a e),fun c a ho=>by rintro(rfl|d)<;>first|omega|exact ho d⟩
theorem Tr.drop{O O':Nat→Prop}(w:World)(h:∀x,O' x→O x):Tr O w O' w:=⟨yaq _,fun _ _ _=>rfl,fun b _ ho a=>ho (h b a)⟩
theorem RD.tr{O O':Nat→Prop}{w w':World}{d:D}{v:Value}(h:RD w O d v)(t:Tr O w O' w'):RD w' O' d v:=RD.keep (fun b a ho=>⟨t.block b a ho,t.owned b a ho⟩) d v h
theorem RDs.tr{O O':Nat→Prop}{w w':World}{d:List D}{v:List Value}(h:RDs w O d v)(t:Tr O w O' w'):RDs w' O' d v:=RDs.keep (fun b a ho=>⟨t.block b a ho,t.owned b a ho⟩) d v h
def z2z(w:World)(b:Nat)(T:TypeId)(cs:List Value):Prop:=w.heap[b]?=some (.cells cs.toArray T (0,0))
theorem z2z.lt{w:World}{b:Nat}{T:TypeId}{cs:List Value}(h:z2z w b T cs):b<w.heap.size:=by grind[z2z]
theorem z2z.keep{F:Nat→Prop}{w w':World}{b:Nat}{T:TypeId}{cs:List Value}(h:z2z w b T cs)(k:Ext F w w')(hf:¬F b):z2z w' b T cs:=(k.block b h.lt hf).trans h
theorem z2z.cell{w:World}{b:Nat}{T:TypeId}{cs:List Value}(h:z2z w b T cs)(j:Nat):w.cell? ⟨b,j,none⟩=cs[j]?:=by rw[cell_of_row w b j cs.toArray T (0,0) h];simp
theorem z2z.new(w:World)(T:TypeId)(cs:List Value):z2z (w.alloc (.cells cs.toArray T)) w.heap.size T cs:=heap_alloc_new w _
end
section
open Go.RowKit
abbrev Env:=List (Nat×Value)
def Env.get:Env→Nat→Option Value|[],_=>none|(s,v)::r,t=>match yak s t with|true=>some v|false=>Env.get r t
structure Has(n:Nat)(L:Env)(a:Act):Prop where
 size:a.tmps.size=n
 get:∀t v,Env.get L t=some v→a.tmps[t]?=some v
theorem Has.put{n d:Nat}{L:Env}{a:Act}{v:Value}(h:Has n L a)(hd:d<n):Has n ((d,v)::L) (a.put (some d) v):=by
 refine⟨by simp[Act.put,h.size],fun t u b=>?_⟩;simp only[Act.put];unfold Env.get at b;split at b;·rename_i e;have e:=yao e;subst e;cases b;simp[h.size,hd]
 ·rename_i e;have e:=yaw e;rw[ya3 e];exact h.get t u b
theorem Has.same{n:Nat}{L:Env}{a:Act}{v:Value}(h:Has n L a):Has n L (a.put none v):=h
def ev(L:Env):Operand→Option Value|.tmp t=>Env.get L t|.const v=>some v|.global g=>some (.pointer (some ⟨g,0,none⟩))|.func f=>some (.func (.func f) #[] #[])
def evs(L:Env):List Operand→Option (List Value)|[]=>some []|x::xs=>match ev L x,evs L xs with|some v,some vs=>some (v::vs)|_,_=>none
theorem Has.ev{n:Nat}{L:Env}{a:Act}(h:Has n L a){x:Operand}{v:Value}(e:ev L x=some v):a.eval x=v:=by cases x with|tmp t=>simp only[Lk.ev]at e;simp[Act.eval,h.get t v e]|const u=>grind[Lk.ev,Act.eval]|global g=>grind[Lk.ev,Act.eval]|func f=>grind[Lk.ev,Act.eval]
theorem Has.evs{n:Nat}{L:Env}{a:Act}(h:Has n L a):∀{xs:List Operand}{vs:List Value},evs L xs=some vs→xs.map a.eval=vs
 |[],vs,e=>by grind[Lk.evs]|x::xs,vs,e=>by
  simp only[Lk.evs]at e;split at e;·rename_i v c b h2;cases e;simp[h.ev b,h.evs h2]
  ·cases e
structure Cx where
 P:Program
 f:FuncId
 fn:Func
 R:Ending→World→Prop
 hf:P.funcs[f]?=some fn
 dfr:Bool:=false     --a deferred call
 lv:Bool:=false
def base(C:Cx):Frame:={(default:Frame)with fn:=C.f,kind:=match C.dfr with|true=>.deferred|false=>.normal}
def leave(C:Cx)(fr:Frame)(w:World)(e:Ending):Prop:=match C.dfr with|true=>fr.kind=.deferred∧fr.going C.P w e|false=>fr.leaving C.P w e
theorem znt{C:Cx}{fr:Frame}{w:World}{v:Value}(a:fr.kind=(base C).kind)(b:fr.mode=.returning)(h2:fr.defers=[])(hf:fr.fn=C.f)(c:(results C.fn fr.tmps).run C.P w=.ok v w):leave C fr w (.returned v):=by
 unfold leave;unfold base at a;cases hd:C.dfr<;>simp only[hd]at a⊢;·exact⟨b,h2,a,C.fn,hf▸C.hf,c⟩
 ·exact⟨a,b,h2,C.fn,hf▸C.hf,c⟩
theorem zy4{C:Cx}{fr:Frame}{w:World}{b:List PanicEntry}(a:fr.kind=(base C).kind)(c:fr.mode=.panicking b)(h2:fr.defers=[])(hf:fr.fn=C.f):leave C fr w (.panicked b):=by
 unfold leave;unfold base at a;cases hd:C.dfr<;>simp only[hd]at a⊢;·exact⟨c,h2,C.fn,hf▸C.hf⟩
 ·exact⟨a,c,h2,C.fn,hf▸C.hf⟩
def Goes(C:Cx)(cs:List Frame)(m:Machine):Prop:=∃e w' fr,C.R e w'∧Comes C.P m (lone fr cs w') e∧fr.fn=C.f∧leave C fr w' e
theorem Goes.of_steps{C:Cx}{cs:List Frame}{m a:Machine}(s:Steps C.P m a)(h:Goes C cs a):Goes C cs m:=by obtain⟨e,w',fr,b,h2,c⟩:=h;exact⟨e,w',fr,b,h2.of_steps s,c⟩
def TWa(C:Cx)(todo:List Item)(a:Act)(w:World):Prop:=∀cs,Goes C cs (lone ((base C).at a todo) cs w)
def TW(C:Cx)(n:Nat)(ds:List Deferred)(todo:List Item)(L:Env)(w:World):Prop:=∀a,Has n L a→a.defers=ds→TWa C todo a w
section
variable{C:Cx}{n:Nat}{ds:List Deferred}{k:List Item}{L:Env}{w:World}
theorem TW.skip(h:TW C n ds k L w):TW C n ds (.code .skip::k) L w:=fun a b hd cs=>(h a b hd cs).of_steps (.one step_skip)
theorem TW.label{l:Nat}(h:TW C n ds k L w):TW C n ds (.code (.label l)::k) L w:=fun a b hd cs=>(h a b hd cs).of_steps (.one step_label)
theorem TW.inBlock{i:Nat}(h:TW C n ds k L w):TW C n ds (.inBlock i::k) L w:=fun a b hd cs=>(h a b hd cs).of_steps (.one step_inBlock)
theorem TW.seq{x y:Code}(h:TW C n ds (.code x::.code y::k) L w):TW C n ds (.code (.seq x y)::k) L w:=fun a b hd cs=>(h a b hd cs).of_steps (.one step_seq)
theorem TW.block{i:Nat}{x:Code}(h:TW C n ds (.code x::.inBlock i::k) L w):TW C n ds (.code (.block i x)::k) L w:=fun a b hd cs=>(h a b hd cs).of_steps (.one step_block)
theorem TW.loop{x:Code}(h:TW C n ds (.code x::.inLoop x::k) L w):TW C n ds (.code (.loop x)::k) L w:=fun a b hd cs=>(h a b hd cs).of_steps (.one step_loop)
theorem TW.inLoop{x:Code}(h:TW C n ds (.code x::.inLoop x::k) L w):TW C n ds (.inLoop x::k) L w:=fun a b hd cs=>(h a b hd cs).of_steps (.one step_inLoop)
theorem TW.exit{i:Nat}{b:List Item}(d:exitTo i k=some b)(h:TW C n ds b L w):TW C n ds (.code (.exit i)::k) L w:=fun a c hd cs=>(h a c hd cs).of_steps (.one (step_exit d))
theorem TW.cond{c:Operand}{x y:Code}{b:Bool}(e:ev L c=some (.bool b))(f:b=true→TW C n ds (.code x::k) L w)(hf:b=false→TW C n ds (.code y::k) L w):TW C n ds (.code (.cond c x y)::k) L w:=fun a d hd cs=>by have s:=step_cond (P:=C.P) (b:=base C) (a:=a) (k:=k) (cs:=cs) (w:=w) (x:=x) (y:=y) (d.ev e);cases b with|true=>exact(f rfl a d hd cs).of_steps (.one s)|false=>exact(hf rfl a d hd cs).of_steps (.one s)
theorem TW.zwe{c:Operand}{x y:Code}(a:ev L c=some (.bool true))(h:TW C n ds (.code x::k) L w):TW C n ds (.code (.cond c x y)::k) L w:=TW.cond a (fun _=>h) fun e=>by cases e
theorem TW.zs6{c:Operand}{x y:Code}(a:ev L c=some (.bool false))(h:TW C n ds (.code y::k) L w):TW C n ds (.code (.cond c x y)::k) L w:=TW.cond a (fun e=>by cases e) fun _=>h
def Out(C:Cx)(n:Nat)(L:Env)(w:World)(v:Value):Prop:=∀a,Has n L a→(results C.fn a.tmps).run C.P w=.ok v w
theorem TW.ret{v:Value}(c:Out C n L w v)(h:C.R (.returned v) w):TW C n [] (.code .ret::k) L w:=fun a b hd _=>⟨.returned v,w,_,h,.one step_ret,rfl,znt rfl rfl hd rfl (c a b)⟩
theorem TW.fin{v:Value}(c:Out C n L w v)(h:C.R (.returned v) w):TW C n [] [] L w:=fun a b hd _=>⟨.returned v,w,_,h,.one step_end,rfl,znt rfl rfl hd rfl (c a b)⟩
theorem Out.unit(h:C.fn.results=#[]):Out C n L w (.tuple #[]):=fun _ _=>results_none h _ _ _
def PN(C:Cx)(a:Act)(b:List PanicEntry)(w:World):Prop:=match C.lv,C.dfr with|true,false=>Leaves C.P C.fn a.tmps C.R a.defers (.panicking b) w|_,_=>a.defers=[]∧C.R (.panicked b) w
theorem PN.nil{C:Cx}{a:Act}{b:List PanicEntry}{w:World}(hd:a.defers=[])(h:C.R (.panicked b) w):PN C a b w:=by
 unfold PN;split;·rw[hd];exact h
 grind
def LV(C:Cx)(n:Nat)(ds:List Deferred)(L:Env)(w:World)(u:FrameMode):Prop:=∀a,Has n L a→a.defers=ds→Leaves C.P C.fn a.tmps C.R ds u w
theorem TW.retD(d:C.dfr=false)(h:LV C n ds L w .returning):TW C n ds (.code .ret::k) L w:=fun a f hd cs=>by obtain⟨e,w',fr,b,h2,c,g⟩:=leaves_steps ds .returning w {(base C).at a (.code .ret::k)with mode:=.returning} cs rfl hd rfl C.hf (by simp[base,d,Frame.at]) (h a f hd);exact⟨e,w',fr,b,Comes.of_steps (.one step_ret) h2,c,by grind[leave]⟩
def QT(C:Cx)(ds:List Deferred)(K:Act→World→Prop):Exit→Act→World→Prop|.normal,a,w=>a.defers=ds∧K a w|.panic b,a,w=>PN C a b w|_,_,_=>False
def OW(C:Cx)(n:Nat)(ds:List Deferred)(ops:Array Oper)(rest:List Oper)(k:Act→World→Prop)(L:Env)(w:World):Prop:=∀a,Has n L a→a.defers=ds→wpList C.P ops (QT C ds k) rest a w
theorem z9c{ops:Array Oper}{l:List Nat}{a:Act}(h:wpOps C.P ops (QT C ds (TWa C k)) l a w)(cs:List Frame):Goes C cs (lone ((base C).at a (.inRegion ops l::k)) cs w):=by
 obtain⟨e,f,w',b,c⟩:=wp_ops l a w h (base C) k cs
 cases e with|normal=>exact(b.2 cs).of_steps c|panic d=>
  obtain⟨todo,g⟩:=c;have b:PN C f d w':=b;unfold PN at b;split at b;·rename_i hl m;obtain⟨e,n,fr,i,h2,j,o⟩:=leaves_steps f.defers (.panicking d) w' {(base C).at f todo with mode:=.panicking d} cs rfl rfl rfl C.hf (by simp[base,m,Frame.at]) b;exact⟨e,n,fr,i,Comes.of_steps g h2,j,by grind[leave]⟩
  ·exact⟨.panicked d,w',_,b.2,g,rfl,zy4 rfl rfl b.1 rfl⟩|exit _=>exact b.elim|goto _=>exact b.elim|ret=>exact b.elim|outgrown=>exact b.elim
theorem TW.region{id:Nat}{l:List Oper}(h:OW C n ds l.toArray l (TWa C k) L w):TW C n ds (.code (.region id l.toArray false)::k) L w:=fun a c hd cs=>by
 have b:=h a c hd;have h2:wpOps C.P l.toArray (QT C ds (TWa C k)) (yac l.toArray.size) a w:=by rw[yae,←ya4,wpOps_eq_wpList l.toArray.toList 0 (by simp)];exact b
 exact(z9c h2 cs).of_steps (.one step_region)
theorem OW.done{ops:Array Oper}(h:TW C n ds k L w):OW C n ds ops [] (TWa C k) L w:=fun a b hd=>⟨hd,h a b hd⟩
end
section
variable{C:Cx}{n:Nat}{ds:List Deferred}{k:Act→World→Prop}{L:Env}{w:World}
theorem OW.fin{ops:Array Oper}(h:∀a,Has n L a→a.defers=ds→k a w):OW C n ds ops [] k L w:=fun a b hd=>⟨hd,h a b hd⟩
def EX(C:Cx)(n:Nat)(L:Env)(w:World)(o:Oper)(v:Value):Prop:=∀a,Has n L a→(execOp a.eval o).run C.P w=.ok (.value v) w
theorem OW.val{ops:Array Oper}{o:Oper}{rest:List Oper}{d:Nat}{v:Value}{w':World}(f:o.guard=none)(hd:o.dst=some d)(hn:yam d n=true)(g:∀a,Has n L a→(execOp a.eval o).run C.P w=.ok (.value v) w')(h:OW C n ds ops rest k ((d,v)::L) w'):OW C n ds ops (o::rest) k L w:=fun a b e=>wpList_plain f fun K c=>by unfold Oper.wp;rw[g a b,Oper.upon_value,hd];exact c _ _ (h _ (b.put (by simp_all)) (by grind[Act.put]))
theorem OW.unit{ops:Array Oper}{o:Oper}{rest:List Oper}{w':World}(e:o.guard=none)(hd:o.dst=none)(f:∀a,Has n L a→(execOp a.eval o).run C.P w=.ok .skip w')(h:OW C n ds ops rest k L w'):OW C n ds ops (o::rest) k L w:=fun a b d=>wpList_plain e fun K c=>by unfold Oper.wp;rw[f a b,Oper.upon_skip,hd];exact c _ _ (h _ b.same (by grind[Act.put]))
theorem OW.yes{ops:Array Oper}{o:Oper}{rest:List Oper}{j s:Nat}{b:Bool}(f:o.guard=some (j,b))(g:ops[j]?.bind (·.dst)=some s)(i:Env.get L s=some (.bool b))(h:OW C n ds ops ({o with guard:=none}::rest) k L w):OW C n ds ops (o::rest) k L w:=fun a e d=>by
 have c:=h a e d;have l:Region.wanted o (yielded ops a.tmps)=true:=by simp[Region.wanted,f,yielded,g,e.get s _ i]
 unfold wpList at c⊢;rw[if_pos (by rfl)]at c;rw[if_pos l];exact c
def dOk(n:Nat):Option Nat→Bool|some d=>yam d n|none=>true
def CallK(C:Cx)(n:Nat)(ds:List Deferred)(ops:Array Oper)(rest:List Oper)(k:Act→World→Prop)(L:Env)(d:Option Nat):Ending→World→Prop|.returned v,w=>OW C n ds ops rest k (match d with|some d=>(d,v)::L|none=>L) w|.panicked b,w=>∀a,Has n L a→a.defers=ds→PN C a b w|.outgrown,_=>False
theorem OW.enter{ops:Array Oper}{o:Oper}{rest:List Oper}{d:Option Nat}{g:FuncId}{args:Array Value}{w':World}(l:o.guard=none)(hd:o.dst=d)(hn:dOk n d=true)(m:∀a,Has n L a→(execOp a.eval o).run C.P w=.ok (.enter g args) w')(h:Calls C.P g args w' (CallK C n ds ops rest k L d)):OW C n ds ops (o::rest) k L w:=fun a f i=>wpList_plain l fun K j=>by unfold Oper.wp;rw[m a f,Oper.upon_enter];refine h.mono fun e q c=>?_;cases e with
  |returned v=>refine j _ _ ?_;subst hd;cases b:o.dst with|none=>rw[b]at c;exact c _ f.same (by grind[Act.put])|some d=>rw[b]at c hn;exact c _ (f.put (by grind[dOk,Nat.blt_eq])) (by grind[Act.put])
  |panicked p=>exact c a f i|outgrown=>exact c.elim
end
theorem zf7{P:Program}{f:FuncId}{fn:Func}{c:Code}{args:List Value}{w:World}{R:Ending→World→Prop}(lv:Bool)(hf:P.funcs[f]?=some fn)(b:fn.body=some c)(L:Env)(n:Nat)(hn:fn.ntmps=n)(hl:yal args.length n=true)(g:∀t v,Env.get L t=some v→args[t]?=some v)(h:TW {P:=P,f:=f,fn:=fn,R:=R,hf:=hf,lv:=lv} n [] [.code c] L w):Calls P f args.toArray w R:=by
 intro cs;have d:=yap hl;have a:Frame.enter P f args.toArray .normal=(base {P:=P,f:=f,fn:=fn,R:=R,hf:=hf,lv:=lv}).at {tmps:=args.toArray++ya6 (fn.ntmps-args.toArray.size) undef,defers:=[]} [.code c]:=by simp[Frame.enter,Frame.at,hf,b,base]
 have:=h {tmps:=args.toArray++ya6 (fn.ntmps-args.toArray.size) undef,defers:=[]} ⟨by grind,fun t v e=>by grind⟩ rfl cs;rw[←a]at this;exact this
theorem zpj{P:Program}{f:FuncId}{fn:Func}{c:Code}{args:List Value}{w:World}{R:Ending→World→Prop}(hf:P.funcs[f]?=some fn)(b:fn.body=some c)(L:Env)(n:Nat)(hn:fn.ntmps=n)(hl:yal args.length n=true)(a:∀t v,Env.get L t=some v→args[t]?=some v)(h:TW {P:=P,f:=f,fn:=fn,R:=R,hf:=hf} n [] [.code c] L w):Calls P f args.toArray w R:=zf7 false hf b L n hn hl a h
end
section
open Go.RowKit
def aggD:TypeDesc→Bool|.struct _|.array _ _=>true|_=>false
def shp(P:Program)(T:TypeId):Option (Bool×Nat):=match P.underlying T,P.info? T with|some d,some i=>some (aggD d,i.size)|_,_=>none
def fld(P:Program)(T:TypeId)(i:Nat):Option (Nat×Bool×Nat):=match P.underlying T with
 |some (.struct fs)=>match fs[i]? with
  |some f=>match shp P f.type with|some (b,n)=>if n=0 then none else some (f.offset,b,n)|none=>none
  |none=>none
 |_=>none
def zer(P:Program)(T:TypeId):Option Value:=(P.info? T).bind (·.zero)
section
variable{P:Program}{w:World}
theorem z1u{T:TypeId}{b:Bool}{n:Nat}(h:shp P T=some (b,n)):(isAgg T).run P w=.ok b w∧(sizeOf T).run P w=.ok n w:=by
 unfold shp at h;split at h
 ·rename_i d i a h2;obtain⟨rfl,rfl⟩:=h;constructor;·simp only[isAgg,Sem.run_bind,run_underlying a,Result.andThen_ok];cases d<;>rfl
  ·simp[sizeOf,typeInfo,h2]
 ·cases h
theorem zz039{T:TypeId}{b:Bool}{n:Nat}(h:shp P T=some (b,n)):∃i,P.info? T=some i∧i.size=n:=by grind[shp]
theorem zbe{T:TypeId}{n:Nat}{a:Addr}{v:Value}(h:shp P T=some (false,n))(b:w.cell? a=some v):(loadVar T a).run P w=.ok v w:=by simp only[loadVar,Sem.run_bind,(z1u h).1,Result.andThen_ok];simp[b]
theorem zfv{T:TypeId}{n:Nat}{b o:Nat}{cs:List Value}(h:shp P T=some (true,n))(hn:cs.length=n)(a:∀j v,cs[j]?=some v→w.cell? ⟨b,o+j,none⟩=some v):(loadVar T ⟨b,o,none⟩).run P w=.ok (.agg cs.toArray) w:=by have hl:=run_loadCells_list (P:=P) (w:=w) ⟨b,o,none⟩ cs (fun j v e=>by grind[Addr.add_lit]);subst hn;simp only[loadVar,Sem.run_bind,(z1u h).1,Result.andThen_ok,(z1u h).2,hl,if_true];rfl
theorem zr9{T:TypeId}{i k n:Nat}{g:Bool}{b o:Nat}(h:fld P T i=some (k,g,n)):(Instr.fieldAt T (.pointer (some ⟨b,o,none⟩)) i).run P w=.ok (.pointer (some ⟨b,o+k,none⟩)) w:=by
 unfold fld at h;split at h
 ·rename_i fs a;split at h
  ·rename_i f h2;split at h
   ·rename_i d e c;split at h;·cases h
    ·rename_i hn;obtain⟨rfl,rfl,rfl⟩:=h;simp only[Instr.fieldAt,Sem.run_bind,run_underlying a,Result.andThen_ok,h2,Instr.sureAddr,Sem.run_pure,fieldPlace,(z1u c).2,if_neg hn,Addr.add_lit]
   ·cases h
  ·cases h
 ·cases h
theorem zzi{T:TypeId}{i k n:Nat}{cs:List Value}(h:fld P T i=some (k,false,n)){v:Value}(c:cs[k]?=some v):(Instr.field T (.agg cs.toArray) i).run P w=.ok v w:=by
 unfold fld at h;split at h
 ·rename_i fs a;split at h
  ·rename_i f h2;split at h
   ·rename_i d e b;split at h;·cases h
    ·obtain⟨rfl,rfl,rfl⟩:=h;simp only[Instr.field,Sem.run_bind,run_underlying a,Result.andThen_ok,h2,asAgg,Sem.run_pure,part,(z1u b).1,List.getElem?_toArray,c];rfl
   ·cases h
  ·cases h
 ·cases h
theorem zvf{T:TypeId}{i k n:Nat}{cs:List Value}(h:fld P T i=some (k,true,n)):(Instr.field T (.agg cs.toArray) i).run P w=.ok (.agg ((cs.drop k).take n).toArray) w:=by
 unfold fld at h;split at h
 ·rename_i fs b;split at h
  ·rename_i f h2;split at h
   ·rename_i c d a;split at h;·cases h
    ·obtain⟨rfl,rfl,rfl⟩:=h;simp only[Instr.field,Sem.run_bind,run_underlying b,Result.andThen_ok,h2,asAgg,Sem.run_pure,part,(z1u a).1,(z1u a).2,if_true];simp
   ·cases h
  ·cases h
 ·cases h
end
def z9d(k:IntKind)(a b:Int):Int:=k.wrap (BitVec.ofInt k.bits a&&&BitVec.ofInt k.bits b).toNat
def orI(k:IntKind)(a b:Int):Int:=k.wrap (BitVec.ofInt k.bits a|||BitVec.ofInt k.bits b).toNat
def xorI(k:IntKind)(a b:Int):Int:=k.wrap (BitVec.ofInt k.bits a^^^BitVec.ofInt k.bits b).toNat
def zw2(k:IntKind)(a b:Int):Int:=k.wrap (BitVec.ofInt k.bits a&&&~~~BitVec.ofInt k.bits b).toNat
def z7r(k:IntKind)(a b:Int):Int:=k.wrap (a*2^min b.toNat k.bits)
def zir(k:IntKind)(a b:Int):Int:=a.fdiv (2^min b.toNat k.bits)
def notI(k:IntKind)(a:Int):Int:=k.wrap (BitVec.ofInt k.bits (if k.signed then-1 else k.max)^^^BitVec.ofInt k.bits a).toNat
def ibin(op:BinOp)(k:IntKind)(a b:Int):Option Value:=match op with|.add=>some (.int k (k.wrap (a+b)))|.sub=>some (.int k (k.wrap (a-b)))|.mul=>some (.int k (k.wrap (a*b)))|.and=>some (.int k (z9d k a b))|.or=>some (.int k (orI k a b))|.xor=>some (.int k (xorI k a b))|.andNot=>some (.int k (zw2 k a b))|.eql=>some (.bool (decide (a=b)))|.neq=>some (.bool !decide (a=b))|.lss=>some (.bool (decide (a<b)))|.leq=>some (.bool (decide (a≤b)))|.gtr=>some (.bool (decide (b<a)))|.geq=>some (.bool (decide (b≤a)))|_=>none
def iquo(op:BinOp)(k:IntKind)(a b:Int):Option Value:=match op with|.quo=>some (.int k (k.wrap (a.tdiv b)))|.rem=>some (.int k (a.tmod b))|_=>none
def zz04c(op:BinOp)(k:IntKind)(a b:Int):Option Value:=match op with|.shl=>some (.int k (z7r k a b))|.shr=>some (.int k (zir k a b))|_=>none
def slt(a b:List UInt8):Bool:=Op.bytesLess a b
def sbin(op:BinOp)(a b:List UInt8):Option Value:=match op with|.eql=>some (.bool (decide (a=b)))|.neq=>some (.bool !decide (a=b))|.lss=>some (.bool (slt a b))|.leq=>some (.bool (slt a b||decide (a=b)))|.gtr=>some (.bool !(slt a b||decide (a=b)))|.geq=>some (.bool !slt a b)|_=>none
def iun(op:UnOp)(k:IntKind)(a:Int):Option Value:=match op with|.neg=>some (.int k (k.wrap (0-a)))|.xor=>some (.int k (notI k a))|_=>none
def Lo(L:Env)(b:Option Operand)(a e:Nat):Prop:=match b with|none=>a=e|some y=>∃kd i,ev L y=some (.int kd i)∧i=(a:Nat)
def LoV(b:Option Value)(a e:Nat):Prop:=match b with|none=>a=e|some y=>∃kd,y=.int kd (a:Nat)
theorem Lo.val{n:Nat}{L:Env}{c:Act}(f:Has n L c){b:Option Operand}{a e:Nat}(h:Lo L b a e):LoV (b.map c.eval) a e:=by cases b with|none=>exact h|some y=>obtain⟨kd,i,d,h2⟩:=h;exact⟨kd,by rw[f.ev d,h2]⟩
section
variable{C:Cx}{n:Nat}{ds:List Deferred}{k:Act→World→Prop}{L:Env}{w:World}{ops:Array Oper}{o:Oper}{rest:List Oper}{d:Nat}{v:Value}
theorem EX.move{x:Operand}(ho:o.op=.move x)(c:ev L x=some v):EX C n L w o v:=fun a b=>by simp[execOp,ho,b.ev c]
theorem OW.move{x:Operand}(a:o.guard=none)(hd:o.dst=some d)(hn:yam d n=true)(ho:o.op=.move x)(b:ev L x=some v)(h:OW C n ds ops rest k ((d,v)::L) w):OW C n ds ops (o::rest) k L w:=OW.val a hd hn (EX.move ho b) h
theorem EX.assign{x:Operand}(ho:o.op=.assign x)(c:ev L x=some v):EX C n L w o v:=fun a b=>by simp[execOp,ho,b.ev c]
theorem OW.assign{x:Operand}(a:o.guard=none)(hd:o.dst=some d)(hn:yam d n=true)(ho:o.op=.assign x)(b:ev L x=some v)(h:OW C n ds ops rest k ((d,v)::L) w):OW C n ds ops (o::rest) k L w:=OW.val a hd hn (EX.assign ho b) h
theorem EX.zz0at{c x y:Operand}(ho:o.op=.pick c x y)(d:ev L c=some (.bool true))(e:ev L x=some v):EX C n L w o v:=fun a b=>by simp[execOp,ho,b.ev d,b.ev e,asBool]
theorem EX.zz0as{c x y:Operand}(ho:o.op=.pick c x y)(d:ev L c=some (.bool false))(e:ev L y=some v):EX C n L w o v:=fun a b=>by simp[execOp,ho,b.ev d,b.ev e,asBool]
theorem EX.binI{op:BinOp}{t u:TypeId}{x y:Operand}{kd:IntKind}{p q:Int}(ho:o.op=.binOp op t x y u)(d:ev L x=some (.int kd p))(e:ev L y=some (.int kd q))(c:ibin op kd p q=some v):EX C n L w o v:=fun a b=>by simp only[execOp,ho,b.ev d,b.ev e,eqGuard_at_int];cases op<;>simp only[ibin,Option.some.injEq,reduceCtorEq]at c<;>subst c<;>simp[binOp,Op.intArith,Op.intBits,Op.intCmp,bne,BEq.beq,z9d,orI,xorI,zw2]
theorem EX.quoI{op:BinOp}{t u:TypeId}{x y:Operand}{kd:IntKind}{p q:Int}(ho:o.op=.binOp op t x y u)(e:ev L x=some (.int kd p))(f:ev L y=some (.int kd q))(d:q≠0)(c:iquo op kd p q=some v):EX C n L w o v:=fun a b=>by simp only[execOp,ho,b.ev e,b.ev f,eqGuard_at_int];cases op<;>simp only[iquo,Option.some.injEq,reduceCtorEq]at c<;>subst c<;>simp[binOp,Op.intDiv,d]
theorem EX.zz050{op:BinOp}{t u:TypeId}{x y:Operand}{kd g:IntKind}{p q:Int}(ho:o.op=.binOp op t x y u)(e:ev L x=some (.int kd p))(f:ev L y=some (.int g q))(h:0≤q)(d:zz04c op kd p q=some v):EX C n L w o v:=fun a c=>by
  have b:¬q<0:=by omega
  simp only[execOp,ho,c.ev e,c.ev f,eqGuard_at_int];cases op<;>simp only[zz04c,Option.some.injEq,reduceCtorEq]at d<;>subst d<;>simp[binOp,Op.shift,b,z7r,zir]
theorem EX.binS{op:BinOp}{t u:TypeId}{x y:Operand}{p q:List UInt8}(ho:o.op=.binOp op t x y u)(d:ev L x=some (.string ⟨p.toArray⟩))(f:ev L y=some (.string ⟨q.toArray⟩))(c:sbin op p q=some v):EX C n L w o v:=fun a b=>by
  have e:(p==q)=decide (p=q):=by rw[Bool.eq_iff_iff];simp
  simp only[execOp,ho,b.ev d,b.ev f,eqGuard_at_string];cases op<;>simp only[sbin,Option.some.injEq,reduceCtorEq]at c<;>subst c<;>simp[binOp,Op.stringOp,slt,e]
theorem EX.catS{t u:TypeId}{x y:Operand}{p q:List UInt8}(ho:o.op=.binOp .add t x y u)(c:ev L x=some (.string ⟨p.toArray⟩))(d:ev L y=some (.string ⟨q.toArray⟩))(hl:p.length+q.length≤9223372036854775807):EX C n L w o (.string ⟨(p++q).toArray⟩):=fun a b=>by
  have e:(⟨p.toArray⟩++⟨q.toArray⟩:ByteArray)=⟨(p++q).toArray⟩:=by apply Go.WideShapes.bytes_inj;simp
  simp only[execOp,ho,b.ev c,b.ev d,eqGuard_at_string,binOp,Sem.run_bind,Sem.run_pure,Result.andThen_ok];simp_all[run_string_add_sum,ByteArray.size]
theorem EX.binB{op:BinOp}{t u:TypeId}{x y:Operand}{p q:Bool}(ho:o.op=.binOp op t x y u)(f:C.P.underlying t=some .bool)(d:ev L x=some (.bool p))(e:ev L y=some (.bool q))(c:(match op with|.eql=>some (Value.bool (p==q))|.neq=>some (.bool ! p==q)|_=>none)=some v):EX C n L w o v:=fun a b=>by
  simp only[execOp,ho,b.ev d,b.ev e,eqGuard_at_bool];cases op<;>simp only[Option.some.injEq,reduceCtorEq]at c<;>subst c;·simp_all[run_eql_bool]
  simp_all[run_neq_bool]
theorem EX.unI{op:UnOp}{t:TypeId}{x:Operand}{kd:IntKind}{p:Int}(ho:o.op=.unOp op t x)(d:ev L x=some (.int kd p))(b:iun op kd p=some v):EX C n L w o v:=fun a c=>by simp only[execOp,ho,c.ev d];cases op<;>simp only[iun,Option.some.injEq,reduceCtorEq]at b<;>subst b<;>simp[Op.unary,Op.intArith,Op.intBits,notI]
theorem EX.notB{t:TypeId}{x:Operand}{p:Bool}(ho:o.op=.unOp .not t x)(c:ev L x=some (.bool p)):EX C n L w o (.bool !p):=fun a b=>by simp[execOp,ho,b.ev c,Op.unary]
theorem EX.convI{s t:TypeId}{f:TypeDesc}{x:Operand}{kd kt:IntKind}{p:Int}(ho:o.op=.convert s t x)(c:C.P.underlying s=some f)(d:C.P.underlying t=some (.int kt))(e:ev L x=some (.int kd p)):EX C n L w o (.int kt (kt.wrap p)):=fun a b=>by simp only[execOp,ho,b.ev e,convert,Sem.run_bind,run_underlying c,run_underlying d,Result.andThen_ok,Conv.intToInt];rfl
theorem EX.convS{s t:TypeId}{x:Operand}{p:ByteArray}(ho:o.op=.convert s t x)(c:C.P.underlying s=some .string)(d:C.P.underlying t=some .string)(e:ev L x=some (.string p)):EX C n L w o (.string p):=fun a b=>by simp only[execOp,ho,b.ev e,convert,Sem.run_bind,run_underlying c,run_underlying d,Result.andThen_ok];rfl
theorem EX.lenS{t:TypeId}{x:Operand}{p:List UInt8}(ho:o.op=.call {callee:=.builtin .len,args:=#[x],argTypes:=#[t]})(c:C.P.underlying t=some .string)(d:ev L x=some (.string ⟨p.toArray⟩)):EX C n L w o (.int .i64 (p.length:Nat)):=fun a b=>by
  have e:(⟨p.toArray⟩:ByteArray).size=p.length:=by simp[ByteArray.size]
  simp[execOp,ho,resolve,invoke,builtin,Builtin.len_,b.ev d,run_underlying c,goInt,e]
theorem EX.lenL{t e:TypeId}{x:Operand}{p:Option Addr}{l c:Nat}(ho:o.op=.call {callee:=.builtin .len,args:=#[x],argTypes:=#[t]})(d:C.P.underlying t=some (.slice e))(f:ev L x=some (.slice p l c)):EX C n L w o (.int .i64 (l:Nat)):=fun a b=>by simp[execOp,ho,resolve,invoke,builtin,Builtin.len_,b.ev f,run_underlying d,goInt]
theorem EX.zz0a7{t:TypeId}{x y:Operand}{p:List UInt8}{kd:IntKind}{i:Int}{j:Nat}{c:UInt8}(ho:o.op=.index t x y)(k:C.P.underlying t=some .string)(l:ev L x=some (.string ⟨p.toArray⟩))(m:ev L y=some (.int kd i))(h:i=(j:Nat))(g:p[j]?=some c):EX C n L w o (.int .u8 (c.toNat:Nat)):=fun a f=>by
  subst h;have b:j<p.length:=by
   rcases yat j p.length with b|b;·exact b
   ·grind
  have d:p[j]=c:=by simpa[List.getElem?_eq_getElem b]using g
  have e:(⟨p.toArray⟩:ByteArray)[j]?=some c:=by rw[getElem?_pos (⟨p.toArray⟩:ByteArray) j (by grind[ByteArray.size])];simp[←d];rfl
  simp[execOp,ho,Instr.index,f.ev l,f.ev m,asIntOf,run_underlying k,e]
theorem EX.zz0ba{t:TypeId}{x:Operand}{i h:Option Operand}{p:List UInt8}{a b:Nat}(ho:o.op=.slice t x i h none)(m:C.P.underlying t=some .string)(q:ev L x=some (.string ⟨p.toArray⟩))(d:Lo L i a 0)(c:Lo L h b p.length)(l:a≤b)(r:b≤p.length):EX C n L w o (.string ⟨((p.take b).drop a).toArray⟩):=fun k g=>by
  have e:(⟨p.toArray⟩:ByteArray).extract a b=⟨((p.take b).drop a).toArray⟩:=by apply Go.WideShapes.bytes_inj;rw[Go.Lib.extract_data];simp[yl]
  have s:(⟨p.toArray⟩:ByteArray).size=p.length:=by simp[ByteArray.size]
  have d:=d.val g;have c:=c.val g;simp only[execOp,ho,Instr.sliceAt,Sem.run_bind,run_underlying m,Result.andThen_ok,g.ev q,Instr.slice];revert d c;generalize i.map k.eval=j;generalize h.map k.eval=f;intro d c;cases j with
  |none=>simp only[LoV]at d;cases f with|none=>simp_all[LoV,Instr.sliceBounds]|some y=>obtain⟨kd,rfl⟩:=c;simp_all[Instr.sliceBounds,Instr.sliceBound,asIntOf]
  |some z=>obtain⟨u,rfl⟩:=d;cases f with|none=>simp_all[LoV,Instr.sliceBounds,Instr.sliceBound,asIntOf]|some y=>obtain⟨kd,rfl⟩:=c;simp_all[Instr.sliceBounds,Instr.sliceBound,asIntOf]
theorem EX.zz07c{t:TypeId}{td:TypeDesc}{x:Operand}{u:Value}(ho:o.op=.makeInterface t x)(d:C.P.underlying t=some td)(c:(match td with|.interface _=>false|_=>true)=true)(e:ev L x=some u):EX C n L w o (.iface t u):=fun a b=>by simp only[execOp,ho,b.ev e,Instr.makeInterface,Sem.run_bind,run_underlying d,Result.andThen_ok];cases td<;>first|rfl|cases c
theorem EX.extract{x:Operand}{i:Nat}{vs:Array Value}(ho:o.op=.extract x i)(d:ev L x=some (.tuple vs))(c:vs[i]?=some v):EX C n L w o v:=fun a b=>by simp[execOp,ho,b.ev d,Instr.extract,c]
theorem OW.extract{x:Operand}{i:Nat}{vs:Array Value}(a:o.guard=none)(hd:o.dst=some d)(hn:yam d n=true)(ho:o.op=.extract x i)(c:ev L x=some (.tuple vs))(b:vs[i]?=some v)(h:OW C n ds ops rest k ((d,v)::L) w):OW C n ds ops (o::rest) k L w:=OW.val a hd hn (EX.extract ho c b) h
theorem EX.nilCheck{x:Operand}{p:Addr}(ho:o.op=.nilCheck x)(c:ev L x=some (.pointer (some p))):EX C n L w o (.pointer (some p)):=fun a b=>by simp[execOp,ho,b.ev c]
theorem OW.nilCheck{x:Operand}{p:Addr}(a:o.guard=none)(hd:o.dst=some d)(hn:yam d n=true)(ho:o.op=.nilCheck x)(b:ev L x=some (.pointer (some p)))(h:OW C n ds ops rest k ((d,.pointer (some p))::L) w):OW C n ds ops (o::rest) k L w:=OW.val a hd hn (EX.nilCheck ho b) h
theorem EX.zz0ai{fn:Fn}{first cap:Array Operand}{vs us:List Value}(ho:o.op=.makeFunc fn first cap)(hf:evs L first.toList=some us)(c:evs L cap.toList=some vs):EX C n L w o (.func fn us.toArray vs.toArray):=fun a b=>by
  have d:first.map a.eval=us.toArray:=by apply ya7.1;simpa using b.evs hf
  have e:cap.map a.eval=vs.toArray:=by apply ya7.1;simpa using b.evs c
  simp_all[execOp,Instr.makeFunc]
def built(P:Program)(T:TypeId)(parts:List (Nat×Value)):Option (List Value):=match P.underlying T,zer P T with
 |some (.struct fs),some z=>match fs.toList.mapM fun f=>(P.info? f.type).map fun i=>(f.offset,i.size)with|some places=>(Instr.fill (places.toArray[·]?) z.cells parts).map (·.toList)|none=>none
 |_,_=>none
def evp(L:Env):List (Nat×Operand)→Option (List (Nat×Value))|[]=>some []|(i,x)::xs=>match ev L x,evp L xs with|some v,some vs=>some ((i,v)::vs)|_,_=>none
theorem Has.evp{a:Act}(h:Has n L a):∀{xs:List (Nat×Operand)}{vs:List (Nat×Value)},evp L xs=some vs→xs.map (fun p=>(p.1,a.eval p.2))=vs
 |[],vs,e=>by grind[Lk.evp]|(i,x)::xs,vs,e=>by
  simp only[Lk.evp]at e;split at e;·rename_i v c b h2;cases e;simp[h.ev b,h.evp h2]
  ·cases e
theorem zbf(P:Program)(w:World):∀(fs:List Field){places:List (Nat×Nat)},(fs.mapM fun f=>(P.info? f.type).map fun i=>(f.offset,i.size))=some places→(fs.mapM (fun f=>do pure (f.offset,←sizeOf f.type):Field→Sem (Nat×Nat))).run P w=.ok places w|[],places,h=>by simp_all|f::fs,places,h=>by cases a:P.info? f.type with|none=>grind|some i=>cases h2:fs.mapM fun f=>(P.info? f.type).map fun i=>(f.offset,i.size)with|none=>grind|some ps=>have b:=zbf P w fs h2;simp_all[sizeOf,typeInfo]
theorem EX.build{T:TypeId}{parts:Array (Nat×Operand)}{vs:List (Nat×Value)}{cs:List Value}(ho:o.op=.build T parts)(p:evp L parts.toList=some vs)(b:built C.P T vs=some cs):EX C n L w o (.agg cs.toArray):=fun a m=>by
  have e:(parts.map fun(i,x)=>(i,a.eval x))=vs.toArray:=by apply ya7.1;simpa using m.evp p
  unfold built zer at b;split at b
  ·rename_i fs z c h2;split at b
   ·rename_i places d;simp only[yc]at b;obtain⟨cs',g,rfl⟩:=b;obtain⟨i,h,j⟩:=ya.1 h2;have k:=zbf C.P w fs.toList d;have l:(fs.mapM (fun f=>do pure (f.offset,←sizeOf f.type):Field→Sem (Nat×Nat))).run C.P w=.ok places.toArray w:=by rw[ya5,Sem.run_map,k];rfl
    simp only[execOp,ho,e,Instr.build,Sem.run_bind,zeroValue,typeInfo,run_program,Result.andThen_ok,h,Sem.run_pure,j,run_underlying c,l,g]
   ·cases b
  ·cases b
end
end
section
open Go.RowKit
def Bd(O:Nat→Prop)(w:World):Prop:=∀x,O x→x<w.heap.size
theorem Bd.ext{O F:Nat→Prop}{w w':World}(h:Bd O w)(x:Ext F w w'):Bd O w':=fun b a=>yas (h b a) x.size
theorem Bd.ins{O:Nat→Prop}{w:World}{b:Nat}(h:Bd O w)(c:b<w.heap.size):Bd (Ins O b) w:=fun x a=>by
 rcases a with rfl|a;·exact c
 ·exact h x a
theorem Ext.ziu{P:Program}{w:World}{b o:Nat}{T:TypeId}{cs vs:List Value}(c:z2z w b T cs)(hl:o+vs.length≤cs.length)(a:∀v∈vs,v.oneCell'=true):∃w',(storeCells ⟨b,o,none⟩ vs).run P w=.ok () w'∧z2z w' b T (cs.take o++vs++cs.drop (o+vs.length))∧Ext (At b) w w':=by have h:=run_storeCells_at P b o T vs 0 cs.toArray w c (by omega) a;refine⟨_,h,?_,⟨rfl,rfl,rfl,by simp,fun k _ d=>setRow_other w b k _ d⟩⟩;grind[setRow_heap,z2z]
section
variable{C:Cx}{n:Nat}{ds:List Deferred}{k:Act→World→Prop}{L:Env}{w:World}{ops:Array Oper}{o:Oper}{rest:List Oper}{d:Nat}{v:Value}
theorem OW.box{T:TypeId}{x:Operand}{u:Value}{cs:List Value}(f:o.guard=none)(hd:o.dst=some d)(hn:yam d n=true)(ho:o.op=.box T x)(g:ev L x=some u)(c:u.cells=cs.toArray)(h:∀b w',z2z w' b T cs→Ext z0x w w'→w.heap.size≤b→OW C n ds ops rest k ((d,.pointer (some ⟨b,0,none⟩))::L) w'):OW C n ds ops (o::rest) k L w:=OW.val (w':=w.alloc (.cells cs.toArray T)) f hd hn fun a e=>by simp[execOp,ho,e.ev g,Instr.box,newVar,newRow,c] (h _ _ (z2z.new w T cs) (Ext.alloc _ _ _) (yaq _))
theorem OW.alloc{T:TypeId}{z:Value}{cs:List Value}(e:o.guard=none)(hd:o.dst=some d)(hn:yam d n=true)(ho:o.op=.alloc T)(f:zer C.P T=some z)(c:z.cells=cs.toArray)(h:∀b w',z2z w' b T cs→Ext z0x w w'→w.heap.size≤b→OW C n ds ops rest k ((d,.pointer (some ⟨b,0,none⟩))::L) w'):OW C n ds ops (o::rest) k L w:=OW.val (w':=w.alloc (.cells cs.toArray T)) e hd hn fun a l=>by obtain⟨i,g,j⟩:=ya.1 f;simp_all[execOp,Instr.alloc,zeroValue,typeInfo,newVar,newRow] (h _ _ (z2z.new w T cs) (Ext.alloc _ _ _) (yaq _))
theorem EX.fieldAddr{T:TypeId}{x:Operand}{i j b q m:Nat}{g:Bool}(ho:o.op=.fieldAddr T x i)(hf:fld C.P T i=some (j,g,m))(d:ev L x=some (.pointer (some ⟨b,q,none⟩))):EX C n L w o (.pointer (some ⟨b,q+j,none⟩)):=fun a c=>by simp only[execOp,ho,c.ev d,Sem.run_bind,zr9 hf,Result.andThen_ok];rfl
theorem OW.fieldAddr{T:TypeId}{x:Operand}{i j b q m:Nat}{g:Bool}(a:o.guard=none)(hd:o.dst=some d)(hn:yam d n=true)(ho:o.op=.fieldAddr T x i)(hf:fld C.P T i=some (j,g,m))(c:ev L x=some (.pointer (some ⟨b,q,none⟩)))(h:OW C n ds ops rest k ((d,.pointer (some ⟨b,q+j,none⟩))::L) w):OW C n ds ops (o::rest) k L w:=OW.val a hd hn (EX.fieldAddr ho hf c) h
theorem EX.field{T:TypeId}{x:Operand}{i j m:Nat}{cs:List Value}(ho:o.op=.field T x i)(hf:fld C.P T i=some (j,false,m))(d:ev L x=some (.agg cs.toArray))(c:cs[j]?=some v):EX C n L w o v:=fun a b=>by simp only[execOp,ho,b.ev d,Sem.run_bind,zzi hf c,Result.andThen_ok];rfl
theorem EX.zz09y{T:TypeId}{x:Operand}{i j m:Nat}{cs:List Value}(ho:o.op=.field T x i)(hf:fld C.P T i=some (j,true,m))(c:ev L x=some (.agg cs.toArray)):EX C n L w o (.agg ((cs.drop j).take m).toArray):=fun a b=>by simp only[execOp,ho,b.ev c,Sem.run_bind,zvf hf,Result.andThen_ok];rfl
theorem EX.zqh{T U:TypeId}{x:Operand}{b q m:Nat}{cs:List Value}(ho:o.op=.load T x)(c:shp C.P T=some (false,m))(g:ev L x=some (.pointer (some ⟨b,q,none⟩)))(e:z2z w b U cs)(f:cs[q]?=some v):EX C n L w o v:=fun a d=>by simp only[execOp,ho,d.ev g,Sem.run_bind,Instr.loadAt,Instr.sureAddr,Sem.run_pure,Result.andThen_ok,zbe c ((e.cell q).trans f)]
theorem OW.zqh{T U:TypeId}{x:Operand}{b q m:Nat}{cs:List Value}(e:o.guard=none)(hd:o.dst=some d)(hn:yam d n=true)(ho:o.op=.load T x)(a:shp C.P T=some (false,m))(g:ev L x=some (.pointer (some ⟨b,q,none⟩)))(c:z2z w b U cs)(f:cs[q]?=some v)(h:OW C n ds ops rest k ((d,v)::L) w):OW C n ds ops (o::rest) k L w:=OW.val e hd hn (EX.zqh ho a g c f) h
theorem EX.loadC{T:TypeId}{x:Operand}{p:Addr}{m:Nat}(ho:o.op=.load T x)(b:shp C.P T=some (false,m))(e:ev L x=some (.pointer (some p)))(d:w.cell? p=some v):EX C n L w o v:=fun a c=>by simp only[execOp,ho,c.ev e,Sem.run_bind,Instr.loadAt,Instr.sureAddr,Sem.run_pure,Result.andThen_ok,zbe b d]
theorem EX.zz0ad{T:TypeId}{x:Operand}{b q m:Nat}{vs:List Value}(ho:o.op=.load T x)(c:shp C.P T=some (true,m))(f:ev L x=some (.pointer (some ⟨b,q,none⟩)))(hl:vs.length=m)(e:∀j u,vs[j]?=some u→w.cell? ⟨b,q+j,none⟩=some u):EX C n L w o (.agg vs.toArray):=fun a d=>by simp only[execOp,ho,d.ev f,Sem.run_bind,Instr.loadAt,Instr.sureAddr,Sem.run_pure,Result.andThen_ok,zfv c hl e]
theorem OW.store{T U:TypeId}{x y:Operand}{b q m:Nat}{g:Bool}{u:Value}{cs vs cs':List Value}(l:o.guard=none)(hd:o.dst=none)(ho:o.op=.store T x y)(i:shp C.P T=some (g,m))(v:ev L x=some (.pointer (some ⟨b,q,none⟩)))(z:ev L y=some u)(t:u.cells=vs.toArray)(p:vs.length=m)(j:z2z w b U cs)(r:yal (q+vs.length) cs.length=true)(A:vs.all (·.oneCell')=true)(d:cs.take q++vs++cs.drop (q+vs.length)=cs')(h:∀w',z2z w' b U cs'→Ext (At b) w w'→OW C n ds ops rest k L w'):OW C n ds ops (o::rest) k L w:=by obtain⟨w',s,c,e⟩:=Ext.ziu (P:=C.P) (o:=q) (vs:=vs) j (yap r) (by grind);refine OW.unit (w':=w') l hd (fun a f=>?_) (h w' (d▸c) e);simp[execOp,ho,f.ev v,f.ev z,Instr.storeAt,Instr.sureAddr,storeVar,t,(z1u i).2,p,s]
end
structure EAt(w:World)(O:Nat→Prop)(b q:Nat)(cs:List Value):Prop where
 out:¬O b
 row:∃r T fr,w.heap[b]?=some (.cells r T fr)∧∀j u,cs[j]?=some u→r[q+j]?=some u
theorem EAt.at_{w:World}{O:Nat→Prop}{b q:Nat}{cs:List Value}(h:EAt w O b q cs):∀j u,cs[j]?=some u→w.cell? ⟨b,q+j,none⟩=some u:=by obtain⟨r,T,fr,a,h2⟩:=h.row;grind[cell_of_row]
theorem EAt.tr{w w':World}{O O':Nat→Prop}{b q:Nat}{cs:List Value}(h:EAt w O b q cs)(t:Tr O w O' w'):EAt w' O' b q cs:=by
 obtain⟨r,T,fr,c,h2⟩:=h.row;have a:b<w.heap.size:=by
  rcases yat b w.heap.size with a|a;·exact a
  ·grind
 exact⟨t.owned b a h.out,r,T,fr,(t.block b a h.out).trans c,h2⟩
def zf6(w:World)(O:Nat→Prop)(b q n:Nat)(x:List D):Prop:=∃cs,cs.length=n∧EAt w O b q cs∧RDs w O x cs
theorem RDl.at{w:World}{O:Nat→Prop}{n:Nat}:∀{l:List (List D)}{cs:List Value}{i:Nat}{x:List D},RDl w O n l cs→l[i]?=some x→RDs w O x ((cs.drop (i*n)).take n)|[],_,_,_,_,h=>by simp at h|y::l,cs,0,x,h,e=>by simp at e;subst e;simpa using h.1|y::l,cs,i+1,x,h,e=>by have:=RDl.at (i:=i) h.2 (by simpa using e);rw[yk]at this;rwa[yay,yai]
theorem RD.elem{w:World}{O:Nat→Prop}{T n:Nat}{l:List (List D)}{v:Value}{i:Nat}{x:List D}(h:RD w O (.sl T n l) v)(m:l[i]?=some x):∃b q cap,v=.slice (some ⟨b,q,none⟩) l.length cap∧i<l.length∧zf6 w O b (q+i*n) n x:=by
 have a:i<l.length:=by
  rcases yat i l.length with c|c;·exact c
  ·grind
 rcases h with⟨_,h⟩|⟨b,q,cap,cs,fr,d,h2,o,f,g,p,k⟩;·grind
 ·refine⟨b,q,cap,d,a,((cs.toList.drop q).drop (i*n)).take n,?_,?_,RDl.at k m⟩;·have:(i+1)*n≤cap*n:=yav n (by omega);grind
  ·refine⟨f,cs,fr.1,fr.2,g,fun j u e=>?_⟩;grind
theorem RD.len{w:World}{O:Nat→Prop}{T n:Nat}{l:List (List D)}{v:Value}(h:RD w O (.sl T n l) v):∃p c,v=.slice p l.length c:=by
 rcases h with⟨⟨p,a⟩,h2⟩|⟨b,q,cap,cs,fr,a,_⟩;·grind
 grind
theorem RDl.drop{w:World}{O:Nat→Prop}{n:Nat}:∀{l:List (List D)}{cs:List Value}(i:Nat),RDl w O n l cs→RDl w O n (l.drop i) (cs.drop (i*n))|l,cs,0,h=>by simpa using h|[],cs,i+1,_=>by simp[RDl,RD.RDl]|y::l,cs,i+1,h=>by have:=RDl.drop (n:=n) i h.2;rw[yk]at this;rw[yay,yai (i*n)];exact this
theorem RDl.take{w:World}{O:Nat→Prop}{n:Nat}:∀{l:List (List D)}{cs:List Value}(i:Nat),RDl w O n l cs→RDl w O n (l.take i) cs|l,cs,0,_=>by simp[RDl,RD.RDl]|[],cs,i+1,_=>by grind|y::l,cs,i+1,h=>⟨h.1,RDl.take (n:=n) i h.2⟩
section
variable{C:Cx}{n:Nat}{ds:List Deferred}{k:Act→World→Prop}{L:Env}{w:World}{ops:Array Oper}{o:Oper}{rest:List Oper}{d:Nat}{v:Value}
theorem EX.indexAddr{t T m:TypeId}{d:Bool}{x y:Operand}{b q len cap:Nat}{kd:IntKind}{i:Int}{j:Nat}(ho:o.op=.indexAddr t x y)(h:C.P.underlying t=some (.slice T))(e:shp C.P T=some (d,m))(k:ev L x=some (.slice (some ⟨b,q,none⟩) len cap))(l:ev L y=some (.int kd i))(f:i=(j:Nat))(g:j<len):EX C n L w o (.pointer (some ⟨b,q+j*m,none⟩)):=fun a c=>by subst f;simp[execOp,ho,c.ev k,c.ev l,Instr.indexAt,asIntOf,run_underlying h,(z1u e).2,g,Addr.add_lit]
def flat(m:Nat):Nat→List (Nat×Value)→Option (List Value)|_,[]=>some []|i,(j,v)::r=>match yak i j,yak v.cells.size m,flat m (i+1) r with|true,true,some cs=>some (v.cells.toList++cs)|_,_,_=>none
theorem zl8:∀(l:List Value)(k off:Nat)(cs:Array Value),off+k+l.length≤cs.size→(l.zipIdx k).foldl (fun cs(x:Value×Nat)=>cs.setIfInBounds (off+x.2) x.1) cs=(cs.toList.take (off+k)++l++cs.toList.drop (off+k+l.length)).toArray
 |[],k,off,cs,_=>by simp|x::l,k,off,cs,h=>by
  simp only[yp]at h;simp only[List.zipIdx_cons,yn];rw[zl8 l (k+1) off _ (by simp;omega)];simp only[ya8,yp];rw[List.take_set,List.drop_set_of_lt (by omega)];have a:(cs.toList.take (off+(k+1))).set (off+k) x=cs.toList.take (off+k)++[x]:=by rw[show off+(k+1)=off+k+1 by omega,List.take_succ_eq_append_getElem (by simp;omega),List.set_append];rw[if_neg (by simp;omega)];simp;rw[show off+k-min (off+k) cs.size=0 by omega];rfl
  grind
theorem zhd(m len:Nat):∀(r:List (Nat×Value))(i:Nat)(cs:Array Value)(out:List Value),flat m i r=some out→(i+r.length)*m≤cs.size→Instr.fill (fun i=>some (i*m,m)) cs r=some (cs.toList.take (i*m)++out++cs.toList.drop ((i+r.length)*m)).toArray∧out.length=r.length*m
 |[],i,cs,out,h,_=>by simp_all[flat,Instr.fill]|(j,v)::r,i,cs,out,h,hl=>by
  unfold flat at h;split at h
  ·rename_i cs' a h2 k;have a:=yao a;have h2:=yao h2;subst a;simp only[yp]at hl;have b:(i+1)*m≤(i+(r.length+1))*m:=yav m (by omega);rw[yay]at b;have hf:v.cells.zipIdx.foldl (fun cs(c,j)=>cs.setIfInBounds (i*m+j) c) cs=(cs.toList.take (i*m)++v.cells.toList++cs.toList.drop (i*m+v.cells.toList.length)).toArray:=by have:=zl8 v.cells.toList 0 (i*m) cs (by grind);simp only[yaj]at this;rw[←this,←Array.foldl_toList,Array.toList_zipIdx]
   have l:=zhd m len r (i+1) (cs.toList.take (i*m)++v.cells.toList++cs.toList.drop (i*m+v.cells.toList.length)).toArray cs' k (by grind);refine⟨?_,?_⟩
   ·unfold Instr.fill;have e:(cs.toList.take (i*m)).length=i*m:=by simp;omega
    have f:(cs.toList.take (i*m)++v.cells.toList).length=(i+1)*m:=by rw[yo,e,yay];simp[h2]
    have d:(i+1+r.length)*m=(i+1)*m+r.length*m:=by rw[Nat.add_mul]
    have g:(i+(r.length+1))*m=(i+1)*m+r.length*m:=by rw[←d];congr 1;omega
    have n:(cs.toList.take (i*m)++v.cells.toList++cs.toList.drop (i*m+v.cells.toList.length)).drop ((i+1+r.length)*m)=cs.toList.drop ((i+(r.length+1))*m):=by rw[List.drop_append,f,d,List.drop_eq_nil_of_le (by omega),List.nil_append,yk,g];congr 1;simp[h2,yay]
    grind
   grind
  ·cases h
theorem OW.buildSlice{t T m:TypeId}{q:Bool}{len:Nat}{z:Value}{parts:Array (Nat×Operand)}{vs:List (Nat×Value)}{cs:List Value}(y:o.guard=none)(hd:o.dst=some d)(hn:yam d n=true)(ho:o.op=.buildSlice t len parts)(p:C.P.underlying t=some (.slice T))(j:shp C.P T=some (q,m))(D:zer C.P T=some z)(_hzm:z.cells.size=m)(B:evp L parts.toList=some vs)(v:flat m 0 vs=some cs)(l:vs.length=len)(f:yal (len*m) 16777216=true)(h:∀b w',z2z w' b T cs→Ext z0x w w'→w.heap.size≤b→OW C n ds ops rest k ((d,.slice (some ⟨b,0,none⟩) len len)::L) w'):OW C n ds ops (o::rest) k L w:=OW.val (w':=w.alloc (.cells cs.toArray T)) y hd hn fun a u=>by
  have e:(parts.map fun(i,x)=>(i,a.eval x))=vs.toArray:=by apply ya7.1;simpa using u.evp B
  have c:¬len*m>2^24:=by have:=yap f;omega
  obtain⟨i,r,s⟩:=ya.1 D;have key:∀A:Array Value,A.size=len*m→Instr.fill (fun i=>some (i*m,m)) A vs=some cs.toArray:=fun A E=>by have:=(zhd m len vs 0 A cs v (by grind)).1;simp_all
  by_cases g:len*m=0;·simp only[execOp,ho,e,Instr.buildSlice,Sem.run_bind,run_underlying p,Result.andThen_ok,(z1u j).2,if_neg c,if_pos g,Sem.run_pure];rw[key _ (by simp)];simp[newRow]
  ·simp only[execOp,ho,e,Instr.buildSlice,Sem.run_bind,run_underlying p,Result.andThen_ok,(z1u j).2,if_neg c,if_neg g,Sem.run_pure,zeroValue,typeInfo,run_program,r,s];simp_all[newRow] (h _ _ (z2z.new w T cs) (Ext.alloc _ _ _) (yaq _))
end
theorem RD.zb7{w w':World}{O:Nat→Prop}{b T m len:Nat}{cs:List Value}{l:List (List D)}(a:z2z w' b T cs)(hB:Bd O w)(e:w.heap.size≤b)(hl:l.length=len)(c:len≤maxLen)(d:cs.length=len*m)(h:RDl w' O m l cs):RD w' O (.sl T m l) (.slice (some ⟨b,0,none⟩) len len):=by subst hl;exact .inr ⟨b,0,l.length,cs.toArray,(T,(0,0)),rfl,yaq _,c,fun ho=>by have:=hB b ho;omega,a,by simp[d],by simpa using h⟩
def Own(w:World)(O:Nat→Prop)(T m:Nat)(v:Value)(l:List (List D)):Prop:=∃xs,w.ownsRow 0 T m v l.length xs∧RDl w O m l xs∧(∀x∈xs,x.oneCell'=true)∧∀b,v.ownBlock=some b→O b
theorem Own.nil(w:World)(O:Nat→Prop)(T m:Nat):Own w O T m (.slice none 0 0) []:=⟨[],World.ownsRow_nil w 0 T m,trivial,by simp,by simp[Value.ownBlock]⟩
theorem RDl.tr{O O':Nat→Prop}{w w':World}{m:Nat}{d:List (List D)}{v:List Value}(h:RDl w O m d v)(t:Tr O w O' w'):RDl w' O' m d v:=RDl.keep (fun b a ho=>⟨t.block b a ho,t.owned b a ho⟩) m d v h
theorem Own.keep{w w':World}{O O' F:Nat→Prop}{T m:Nat}{v:Value}{l:List (List D)}(h:Own w O T m v l)(x:Ext F w w')(hf:∀b,v.ownBlock=some b→¬F b)(t:Tr O w O' w')(ho:∀b,O b→O' b):Own w' O' T m v l:=by
 obtain⟨xs,a,h2,d,e⟩:=h;refine⟨xs,⟨a.1,?_⟩,h2.tr t,d,fun b k=>ho b (e b k)⟩;rcases a.2 with f|⟨g,cap,cur,rfl,i,c,j⟩;·exact .inl f
 ·exact .inr ⟨g,cap,cur,rfl,i,(x.block g (ya2.1 c).1 (hf g rfl)).trans c,j⟩
def Del(O:Nat→Prop)(v:Value):Nat→Prop:=fun x=>O x∧v.ownBlock≠some x
theorem RDl.zez{w:World}{O:Nat→Prop}{m:Nat}:∀{l:List (List D)}{cs:List Value},RDl w O m l (cs.take (l.length*m))→RDl w O m l cs
 |[],_,_=>trivial|z::l,cs,a=>by
  refine⟨?_,?_⟩;·have:=a.1;rwa[yag,yau (by simp[yay])]at this
  ·have h2:=a.2;have e:(cs.take ((z::l).length*m)).drop m=(cs.drop m).take (l.length*m):=by rw[yl];congr 1;simp[yay]
   rw[e]at h2;exact RDl.zez h2
theorem Own.data{w:World}{O:Nat→Prop}{T m:Nat}{v:Value}{l:List (List D)}(h:Own w O T m v l):RD w (Del O v) (.sl T m l) v:=by
 obtain⟨xs,e,h2,_,n⟩:=h;have a:RDl w (Del O v) m l xs:=h2.tr (Tr.drop w fun x k=>k.1);rcases e.2 with⟨rfl,d⟩|⟨g,cap,cur,rfl,_,f,i,j,b,c⟩;·exact .inl ⟨⟨_,rfl⟩,ym d⟩
 ·refine .inr ⟨g,0,cap,cur,(_,(0,0)),rfl,i,j,fun ho=>ho.2 rfl,f,by simp[b],?_⟩;rw[←c]at a;exact a.zez
end
section
open Go.RowKit
theorem RDl.one{w:World}{O:Nat→Prop}{n:Nat}:∀{l:List (List D)}{cs:List Value},RDl w O n l cs→∀v∈cs.take (l.length*n),v.oneCell'=true
 |[],cs,_=>by simp|y::l,cs,h=>by
  intro v a;have e:cs.take ((y::l).length*n)=cs.take n++(cs.drop n).take (l.length*n):=by rw[yp,yay,yai,List.take_add]
  rw[e]at a;rcases yy.1 a with a|a;·exact RDs.one _ _ h.1 v a
  ·exact RDl.one h.2 v a
theorem RDl.zc4{w:World}{O:Nat→Prop}{n:Nat}:∀{l:List (List D)}{cs:List Value},RDl w O n l cs→RDl w O n l (cs.take (l.length*n))
 |[],_,_=>trivial|y::l,cs,h=>by
  refine⟨?_,?_⟩;·rw[yag,yau (by simp[yay])];exact h.1
  ·have e:(cs.take ((y::l).length*n)).drop n=(cs.drop n).take (l.length*n):=by rw[yl];congr 1;simp[yay]
   rw[e];exact RDl.zc4 h.2
theorem RDl.append{w:World}{O:Nat→Prop}{n:Nat}:∀{b l2:List (List D)}{c1 a:List Value},c1.length=b.length*n→RDl w O n b c1→RDl w O n l2 a→RDl w O n (b++l2) (c1++a)
 |[],l2,c1,a,hl,_,h2=>by have:c1=[]:=ym (by simpa using hl);subst this;simpa using h2|y::b,l2,c1,a,hl,c,h2=>by
  have hn:n≤c1.length:=by rw[hl,yp,yay];omega
  refine⟨?_,?_⟩;·rw[yaf hn];exact c.1
  ·rw[List.drop_append_of_le_length hn];exact RDl.append (by rw[yq,hl,yp,yay];omega) c.2 h2
def inf(P:Program)(T:TypeId):Option (Value×Nat×Nat):=match P.info? T with|some i=>i.zero.map fun z=>(z,i.size,i.bytes)|none=>none
theorem zhs{P:Program}{T:TypeId}{z:Value}{m by_:Nat}(h:inf P T=some (z,m,by_)):∃i,P.info? T=some i∧i.zero=some z∧i.size=m∧i.bytes=by_:=by
 unfold inf at h;split at h;·obtain⟨b,h2,a⟩:=yc.1 h;grind
 ·cases h
structure Grew(w:World)(O:Nat→Prop)(T m:Nat)(v:Value)(w':World)(O':Nat→Prop)(v':Value)(l:List (List D)):Prop where
 own:Own w' O' T m v' l
 ext:Ext (fun b=>v.ownBlock=some b) w w'
 tr:Tr O w O' w'
 more:∀b,O b→O' b
 bd:Bd O' w'
 at_:∀b,v'.ownBlock=some b→v.ownBlock=some b∨w.heap.size≤b
 only:∀b,O' b→O b∨w.heap.size≤b
theorem Own.grew{w w':World}{O:Nat→Prop}{T m:Nat}{v v':Value}{l:List (List D)}{xs:List Value}(h:Own w O T m v l)(hB:Bd O w){l2:List (List D)}{news:List Value}(k:w'.ownsRow 0 T m v' (l.length+l2.length) (xs++news))(h2:w.grownBy w' v.ownBlock)(i:xs.length=l.length*m)(c:RDl w O m l xs)(hn:RDl w O m l2 news)(d:∀u∈xs++news,u.oneCell'=true)(g:∀b,v'.ownBlock=some b→v.ownBlock=some b∨w.heap.size≤b):∃O',Grew w O T m v w' O' v' (l++l2):=by
 obtain⟨_,_,_,_,n⟩:=h;have o:∀b,v'.ownBlock=some b→b<w'.heap.size:=fun b a=>(k.lt b a).2;have f:Ext (fun b=>v.ownBlock=some b) w w':=⟨h2.os,h2.tape,h2.output,h2.size,fun b a hf=>h2.block b a fun e=>hf e.symm⟩;have j:Tr O w (fun x=>O x∨v'.ownBlock=some x) w':=⟨h2.size,fun b a ho=>f.block b a fun e=>ho (n b e),fun b a ho p=>by grind⟩;refine⟨fun x=>O x∨v'.ownBlock=some x,⟨⟨xs++news,by grind,(RDl.append i c hn).tr j,d,fun b a=>.inr a⟩,f,j,fun b a=>.inl a,fun x c=>?_,g,fun b a=>?_⟩⟩
 ·rcases c with c|c;·exact yas (hB x c) h2.size
  grind
 grind
theorem zga{P:Program}{w:World}(t ty e:TypeId)(i:TypeInfo)(z:Value)(size bytes:Nat)(x:P.underlying t=some (.slice e))(r:P.info? e=some i)(E:i.zero=some z)(p:i.size=size)(A:i.bytes=bytes)(v:Value)(n:Nat)(xs:List Value)(f:w.ownsRow 0 e size v n xs)(a:Addr)(m c:Nat)(news:List Value)(hl:news.length=m*size)(d:∀j u,news[j]?=some u→w.cell? (a.add j)=some u)(F:∀u∈news,u.oneCell'=true)(y:n+m≤maxLen)(l:(n+m)*bytes≤140737488355328){v':Value}{w':World}(D:(Builtin.append_ #[t,t] ty #[v,.slice (some a) m c]).run P w=.ok v' w'){b:Nat}(G:v'.ownBlock=some b)(J:b<w.heap.size):v.ownBlock=some b:=by
 subst p;subst A;have s:n+m≤9223372036854775807:=by simp only[maxLen]at y;omega
 rcases f.2 with⟨rfl,rfl⟩|⟨g,cap,cur,rfl,_,I,K,H,B,C⟩
 ·by_cases L:m=0
  ·have:(Builtin.append_ #[t,t] ty #[.slice none 0 0,.slice (some a) 0 c]).run P w=.ok (.slice none 0 0) w:=by simp[Builtin.append_,run_underlying x,sizeOf,typeInfo,r,Builtin.lenOf,Builtin.firstCells,loadCells,loadCellsFrom]
   grind
  ·have h:=run_append_nil (P:=P) w t ty e i z x r E a m c news hl d (by omega) (by omega) (by grind);grind[Value.ownBlock]
 ·by_cases k:n+m≤cap
  ·have q:n*i.size+news.length≤cur.size:=by rw[hl,B,←Nat.add_mul];exact yav _ k
   have h:=run_append_room (P:=P) w t ty e i x r g n cap cur I a m c news hl d F k q;rw[h]at D;cases D;exact G
  ·have o:∀j u,xs[j]?=some u→w.cell? ((⟨g,0,none⟩:Addr).add j)=some u:=f.cells (g:=g) rfl;have h:=run_append_grow (P:=P) w t ty e i z x r E ⟨g,0,none⟩ n cap xs f.1 o a m c news hl d (by omega) (by omega) (growslice_fits (by omega) l);grind[Value.ownBlock]
theorem zin{P:Program}{w:World}{O:Nat→Prop}{T m by_:Nat}{t ty:TypeId}{z:Value}{v x:Value}{l l2:List (List D)}(B:P.underlying t=some (.slice T))(S:inf P T=some (z,m,by_))(W:z.cells.size=m)(U:0<m)(s:0<by_)(h:Own w O T m v l)(hB:Bd O w)(V:RD w O (.sl T m l2) x)(n:(l.length+l2.length)*by_≤140737488355328):∃v' w' O',(Builtin.append_ #[t,t] ty #[v,x]).run P w=.ok v' w'∧Grew w O T m v w' O' v' (l++l2):=by
 obtain⟨i,E,K,L,M⟩:=zhs S;have F:=h;obtain⟨xs,o,h2,Z,h4⟩:=h;have main:∀(k:Addr)(cap:Nat)(ys:List Value),x=.slice (some k) l2.length cap→ys.length=l2.length*m→(∀j u,ys[j]?=some u→w.cell? (k.add j)=some u)→(∀u∈ys,u.oneCell'=true)→RDl w O m l2 ys→∃v' w' O',(Builtin.append_ #[t,t] ty #[v,x]).run P w=.ok v' w'∧Grew w O T m v w' O' v' (l++l2):=by
  intro k cap ys C d a f A;subst C;have G:l.length+l2.length≤140737488355328:=yar (Nat.le_mul_of_pos_right _ s) n;obtain⟨v',w',J,Q,Y,r3⟩:=run_append_own (P:=P) w 0 t ty T i z m by_ B E K L M W U v l.length xs o k l2.length cap _ d a f (by grind[maxLen]) n (ya0 _);have r:∀b,v'.ownBlock=some b→v.ownBlock=some b∨w.heap.size≤b:=by
   intro c H;rcases yat c w.heap.size with y|R
   ·left;rcases Q.2 with⟨rfl,_⟩|⟨g,cap',cur,rfl,_,hg,_⟩;·grind
    ·simp only[Value.ownBlock,Option.some.injEq]at H;subst H;exact zga (P:=P) t ty T i z m by_ B E K L M v l.length xs o k l2.length cap _ d a f (by omega) n J rfl y
   ·omega
  obtain⟨O',hG⟩:=F.grew hB Q Y o.1 h2 A fun u hu=>by grind r;exact⟨v',w',O',J,hG⟩
 rcases V with⟨⟨p,rfl⟩,rfl⟩|⟨b,q,cap,cs,fr,rfl,X,k3,k4,k5,k6,N⟩;·cases p with|none=>refine⟨v,w,O,run_append_owned_none w 0 t ty T i m B E v l.length xs o,?_⟩;simp only[yj];exact⟨F,Ext.refl _ _,Tr.refl O w,fun _ h=>h,hB,fun b n=>.inl n,fun b n=>.inl n⟩|some k=>exact main k 0 [] rfl (by simp) (by simp) (by simp) trivial
 ·have I:l2.length*m≤cap*m:=yav m X;have d:((cs.toList.drop q).take (l2.length*m)).length=l2.length*m:=by simp;omega
  have a:∀j u,((cs.toList.drop q).take (l2.length*m))[j]?=some u→w.cell? ((⟨b,q,none⟩:Addr).add j)=some u:=fun j u e=>by grind[Addr.add_lit,cell_of_row]
  exact main ⟨b,q,none⟩ cap _ rfl d a (RDl.one N) (RDl.zc4 N)
theorem zaj{P:Program}{w:World}(t u ty e:TypeId)(i:TypeInfo)(f:P.underlying t=some (.slice e))(g:P.underlying u=some .string)(d:P.info? e=some i)(h:i.zero=some (.int .u8 0))(_hs:i.size=1)(c:i.bytes=1)(s:ByteArray)(a:0<s.size)(j:s.size≤140737488355328):(Builtin.append_ #[t,u] ty #[.slice none 0 0,.string s]).run P w=.ok (.slice (some ⟨w.heap.size,0,none⟩) s.size (grownCap w s.size 0 e)) (w.drew.alloc (.cells (s.data.map (fun b=>Value.int .u8 b.toNat)++Builtin.zeroCells (Value.int .u8 0).cells (grownCap w s.size 0 e-s.size)) e)):=run_append_nil_string w t u ty e i _ f g d h s a (by omega) (by grind)
def zc7(b:UInt8):List D:=[.int .u8 (b.toNat:Nat)]
theorem z6v{w:World}{O:Nat→Prop}:∀(s:List UInt8),RDl w O 1 (s.map zc7) (s.map fun b=>Value.int .u8 (b.toNat:Nat))|[]=>trivial|b::s=>⟨⟨_,_,rfl,rfl,rfl⟩,by simpa using z6v s⟩
theorem zcj{P:Program}{w:World}{O:Nat→Prop}{T:Nat}{t u ty:TypeId}{v:Value}{l:List (List D)}{s:List UInt8}(k:P.underlying t=some (.slice T))(a:P.underlying u=some .string)(G:inf P T=some (.int .u8 0,1,1))(h:Own w O T 1 v l)(hB:Bd O w)(Q:l.length+s.length≤140737488355328):∃v' w' O',(Builtin.append_ #[t,u] ty #[v,.string ⟨s.toArray⟩]).run P w=.ok v' w'∧Grew w O T 1 v w' O' v' (l++s.map zc7):=by
 obtain⟨i,m,p,q,x⟩:=zhs G;have z:=h;obtain⟨xs,f,h2,y,N⟩:=h;have K:(⟨s.toArray⟩:ByteArray).size=s.length:=by simp[ByteArray.size]
 have J:Lib.strCells ⟨s.toArray⟩=s.map fun b=>Value.int .u8 (b.toNat:Nat):=by simp[Lib.strCells]
 obtain⟨v',w',r,S,L,U⟩:=Lib.run_append_own_string (P:=P) (ty:=ty) w 0 t u T i k a m p q x v l.length xs f ⟨s.toArray⟩ (by grind[maxLen]) (by omega) (ya0 _);have n:∀b,v'.ownBlock=some b→v.ownBlock=some b∨w.heap.size≤b:=by
  intro c A;rcases yat c w.heap.size with H|F
  ·left;rcases f.2 with⟨rfl,M⟩|⟨g,cap,cur,rfl,_,E,I,B,C,o⟩
   ·by_cases R:s.length=0;·grind
    ·have h:=zaj (P:=P) (w:=w) t u ty T i k a m p q x ⟨s.toArray⟩ (by omega) (by omega);grind[Value.ownBlock]
   ·by_cases e:l.length+(⟨s.toArray⟩:ByteArray).size≤cap;·have h:=Lib.run_append_room_string (P:=P) (ty:=ty) w t u T i k a m q g l.length cap cur E ⟨s.toArray⟩ e (by omega);rw[h]at r;cases r;exact A
    ·have d:∀j u,xs[j]?=some u→w.cell? ((⟨g,0,none⟩:Addr).add j)=some u:=f.cells (g:=g) rfl;have h:=Lib.run_append_grow_string (P:=P) (ty:=ty) w t u T i _ k a m p ⟨g,0,none⟩ l.length cap xs (by grind) d ⟨s.toArray⟩ (by omega) (by omega) (growslice_fits (by omega) (by grind));grind[Value.ownBlock]
  ·omega
 obtain⟨O',hG⟩:=z.grew hB (l2:=s.map zc7) (by grind) L f.1 h2 (z6v s) fun u a=>by
  rcases yy.1 a with a|a;·exact y u a
  ·obtain⟨b,_,rfl⟩:=List.mem_map.1 a;rfl n;grind
section
variable{C:Cx}{n:Nat}{ds:List Deferred}{k:Act→World→Prop}{L:Env}{w:World}{ops:Array Oper}{o:Oper}{rest:List Oper}{d:Nat}{v:Value}
theorem OW.zw4{O:Nat→Prop}{t T m by_:Nat}{x y:Operand}{z e g:Value}{l l2:List (List D)}(p:o.guard=none)(hd:o.dst=some d)(hn:yam d n=true)(ho:o.op=.call {callee:=.builtin .append,args:=#[x,y],argTypes:=#[t,t]})(s:C.P.underlying t=some (.slice T))(q:inf C.P T=some (z,m,by_))(B:z.cells.size=m)(E:yam 0 m=true)(j:yam 0 by_=true)(u:ev L x=some e)(A:ev L y=some g)(c:Own w O T m e l)(hB:Bd O w)(b:RD w O (.sl T m l2) g)(i:(l.length+l2.length)*by_≤140737488355328)(h:∀v' w' O',Grew w O T m e w' O' v' (l++l2)→OW C n ds ops rest k ((d,v')::L) w'):OW C n ds ops (o::rest) k L w:=by obtain⟨v',w',O',r,hG⟩:=zin (ty:=o.type) s q B (by simp_all) (by simp_all) c hB b i;refine OW.val (v:=v') (w':=w') p hd hn (fun a f=>?_) (h v' w' O' hG);simp only[execOp,ho,resolve,invoke,builtin,Sem.run_bind,Sem.run_pure,Result.andThen_ok,yx,yv,yw,f.ev u,f.ev A,r]
theorem OW.zz05i{O:Nat→Prop}{t u T:Nat}{x y:Operand}{c:Value}{l:List (List D)}{s:List UInt8}(g:o.guard=none)(hd:o.dst=some d)(hn:yam d n=true)(ho:o.op=.call {callee:=.builtin .append,args:=#[x,y],argTypes:=#[t,u]})(m:C.P.underlying t=some (.slice T))(p:C.P.underlying u=some .string)(i:inf C.P T=some (.int .u8 0,1,1))(q:ev L x=some c)(r:ev L y=some (.string ⟨s.toArray⟩))(b:Own w O T 1 c l)(hB:Bd O w)(f:l.length+s.length≤140737488355328)(h:∀v' w' O',Grew w O T 1 c w' O' v' (l++s.map zc7)→OW C n ds ops rest k ((d,v')::L) w'):OW C n ds ops (o::rest) k L w:=by obtain⟨v',w',O',j,hG⟩:=zcj (ty:=o.type) m p i b hB f;refine OW.val (v:=v') (w':=w') g hd hn (fun a e=>?_) (h v' w' O' hG);simp only[execOp,ho,resolve,invoke,builtin,Sem.run_bind,Sem.run_pure,Result.andThen_ok,yx,yv,yw,e.ev q,e.ev r,j]
def RV(C:Cx)(L:Env)(w:World)(r:ResultVar)(v:Value):Prop:=match r with|.tmp t=>Env.get L t=some v|.cell t T=>∃b U cs g m,Env.get L t=some (.pointer (some ⟨b,0,none⟩))∧shp C.P T=some (g,m)∧z2z w b U cs∧cs.length=m∧match g with|true=>v=.agg cs.toArray|false=>cs[0]?=some v
def RVs(C:Cx)(L:Env)(w:World):List ResultVar→List Value→Prop|[],vs=>vs=[]|r::rs,vs=>∃v a,vs=v::a∧RV C L w r v∧RVs C L w rs a
def zv9(a:Act):ResultVar→Sem Value|.tmp t=>pure (a.tmps.getD t undef)|.cell p t=>do loadVar t (←asAddr (a.tmps.getD p undef))
theorem zkn(fn:Func)(a:Act):results fn a.tmps=(do let vs←fn.results.mapM (zv9 a);pure (if h:vs.size=1 then vs[0]else .tuple vs)):=rfl
theorem RV.run{a:Act}(c:Has n L a){r:ResultVar}{v:Value}(d:RV C L w r v):(zv9 a r).run C.P w=.ok v w:=by cases r with|tmp t=>simp[zv9,c.get t v d]|cell p T=>obtain⟨b,U,cs,g,m,k1,f,k3,i,h⟩:=d;cases g with|true=>subst h;have h2:=zfv (P:=C.P) (w:=w) (b:=b) (o:=0) f i (fun j v e=>by rw[Nat.zero_add,k3.cell];exact e);simp[zv9,c.get p _ k1,asAddr,h2]|false=>have h2:=zbe (P:=C.P) (w:=w) (a:=⟨b,0,none⟩) f ((k3.cell 0).trans h);simp[zv9,c.get p _ k1,asAddr,h2]
theorem RVs.run{a:Act}(b:Has n L a):∀{rs:List ResultVar}{vs:List Value},RVs C L w rs vs→(rs.mapM (zv9 a)).run C.P w=.ok vs w|[],vs,h=>by simp_all[RVs]|r::rs,vs,h=>by obtain⟨v,e,rfl,c,h2⟩:=h;have d:=RVs.run b h2;simp only[yu,Sem.run_bind,c.run b,d,Result.andThen_ok,Sem.run_pure]
theorem Out.many{rs:List ResultVar}{vs:List Value}(h:C.fn.results=rs.toArray)(c:RVs C L w rs vs)(d:yak vs.length 1=false):Out C n L w (.tuple vs.toArray):=fun a b=>by have h2:=RVs.run (C:=C) b c;grind[yaw,zkn,Sem.run_bind,Sem.run_map,Result.andThen_ok,Sem.run_pure]
theorem Out.single{r:ResultVar}{v:Value}(h:C.fn.results=#[r])(c:RV C L w r v):Out C n L w v:=fun a b=>by rw[zkn];simp only[h,Sem.run_bind];simp[RV.run b c]
end
theorem Own.len{w:World}{O:Nat→Prop}{T m:Nat}{v:Value}{l:List (List D)}(h:Own w O T m v l):∃p c,v=.slice p l.length c:=by
 obtain⟨xs,a,_⟩:=h;rcases a.2 with⟨rfl,b⟩|⟨g,cap,cur,rfl,_⟩;·grind
 simp
theorem Own.zb7{w':World}{O:Nat→Prop}{b T m len:Nat}{cs:List Value}{l:List (List D)}(d:z2z w' b T cs)(hl:l.length=len)(e:len≤maxLen)(a:cs.length=len*m)(h:RDl w' O m l cs)(ho:O b):Own w' O T m (.slice (some ⟨b,0,none⟩) len len) l:=by subst hl;refine⟨cs,⟨a,.inr ⟨b,l.length,cs.toArray,rfl,ya0 _,d,yaq _,e,by simp[a],by simp[←a]⟩⟩,h,fun x g=>RDl.one h x (by grind),fun c f=>by grind[Value.ownBlock]⟩
end
section
open Go.RowKit
theorem bnd{α β:Type}{x:Option α}{f:α→Option β}{r:β}(h:x>>=f=some r):∃a,x=some a∧f a=some r:=by cases x with|none=>cases h|some a=>grind
inductive Jn(R α:Type)where|done(r:R)|go(a:α)
def chk(b:Bool):Option Unit:=if b then some ()else none
theorem z7f{b:Bool}{u:Unit}(h:chk b=some u):b=true:=by cases b with|true=>rfl|false=>cases h
def ix{α:Type}(l:List α)(i:Int):Option α:=if 0≤i then l[i.toNat]? else none
theorem zxs{α:Type}{l:List α}{i:Int}{x:α}(h:ix l i=some x):∃j:Nat,i=(j:Nat)∧l[j]?=some x:=by grind[ix]
def sub{α:Type}(l:List α)(a b:Int):Option (List α):=if 0≤a∧a≤b∧b≤(l.length:Int)then some ((l.take b.toNat).drop a.toNat)else none
theorem zmb{α:Type}{l:List α}{a b:Int}{x:List α}(h:sub l a b=some x):∃p q:Nat,a=(p:Nat)∧b=(q:Nat)∧p≤q∧q≤l.length∧x=(l.take q).drop p:=by unfold sub at h;grind
def cat(a b:List UInt8):Option (List UInt8):=if a.length+b.length≤9223372036854775807 then some (a++b)else none
theorem zz014{a b x:List UInt8}(h:cat a b=some x):x=a++b∧a.length+b.length≤9223372036854775807:=by unfold cat at h;grind
def app{α:Type}(by_:Nat)(l l2:List α):Option (List α):=if(l.length+l2.length)*by_≤140737488355328 then some (l++l2)else none
theorem zrz{α:Type}{by_:Nat}{l l2 x:List α}(h:app by_ l l2=some x):x=l++l2∧(l.length+l2.length)*by_≤140737488355328:=by unfold app at h;grind
def eI(k:IntKind)(n:Int):List D:=[.int k n]
def eB(b:Bool):List D:=[.bool b]
def eS(s:List UInt8):List D:=[.str s]
section
variable{α:Type}{f:α→List D}{l:List α}{w:World}{O:Nat→Prop}{T n:Nat}{v:Value}
end
section
variable{C:Cx}{n:Nat}{ds:List Deferred}{k:Act→World→Prop}{L:Env}{w:World}{ops:Array Oper}{o:Oper}{rest:List Oper}{d:Nat}{v:Value}
theorem EX.zka{t T m:TypeId}{a:Bool}{x y:Operand}{b q len cap:Nat}{kd:IntKind}{i:Int}{j:Nat}{u:Value}(ho:o.op=.indexAddr t x y)(f:C.P.underlying t=some (.slice T))(c:shp C.P T=some (a,m))(h:ev L x=some u)(g:u=.slice (some ⟨b,q,none⟩) len cap)(k:ev L y=some (.int kd i))(d:i=(j:Nat))(e:j<len):EX C n L w o (.pointer (some ⟨b,q+j*m,none⟩)):=EX.indexAddr ho f c (by rw[h,g]) k d e
theorem EX.lenV{t e:TypeId}{x:Operand}{u:Value}{l:Nat}(ho:o.op=.call {callee:=.builtin .len,args:=#[x],argTypes:=#[t]})(a:C.P.underlying t=some (.slice e))(d:ev L x=some u)(b:∃p c,u=.slice p l c):EX C n L w o (.int .i64 (l:Nat)):=by grind[EX.lenL]
end
def setx{α:Type}(l:List α)(i:Int)(a:α):Option (List α):=if 0≤i∧i<l.length then some (l.set i.toNat a)else none
theorem zzn{α:Type}{l b:List α}{i:Int}{a:α}{j:Nat}(h:setx l i a=some b)(c:i=(j:Nat)):b=l.set j a:=by grind[setx]
def unb(s:List UInt8):List Int:=s.map fun b=>(b.toNat:Int)
def byt(l:List Int):List UInt8:=l.map fun n=>ya9 n.toNat
theorem zz07j{w:World}{O:Nat→Prop}{k:IntKind}{x:Int}{cs:List Value}(h:RDs w O (eI k x) cs):cs=[.int k x]:=by obtain⟨v,r,rfl,a,rfl⟩:=h;grind[RD]
theorem zz07k{w:World}{O:Nat→Prop}{x:List UInt8}{cs:List Value}(h:RDs w O (eS x) cs):cs=[.string ⟨yah x⟩]:=by obtain⟨v,r,rfl,a,rfl⟩:=h;grind[RD]
theorem Own.mem{w:World}{O:Nat→Prop}{T m:Nat}{v:Value}{l:List (List D)}(h:Own w O T m v l):∀b,v.ownBlock=some b→O b:=by obtain⟨_,_,_,_,h⟩:=h;exact h
theorem Own.down{w:World}{O O':Nat→Prop}{T m:Nat}{v:Value}{l:List (List D)}(h:Own w O T m v l)(ho:∀x,O' x→O x)(d:∀b,v.ownBlock=some b→O' b):Own w O' T m v l:=by obtain⟨xs,a,h2,c,_⟩:=h;exact⟨xs,a,h2.tr (Tr.drop w ho),c,d⟩
section
variable{C:Cx}{n:Nat}{ds:List Deferred}{k:Act→World→Prop}{L:Env}{w:World}{ops:Array Oper}{o:Oper}{rest:List Oper}{d:Nat}{v:Value}
theorem OW.toBytes{O:Nat→Prop}{t u T:TypeId}{x:Operand}{s:List UInt8}(i:o.guard=none)(hd:o.dst=some d)(hn:yam d n=true)(ho:o.op=.convert t u x)(l:C.P.underlying t=some .string)(m:C.P.underlying u=some (.slice T))(c:C.P.underlying T=some (.int .u8))(p:ev L x=some (.string ⟨s.toArray⟩))(hB:Bd O w)(q:s.length≤9223372036854775807)(h:∀v' w',Ext z0x w w'→RD w' O (.sl T 1 ((unb s).map (eI .u8))) v'→OW C n ds ops rest k ((d,v')::L) w'):OW C n ds ops (o::rest) k L w:=by
 have j:(⟨s.toArray⟩:ByteArray).size=s.length:=by simp[ByteArray.size]
 refine OW.val (v:=.slice (some ⟨w.heap.size,0,none⟩) s.length (grownCap w s.length 0 T)) (w':=Lib.bytesWorld w T ⟨s.toArray⟩) i hd hn (fun a f=>?_) (h _ _ ?_ ?_);·have:=Lib.run_convert_string_bytes (P:=C.P) w t u T ⟨s.toArray⟩ l m c;simp only[execOp,ho,f.ev p,Sem.run_bind,this,Result.andThen_ok];rfl
 ·refine⟨?_,?_,?_,?_,fun b g _=>Lib.bytesWorld_at_old w T _ b g⟩;·rfl
  ·rfl
  ·rfl
  grind[Lib.bytesWorld_size]
 ·refine .inr ⟨w.heap.size,0,grownCap w s.length 0 T,_,(_,_),by simp[unb],by grind[unb,grownCap_ge],grownCap_le_maxLen w _ 0 T (by grind[maxLen]),fun ho=>Nat.lt_irrefl _ (hB _ ho),Lib.bytesWorld_at_new w T _,?_,?_⟩;·grind[Lib.bytesCells]
  ·have e:(unb s).map (eI .u8)=s.map zc7:=by simp[unb,zc7,eI]
   grind[RDl.zez,Lib.bytesCells,z6v]
theorem RDl.u8{O:Nat→Prop}:∀{l:List Int}{cs:List Value},RDl w O 1 (l.map (eI .u8)) cs→l.length≤cs.length→cs.take l.length=l.map (Value.int .u8)|[],_,_,_=>by simp|x::l,[],_,hl=>by simp at hl|x::l,c::cs,h,hl=>by have a:=zz07j h.1;have h2:=RDl.u8 (l:=l) (cs:=cs) (by simpa using h.2) (by grind);grind
theorem ztg:∀(l:List Int)(a:List UInt8),l.foldl (fun r n=>ByteArray.push r (ya9 n.toNat)) ⟨a.toArray⟩=⟨(a++byt l).toArray⟩
 |[],a=>by simp[byt]|x::l,a=>by
  have e:ByteArray.push ⟨a.toArray⟩ (ya9 x.toNat)=⟨(a++[ya9 x.toNat]).toArray⟩:=by simp[ByteArray.push]
  rw[yn,e,ztg l];simp[byt]
theorem EX.toStr{O:Nat→Prop}{t u T:TypeId}{x:Operand}{l:List Int}{m:Value}(ho:o.op=.convert t u x)(h:C.P.underlying t=some (.slice T))(f:C.P.underlying T=some (.int .u8))(i:C.P.underlying u=some .string)(k:ev L x=some m)(s:RD w O (.sl T 1 (l.map (eI .u8))) m):EX C n L w o (.string ⟨yah (byt l)⟩):=fun a g=>by
  rcases s with⟨⟨p,rfl⟩,h2⟩|⟨b,q,cap,cs,fr,rfl,h2,z,A,B,D,r⟩
  ·have:l=[]:=by simpa using h2
   subst this;simp only[execOp,ho,g.ev k,Sem.run_bind,run_convert_bytes_string w t u T p 0 0 h f i];cases p with|none=>rfl|some y=>rfl
  ·rw[yr]at h2;have E:(cs.toList.drop q).take l.length=l.map (Value.int .u8):=RDl.u8 r (by simp;omega);have d:=run_loadCells_list (P:=C.P) (w:=w) ⟨b,q,none⟩ (l.map (Value.int .u8)) (fun j v e=>by grind[Addr.add_lit,cell_of_row]);rw[yr]at d;have c:=run_bytesToString (P:=C.P) w ⟨b,q,none⟩ l.length cap l d;have e:=ztg l [];rw[show ByteArray.empty=(⟨yah []⟩:ByteArray)from rfl,e]at c;simp only[yr]at*;simp only[execOp,ho,g.ev k,Sem.run_bind,run_convert_bytes_string w t u T _ l.length cap h f i,c,Result.andThen_ok];rfl
theorem OW.toStr{O:Nat→Prop}{t u T:TypeId}{x:Operand}{l:List Int}{a:Value}(c:o.guard=none)(hd:o.dst=some d)(hn:yam d n=true)(ho:o.op=.convert t u x)(f:C.P.underlying t=some (.slice T))(b:C.P.underlying T=some (.int .u8))(g:C.P.underlying u=some .string)(i:ev L x=some a)(e:RD w O (.sl T 1 (l.map (eI .u8))) a)(h:OW C n ds ops rest k ((d,.string ⟨yah (byt l)⟩)::L) w):OW C n ds ops (o::rest) k L w:=OW.val c hd hn (EX.toStr ho f b g i e) h
end
def zja:Nat→List Value→Env|_,[]=>[]|i,v::vs=>(i,v)::zja (i+1) vs
theorem zdg:∀(vs:List Value)(i t:Nat)(v:Value),Env.get (zja i vs) t=some v→i≤t∧vs[t-i]?=some v
 |[],_,_,_,h=>by cases h|u::vs,i,t,v,h=>by
  unfold zja Env.get at h;split at h;·simp_all
  ·obtain⟨a,h2⟩:=zdg vs (i+1) t v h;grind
theorem zkz{P:Program}{f:FuncId}{fn:Func}{c:Code}{args:List Value}{w:World}{R:Ending→World→Prop}(hf:P.funcs[f]?=some fn)(a:fn.body=some c)(n:Nat)(hn:fn.ntmps=n)(hl:yal args.length n=true)(h:TW {P:=P,f:=f,fn:=fn,R:=R,hf:=hf} n [] [.code c] (zja 0 args) w):Calls P f args.toArray w R:=zpj hf a _ n hn hl (fun t v e=>by simpa using(zdg args 0 t v e).2) h
theorem zmt{P:Program}{f:FuncId}{fn:Func}{c:Code}{args:List Value}{w:World}{R:Ending→World→Prop}(hf:P.funcs[f]?=some fn)(a:fn.body=some c)(n:Nat)(hn:fn.ntmps=n)(hl:yal args.length n=true)(h:TW {P:=P,f:=f,fn:=fn,R:=R,hf:=hf,lv:=true} n [] [.code c] (zja 0 args) w):Calls P f args.toArray w R:=zf7 true hf a _ n hn hl (fun t v e=>by simpa using(zdg args 0 t v e).2) h
theorem Own.lt{w:World}{O:Nat→Prop}{T m:Nat}{v:Value}{l:List (List D)}(h:Own w O T m v l):∀b,v.ownBlock=some b→b<w.heap.size:=by obtain⟨xs,a,_⟩:=h;exact fun b c=>(a.lt b c).2
end
section
open Go.RowKit
def zjl(o:Oper):List Nat:=(o.after.toList.filter (Region.binds .any ·)).map (·.on)
abbrev Anc:=List Nat
def behind(anc:Anc)(i j:Nat):Bool:=yaz (anc.getD i 0) j
def ancOf(anc:Anc):List Nat→Nat→Nat|[],m=>m|p::ps,m=>ancOf anc ps (m|||1<<<p|||anc.getD p 0)
def zyo(ops:Array Oper)(anc:Anc):Bool:=(yac ops.size).all fun i=>(ops[i]?.map fun o=>yak (anc.getD i 0) (ancOf anc (zjl o) 0)).getD false
def z9l(ops:Array Oper)(i:Nat):Option Tmp:=ops[i]?.bind (·.dst)
inductive Gt where|fin|one(e:Nat)(kp qs:List Nat)(sub:Gt)|alt(e:Nat)(kp qs:List Nat)(sub rest:Gt)
def Gt.zpx:Gt→List Nat|.fin=>[]|.one e _ _ _=>[e]|.alt e _ _ _ r=>e::r.zpx
def Gt.pick:Gt→Nat→Option (List Nat×List Nat×Gt)|.fin,_=>none|.one e kp qs sub,i=>if e=i then some (kp,qs,sub)else none|.alt e kp qs sub r,i=>if e=i then some (kp,qs,sub)else r.pick i
def z0p(l:List Nat)(qs:List Nat):List Nat:=l.filter fun q=>! qs.any (yak q)
def zdd(anc:Anc)(rem wai:List Nat)(g:Gt):Bool:=wai.all (fun q=>rem.any fun e=>behind anc q e)&&rem.all fun i=>g.zpx.contains i||rem.any fun j=>behind anc i j
def z7d(anc:Anc)(rem wai done:List Nat)(e:Nat)(kp qs:List Nat):Bool:=rem.contains e&&(done.all fun q=>kp.contains q||behind anc e q)&&kp.all (done.contains ·)&&qs.all fun q=>wai.contains q&&behind anc q e
def z2d(anc:Anc):List Nat→List Nat→List Nat→Gt→Bool|_,_,_,.fin=>true|rem,wai,done,.one e kp qs sub=>z7d anc rem wai done e kp qs&&zdd anc (z0p rem [e]) (z0p wai qs) sub&&z2d anc (z0p rem [e]) (z0p wai qs) (kp++qs) sub|rem,wai,done,.alt e kp qs sub r=>z7d anc rem wai done e kp qs&&zdd anc (z0p rem [e]) (z0p wai qs) sub&&z2d anc (z0p rem [e]) (z0p wai qs) (kp++qs) sub&&z2d anc rem wai done r
theorem z2d.pick{anc:Anc}{i:Nat}{kp qs:List Nat}{sub:Gt}:∀{g:Gt}{rem wai done:List Nat},z2d anc rem wai done g=true→g.pick i=some (kp,qs,sub)→z7d anc rem wai done i kp qs=true∧zdd anc (z0p rem [i]) (z0p wai qs) sub=true∧z2d anc (z0p rem [i]) (z0p wai qs) (kp++qs) sub=true
 |.fin,_,_,_,_,h=>by cases h|.one e c d sub',rem,wai,done,h,a=>by
  unfold Gt.pick at a;split at a;·rename_i b;subst b;cases a;simp only[z2d,ye]at h;exact⟨h.1.1,h.1.2,h.2⟩
  ·cases a|.alt e c d sub' r,rem,wai,done,h,a=>by
  unfold Gt.pick at a;simp only[z2d,ye]at h;split at a;·rename_i b;subst b;cases a;exact⟨h.1.1.1,h.1.1.2,h.1.2⟩
  ·exact z2d.pick h.2 a
theorem Gt.zo7{i:Nat}:∀{g:Gt},i∈g.zpx→∃p,g.pick i=some p
 |.fin,h=>by cases h|.one e kp qs sub,h=>by simp only[Gt.zpx,List.mem_singleton]at h;exact⟨(kp,qs,sub),by simp[Gt.pick,h]⟩|.alt e kp qs sub r,h=>by
  by_cases a:e=i;·exact⟨(kp,qs,sub),by simp[Gt.pick,a]⟩
  ·rcases List.mem_cons.1 h with rfl|h;·exact(a rfl).elim
   ·obtain⟨p,b⟩:=Gt.zo7 h;exact⟨p,by simp[Gt.pick,a,b]⟩
theorem z5u{l qs:List Nat}{q:Nat}:q∈z0p l qs↔q∈l∧q∉qs:=by unfold z0p;rw[List.mem_filter,Bool.not_eq_true',List.any_eq_false];refine and_congr_right fun _=>⟨fun h a=>h q a (Nat.beq_refl q),fun h x b e=>?_⟩;simp_all
def okLow(ops:Array Oper):Bool:=(yac ops.size).all fun i=>(ops[i]?.map fun o=>(zjl o).all (yam · i)).getD false
def zlu(anc:Anc)(Q:List Nat)(ts:List Tmp)(i:Nat):List Oper→Nat→Bool|[],_=>true|o::r,j=>((match o.dst with|some d=>! ts.any (yak d)|none=>true)||! Q.contains j||behind anc i j)&&zlu anc Q ts i r (j+1)
def zz04r(ops:Array Oper)(anc:Anc)(Q:List Nat):Bool:=(yac ops.size).all fun i=>(ops[i]?.map fun o=>zlu anc Q (o.looksAt ops) i ops.toList 0).getD false
def okDst(ops:Array Oper)(n:Nat)(Q E:List Nat):Bool:=Q.all fun q=>match z9l ops q with|some t=>decide (t<n)&&! E.any fun e=>z9l ops e==some t|none=>false
def z4r(ops:Array Oper)(E:List Nat):List Nat:=(yac ops.size).filter fun i=>! E.contains i
def za9(ops:Array Oper)(anc:Anc)(n:Nat)(E qs:List Nat)(g:Gt):Bool:=okLow ops&&zyo ops anc&&zz04r ops anc (z4r ops E)&&Region.noSelect ops&&okDst ops n (z4r ops E) E&&E.all (·<ops.size)&&qs.all ((z4r ops E).contains ·)&&zdd anc E (z0p (z4r ops E) qs) g&&z2d anc E (z0p (z4r ops E) qs) qs g
theorem zfo{anc:Anc}{Q:List Nat}{ts:List Tmp}{i:Nat}:∀{l:List Oper}{a:Nat},zlu anc Q ts i l a=true→∀(k:Nat)(o:Oper)(d:Nat),l[k]?=some o→o.dst=some d→d∈ts→a+k∈Q→behind anc i (a+k)=true|[],_,_,k,o,d,h,_,_,_=>by simp at h|x::l,a,hl,k,o,d,h,hd,b,c=>by simp only[zlu,ye]at hl;cases k with|zero=>grind[Nat.beq_refl]|succ k=>have:=zfo hl.2 k o d (by simpa using h) hd b (by grind);grind
section
variable{P:Program}{ops:Array Oper}{anc:Anc}
def z7s(P:Program)(ops:Array Oper)(a:Act)(w:World)(q:Nat):Prop:=∀o,ops[q]?=some o→∀d,o.dst=some d→(Region.wanted o (yielded ops a.tmps)=true→∃v,a.tmps[d]?=some v∧(execOp a.eval o).run P w=.ok (.value v) w)∧(Region.wanted o (yielded ops a.tmps)=false→a.tmps[d]?=some undef)
structure Off(ops:Array Oper)(S:List Nat)(a b:Act):Prop where
 size:a.tmps.size=b.tmps.size
 defers:a.defers=b.defers
 get:∀t,(∀q∈S,z9l ops q≠some t)→a.tmps[t]?=b.tmps[t]?
def DRa(C:Cx)(ds:List Deferred)(ops:Array Oper)(K:Act→World→Prop):(done:List Nat)→Gt→Act→World→Prop|done,.fin,a,w=>(∀q∈done,z7s C.P ops a w q)∧K a w|done,.one e kp qs sub,a,w=>(∀q∈done,z7s C.P ops a w q)∧∀o,ops[e]?=some o→wpList C.P ops (QT C ds fun c w'=>∃b,Off ops qs c b∧DRa C ds ops K (kp++qs) sub b w') [o] a w|done,.alt e kp qs sub r,a,w=>(∀o,ops[e]?=some o→wpList C.P ops (QT C ds fun c w'=>∃b,Off ops qs c b∧DRa C ds ops K (kp++qs) sub b w') [o] a w)∧DRa C ds ops K done r a w
theorem DRa.stab{C:Cx}{ds:List Deferred}{ops:Array Oper}{K:Act→World→Prop}{done:List Nat}{a:Act}{w:World}:∀{g:Gt},DRa C ds ops K done g a w→∀q∈done,z7s C.P ops a w q|.fin,h=>h.1|.one ..,h=>h.1|.alt _ _ _ _ r,h=>DRa.stab (g:=r) h.2
theorem DRa.pick{C:Cx}{ds:List Deferred}{ops:Array Oper}{K:Act→World→Prop}{done kp qs:List Nat}{a:Act}{w:World}{i:Nat}{o:Oper}{sub:Gt}(ho:ops[i]?=some o):∀{g:Gt},DRa C ds ops K done g a w→g.pick i=some (kp,qs,sub)→wpList C.P ops (QT C ds fun f w'=>∃d,Off ops qs f d∧DRa C ds ops K (kp++qs) sub d w') [o] a w
 |.fin,_,b=>by cases b|.one e _ _ _,h,b=>by
  unfold Gt.pick at b;split at b;·rename_i c;subst c;cases b;exact h.2 o ho
  ·cases b|.alt e _ _ _ r,h,b=>by
  unfold Gt.pick at b;split at b;·rename_i c;subst c;cases b;exact h.1 o ho
  ·exact DRa.pick ho (g:=r) h.2 b
theorem zie{o:Oper}{j:Nat}:j∈zjl o↔∃e∈o.after,Region.binds .any e=true∧e.on=j:=by grind[zjl]
theorem zmr{anc:Anc}{j:Nat}:∀{ps:List Nat}{m:Nat},yaz (ancOf anc ps m) j=true→yaz m j=true∨∃p∈ps,j=p∨behind anc p j=true
 |[],m,h=>.inl h|p::ps,m,h=>by
  simp only[ancOf]at h;rcases zmr h with h|⟨q,a,h2⟩
  ·rw[Nat.testBit_or,Nat.testBit_or,yg,yg]at h;rcases h with(h|h)|h;·exact .inl h
   ·grind[Nat.one_shiftLeft]
   ·exact .inr ⟨p,yaa,.inr h⟩
  grind
theorem zkm(h:zyo ops anc=true){i j:Nat}{o:Oper}(ho:ops[i]?=some o)(a:behind anc i j=true):∃p∈zjl o,j=p∨behind anc p j=true:=by
 have:=yh.1 h i (yab.2 (ya2.1 ho).1);simp only[ho,yd,yb]at this;have:=yao this;unfold behind at a;rw[this]at a;rcases zmr a with h|h;·simp at h
 ·exact h
theorem z65{listed:Array Bool}{i j:Nat}{o:Oper}(c:zyo ops anc=true)(d:∀(i:Nat)(o:Oper),ops[i]?=some o→∀j∈zjl o,j<i)(hd:∀i,listed.getD i false=true→∀o,ops[i]?=some o→∀j∈zjl o,listed.getD j false=true)(ho:ops[i]?=some o)(q:∀e∈o.after,Region.binds .any e=true→listed.getD e.on false=true)(h:behind anc i j=true):listed.getD j false=true:=by
 have key:∀k,listed.getD k false=true→k<ops.size→∀j,behind anc k j=true→listed.getD j false=true:=by intro k;induction k using yax with|_ k r=>
   intro n a j g;have b:ops[k]?=some ops[k]:=by simp[a]
   obtain⟨p,f,l⟩:=zkm c b g;grind
 obtain⟨p,f,l⟩:=zkm c ho h;obtain⟨e,m,h2,rfl⟩:=zie.1 f;grind
structure Stat(ops:Array Oper)(anc:Anc)(Q E:List Nat):Prop where
 okA:zyo ops anc=true
 low:∀(i:Nat)(o:Oper),ops[i]?=some o→∀j∈zjl o,j<i
 look:∀(i:Nat)(o:Oper),ops[i]?=some o→∀t∈o.looksAt ops,∀j,j<ops.size→j∈Q→z9l ops j=some t→behind anc i j=true
 sel:∀(i:Nat)(o:Oper),ops[i]?=some o→∀cs b,o.op≠.select cs b
 cov:∀i,i<ops.size→i∈Q∨i∈E
 dst:∀q∈Q,∃t,z9l ops q=some t∧∀e∈E,z9l ops e≠some t
 dis:∀q∈Q,q∉E
 rng:∀e∈E,e<ops.size
structure DInv(ops:Array Oper)(anc:Anc)(Q E:List Nat)(listed:Array Bool)(rem wai done:List Nat)(g:Gt)(a b:Act):Prop where
 sz:listed.size=ops.size
 down:∀i,listed.getD i false=true→∀o,ops[i]?=some o→∀j∈zjl o,listed.getD j false=true
 size:a.tmps.size=b.tmps.size
 defers:a.defers=b.defers
 get:∀t,(∀q∈done,listed.getD q false=false→z9l ops q≠some t)→a.tmps[t]?=b.tmps[t]?
 remU:∀e∈rem,listed.getD e false=false∧e∈E
 waiU:∀q∈wai,listed.getD q false=false∧q∈Q
 covQ:∀i∈Q,listed.getD i false=true∨i∈done∨i∈wai
 covE:∀i∈E,listed.getD i false=true∨i∈rem
 doneQ:∀q∈done,q∈Q
 cov:zdd anc rem wai g=true
 alts:z2d anc rem wai done g=true
theorem zz069{listed:Array Bool}{i:Nat}(h:listed.getD i true=false):i<listed.size:=by grind
theorem zx8{listed:Array Bool}{i:Nat}(h:listed.getD i true=false):listed.getD i false=false:=by grind
theorem zx7{listed:Array Bool}{i:Nat}(hl:i<listed.size)(h:listed.getD i false=false):listed.getD i true=false:=by grind
theorem zus{Q E:List Nat}{listed:Array Bool}{rem wai done:List Nat}{g:Gt}{a b:Act}(f:Stat ops anc Q E)(c:DInv ops anc Q E listed rem wai done g a b){i:Nat}{o:Oper}(ho:ops[i]?=some o)(k:∀e∈o.after,Region.binds .any e=true→listed.getD e.on false=true):∀t∈o.looksAt ops,a.tmps[t]?=b.tmps[t]?:=by
 intro t l;refine c.get t fun q j hl e=>?_;have d:q<ops.size:=by
  unfold z9l at e;rcases yat q ops.size with h|h;·exact h
  ·grind
 rw[z65 f.okA f.low c.down ho k (f.look i o ho t l q d (c.doneQ q j) e)]at hl;cases hl
theorem zub{a b:Act}{o:Oper}(c:∀cs b,o.op≠.select cs b)(h:∀t∈o.looksAt ops,a.tmps[t]?=b.tmps[t]?):execOp a.eval o=execOp b.eval o:=execOp_congr o c fun x d=>by cases x with|tmp t=>have:=h t (by exact yz _ (List.mem_filterMap.2 ⟨.tmp t,by grind,rfl⟩));simp[Act.eval,this]|const v=>rfl|global g=>rfl|func f=>rfl
theorem zp7{a b:Act}{o:Oper}(h:∀t∈o.looksAt ops,a.tmps[t]?=b.tmps[t]?):Region.wanted o (yielded ops a.tmps)=Region.wanted o (yielded ops b.tmps):=by unfold Region.wanted;cases d:o.guard with|none=>rfl|some c=>
  obtain⟨j,want⟩:=c;have:yielded ops a.tmps j=yielded ops b.tmps j:=by unfold yielded;cases e:ops[j]?.bind (·.dst)with|none=>rfl|some t=>grind[Oper.looksAt]
  grind
theorem zf5{o:Oper}{a b:Act}{d nb:Act→World→Prop}{Qa Qb:Exit→Act→World→Prop}(hn:∀g v w,nb ({b with defers:=g++b.defers}.put o.dst v) w→d ({a with defers:=g++a.defers}.put o.dst v) w)(k:∀f w,Qb (.panic f) b w→Qa (.panic f) a w)(i:¬LetsOut Qb):∀r,o.upon P b nb Qb r→o.upon P a d Qa r:=by have c:∀v w,nb (b.put o.dst v) w→d (a.put o.dst v) w:=fun v w h=>hn [] v w h;intro r h;cases r with
 |ok x w'=>cases x<;>simp only[Oper.upon]at h⊢<;>first|exact c _ _ h|exact hn [_] _ _ h|exact Calls.mono h fun e l j=>by grind|grind[Rows.mono]
 |halt x w'=>cases x<;>simp only[Oper.upon]at h⊢<;>first|grind|exact h
end
theorem zjr{C:Cx}{ds:List Deferred}{K:Act→World→Prop}:¬LetsOut (QT C ds K):=fun⟨_,_,h⟩=>h
theorem ztw{ops:Array Oper}{anc:Anc}{Q E:List Nat}(f:Stat ops anc Q E){listed:Array Bool}(k:listed.size=ops.size)(j:Region.ready .any ops listed=[]):∀i,i<ops.size→listed.getD i false=true:=by intro i;induction i using yax with|_ i l=>
  intro b;rcases c:listed.getD i false with _|_;·have h:i∈Region.ready .any ops listed:=mem_ready.2 ⟨zx7 (by omega) c,ops[i],by simp[b],fun e d a=>by have g:=f.low i ops[i] (by simp[b]) e.on (zie.2 ⟨e,d,a,rfl⟩);grind⟩;grind
  ·rfl
theorem zs9{C:Cx}{ds:List Deferred}{ops:Array Oper}{anc:Anc}{K:Act→World→Prop}{Q E:List Nat}(n:Stat ops anc Q E){listed:Array Bool}{rem wai done:List Nat}{g:Gt}{a b:Act}{w:World}(d:∀i,i<ops.size→listed.getD i false=true)(hd:a.defers=ds)(j:DInv ops anc Q E listed rem wai done g a b)(m:DRa C ds ops K done g b w):QT C ds K .normal a w:=by
 have k:a=b:=by
  have c:a.tmps=b.tmps:=Array.ext_getElem? fun t=>j.get t fun q _ hl e=>by grind[z9l]
  cases a;cases b;simp only at c;have h2:=j.defers;simp only at h2;subst c h2;rfl
 subst k;have no:∀e kp qs sub,z7d anc rem wai done e kp qs=true∧sub=sub→False:=fun e kp qs(sub:Gt)⟨h,_⟩=>by
  simp only[z7d,ye]at h;have l:e∈rem:=by simpa using h.1.1.1
  obtain⟨c,h2⟩:=j.remU e l;rw[d _ (n.rng e h2)]at c;cases c
 have f:=j.alts;cases g with|fin=>exact⟨hd,m.2⟩|one e kp qs sub=>simp only[z2d,ye]at f;exact(no e kp qs sub ⟨f.1.1,rfl⟩).elim|alt e kp qs sub r=>simp only[z2d,ye]at f;exact(no e kp qs sub ⟨f.1.1.1,rfl⟩).elim
theorem filter_lt{n:Nat}{listed:Array Bool}{i:Nat}(d:listed.size=n)(c:listed.getD i true=false){fuel:Nat}(h:((yac n).filter fun i=>!listed.getD i true).length≤fuel+1):((yac n).filter fun j=>!(listed.setIfInBounds i true).getD j true).length≤fuel:=by
 have b:((yac n).filter fun j=>!(listed.setIfInBounds i true).getD j true)=((yac n).filter fun j=>!listed.getD j true).filter fun j=>j !=i:=by
  rw[List.filter_filter];refine List.filter_congr fun j _=>?_;rcases yan i j with a|rfl;·rw[getD_set_ne true a];grind
  ·simp
 grind[List.length_filter_eq_length_iff]
def zr8:ResultVar→Nat|.tmp t=>t|.cell t _=>t
def DrOk(C:Cx)(ops:Array Oper):Prop:=C.lv=false∨∀q t,z9l ops q=some t→∀r∈C.fn.results.toList,zr8 r≠t
theorem mapM_alike{α β:Type}{f g:α→Sem β}:∀{l:List α},(∀r∈l,f r=g r)→l.mapM f=l.mapM g|[],_=>rfl|r::l,h=>by rw[yu,yu,h r yaa,mapM_alike fun q a=>h q (List.mem_cons_of_mem _ a)]
theorem zm4{P:Program}{fn:Func}{a tb:Array Value}(h:∀r∈fn.results.toList,a[zr8 r]?=tb[zr8 r]?)(w:World):(results fn a).run P w=(results fn tb).run P w:=by
 unfold results;rw[ya5,ya5];congr 2;refine congrArg _ (mapM_alike fun r c=>?_);have b:=h r c;have d:a.getD (zr8 r) undef=tb.getD (zr8 r) undef:=by rw[ya1,ya1,b]
 grind[zr8]
theorem zb4{P:Program}{fn:Func}{c tb:Array Value}{R:Ending→World→Prop}(h:∀w,(results fn c).run P w=(results fn tb).run P w):∀(ds:List Deferred)(u:FrameMode)(w:World),Leaves P fn tb R ds u w→Leaves P fn c R ds u w|[],.returning,w,⟨v,a,h2⟩=>⟨v,(h w).trans a,h2⟩|[],.panicking _,w,hl=>hl|[],.run,w,hl=>hl.elim|d::ds,u,w,⟨a,g,cap,f,args,h2,i,j⟩=>⟨a,g,cap,f,args,h2,i,j.mono fun e l w' b=>by cases e with|returned v=>exact zb4 h ds _ _ b|panicked k=>exact zb4 h ds _ _ b|outgrown=>exact b⟩
theorem PN.alike{C:Cx}{ops:Array Oper}(h:DrOk C ops){a b:Act}{i:List PanicEntry}{w:World}(c:a.defers=b.defers)(d:∀t,(∀q,z9l ops q≠some t)→a.tmps[t]?=b.tmps[t]?)(j:PN C b i w):PN C a i w:=by
 cases g:C.lv<;>cases f:C.dfr<;>simp only[PN,g,f]at j⊢;·grind
 ·grind
 ·rcases h with h|h;·grind
  ·rw[c];exact zb4 (zm4 fun r k=>d _ fun q e=>h q _ e r k rfl) _ _ _ j
 grind
theorem zua{C:Cx}{ds:List Deferred}{ops:Array Oper}{anc:Anc}{K:Act→World→Prop}{Q E:List Nat}(a7:DrOk C ops)(n:Stat ops anc Q E):∀(fuel:Nat)(listed:Array Bool)(rem wai done:List Nat)(g:Gt)(a b:Act)(w:World),((yac ops.size).filter fun i=>!listed.getD i true).length≤fuel→a.defers=ds→DInv ops anc Q E listed rem wai done g a b→DRa C ds ops K done g b w→wpAny C.P .any ops (QT C ds K) fuel listed a w:=by
 intro fuel;induction fuel with|zero=>
  intro listed rem wai done g a b w hf hd c hr;have Z:((yac ops.size).filter fun i=>!listed.getD i true)=[]:=ym (by omega);have U:∀i,i<ops.size→listed.getD i false=true:=fun i a6=>by
   have:i∉(yac ops.size).filter fun i=>!listed.getD i true:=by rw[Z];simp
   have hz:=c.sz;grind
  refine⟨?_,zs9 n U hd c hr⟩;refine List.eq_nil_iff_forall_not_mem.2 fun i hm=>?_;grind[mem_ready]|succ fuel ih=>
  intro listed rem wai done g a b w hf hd c hr;refine⟨fun hn=>zs9 n (ztw n c.sz hn) hd c hr,fun i hm=>?_⟩;obtain⟨h0,o,ho,l⟩:=mem_ready.1 hm;have a6:=zz069 h0;have b1:=zx8 h0;have y:=zus n c ho l;have a2:=zub (n.sel i o ho) y;have b7:=zp7 y;have X:=filter_lt c.sz h0 hf;have s:∀j,(listed.setIfInBounds i true).getD j false=true→∀o,ops[j]?=some o→∀k∈zjl o,(listed.setIfInBounds i true).getD k false=true:=by
   intro j hj o' A k hk;rcases yan i j with f|rfl;·rw[getD_set_ne false f]at hj;exact getD_set_true (c.down j hj o' A k hk)
   ·obtain⟨e,r,h2,rfl⟩:=zie.1 hk;grind[getD_set_true]
  unfold wpOp;simp only[ho];rcases n.cov i (by grind)with S|F;·--a quiet one
   have N:i∈done:=by
    rcases c.covQ i S with h|h|h;·grind
    ·exact h
    ·have I:=c.cov;simp only[zdd,ye,yh]at I;obtain⟨e,x,V⟩:=yi.1 (I.1 i h);have r:=z65 n.okA n.low c.down ho l V;rw[(c.remU e x).1]at r;cases r
   have T:z7s C.P ops b w i:=hr.stab i N;obtain⟨d,a1,b2⟩:=n.dst i S;have G:o.dst=some d:=by simpa[z9l,ho]using a1
   have b5:=T o ho d G;have key:∀v,b.tmps[d]?=some v→DInv ops anc Q E (listed.setIfInBounds i true) rem wai done g (a.put o.dst v) b:=fun v hv=>by
    refine⟨by simpa using c.sz,s,by simpa[G,Act.put]using c.size,by simpa[G,Act.put]using c.defers,fun t H=>?_,fun e x=>?_,fun q m=>?_,fun e x=>?_,fun e x=>?_,c.doneQ,c.cov,c.alts⟩
    ·rw[G];simp only[Act.put];rcases yan d t with f|rfl
     ·rw[ya3 f];refine c.get t fun q m hl=>?_;rcases yan i q with a9|rfl;·simp_all
      grind
     ·have b6:d<a.tmps.size:=by rw[c.size];exact(ya2.1 hv).1
      grind
    ·obtain⟨k1,k2⟩:=c.remU e x;have f:i≠e:=fun h=>n.dis i S (h▸k2);simp_all
    ·obtain⟨k1,k2⟩:=c.waiU q m;have f:i≠q:=fun h=>by subst h;have I:=c.cov;simp only[zdd,ye,yh]at I;obtain⟨e,x,V⟩:=yi.1 (I.1 i m);have r:=z65 n.okA n.low c.down ho l V;rw[(c.remU e x).1]at r;cases r
     simp_all
    ·rcases c.covQ e x with h|h;·grind[getD_set_true]
     grind
    ·rcases c.covE e x with h|h;·grind[getD_set_true]
     grind
   by_cases hw:Region.wanted o (yielded ops a.tmps)=true;·grind[Oper.wp,Oper.upon_value,Act.put]
   ·grind[Act.put]
  ·--one that acts:a choice
   have a3:i∈rem:=by
    rcases c.covE i F with h|h;·grind
    ·exact h
   have R:i∈g.zpx:=by
    have I:=c.cov;simp only[zdd,ye,yh,yg]at I;rcases I.2 i a3 with h|h;·simpa using h
    ·obtain⟨e,x,V⟩:=yi.1 h;have r:=z65 n.okA n.low c.down ho l V;rw[(c.remU e x).1]at r;cases r
   obtain⟨⟨kp,qs,sub⟩,B⟩:=Gt.zo7 R;have p:=hr.pick ho B;obtain⟨z,W,M⟩:=z2d.pick c.alts B;simp only[z7d,ye]at z;obtain⟨⟨⟨_,a8⟩,b3⟩,b4⟩:=z
   ·have O:∀q∈done,q∈kp∨listed.getD q false=true:=fun q m=>by
     have:=yh.1 a8 q m;rw[yg]at this;rcases this with h|h;·grind
     ·exact .inr (z65 n.okA n.low c.down ho l h)
    have a4:∀q∈kp,q∈done:=fun q m=>by grind
    have a0:∀q∈qs,q∈wai:=fun q m=>by grind
    have key:∀(L:List Deferred)(v:Value)(D:Act),Off ops qs ({b with defers:=L++b.defers}.put o.dst v) D→DInv ops anc Q E (listed.setIfInBounds i true) (z0p rem [i]) (z0p wai qs) (kp++qs) sub ({a with defers:=L++a.defers}.put o.dst v) D:=fun L v D A=>by
     have Y:∀t,(∀q∈done,listed.getD q false=false→z9l ops q≠some t)∨o.dst=some t→({a with defers:=L++a.defers}.put o.dst v).tmps[t]?=({b with defers:=L++b.defers}.put o.dst v).tmps[t]?:=fun t H=>by cases u:o.dst with|none=>rw[u]at H;exact c.get t (H.resolve_right (by simp))|some d=>
       rw[u]at H;simp only[Act.put];rcases yan d t with f|rfl;·rw[ya3 f,ya3 f];exact c.get t (H.resolve_right fun e=>f (Option.some.inj e))
       ·rcases yat d a.tmps.size with hl|hl
        ·have a5:d<b.tmps.size:=by rw[←c.size];exact hl
         grind
        ·have a5:b.tmps.size≤d:=by rw[←c.size];exact hl
         grind
     refine⟨by simpa using c.sz,s,?_,?_,fun t H=>?_,fun e x=>?_,fun q m=>?_,fun q m=>?_,fun q m=>?_,fun q m=>?_,W,M⟩;·rw[←A.size];cases o.dst<;>simpa[Act.put]using c.size
     ·rw[←A.defers];have:=c.defers;cases o.dst<;>simp[Act.put,this]
     ·rw[←A.get t fun q m=>?_];·refine Y t (.inl fun q m hl=>H q (yz _ ((O q m).resolve_right (by rw[hl];simp))) ?_);have f:i≠q:=fun h=>n.dis q (c.doneQ q m) (h▸F);simp_all
      ·obtain⟨m1,m2⟩:=c.waiU q (a0 q m);have f:i≠q:=fun h=>n.dis q m2 (h▸F);simp_all
     ·obtain⟨r,h2⟩:=z5u.1 x;obtain⟨k1,k2⟩:=c.remU e r;have f:i≠e:=fun h=>h2 (by simp[h]);simp_all
     ·obtain⟨k1,k2⟩:=c.waiU q (z5u.1 m).1;have f:i≠q:=fun h=>n.dis q k2 (h▸F);simp_all
     ·rcases c.covQ q m with h|h|h;·grind[getD_set_true]
      ·grind[getD_set_true]
      grind[z5u]
     ·rcases c.covE q m with h|h;·grind[getD_set_true]
      ·rcases yan i q with f|rfl;·grind[z5u]
       simp_all
     ·rcases yy.1 m with h|h;·exact c.doneQ q (a4 q h)
      ·exact(c.waiU q (a0 q h)).2
    unfold wpList at p;by_cases hw:Region.wanted o (yielded ops a.tmps)=true
    ·rw[if_pos hw];rw[if_pos (by grind)]at p;rcases p with p|⟨_,b0⟩;·left;unfold Oper.wp at p⊢;rw[a2];refine zf5 (nb:=wpList C.P ops _ []) (fun L v w2 hn=>?_) (fun ch w2 m=>by exact PN.alike a7 c.defers (fun t H=>c.get t fun q _ _=>H q) m) zjr _ p;obtain⟨J,D,r,h2⟩:=hn;refine ih _ _ _ (kp++qs) sub _ D w2 X ?_ (key L v D r) h2;rw[←J];have:=c.defers;cases o.dst<;>simp[Act.put,this]
     grind[zjr]
    ·rw[if_neg hw];rw[if_neg (by grind)]at p;obtain⟨J,D,r,h2⟩:=p;exact ih _ _ _ (kp++qs) sub _ D w X (by cases u:o.dst<;>simpa[u,Act.put]using hd) (key [] undef D r) h2
theorem zif{ops:Array Oper}{E:List Nat}{i:Nat}:i∈z4r ops E↔i<ops.size∧i∉E:=by grind[z4r]
theorem za9.stat{ops:Array Oper}{anc:Anc}{n:Nat}{E qs:List Nat}{g:Gt}(h:za9 ops anc n E qs g=true):Stat ops anc (z4r ops E) E:=by
 simp only[za9,ye]at h;obtain⟨⟨⟨⟨⟨⟨⟨⟨k,f⟩,h2⟩,m⟩,p⟩,u⟩,v⟩,w⟩,l⟩:=h;refine⟨f,fun i o ho j d=>?_,fun i o ho t s j d r hd=>?_,fun i o ho cs b=>Region.noSelect_spec m i o cs b ho,fun i y=>?_,fun q c=>?_,fun q c=>(zif.1 c).2,fun e x=>?_⟩;·have:=yh.1 k i (yab.2 (ya2.1 ho).1);simp_all
 ·have:=yh.1 h2 i (yab.2 (ya2.1 ho).1);simp only[ho,yd,yb]at this;have a:ops.toList[j]?=some ops[j]:=by simp[d]
  have:=zfo this j ops[j] t a (by grind[z9l]) s (by grind);grind
 ·grind[zif]
 ·have:=yh.1 p q c;grind
 grind
theorem Has.over{n:Nat}{c L:Env}{a:Act}(d:c.all (fun p=>yam p.1 n)=true)(h:Has n L a):∃b,Has n (c++L) b∧b.defers=a.defers∧∀t,(∀p∈c,p.1≠t)→a.tmps[t]?=b.tmps[t]?:=by induction c with|nil=>grind|cons p c g=>simp only[List.all_cons,ye]at d;obtain⟨b,e,f,i⟩:=g d.2;refine⟨b.put (some p.1) p.2,e.put (by simp_all),f,fun t j=>?_⟩;grind[Act.put]
theorem Has.off{n:Nat}{c L:Env}{a:Act}{ops:Array Oper}{S:List Nat}(k:c.all (fun p=>yam p.1 n&&S.any fun q=>z9l ops q==some p.1)=true)(h:Has n L a):∃b,Has n (c++L) b∧Off ops S a b:=by
 have j:c.all (fun p=>yam p.1 n)=true:=yh.2 fun p f=>by grind
 obtain⟨b,d,g,i⟩:=h.over j;refine⟨b,d,by rw[h.size,d.size],g.symm,fun t l=>i t fun p f e=>?_⟩;have:=yh.1 k p f;grind
def qvOk(ops:Array Oper)(n:Nat)(S:List Nat)(a:Env):Bool:=a.all fun p=>yam p.1 n&&S.any fun q=>z9l ops q==some p.1
theorem zz024{ops:Array Oper}{anc:Anc}{n:Nat}{E qs:List Nat}{g:Gt}{a b:Act}(h:za9 ops anc n E qs g=true)(ho:Off ops qs a b):DInv ops anc (z4r ops E) E (ya6 ops.size false) E (z0p (z4r ops E) qs) qs g a b:=by
 simp only[za9,ye]at h;obtain⟨⟨⟨⟨⟨⟨⟨⟨p,o⟩,h2⟩,r⟩,s⟩,u⟩,v⟩,k⟩,f⟩:=h;have c:∀i,(ya6 ops.size false).getD i false=false:=fun i=>by rw[ya1,Array.getElem?_replicate];split<;>rfl
 refine⟨by simp,fun i j=>by grind,ho.size,ho.defers,fun t m=>ho.get t fun q d=>m q d (c q),fun e l=>⟨c e,l⟩,fun q d=>⟨c q,(z5u.1 d).1⟩,fun i j=>?_,fun i j=>.inr j,fun q d=>?_,k,f⟩;·grind[z5u]
 grind
section
variable{C:Cx}{n:Nat}{ds:List Deferred}{ops:Array Oper}{K:Act→World→Prop}{done:List Nat}{L:Env}{w:World}
def DK(C:Cx)(n:Nat)(ds:List Deferred)(ops:Array Oper)(K:Act→World→Prop)(kp:List Nat)(qs:List Nat)(g:Gt):Act→World→Prop:=fun b w'=>∃a,Off ops qs b a∧DRa C ds ops K (kp++qs) g a w'
def DP(C:Cx)(n:Nat)(ds:List Deferred)(ops:Array Oper)(K:Act→World→Prop)(done:List Nat)(qs:List Nat)(g:Gt)(L:Env)(w:World):Prop:=∀a,Has n L a→a.defers=ds→DK C n ds ops K done qs g a w
end
section
variable{C:Cx}{n:Nat}{ds:List Deferred}{k:Act→World→Prop}{L:Env}{w:World}
end
theorem TW.drawP{C:Cx}{n:Nat}{ds:List Deferred}{k:List Item}{L:Env}{w:World}{id:Nat}{l:List Oper}(anc:Anc)(E qs:List Nat)(g:Gt)(j:C.P.follows .mixedOrders=true)(e:za9 l.toArray anc n E qs g=true)(f:DrOk C l.toArray)(h:∀w',Ext z0x w w'→DP C n ds l.toArray (TWa C k) [] qs g L w'):TW C n ds (.code (.region id l.toArray true)::k) L w:=fun a i hd cs=>by obtain⟨b,d,h2⟩:=h {w with drawn:=w.drawn+1} ⟨rfl,rfl,rfl,yaq _,fun _ _ _=>rfl⟩ a i hd;have c:=zua (C:=C) (ds:=ds) (K:=TWa C k) f (za9.stat e) l.toArray.size (ya6 l.toArray.size false) E (z0p (z4r l.toArray E) qs) qs g a b {w with drawn:=w.drawn+1} (yar (List.length_filter_le _ _) (by simp)) hd (zz024 e d) h2;refine(?_:Goes C cs _).of_steps (.one step_region_draw);simp only[Region.schedule,j,Bool.true_or,if_true];exact z9c (C:=C) (wpAny_sound _ _ _ _ _ c) cs
end
section
open Go.RowKit
theorem cells_one{v:Value}(h:v.oneCell'=true):v.cells=[v].toArray:=by cases v<;>first|rfl|grind[Value.oneCell']
theorem zf0:([]:List Value).all (·.oneCell')=true:=rfl
theorem zbw{v:Value}{vs:List Value}(h:v.oneCell'=true)(t:vs.all (·.oneCell')=true):(v::vs).all (·.oneCell')=true:=by grind
def Slf(b:Nat)(a:Value):Prop:=a=.pointer none∨a=.pointer (some ⟨b,0,none⟩)
theorem Ext.freeze(w:World)(g n:Nat):Ext (At g) w (w.freeze ⟨g,0,none⟩ n):=by
 unfold World.freeze;split;·exact Ext.refl _ _
 ·exact⟨rfl,rfl,rfl,by simp,fun k a hf=>by simp only[Array.getElem?_modify];rw[if_neg fun e=>hf e.symm]⟩
section
variable{C:Cx}{n:Nat}{ds:List Deferred}{k:Act→World→Prop}{L:Env}{w:World}{ops:Array Oper}{o:Oper}{rest:List Oper}{d:Nat}{v:Value}
theorem OW.callM{x:Operand}{xs:Array Operand}{ts:Array TypeId}{g:FuncId}{vs fs z9i:List Value}{b:Option Nat}(i:o.guard=none)(hd:o.dst=b)(hn:dOk n b=true)(ho:o.op=.call {callee:=.value x,args:=xs,argTypes:=ts})(j:ev L x=some (.func (.func g) fs.toArray z9i.toArray))(c:evs L xs.toList=some vs)(e:∀args w,(callFunc g args).run C.P w=.ok (.enter g args) w)(h:Calls C.P g (fs++vs++z9i).toArray w (CallK C n ds ops rest k L b)):OW C n ds ops (o::rest) k L w:=OW.enter i hd hn fun a d=>by
  have f:xs.map a.eval=vs.toArray:=by apply ya7.1;simpa using d.evs c
  have l:fs.toArray++vs.toArray++z9i.toArray=(fs++vs++z9i).toArray:=by simp
  simp only[execOp,ho,resolve,d.ev j,f,Deferred.ofValue,Sem.run_bind,Sem.run_pure,Result.andThen_ok];grind[invoke] h
end
theorem TW.zz041{C:Cx}{n:Nat}{ds:List Deferred}{k:List Item}{L:Env}{w:World}{id:Nat}{o:Oper}{x:Operand}{xs:Array Operand}{ts:Array TypeId}{g:FuncId}{vs z9i:List Value}(l:o.guard=none)(hd:o.dst=none)(ho:o.op=.defer {callee:=.value x,args:=xs,argTypes:=ts})(m:ev L x=some (.func (.func g) #[] z9i.toArray))(e:evs L xs.toList=some vs)(h:TW C n ({target:=.fn (.func g) z9i.toArray,args:=vs.toArray}::ds) k L w):TW C n ds (.code (.region id [o].toArray false)::k) L w:=fun a c d cs=>by
 have f:xs.map a.eval=vs.toArray:=by apply ya7.1;simpa using c.evs e
 have b:(execOp a.eval o).run C.P w=.ok (.defer {target:=.fn (.func g) z9i.toArray,args:=vs.toArray}) w:=by simp[execOp,ho,resolve,c.ev m,f,Deferred.ofValue]
 have i:wpList C.P [o].toArray (QT C ({target:=.fn (.func g) z9i.toArray,args:=vs.toArray}::ds) (TWa C k)) [o] a w:=wpList_plain l fun K j=>by unfold Oper.wp;rw[b];simp only[Oper.upon,hd,Act.put];refine j _ _ ⟨?_,h _ ⟨c.size,c.get⟩ ?_⟩<;>simp[d]
 have h2:wpOps C.P [o].toArray (QT C ({target:=.fn (.func g) z9i.toArray,args:=vs.toArray}::ds) (TWa C k)) (yac [o].toArray.size) a w:=by rw[yae,←ya4,wpOps_eq_wpList [o].toArray.toList 0 (by simp)];exact i
 exact(z9c h2 cs).of_steps (.one step_region)
section
variable{C:Cx}{n:Nat}{L:Env}{w:World}
theorem LV.ret1{g:FuncId}{args args' cap:Array Value}(f:(invoke (.fn (.func g) cap) args).run C.P w=.ok (.enter g args') w)(d:CallsD C.P g args' .returning w fun e u w'=>e=.returned (.tuple #[])∧u=.returning∧Ext z0x w w')(h:∀w',Ext z0x w w'→∃v,Out C n L w' v∧C.R (.returned v) w'):LV C n [{target:=.fn (.func g) cap,args:=args}] L w .returning:=fun a c hd=>by refine leaves_cons (by simp) f (d.mono ?_);rintro e u w'⟨rfl,rfl,x⟩;obtain⟨v,b,h2⟩:=h w' x;exact⟨v,b a c,h2⟩
theorem LV.pan1{g:FuncId}{args args' cap:Array Value}{pv:Value}(Q:World→Prop)(f:(invoke (.fn (.func g) cap) args).run C.P w=.ok (.enter g args') w)(d:CallsD C.P g args' (.panicking [{v:=pv,recovered:=false}]) w fun e u w'=>e=.returned (.tuple #[])∧u=.panicking [{v:=pv,recovered:=true}]∧Q w')(h:∀w',Q w'→∃v,Out C n L w' v∧C.R (.returned v) w'):LV C n [{target:=.fn (.func g) cap,args:=args}] L w (.panicking [{v:=pv,recovered:=false}]):=fun a c hd=>by refine leaves_cons (by simp) f (d.mono ?_);rintro e u w'⟨rfl,rfl,x⟩;obtain⟨v,b,h2⟩:=h w' x;exact⟨v,b a c,h2⟩
end
end
section
open Go.RowKit
def ze1:TypeDesc→Bool|.interface _=>false|_=>true
section
variable{C:Cx}{n:Nat}{ds:List Deferred}{k:Act→World→Prop}{L:Env}{w:World}{ops:Array Oper}{o:Oper}{rest:List Oper}{d:Nat}{v:Value}
theorem EX.taYes{x:Operand}{f T:TypeId}{td:TypeDesc}{u:Value}(ho:o.op=.typeAssert x f T true)(d:C.P.underlying T=some td)(c:ze1 td=true)(e:ev L x=some (.iface T u)):EX C n L w o (.tuple #[u,.bool true]):=fun a b=>by simp only[execOp,ho,b.ev e,Instr.typeAssert];cases td<;>first|(simp[ze1]at c;done)|simp[run_underlying d]
theorem EX.taNil{x:Operand}{j T:TypeId}{td:TypeDesc}{z:Value}(ho:o.op=.typeAssert x j T true)(f:C.P.underlying T=some td)(e:ze1 td=true)(h:zer C.P T=some z)(g:ev L x=some .nilIface):EX C n L w o (.tuple #[z,.bool false]):=fun a d=>by obtain⟨i,b,c⟩:=ya.1 h;simp only[execOp,ho,d.ev g,Instr.typeAssert];cases td<;>first|(simp[ze1]at e;done)|simp[run_underlying f,zeroValue,typeInfo,b,c]
end
def GoesR(C:Cx)(c:Frame)(cs:List Frame)(u1:FrameMode)(m:Machine):Prop:=∃e w' fr,C.R e w'∧Comes C.P m (lone fr ({c with mode:=u1}::cs) w') e∧fr.fn=C.f∧leave C fr w' e
def TWR(C:Cx)(n:Nat)(u0 u1:FrameMode)(todo:List Item)(L:Env)(w:World):Prop:=∀a,Has n L a→a.defers=[]→∀c cs,c.mode=u0→GoesR C c cs u1 (lone ((base C).at a todo) (c::cs) w)
def Rec(u0 u1:FrameMode)(v:Value):Prop:=u0=.returning∧u1=.returning∧v=.nilIface∨∃older,u0=.panicking ({v:=v,recovered:=false}::older)∧u1=.panicking ({v:=v,recovered:=true}::older)
section
variable{C:Cx}{n:Nat}{k:List Item}{L:Env}{w:World}{u0 u1:FrameMode}
theorem TWR.seq{x y:Code}(h:TWR C n u0 u1 (.code x::.code y::k) L w):TWR C n u0 u1 (.code (.seq x y)::k) L w:=fun a g hd c cs i=>by obtain⟨e,w',fr,b,h2,d,f⟩:=h a g hd c cs i;exact⟨e,w',fr,b,h2.of_steps (.one step_seq),d,f⟩
theorem TWR.recover{id:Nat}{o:Oper}{l:List Oper}{d:Nat}{v:Value}{ts:Array TypeId}(x:C.dfr=true)(F:Rec u0 u1 v)(D:o.guard=none)(hd:o.dst=some d)(hn:yam d n=true)(ho:o.op=.call {callee:=.builtin .recover,args:=#[],argTypes:=ts})(h:OW C n [] (o::l).toArray l (TWa C k) ((d,v)::L) w):TWR C n u0 u1 (.code (.region id (o::l).toArray false)::k) L w:=fun a y B c cs q=>by
 have s:(execOp a.eval o).run C.P w=.ok .recover w:=by simp[execOp,ho,resolve,invoke,builtin]
 have u:=h (a.put (some d) v) (y.put (by simp_all)) (by grind[Act.put]);have h2:wpOps C.P (o::l).toArray (QT C [] (TWa C k)) (yad 1 l.length) (a.put (some d) v) w:=by rw[wpOps_eq_wpList l 1 fun j=>by grind];exact u
 obtain⟨e,w',fr,k1,I,k3,J⟩:=z9c h2 ({c with mode:=u1}::cs);have f:yac (o::l).toArray.size=0::yad 1 l.length:=by rw[yae];simp[List.range'_succ]
 have t:=step_region (P:=C.P) (b:=base C) (a:=a) (k:=k) (cs:=c::cs) (w:=w) (ops:=(o::l).toArray) (id:=id);rw[f]at t;have H:Region.wanted o (yielded (o::l).toArray a.tmps)=true:=by simp[Region.wanted,D]
 have K:step C.P (lone ((base C).at a (.inRegion (o::l).toArray (0::yad 1 l.length)::k)) (c::cs) w)=.next (lone ((base C).at (a.put (some d) v) (.inRegion (o::l).toArray (yad 1 l.length)::k)) ({c with mode:=u1}::cs) w):=by
  refine step_lone_go ?_;have m:=stepG_op (P:=C.P) (b:=base C) (a:=a) (k:=k) (cs:=c::cs) (w:=w) (ops:=(o::l).toArray) (i:=0) (rest:=yad 1 l.length) (o:=o) (by simp) H;have g:=Frame.finish_at (base C) a (o::l).toArray 0 (yad 1 l.length) k v;have E:((base C).at a (.inRegion (o::l).toArray (0::yad 1 l.length)::k)).kind=.deferred:=by simp[base,x,Frame.at]
  have G:=tryRecover_deferred E (c::cs);have p:(o::l).toArray[0]?.bind (·.dst)=some d:=by simp[hd]
  rw[p]at g;rw[m,←g];have z:{c with mode:=c.mode}=c:=rfl;rcases F with⟨rfl,rfl,rfl⟩|⟨older,rfl,rfl⟩
  ·have r:recoverD (c::cs)=none:=by simp[recoverD,q]
   have A:({c with mode:=.returning}:Frame)=c:=by rw[←q]
   simp_all[Frame.at,stepG.apply]
  ·simp_all[recoverD,Frame.at,stepG.apply]
 exact⟨e,w',fr,k1,I.of_steps (.head t (.one K)),k3,J⟩
end
theorem zas{P:Program}{f:FuncId}{fn:Func}{c:Code}{args:List Value}{w:World}{R:Ending→World→Prop}(u0 u1:FrameMode)(hf:P.funcs[f]?=some fn)(g:fn.body=some c)(n:Nat)(hn:fn.ntmps=n)(hl:yal args.length n=true)(h:TWR {P:=P,f:=f,fn:=fn,R:=R,hf:=hf,dfr:=true} n u0 u1 [.code c] (zja 0 args) w):CallsD P f args.toArray u0 w fun e u w'=>u=u1∧R e w':=by
 intro d cs j;have i:=yap hl;have a:Frame.enter P f args.toArray .deferred=(base {P:=P,f:=f,fn:=fn,R:=R,hf:=hf,dfr:=true}).at {tmps:=args.toArray++ya6 (fn.ntmps-args.toArray.size) undef,defers:=[]} [.code c]:=by simp[Frame.enter,Frame.at,hf,g,base]
 have:=h {tmps:=args.toArray++ya6 (fn.ntmps-args.toArray.size) undef,defers:=[]} ⟨by grind,fun t v e=>by
   have l:args[t]?=some v:=by simpa using(zdg args 0 t v e).2
   grind⟩ rfl d cs j;rw[←a]at this;obtain⟨e,w',fr,k1,k,k3,b⟩:=this;exact⟨e,u1,w',fr,⟨rfl,k1⟩,k,b.1,b.2⟩
theorem zc2{P:Program}{w:World}{g:FuncId}{vs z9i:List Value}(a:∀args w,(callFunc g args).run P w=.ok (.enter g args) w):(invoke (.fn (.func g) z9i.toArray) vs.toArray).run P w=.ok (.enter g (vs++z9i).toArray) w:=by grind[invoke]
section
variable{C:Cx}{n:Nat}{L:Env}{w:World}
theorem LV.ret2{g:FuncId}{vs z9i:List Value}(a:∀args w,(callFunc g args).run C.P w=.ok (.enter g args) w)(b:CallsD C.P g (vs++z9i).toArray .returning w fun e u w'=>e=.returned (.tuple #[])∧u=.returning∧Ext z0x w w')(h:∀w',Ext z0x w w'→∃v,Out C n L w' v∧C.R (.returned v) w'):LV C n [{target:=.fn (.func g) z9i.toArray,args:=vs.toArray}] L w .returning:=LV.ret1 (zc2 a) b h
theorem LV.pan2{g:FuncId}{vs z9i:List Value}{pv:Value}(Q:World→Prop)(a:∀args w,(callFunc g args).run C.P w=.ok (.enter g args) w)(b:CallsD C.P g (vs++z9i).toArray (.panicking [{v:=pv,recovered:=false}]) w fun e u w'=>e=.returned (.tuple #[])∧u=.panicking [{v:=pv,recovered:=true}]∧Q w')(h:∀w',Q w'→∃v,Out C n L w' v∧C.R (.returned v) w'):LV C n [{target:=.fn (.func g) z9i.toArray,args:=vs.toArray}] L w (.panicking [{v:=pv,recovered:=false}]):=LV.pan1 Q (zc2 a) b h
end
end
section
open Go.RowKit
theorem zej{w w':World}{O O':Nat→Prop}(t:Tr O w O' w'){b q:Nat}{u:Value}(h:w.cell? ⟨b,q,none⟩=some u)(d:¬O b):w'.cell? ⟨b,q,none⟩=some u:=by
 have a:b<w.heap.size:=by
  rcases yat b w.heap.size with c|c;·exact c
  ·grind[World.cell?]
 have:=t.block b a d;grind[World.cell?]
theorem RDl.set{w:World}{O:Nat→Prop}{m:Nat}{x:List D}{vs:List Value}(d:RDs w O x vs)(c:vs.length=m):∀{l:List (List D)}{cs:List Value}{j:Nat},RDl w O m l cs→j<l.length→(j+1)*m≤cs.length→RDl w O m (l.set j x) (cs.take (j*m)++vs++cs.drop (j*m+m))
 |[],_,_,_,h,_=>by simp at h|y::l,cs,0,h,_,_=>by
  refine⟨?_,?_⟩;·grind
  ·have:=h.2;grind|y::l,cs,j+1,h,f,hl=>by
  have a:(j+1)*m=j*m+m:=yay j m;have b:m≤(j+1)*m:=by rw[a];omega
  have h2:m≤cs.length:=by rw[yay]at hl;omega
  have g:=RDl.set d c (l:=l) (cs:=cs.drop m) (j:=j) h.2 (by grind) (by grind);have e:(cs.take ((j+1)*m)).length=(j+1)*m:=by rw[yt];rw[yay]at hl;omega
  refine⟨?_,?_⟩;·rw[List.append_assoc,yaf (by omega),yag,yau b];exact h.1
  grind[yk]
theorem Own.store{P:Program}{w:World}{O:Nat→Prop}{T m:Nat}{v:Value}{l:List (List D)}{x:List D}{vs:List Value}{b q len cap j:Nat}(h:Own w O T m v l)(H:v=.slice (some ⟨b,q,none⟩) len cap)(E:j<l.length)(i:vs.length=m)(Q:vs.all (·.oneCell')=true)(I:RDs w O x vs):∃w',(storeCells ⟨b,q+j*m,none⟩ vs).run P w=.ok () w'∧Own w' O T m v (l.set j x)∧Ext (fun y=>v.ownBlock=some y) w w':=by
 obtain⟨xs,k1,J,k3,B⟩:=h;rcases k1.2 with⟨u,_⟩|⟨g,cap',cur,u,K,L,R,M,r,s⟩;·omega
 ·have f:=H.symm.trans u;simp only[Value.slice.injEq,Option.some.injEq,Addr.mk.injEq,and_true]at f;obtain⟨⟨rfl,rfl⟩,rfl,rfl⟩:=f;have C:z2z w b T cur.toList:=by simpa[z2z]using L
  have F:(j+1)*m≤cap*m:=yav m (by omega);have z:(j+1)*m≤l.length*m:=yav m (by omega);have N:(j+1)*m=j*m+m:=yay j m;obtain⟨w',G,a,n⟩:=Ext.ziu (P:=P) (o:=0+j*m) (vs:=vs) C (by grind) (by grind);have d:∀y,v.ownBlock=some y→O y:=B;have c:v.ownBlock=some b:=by rw[u];rfl
  have hF:Ext (fun y=>v.ownBlock=some y) w w':=n.mono fun y _ p=>by cases p;exact c
  have t:Tr O w O w':=Tr.z6e hF fun y _ p=>d y p;have k:RDl w O m l cur.toList:=by rw[←s]at J;exact RDl.zez (by omega)
  have e:=(RDl.set I i (j:=j) k E (by grind)).tr t;have A:(cur.toList.take (j*m)++vs++cur.toList.drop (j*m+m)).length=cap*m:=by simp only[yo,yt,yq,ya4,r,i];omega
  refine⟨w',G,⟨(cur.toList.take (j*m)++vs++cur.toList.drop (j*m+m)).take (l.length*m),⟨?_,.inr ⟨b,cap,(cur.toList.take (j*m)++vs++cur.toList.drop (j*m+m)).toArray,?_,K,?_,?_,M,?_,?_⟩⟩,?_,?_,B⟩,hF⟩;·simp_all
  ·grind
  ·rw[Nat.zero_add,i]at a;exact a
  ·grind
  ·omega
  ·simp
  ·have:=RDl.zc4 e;grind
  grind[RDl.one]
section
variable{C:Cx}{n:Nat}{ds:List Deferred}{k:Act→World→Prop}{L:Env}{w:World}{ops:Array Oper}{o:Oper}{rest:List Oper}
theorem OW.zz0bd{α:Type}{f:α→List D}{l:List α}{a:α}{O:Nat→Prop}{T U:TypeId}{x y:Operand}{b q len cap j m:Nat}{g:Bool}{u v:Value}{vs:List Value}(t:o.guard=none)(hd:o.dst=none)(ho:o.op=.store T x y)(s:shp C.P T=some (g,m))(G:ev L x=some (.pointer (some ⟨b,q+j*m,none⟩)))(H:ev L y=some u)(E:u.cells=vs.toArray)(p:vs.length=m)(F:v=.slice (some ⟨b,q,none⟩) len cap)(c:Own w O U m v (l.map f))(z:j<l.length)(r:vs.all (·.oneCell')=true)(B:RDs w O (f a) vs)(h:∀w',Own w' O U m v ((l.set j a).map f)→Ext (fun y=>v.ownBlock=some y) w w'→OW C n ds ops rest k L w'):OW C n ds ops (o::rest) k L w:=by obtain⟨w',d,A,e⟩:=Own.store (P:=C.P) c F (by simpa using z) p r B;refine OW.unit (w':=w') t hd (fun a i=>?_) (h w' (by simp_all) e);simp[execOp,ho,i.ev G,i.ev H,Instr.storeAt,Instr.sureAddr,storeVar,E,(z1u s).2,p,d]
end
end
section
open Go.RowKit
section
variable{C:Cx}{n:Nat}{ds:List Deferred}{L:Env}{w:World}{o:Oper}{v:Value}
theorem EX.eqNN{t c u:TypeId}{x y:Operand}{j:TypeInfo}(ho:o.op=.binOp .eql t x y u)(f:C.P.underlying t=some (.pointer c))(e:C.P.info? c=some j)(g:ev L x=some (.pointer none))(i:ev L y=some (.pointer none)):EX C n L w o (.bool true):=fun a b=>by
 have h:∀d:Nat,(Op.equalIn (d+1) t (.pointer none) (.pointer none)).run C.P w=.ok true w:=fun d=>by simp[Op.equalIn,run_underlying f,sizeOf,typeInfo,e]
 simp[execOp,ho,b.ev g,b.ev i,binOp,eqGuard,Op.equal,Op.maxDepth,h 9999]
theorem EX.eqSN{t c u:TypeId}{x y:Operand}{j:TypeInfo}{p:Addr}(ho:o.op=.binOp .eql t x y u)(f:C.P.underlying t=some (.pointer c))(e:C.P.info? c=some j)(g:ev L x=some (.pointer (some p)))(i:ev L y=some (.pointer none)):EX C n L w o (.bool false):=fun a b=>by
 have h:∀d:Nat,(Op.equalIn (d+1) t (.pointer (some p)) (.pointer none)).run C.P w=.ok false w:=fun d=>by simp[Op.equalIn,run_underlying f,sizeOf,typeInfo,e]
 simp[execOp,ho,b.ev g,b.ev i,binOp,eqGuard,Op.equal,Op.maxDepth,h 9999]
theorem EX.neSS{t c u:TypeId}{x y:Operand}{j:TypeInfo}{p:Addr}(ho:o.op=.binOp .neq t x y u)(e:C.P.underlying t=some (.pointer c))(d:C.P.info? c=some j)(f:ev L x=some (.pointer (some p)))(g:ev L y=some (.pointer (some p))):EX C n L w o (.bool false):=fun a b=>by simp[execOp,ho,b.ev f,b.ev g,eqGuard,Lib.run_neq_ptr_same w p e d]
theorem EX.toU{s t f e:TypeId}{x:Operand}{j:TypeInfo}{b cells:Nat}(ho:o.op=.convert s t x)(i:C.P.underlying s=some (.pointer f))(hd:C.P.underlying t=some .unsafePointer)(k:C.P.info? f=some j)(h:j.size≠0)(l:ev L x=some (.pointer (some ⟨b,0,none⟩)))(d:w.shape? b=some (e,cells))(c:0<cells):EX C n L w o (.pointer (some ⟨b,0,none⟩)):=fun a g=>by simp[execOp,ho,g.ev l,Lib.run_to_unsafe w ⟨b,0,none⟩ i hd k h d c]
theorem EX.fromU{s t d e:TypeId}{x:Operand}{j:TypeInfo}{b cells:Nat}(ho:o.op=.convert s t x)(g:C.P.underlying s=some .unsafePointer)(hd:C.P.underlying t=some (.pointer d))(h:C.P.info? d=some j)(i:ev L x=some (.pointer (some ⟨b,0,none⟩)))(c:w.shape? b=some (e,cells))(hl:liesAt C.P C.P.depth e (cells/C.P.cellsOf e) 0 d 1=true):EX C n L w o (.pointer (some ⟨b,0,none⟩)):=fun a f=>by simp[execOp,ho,f.ev i,Lib.run_from_unsafe w ⟨b,0,none⟩ g hd h c hl]
theorem EX.ext1{x y:Operand}{ts:Array TypeId}{g:FuncId}{u:Value}(ho:o.op=.call {callee:=.value x,args:=#[y],argTypes:=ts})(d:ev L x=some (.func (.func g) #[] #[]))(e:ev L y=some u)(b:∀w,(callFunc g #[u]).run C.P w=.ok (.value v) w):EX C n L w o v:=fun a c=>by simp only[execOp,ho,resolve,c.ev d,Deferred.ofValue,Sem.run_bind,Sem.run_pure,Result.andThen_ok];simp[invoke,c.ev e,b]
theorem zzj{P:Program}{g:FuncId}{fn:Func}(hf:P.funcs[g]?=some fn)(a:(fn.name== "runtime.NumGoroutine")=false)(b:fn.body.isNone=true)(hn:Extern.findNext fn=none)(c:Extern.find fn=some Extern.AbiNoEscape.same)(u:Value)(w:World):(callFunc g #[u]).run P w=.ok (.value u) w:=by simp_all[run_callFunc_extern,Lib.run_noEscape]
end
end
section
open Go.RowKit
def kdT:Option IntKind→TypeDesc|some k=>.int k|none=>.string
def zvs:Option IntKind→D→Prop|some k,.int a _=>a=k|none,.str _=>True|_,_=>False
def kEq:D→D→Bool|.int _ a,.int _ b=>decide (a=b)|.str a,.str b=>decide (a=b)|_,_=>false
def mgD:List (List D)→D→Option (List D)|[],_=>none|(a::ds)::r,k=>if kEq k a=true then some ds else mgD r k|[]::r,k=>mgD r k
def zb6:List (List D)→D→List D→List (List D)|[],k,v=>[k::v]|(a::ds)::r,k,v=>if kEq k a=true then(k::v)::r else(a::ds)::zb6 r k v|[]::r,k,v=>[]::zb6 r k v
def zjj:List (List D)→D→List (List D)|[],_=>[]|(a::ds)::r,k=>if kEq k a=true then r else(a::ds)::zjj r k|[]::r,k=>[]::zjj r k
section
variable(w:World)(O:Nat→Prop)(ky:Option IntKind)(g:Bool)
def zvx(ds:List D)(v:Value):Prop:=match g with|true=>∃vs,v=.agg (yah vs)∧RDs w O ds vs|false=>∃d,ds=[d]∧RD w O d v
def EntR(e:MapEntry)(x:List D):Prop:=∃k ds,x=k::ds∧zvs ky k∧RD w O k e.key∧zvx w O g ds e.val
def z5l:List MapEntry→List (List D)→Prop|[],[]=>True|e::es,x::l=>EntR w O ky g e x∧z5l es l|_,_=>False
end
def encE(es:List MapEntry):Value:=.agg (es.map fun e=>Value.tuple #[e.key,e.val]).toArray
section
variable{w w':World}{O O':Nat→Prop}{ky:Option IntKind}{g:Bool}
theorem zvx.tr{ds:List D}{v:Value}(h:zvx w O g ds v)(t:Tr O w O' w'):zvx w' O' g ds v:=by cases g with|true=>obtain⟨vs,a,h2⟩:=h;exact⟨vs,a,h2.tr t⟩|false=>obtain⟨d,a,h2⟩:=h;exact⟨d,a,h2.tr t⟩
theorem EntR.tr{e:MapEntry}{x:List D}(h:EntR w O ky g e x)(t:Tr O w O' w'):EntR w' O' ky g e x:=by obtain⟨k,ds,a,h2,b,c⟩:=h;exact⟨k,ds,a,h2,b.tr t,c.tr t⟩
theorem z5l.tr:∀{es:List MapEntry}{l:List (List D)},z5l w O ky g es l→Tr O w O' w'→z5l w' O' ky g es l|[],[],_,_=>trivial|_::_,_::_,h,t=>⟨h.1.tr t,z5l.tr h.2 t⟩|[],_::_,h,_=>h.elim|_::_,[],h,_=>h.elim
theorem z5l.len:∀{es:List MapEntry}{l:List (List D)},z5l w O ky g es l→es.length=l.length|[],[],_=>rfl|_::_,_::_,h=>by simp[z5l.len h.2]|[],_::_,h=>h.elim|_::_,[],h=>h.elim
theorem EntR.alike{e e':MapEntry}{x:List D}(h:EntR w O ky g e x)(a:e'.key=e.key)(h2:e'.val=e.val):EntR w O ky g e' x:=by grind[EntR]
theorem z5l.enc:∀{es c:List MapEntry}{l:List (List D)},z5l w O ky g es l→encE es=encE c→z5l w O ky g c l:=by
 have key:∀{es c:List MapEntry}{l:List (List D)},z5l w O ky g es l→(es.map fun e=>Value.tuple #[e.key,e.val])=(c.map fun e=>Value.tuple #[e.key,e.val])→z5l w O ky g c l:=by intro es;induction es with|nil=>simp_all|cons a es j=>intro c l h e;cases c with|nil=>simp at e|cons b c=>cases l with|nil=>exact h.elim|cons x l=>
     simp only[yv,List.cons.injEq,Value.tuple.injEq]at e;obtain⟨f,i⟩:=e;have d:a.key=b.key∧a.val=b.val:=by simpa using f
     exact⟨h.1.alike d.1.symm d.2.symm,j h.2 i⟩
 grind[encE]
theorem z5l.get:∀{es:List MapEntry}{l:List (List D)}{i:Nat}{e:MapEntry},z5l w O ky g es l→es[i]?=some e→∃x,l[i]?=some x∧EntR w O ky g e x|e0::es,x::l,0,e,h,a=>by simp at a;subst a;exact⟨x,rfl,h.1⟩|e0::es,x::l,i+1,e,h,a=>by simpa using z5l.get h.2 (by simpa using a)|[],_,_,_,_,a=>by simp at a|_::_,[],_,_,h,_=>h.elim
theorem z5l.erase:∀{es:List MapEntry}{l:List (List D)}(i:Nat),z5l w O ky g es l→z5l w O ky g (es.eraseIdx i) (l.eraseIdx i)|[],[],_,_=>by trivial|e::es,x::l,0,h=>by simpa using h.2|e::es,x::l,i+1,h=>by exact⟨h.1,z5l.erase i h.2⟩|[],_::_,_,h=>h.elim|_::_,[],_,h=>h.elim
theorem zkc{k:D}{v:Value}(a:zvs ky k)(h:RD w O k v):MapKept.IsKey (kdT ky) v:=by
 cases ky<;>cases k<;>simp only[zvs]at a;·grind[RD,MapKept.IsKey,kdT]
 grind[RD,MapKept.IsKey,kdT]
theorem zz06p{k a:D}{v v':Value}(c:zvs ky k)(b:zvs ky a)(h:RD w O k v)(d:RD w O a v'):kEq k a=true↔v=v':=by
 cases ky<;>cases k<;>simp only[zvs]at c<;>cases a<;>simp only[zvs]at b;·grind[RD,kEq]
 grind[RD,kEq]
theorem find_spec{k:D}{kv:Value}(o:zvs ky k)(b:RD w O k kv):∀(es:List MapEntry)(l:List (List D))(i:Nat),z5l w O ky g es l→(Instr.findNow (kdT ky) kv es i=some none∧mgD l k=none∧zjj l k=l∧(∀x∈es,x.key≠kv)∧∀a val,zvx w O g a val→∀c,z5l w O ky g (es++[⟨kv,val,c⟩]) (zb6 l k a))∨∃j e ds,Instr.findNow (kdT ky) kv es i=some (some (i+j,e.val))∧es[j]?=some e∧e.key=kv∧mgD l k=some ds∧zvx w O g ds e.val∧z5l w O ky g (es.eraseIdx j) (zjj l k)∧∀a val,zvx w O g a val→z5l w O ky g (es.modify j fun e=>{e with key:=kv,val:=val}) (zb6 l k a)
 |[],[],i,_=>.inl ⟨rfl,rfl,rfl,by simp,fun a val d c=>⟨⟨k,a,rfl,o,b,d⟩,trivial⟩⟩|e::es,x::l,i,h=>by
  obtain⟨⟨s,ds,rfl,h2,m,q⟩,z⟩:=h;have G:=zz06p o h2 b m;obtain⟨r,H,n⟩:=MapKept.sameNow_of_keys (zkc o b) (zkc h2 m);by_cases f:kEq k s=true;·have p:=G.1 f;have v:r=true:=n.2 p;subst v;refine .inr ⟨0,e,ds,by simp[Instr.findNow,H],rfl,p.symm,by simp[mgD,f],q,by grind[zjj],fun a val d=>?_⟩;simp only[zb6,f,if_true,List.modify_zero_cons];exact⟨⟨k,a,rfl,o,b,d⟩,z⟩
  ·rcases find_spec o b es l (i+1) z with⟨A,B,y,C,u⟩|⟨j,e',t,A,B,y,C,u,E,F⟩
   ·refine .inl ⟨by grind[Instr.findNow],by grind[mgD],by grind[zjj],fun x I=>?_,fun a val d c=>?_⟩;·grind
    ·simp only[zb6,f,yf,if_false,List.cons_append];exact⟨⟨s,ds,rfl,h2,m,q⟩,u a val d c⟩
   ·refine .inr ⟨j+1,e',t,by grind[Instr.findNow],by grind,y,by grind[mgD],u,?_,fun a val d=>?_⟩;·simp only[zjj,f,yf,if_false,List.eraseIdx_cons_succ];exact⟨⟨s,ds,rfl,h2,m,q⟩,E⟩
    ·simp only[zb6,f,yf,if_false,List.modify_succ_cons];exact⟨⟨s,ds,rfl,h2,m,q⟩,F a val d⟩|[],_::_,_,h=>h.elim|_::_,[],_,h=>h.elim
def MapAt(w:World)(m:Nat)(us:List Value):Prop:=∃es clock,w.heap[m]?=some (.map es clock)∧MapKept.Stamped es clock∧us=[encE es.toList]
theorem MapAt.keep{F:Nat→Prop}{m:Nat}{us:List Value}(h:MapAt w m us)(x:Ext F w w')(hf:¬F m):MapAt w' m us:=by obtain⟨es,clock,a,h2,b⟩:=h;exact⟨es,clock,(x.block m (ya2.1 a).1 hf).trans a,h2,b⟩
section
variable{P:Program}{t kt et:TypeId}{m:Nat}{es:Array MapEntry}{clock:Nat}{l:List (List D)}{k:D}{kv:Value}
theorem zz036{P:Program}{T:TypeId}{z:Value}{w:World}(h:zer P T=some z):(zeroValue T).run P w=.ok z w:=by unfold zer at h;cases a:P.info? T with|none=>grind|some i=>simp_all[zeroValue,typeInfo]
theorem zvg(o:P.underlying t=some (.map kt et))(a:P.underlying kt=some (kdT ky)){z:Value}(s:zer P et=some z)(n:w.heap[m]?=some (.map es clock))(h:z5l w O ky g es.toList l)(f:zvs ky k)(b:RD w O k kv)(c:Bool):∃v ok,(Instr.lookup t (.map (some m)) kv c).run P w=.ok (if c=true then .tuple #[v,.bool ok]else v) w∧(mgD l k=none∧v=z∧ok=false∨∃ds,mgD l k=some ds∧zvx w O g ds v∧ok=true):=by
 have i:(zeroValue et).run P w=.ok z w:=zz036 s;rcases find_spec f b es.toList l 0 h with⟨d,p,_⟩|⟨j,e,ds,d,_,_,q,r,_⟩;·refine⟨z,false,?_,.inl ⟨p,rfl,rfl⟩⟩;simp only[Instr.lookup,Sem.run_bind,run_underlying o,Result.andThen_ok,MapKept.run_getObj_map n,Sem.run_pure,MapKept.run_checkKey a (zkc f b),MapKept.run_findKey a d,i]
 ·refine⟨e.val,true,?_,.inr ⟨ds,q,r,rfl⟩⟩;simp only[Instr.lookup,Sem.run_bind,run_underlying o,Result.andThen_ok,MapKept.run_getObj_map n,Sem.run_pure,MapKept.run_checkKey a (zkc f b),MapKept.run_findKey a d]
theorem Ext.zos{o o':Obj}(c:w.heap[m]?=some o):Ext (At m) w {w with heap:=w.heap.setIfInBounds m o'}:=⟨rfl,rfl,rfl,by simp,fun b d a=>(MapKept.heap_set (w:=w) (o':=o') c).2 b a⟩
theorem ze7(v:P.underlying t=some (.map kt et))(a:P.underlying kt=some (kdT ky))(b:w.heap[m]?=some (.map es clock))(u:MapKept.Stamped es clock)(h:z5l w O ky g es.toList l)(s:zvs ky k)(n:RD w O k kv){x:List D}{val:Value}(C:zvx w O g x val):∃c clock' w',(Instr.mapUpdate t (.map (some m)) kv val).run P w=.ok () w'∧w'.heap[m]?=some (.map c clock')∧MapKept.Stamped c clock'∧z5l w O ky g c.toList (zb6 l k x)∧Ext (At m) w w':=by
 have d:=zkc s n;rcases find_spec s n es.toList l 0 h with⟨o,p,q,r,y⟩|⟨j,e,ds,o,p,q,r,y,A,B⟩;·refine⟨es.push {key:=kv,val:=val,born:=clock},clock+1,{w with heap:=w.heap.setIfInBounds m (.map (es.push {key:=kv,val:=val,born:=clock}) (clock+1))},?_,(MapKept.heap_set b).1,MapKept.stamped_push u r,by grind,Ext.zos b⟩;simp[Instr.mapUpdate,run_underlying v,MapKept.run_getObj_map b,MapKept.run_checkKey a d,MapKept.run_findKey a o,MapKept.run_setObj_map _ b,Result.andThen]
 ·have z:es[j]?=some e:=by simpa using p
  have i:∀e',es[j]?=some e'→({e' with key:=kv,val:=val}:MapEntry).key=e'.key:=fun e' f=>by grind
  refine⟨es.modify j fun e=>{e with key:=kv,val:=val},clock,{w with heap:=w.heap.setIfInBounds m (.map (es.modify j fun e=>{e with key:=kv,val:=val}) clock)},?_,(MapKept.heap_set b).1,MapKept.stamped_modify u _ _ (fun _ _=>rfl) fun e' _ f=>i e' f,by grind,Ext.zos b⟩;simp[Instr.mapUpdate,run_underlying v,MapKept.run_getObj_map b,MapKept.run_checkKey a d,MapKept.run_findKey a o,z,q,MapKept.run_keyThatStays d,MapKept.run_setObj_map _ b,Result.andThen]
theorem zve{ty:TypeId}(s:P.underlying t=some (.map kt et))(a:P.underlying kt=some (kdT ky))(b:w.heap[m]?=some (.map es clock))(r:MapKept.Stamped es clock)(h:z5l w O ky g es.toList l)(q:zvs ky k)(f:RD w O k kv){ts:Array TypeId}(p:ts[0]?=some t):∃c clock' w',(Builtin.delete_ ts ty #[.map (some m),kv]).run P w=.ok (.tuple #[]) w'∧w'.heap[m]?=some (.map c clock')∧MapKept.Stamped c clock'∧z5l w O ky g c.toList (zjj l k)∧Ext (At m) w w':=by
 have d:=zkc q f;rcases find_spec q f es.toList l 0 h with⟨i,o,u,v,x⟩|⟨j,e,ds,i,o,u,v,x,z,A⟩;·refine⟨es,clock,{w with heap:=w.heap.setIfInBounds m (.map es clock)},?_,(MapKept.heap_set b).1,r,by grind,Ext.zos b⟩;simp[Builtin.delete_,p,run_underlying s,MapKept.run_getObj_map b,MapKept.run_checkKey a d,MapKept.run_findKey a i,MapKept.run_setObj_map _ b,Result.andThen]
 ·have y:es[j]?=some e:=by simpa using o
  have n:j<es.size:=(ya2.1 y).1;have B:(es.eraseIdxIfInBounds j).toList=es.toList.eraseIdx j:=by unfold Array.eraseIdxIfInBounds;rw[dif_pos n,Array.toList_eraseIdx]
  refine⟨es.eraseIdxIfInBounds j,clock,{w with heap:=w.heap.setIfInBounds m (.map (es.eraseIdxIfInBounds j) clock)},?_,(MapKept.heap_set b).1,MapKept.stamped_erase r _,by grind,Ext.zos b⟩;simp[Builtin.delete_,p,run_underlying s,MapKept.run_getObj_map b,MapKept.run_checkKey a d,MapKept.run_findKey a i,MapKept.run_setObj_map _ b,Result.andThen]
def zg6(es:List MapEntry)(seen:List Nat):List MapEntry:=es.filter fun e=>!seen.contains e.born
def encI(m since:Nat)(seen:List Nat)(last:Nat):Value:=.agg #[.map (some m),.int .i64 since,.int .i64 last,.agg (seen.map fun n:Nat=>Value.int .i64 (n:Int)).toArray]
theorem zse{m a since since' last last':Nat}{seen seen':List Nat}(h:encI m since seen last=encI a since' seen' last'):m=a∧since=since'∧seen=seen'∧last=last':=by simp only[encI,Value.agg.injEq,Array.mk.injEq,List.cons.injEq,Value.map.injEq,Option.some.injEq,Value.int.injEq,true_and,and_true]at h;grind[List.map_inj_right]
def zgr(w:World)(r:Nat)(us:List Value):Prop:=∃m since seen last,w.heap[r]?=some (.mapIter (some m) since seen last)∧us=[encI m since seen.toList last]
theorem zgr.keep{F:Nat→Prop}{m:Nat}{us:List Value}(h:zgr w m us)(x:Ext F w w')(hf:¬F m):zgr w' m us:=by obtain⟨q,since,seen,last,a,h2⟩:=h;exact⟨q,since,seen,last,(x.block m (ya2.1 a).1 hf).trans a,h2⟩
theorem zol{r since last:Nat}{q:Option Nat}{seen:Array Nat}(a:w.heap[r]?=some (.mapIter q since seen last)):(getObj r).run P w=.ok (.mapIter q since seen last) w:=by simp[getObj,Sem.run,a]
theorem zzl{r since last:Nat}{q:Option Nat}{seen:Array Nat}(o':Obj)(a:w.heap[r]?=some (.mapIter q since seen last)):(setObj r o').run P w=.ok () {w with heap:=w.heap.setIfInBounds r o'}:=by simp[setObj,Sem.run,a]
theorem zzk(b:P.underlying t=some (.map kt et))(a:w.heap[m]?=some (.map es clock)):(Instr.range t (.map (some m))).run P w=.ok (.pointer (some ⟨w.heap.size,0,none⟩)) (w.alloc (.mapIter (some m) clock #[] clock)):=by simp[Instr.range,run_underlying b,MapKept.run_getObj_map a]
theorem zz035{ty:TypeId}{r:Nat}{seen:Array Nat}(q:w.heap[m]?=some (.map es clock))(l:w.heap[r]?=some (.mapIter (some m) clock seen clock))(hold:∀x∈es.toList,x.born<clock):zg6 es.toList seen.toList=[]∧(Instr.next (.pointer (some ⟨r,0,none⟩)) false ty).run P w=.ok (.tuple #[.bool false]) w∨∃(i:Nat)(e:MapEntry),(zg6 es.toList seen.toList)[i]?=some e∧∃w',Ext (At r) w w'∧w'.heap[r]?=some (.mapIter (some m) clock (seen.push e.born) clock)∧(Instr.next (.pointer (some ⟨r,0,none⟩)) false ty).run P w=.ok (.tuple #[.bool true,e.key,e.val]) w':=by
 simp only[Instr.next,Sem.run_bind,zol l,MapKept.run_getObj_map q,Result.andThen_ok,Go.next_test_false seen es clock clock hold (yaq _),yf,if_false];have p:zg6 es.toList seen.toList=(es.filter fun e=>!seen.contains e.born).toList:=by unfold zg6;rw[Array.toList_filter];congr 1;funext e;rw[Array.contains_toList]
 have a:∀x∈(Array.filter (fun e=>!seen.contains e.born) es).toList,x.born<clock:=fun x c=>hold x (by grind);rw[p];generalize Array.filter (fun e=>!seen.contains e.born) es=L at a⊢;have n:L.filter (fun x=>decide (x.born<clock))=L:=Array.filter_eq_self.2 (fun x c=>by grind);have o:L.filter (fun x=>decide (x.born≥clock))=#[]:=by rw[Array.filter_eq_empty_iff];intro x c;have:=a x (by grind);simp;omega
 simp only[n,o,Array.append_empty];by_cases g:L.size=0;·have:L=#[]:=Array.eq_empty_of_size_eq_zero g;subst this;simp[choose,Sem.run,Question.forced]
 ·right;have f:L.isEmpty=false:=by simp[Array.isEmpty,g]
  simp only[f,yf,if_false,Array.empty_append,Array.size_map];have d:∃(j:Nat)(w1:World),j<L.size∧Ext z0x w w1∧w1.heap=w.heap∧(choose (Question.mapNext L.size)).run P w=.ok j w1:=by
   by_cases hf:L.size≤1;·exact⟨0,w,by omega,Ext.refl _ _,rfl,by simp[choose,Sem.run,Question.forced,hf]⟩
   ·exact⟨_,w.drew,Nat.mod_lt _ (by omega),⟨rfl,rfl,rfl,yaq _,fun _ _ _=>rfl⟩,rfl,by simp only[choose,Sem.run,Question.forced,decide_eq_true_eq,hf,if_false,Question.cut];rfl⟩
  obtain⟨j,w1,k,c,t,s⟩:=d;have b:w1.heap[r]?=some (.mapIter (some m) clock seen clock):=by rw[t];exact l
  refine⟨j,L[j],by simp[k],{w1 with heap:=w1.heap.setIfInBounds r (.mapIter (some m) clock (seen.push L[j].born) clock)},?_,(MapKept.heap_set b).1,?_⟩;·exact(c.mono fun _ _ h=>h.elim).trans (Ext.zos b)
  ·simp only[s,Result.andThen_ok];simp[k,zzl _ b,Result.andThen]
theorem zzh{r last:Nat}{seen:Array Nat}{since:Nat}{b:Nat}{e:MapEntry}(c:w.heap[m]?=some (.map es last))(f:w.heap[r]?=some (.mapIter (some m) since seen last))(g:seen.back?=some b)(d:es.toList.find? fun e=>e.born==b=some e):(Instr.entry (.pointer (some ⟨r,0,none⟩))).run P w=.ok (.tuple #[e.key,e.val]) w:=by
 have a:es.find? fun e=>e.born==b=some e:=by rw[←Array.find?_toList];exact d
 simp[Instr.entry,zol f,MapKept.run_getObj_map c,g,a,Result.andThen]
end
theorem Stamped.nil:MapKept.Stamped #[] 0:=⟨by simp,by simp,by simp⟩
inductive MC where|cont(ky:Option IntKind)(g:Bool)(l:List (List D))|it(ky:Option IntKind)(g:Bool)(cur:Option (List D))(rem:List (List D))
def MapD(w:World)(O:Nat→Prop)(m:Nat)(es:Array MapEntry)(clock:Nat):Prop:=w.heap[m]?=some (.map es clock)∧MapKept.Stamped es clock∧¬O m
def CurR(w:World)(O:Nat→Prop)(ky:Option IntKind)(g:Bool)(es:Array MapEntry)(seen:Array Nat):Option (List D)→Prop|none=>True|some x=>∃b e,seen.back?=some b∧es.toList.find? fun e=>e.born==b=some e∧EntR w O ky g e x
def MR(w:World)(O:Nat→Prop):MC→Value→Prop|.cont ky g l,u=>∃es,u=encE es∧z5l w O ky g es l|.it ky g cur rem,u=>∃m seen clock es,u=encI m clock seen.toList clock∧MapD w O m es clock∧z5l w O ky g (zg6 es.toList seen.toList) rem∧CurR w O ky g es seen cur
theorem MapD.tr{m:Nat}{es:Array MapEntry}{clock:Nat}(h:MapD w O m es clock)(t:Tr O w O' w'):MapD w' O' m es clock:=have a:=(ya2.1 h.1).1
 ⟨(t.block m a h.2.2).trans h.1,h.2.1,t.owned m a h.2.2⟩
theorem MR.tr{c:MC}{u:Value}(h:MR w O c u)(t:Tr O w O' w'):MR w' O' c u:=by cases c with|cont ky g l=>obtain⟨es,a,h2⟩:=h;exact⟨es,a,h2.tr t⟩|it ky g cur rem=>obtain⟨m,seen,clock,es,a,h2,d,f⟩:=h;refine⟨m,seen,clock,es,a,h2.tr t,d.tr t,?_⟩;cases cur with|none=>trivial|some x=>obtain⟨b,e,i,j,k⟩:=f;exact⟨b,e,i,j,k.tr t⟩
def zmk(w:World)(b T:Nat)(us:List Value):Prop:=T<1000000∧z2z w b T us∨1000000≤T∧T<2000000∧MapAt w b us∨2000000≤T∧zgr w b us
theorem zmk.un{b T:Nat}{us:List Value}(h:zmk w b T us)(a:T<1000000):z2z w b T us:=by
 rcases h with h|h|h;·exact h.2
 ·omega
 ·omega
theorem zmk.map{b T:Nat}{us:List Value}(h:zmk w b T us)(a:1000000≤T)(c:T<2000000):MapAt w b us:=by
 rcases h with h|h|h;·omega
 ·exact h.2.2
 ·omega
theorem zmk.iter{b T:Nat}{us:List Value}(h:zmk w b T us)(a:2000000≤T):zgr w b us:=by
 rcases h with h|h|h;·omega
 ·omega
 ·exact h.2
theorem zmk.keep{F:Nat→Prop}{b T:Nat}{us:List Value}(h:zmk w b T us)(x:Ext F w w')(hf:¬F b):zmk w' b T us:=h.imp (fun h=>⟨h.1,h.2.keep x hf⟩) fun h=>h.imp (fun h=>⟨h.1,h.2.1,h.2.2.keep x hf⟩) fun h=>⟨h.1,h.2.keep x hf⟩
theorem MapAt.lt{m:Nat}{us:List Value}(h:MapAt w m us):m<w.heap.size:=by obtain⟨es,clock,a,_⟩:=h;grind
theorem zgr.lt{m:Nat}{us:List Value}(h:zgr w m us):m<w.heap.size:=by obtain⟨_,_,_,_,a,_⟩:=h;grind
theorem zmk.lt{b T:Nat}{us:List Value}(h:zmk w b T us):b<w.heap.size:=by
 rcases h with h|h|h;·exact h.2.lt
 ·exact h.2.2.lt
 ·exact h.2.lt
def zlv(l:List (List D))(k:D)(z:List D):List D:=match mgD l k with|some ds=>ds|none=>z
def znw(l:List (List D))(k:D):Bool:=match mgD l k with|some _=>true|none=>false
end
end
section
open Go.RowKit
def rowM(w:World)(T m:Nat)(v:Value)(n:Nat)(xs:List Value):Prop:=xs.length=n*m∧(v=.slice none 0 0∧n=0∨∃g cap cur a,v=.slice (some ⟨g,0,none⟩) n cap∧w.heap[g]?=some (.cells cur T a)∧(a.2=0∨cur.size≤a.1)∧n≤cap∧cap≤maxLen∧cur.size=cap*m∧cur.toList.take (n*m)=xs)
def zeh(w:World)(O:Nat→Prop)(T m:Nat)(v:Value)(l:List (List D)):Prop:=∃xs,rowM w T m v l.length xs∧RDl w O m l xs∧(∀x∈xs,x.oneCell'=true)∧∀b,v.ownBlock=some b→O b
theorem zzc{w:World}{T m n:Nat}{v:Value}{xs:List Value}(h:w.ownsRow 0 T m v n xs):rowM w T m v n xs:=by
 refine⟨h.1,?_⟩;rcases h.2 with hn|⟨g,cap,cur,b,_,a,rest⟩;·exact .inl hn
 grind
theorem zeh.keep{w w':World}{O O' F:Nat→Prop}{T m:Nat}{v:Value}{l:List (List D)}(h:zeh w O T m v l)(x:Ext F w w')(hf:∀b,v.ownBlock=some b→¬F b)(t:Tr O w O' w')(ho:∀b,O b→O' b):zeh w' O' T m v l:=by
 obtain⟨xs,a,h2,e,f⟩:=h;refine⟨xs,⟨a.1,?_⟩,h2.tr t,e,fun b k=>ho b (f b k)⟩;rcases a.2 with i|⟨g,cap,cur,d,rfl,c,j⟩;·exact .inl i
 ·exact .inr ⟨g,cap,cur,d,rfl,(x.block g (ya2.1 c).1 (hf g rfl)).trans c,j⟩
theorem zeh.nil(w:World)(O:Nat→Prop)(T m:Nat):zeh w O T m (.slice none 0 0) []:=⟨[],zzc (World.ownsRow_nil w 0 T m),trivial,by simp,by simp[Value.ownBlock]⟩
theorem zeh.lt{w:World}{O:Nat→Prop}{T m:Nat}{v:Value}{l:List (List D)}(h:zeh w O T m v l):∀b,v.ownBlock=some b→b<w.heap.size:=by
 obtain⟨xs,a,_⟩:=h;intro b c;rcases a.2 with⟨rfl,_⟩|⟨g,cap,cur,d,rfl,e,_⟩;·simp[Value.ownBlock]at c
 grind[Value.ownBlock]
theorem zeh.len{w:World}{O:Nat→Prop}{T m:Nat}{v:Value}{l:List (List D)}(h:zeh w O T m v l):∃p c,v=.slice p l.length c:=by
 obtain⟨xs,a,_⟩:=h;rcases a.2 with⟨rfl,d⟩|⟨g,cap,cur,b,rfl,_⟩;·grind
 simp
theorem zeh.data{w:World}{O:Nat→Prop}{T m:Nat}{v:Value}{l:List (List D)}(h:zeh w O T m v l):RD w (Del O v) (.sl T m l) v:=by
 obtain⟨xs,f,h2,_,o⟩:=h;have a:RDl w (Del O v) m l xs:=h2.tr (Tr.drop w fun x n=>n.1);rcases f.2 with⟨rfl,e⟩|⟨g,cap,cur,d,rfl,i,_,j,k,b,c⟩;·exact .inl ⟨⟨_,rfl⟩,ym e⟩
 ·refine .inr ⟨g,0,cap,cur,(_,d),rfl,j,k,fun ho=>ho.2 rfl,i,by simp[b],?_⟩;rw[←c]at a;simp only[List.drop_zero];exact a.zez
theorem rowM.cells{w:World}{T m n:Nat}{v:Value}{xs:List Value}(h:rowM w T m v n xs){g:Nat}(b:v.ownBlock=some g):∀j u,xs[j]?=some u→w.cell? ((⟨g,0,none⟩:Addr).add j)=some u:=by
 intro j u f;rcases h.2 with⟨rfl,_⟩|⟨e,cap,cur,d,rfl,c,_,_,_,_,a⟩;·simp[Value.ownBlock]at b
 grind[Value.ownBlock,Addr.add_lit,cell_of_row]
theorem z7a(P:Program)(g o:Nat)(t:TypeId)(a:Nat×Nat):∀(vs:List Value)(i:Nat)(cur:Array Value)(w:World),w.heap[g]?=some (.cells cur t a)→a.2=0∨cur.size≤a.1→o+i+vs.length≤cur.size→(∀v∈vs,v.oneCell'=true)→(storeCells ⟨g,o,none⟩ vs i).run P w=.ok () (w.setRow g (cur.toList.take (o+i)++vs++cur.toList.drop (o+i+vs.length)).toArray)
 |[],i,cur,w,c,_,_,_=>by simp only[storeCells,yj,List.length_nil,yaj,List.take_append_drop,Array.toArray_toList];rw[setRow_self w g cur t a c];rfl|v::rest,i,cur,w,c,j,hl,l=>by
  have m:o+i<cur.size:=by simp at hl;omega
  have d:(⟨g,o,none⟩:Addr).add i=⟨g,o+i,none⟩:=Addr.add_lit ..;have b:w.cell? ⟨g,o+i,none⟩=some cur[o+i]:=by simp[World.cell?,c,m]
  have f:w.frozen? ⟨g,o+i,none⟩=false:=by
   obtain⟨r,n⟩:=a;simp only[World.frozen?,c,Bool.and_eq_false_iff,decide_eq_false_iff_not];simp only at j;rcases j with h|h;·right;omega
   ·left;omega
  have k:(store ((⟨g,o,none⟩:Addr).add i) v).run P w=.ok () (w.setRow g (cur.setIfInBounds (o+i) v)):=by rw[d,run_store P w _ v _ (l v (by simp)),b];simp[f,setCell_eq_setRow w g (o+i) cur t a v c]
  have q:=z7a P g o t a rest (i+1) (cur.setIfInBounds (o+i) v) (w.setRow g (cur.setIfInBounds (o+i) v)) (setRow_heap w g cur _ t _ c) (by grind) (by grind) fun x p=>l x (by simp[p]);simp only[storeCells,Sem.run_bind,k,Result.andThen_ok,q,setRow_setRow];congr 3;have e:=list_seg_step cur.toList (o+i) v rest (by omega);simpa[ya8,Nat.add_assoc]using e
theorem Ext.setRow(w:World)(g:Nat)(cur:Array Value):Ext (fun y=>y=g) w (w.setRow g cur):=⟨rfl,rfl,rfl,by simp,fun k _ a=>setRow_other w g k _ fun e=>a e⟩
theorem zeh.store{P:Program}{w:World}{O:Nat→Prop}{T m:Nat}{v:Value}{l:List (List D)}{x:List D}{vs:List Value}{b len cap j:Nat}(h:zeh w O T m v l)(B:v=.slice (some ⟨b,0,none⟩) len cap)(z:j<l.length)(d:vs.length=m)(H:vs.all (·.oneCell')=true)(C:RDs w O x vs):∃w',(storeCells ⟨b,j*m,none⟩ vs).run P w=.ok () w'∧zeh w' O T m v (l.set j x)∧Ext (fun y=>v.ownBlock=some y) w w':=by
 obtain⟨xs,k1,E,k3,s⟩:=h;rcases k1.2 with⟨k,_⟩|⟨g,cap',cur,n,k,u,kf,I,F,f,i⟩;·omega
 ·have c:=B.symm.trans k;simp only[Value.slice.injEq,Option.some.injEq,Addr.mk.injEq,and_true]at c;obtain⟨rfl,rfl,rfl⟩:=c;have A:(j+1)*m≤cap*m:=yav m (by omega);have G:(j+1)*m=j*m+m:=yay j m;have q:=z7a P b (j*m) T n vs 0 cur w u kf (by omega) (by grind);simp only[yaj,d]at q;have o:v.ownBlock=some b:=by rw[k];rfl
  have hF:Ext (fun y=>v.ownBlock=some y) w (w.setRow b (cur.toList.take (j*m)++vs++cur.toList.drop (j*m+m)).toArray):=(Ext.setRow w b _).mono fun y _ r=>by grind
  have t:Tr O w O _:=Tr.z6e hF fun y _ r=>s y r;have e:RDl w O m l cur.toList:=by rw[←i]at E;exact RDl.zez (by omega)
  have a:=(RDl.set C d (j:=j) e z (by grind)).tr t;have p:(cur.toList.take (j*m)++vs++cur.toList.drop (j*m+m)).length=cap*m:=by simp only[yo,yt,yq,ya4,f,d];omega
  refine⟨_,q,⟨(cur.toList.take (j*m)++vs++cur.toList.drop (j*m+m)).take (l.length*m),⟨?_,.inr ⟨b,cap,(cur.toList.take (j*m)++vs++cur.toList.drop (j*m+m)).toArray,n,?_,setRow_heap w b cur _ T _ u,?_,?_,F,?_,?_⟩⟩,?_,?_,s⟩,hF⟩;·simp_all
  ·grind
  ·grind
  ·grind
  ·omega
  ·simp
  ·simpa using RDl.zc4 a
  grind[RDl.one]
structure GrewM(w:World)(O:Nat→Prop)(T m:Nat)(v:Value)(w':World)(O':Nat→Prop)(v':Value)(l:List (List D)):Prop where
 own:zeh w' O' T m v' l
 ext:Ext (fun b=>v.ownBlock=some b) w w'
 tr:Tr O w O' w'
 more:∀b,O b→O' b
 bd:Bd O' w'
 at_:∀b,v'.ownBlock=some b→v.ownBlock=some b∨w.heap.size≤b
 only:∀b,O' b→O b∨w.heap.size≤b
theorem zio{P:Program}{w:World}{O:Nat→Prop}{T:Nat}{t u ty:TypeId}{v:Value}{l:List (List D)}{s:List UInt8}(M:P.underlying t=some (.slice T))(H:P.underlying u=some .string)(X:inf P T=some (.int .u8 0,1,1))(h:zeh w O T 1 v l)(hB:Bd O w)(d:l.length+s.length≤140737488355328):∃v' w' O',(Builtin.append_ #[t,u] ty #[v,.string ⟨s.toArray⟩]).run P w=.ok v' w'∧GrewM w O T 1 v w' O' v' (l++s.map zc7):=by
 obtain⟨i,Y,i2,i3,i4⟩:=zhs X;have hO:=h;obtain⟨xs,F,h2,h3,V⟩:=h;have a:(⟨s.toArray⟩:ByteArray).size=s.length:=by simp[ByteArray.size]
 have B:Lib.strCells ⟨s.toArray⟩=s.map fun b=>Value.int .u8 (b.toNat:Nat):=by simp[Lib.strCells]
 rcases F.2 with⟨rfl,Z⟩|⟨g,cap,cur,U,rfl,W,L,a1,J,K,N⟩;·have hl:l=[]:=ym Z;subst hl;obtain⟨v',w',O',o,G⟩:=zcj (P:=P) (ty:=ty) M H X (Own.nil w O T 1) hB d;obtain⟨ys,y1,y2⟩:=G.own;exact⟨v',w',O',o,⟨ys,zzc y1,y2⟩,G.ext,G.tr,G.more,G.bd,G.at_,G.only⟩
 ·have E:xs.length=l.length:=by simpa using F.1
  have z:cur.size=cap:=by simpa using K
  have m:RDl w O 1 (l++s.map zc7) (xs++Lib.strCells ⟨s.toArray⟩):=by rw[B];exact RDl.append F.1 h2 (z6v s)
  have f:∀u∈xs++Lib.strCells ⟨s.toArray⟩,u.oneCell'=true:=fun u H=>by grind[Lib.strCells_oneCell]
  have e:(xs++Lib.strCells ⟨s.toArray⟩).length=(l++s.map zc7).length*1:=by simp[B,E]
  by_cases p:l.length+s.length≤cap
  ·have C:=z7a P g l.length T U (Lib.strCells ⟨s.toArray⟩) 0 cur w W L (by grind) (Lib.strCells_oneCell _);simp only[yaj,Lib.strCells_length,a]at C;have o:(Builtin.append_ #[t,u] ty #[.slice (some ⟨g,0,none⟩) l.length cap,.string ⟨s.toArray⟩]).run P w=.ok (.slice (some ⟨g,0,none⟩) (l.length+s.length) cap) (w.setRow g (cur.toList.take l.length++Lib.strCells ⟨s.toArray⟩++cur.toList.drop (l.length+s.length)).toArray):=by have hf:=Lib.run_firstCells_string (P:=P) w 1 ⟨s.toArray⟩;rw[a]at hf;simp[Builtin.append_,run_underlying M,run_underlying H,sizeOf,typeInfo,Y,i3,Builtin.lenOf,a,p,hf,Addr.add_lit,C]
   have hF:Ext (fun b=>(Value.slice (some ⟨g,0,none⟩) l.length cap).ownBlock=some b) w (w.setRow g (cur.toList.take l.length++Lib.strCells ⟨s.toArray⟩++cur.toList.drop (l.length+s.length)).toArray):=(Ext.setRow w g _).mono fun y _ Q=>by rw[Q];rfl
   have t:Tr O w O _:=Tr.z6e hF fun y _ Q=>V y Q;have S:(cur.toList.take l.length++Lib.strCells ⟨s.toArray⟩++cur.toList.drop (l.length+s.length)).length=cap:=by simp only[yo,yt,yq,ya4,Lib.strCells_length,a,z];omega
   refine⟨_,_,O,o,⟨xs++Lib.strCells ⟨s.toArray⟩,⟨e,.inr ⟨g,cap,_,U,by simp,setRow_heap w g cur _ T _ W,?_,by grind,J,by grind,?_⟩⟩,m.tr t,f,fun b d=>V b d⟩,hF,t,fun _ h=>h,hB.ext hF,fun b d=>.inl d,fun b d=>.inl d⟩;·grind
   grind
  ·have n:∀j u,xs[j]?=some u→w.cell? ((⟨g,0,none⟩:Addr).add j)=some u:=F.cells (g:=g) rfl;have o:=Lib.run_append_grow_string (P:=P) (ty:=ty) w t u T i (.int .u8 0) M H Y i2 ⟨g,0,none⟩ l.length cap xs (by grind) n ⟨s.toArray⟩ (by omega) (by omega) (by rw[i4,a];exact growslice_fits (by omega) (by omega));rw[a]at o;have a0:=grownCap_ge w (l.length+s.length) cap T;have r:grownCap w (l.length+s.length) cap T≤maxLen:=grownCap_le_maxLen w (l.length+s.length) cap T (by grind[maxLen]);have R:(Value.int IntKind.u8 0).cells.size=1:=rfl;have S:(yah xs++yah (Lib.strCells ⟨s.toArray⟩)++Builtin.zeroCells (Value.int .u8 0).cells (grownCap w (l.length+s.length) cap T-(l.length+s.length))).size=grownCap w (l.length+s.length) cap T:=by simp only[Array.size_append,List.size_toArray,size_zeroCells,R,E,Lib.strCells_length,a];omega
   obtain⟨cur',q⟩:∃c,c=yah xs++yah (Lib.strCells ⟨s.toArray⟩)++Builtin.zeroCells (Value.int .u8 0).cells (grownCap w (l.length+s.length) cap T-(l.length+s.length)):=⟨_,rfl⟩;rw[←q]at o S;have hF:Ext z0x w (w.drew.alloc (.cells cur' T)):=⟨rfl,rfl,rfl,by simp,fun k hk _=>heap_alloc_old w.drew _ hk⟩;have A:(w.drew.alloc (.cells cur' T)).heap[w.heap.size]?=some (.cells cur' T (0,0)):=heap_alloc_new w.drew _;have t:Tr O w (fun x=>O x∨x=w.heap.size) (w.drew.alloc (.cells cur' T)):=⟨hF.size,fun b d _=>hF.block b d id,fun b d ho h'=>by grind⟩;refine⟨_,_,fun x=>O x∨x=w.heap.size,o,⟨xs++Lib.strCells ⟨s.toArray⟩,⟨e,.inr ⟨w.heap.size,_,cur',(0,0),by simp,A,.inl rfl,by grind,r,by omega,?_⟩⟩,m.tr t,f,fun b d=>.inr ?_⟩,hF.mono fun _ _ h=>h.elim,t,fun _ h=>.inl h,fun x I=>?_,fun b d=>.inr ?_,fun b d=>d.imp id fun h=>Nat.le_of_eq h.symm⟩;·grind
   ·grind[Value.ownBlock]
   ·rcases I with I|I;·exact yas (hB x I) hF.size
    grind
   grind[Value.ownBlock]
section
variable{C:Cx}{n:Nat}{ds:List Deferred}{k:Act→World→Prop}{L:Env}{w:World}{ops:Array Oper}{o:Oper}{rest:List Oper}{d:Nat}
theorem OW.zz05h{O:Nat→Prop}{t u T:Nat}{x y:Operand}{c:Value}{l:List (List D)}{s:List UInt8}(g:o.guard=none)(hd:o.dst=some d)(hn:yam d n=true)(ho:o.op=.call {callee:=.builtin .append,args:=#[x,y],argTypes:=#[t,u]})(m:C.P.underlying t=some (.slice T))(p:C.P.underlying u=some .string)(i:inf C.P T=some (.int .u8 0,1,1))(q:ev L x=some c)(r:ev L y=some (.string ⟨s.toArray⟩))(b:zeh w O T 1 c l)(hB:Bd O w)(f:l.length+s.length≤140737488355328)(h:∀v' w' O',GrewM w O T 1 c w' O' v' (l++s.map zc7)→OW C n ds ops rest k ((d,v')::L) w'):OW C n ds ops (o::rest) k L w:=by obtain⟨v',w',O',j,hG⟩:=zio (ty:=o.type) m p i b hB f;refine OW.val (v:=v') (w':=w') g hd hn (fun a e=>?_) (h v' w' O' hG);simp only[execOp,ho,resolve,invoke,builtin,Sem.run_bind,Sem.run_pure,Result.andThen_ok,yx,yv,yw,e.ev q,e.ev r,j]
theorem OW.zz0be{O:Nat→Prop}{T U:TypeId}{x y:Operand}{l:List (List D)}{a:List D}{b len cap j m:Nat}{g:Bool}{u v:Value}{vs:List Value}(s:o.guard=none)(hd:o.dst=none)(ho:o.op=.store T x y)(r:shp C.P T=some (g,m))(E:ev L x=some (.pointer (some ⟨b,j*m,none⟩)))(F:ev L y=some u)(A:u.cells=vs.toArray)(p:vs.length=m)(B:v=.slice (some ⟨b,0,none⟩) len cap)(c:zeh w O U m v l)(t:j<l.length)(q:vs.all (·.oneCell')=true)(z:RDs w O a vs)(h:∀w',zeh w' O U m v (l.set j a)→Ext (fun y=>v.ownBlock=some y) w w'→OW C n ds ops rest k L w'):OW C n ds ops (o::rest) k L w:=by obtain⟨w',d,e,f⟩:=zeh.store (P:=C.P) c B t p q z;refine OW.unit (w':=w') s hd (fun a i=>?_) (h w' e f);simp[execOp,ho,i.ev E,i.ev F,Instr.storeAt,Instr.sureAddr,storeVar,A,(z1u r).2,p,d]
theorem OW.toBytesM{O:Nat→Prop}{t u T:TypeId}{x:Operand}{s:List UInt8}(l:o.guard=none)(hd:o.dst=some d)(hn:yam d n=true)(ho:o.op=.convert t u x)(p:C.P.underlying t=some .string)(q:C.P.underlying u=some (.slice T))(i:C.P.underlying T=some (.int .u8))(f:ev L x=some (.string ⟨s.toArray⟩))(y:s.length≤9223372036854775807)(h:∀v' w',Ext z0x w w'→v'.ownBlock=some w.heap.size→w'.heap.size=w.heap.size+1→(∀O:Nat→Prop,O w.heap.size→zeh w' O T 1 v' ((unb s).map (eI .u8)))→OW C n ds ops rest k ((d,v')::L) w'):OW C n ds ops (o::rest) k L w:=by
 have c:(⟨s.toArray⟩:ByteArray).size=s.length:=by simp[ByteArray.size]
 refine OW.val (v:=.slice (some ⟨w.heap.size,0,none⟩) s.length (grownCap w s.length 0 T)) (w':=Lib.bytesWorld w T ⟨s.toArray⟩) l hd hn (fun a j=>?_) (h _ _ ?_ rfl ?_ fun O z=>?_);·have:=Lib.run_convert_string_bytes (P:=C.P) w t u T ⟨s.toArray⟩ p q i;rw[c]at this;simp only[execOp,ho,j.ev f,Sem.run_bind,this,Result.andThen_ok];rfl
 ·refine⟨?_,?_,?_,?_,fun b g _=>Lib.bytesWorld_at_old w T _ b g⟩;·rfl
  ·rfl
  ·rfl
  grind[Lib.bytesWorld_size]
 ·rw[Lib.bytesWorld_size]
 ·have m:=grownCap_ge w s.length 0 T;have e:(unb s).map (eI .u8)=s.map zc7:=by simp[unb,zc7,eI]
  have r:(Lib.bytesCells w T ⟨s.toArray⟩).toList.take s.length=s.map fun b=>Value.int .u8 (b.toNat:Nat):=by simp[Lib.bytesCells,yaf]
  rw[e];refine⟨s.map fun b=>Value.int .u8 (b.toNat:Nat),⟨by simp,.inr ⟨w.heap.size,grownCap w s.length 0 T,_,_,by simp,Lib.bytesWorld_at_new w T _,.inr (yaq _),by grind,grownCap_le_maxLen w _ 0 T (by grind[maxLen]),?_,by grind⟩⟩,z6v s,fun x f=>?_,fun b g=>?_⟩;·grind[Lib.bytesCells]
  ·obtain⟨b,_,rfl⟩:=List.mem_map.1 f;rfl
  grind[Value.ownBlock]
end
end
theorem zz08g{g h:Nat}{w w':World}{O O':Nat→Prop}(t:Tr O w O' w')(e:¬O g)(a:¬O h)(x:Lib.Utf8Tabs g h w):Lib.Utf8Tabs g h w':=⟨fun c d=>zej t (x.1 c d) e,fun i b=>⟨zej t (x.2 i b).1 a,zej t (x.2 i b).2 a⟩⟩
section
open Go.RowKit
abbrev No:Nat→Prop:=fun _=>False
section
variable{H:Type}{enc:TypeId×Value→H}{P:Program}{w:World}{held:Bool}{fuel:Nat}{cs:List Value}{x:DataW H×List MemPlace}
end
end
end Go.Lk
