import Derived.Test.YtfdoofnmjehecaaGreatDoorPLmE
import Derived.Orders
set_option linter.all false
namespace Go.Lk
open _root_.Option renaming getD_some → ya, map_some → yb
open _root_.Bool renaming and_eq_true → yc, not_eq_true' → yd, or_eq_true → ye
open _root_.List renaming all_eq_true → yf, any_eq_false → yg, any_eq_true → yh, length_filter_le → yi, mapM_cons → yj, mem_append_left → yk, mem_append_right → yl, mem_cons_of_mem → ym, mem_cons_self → yn, mem_filter → yo, mem_range → yp, range → yq
open _root_.Nat renaming beq → yr, blt → ys, decEq → yt, eq_of_beq_eq_true → yu, lt_or_ge → yv, strongRecOn → yw, testBit → yx
open _root_.Array renaming getD → yy, getD_eq_getD_getElem? → yz, getElem?_eq_none → yaa, getElem?_eq_some_iff → yab, getElem?_setIfInBounds_ne → yac, mapM_eq_mapM_toList → yad, replicate → yae
open Go.RowKit

def zbg (o:Oper):List Nat:=(o.after.toList.filter (Region.binds .any ·)).map (·.on)
abbrev Anc:=List Nat
def behind (anc:Anc) (i j:Nat):Bool:=yx (anc.getD i 0) j
def zlz (anc:Anc):List Nat→Nat→Nat
 | [],m=>m
 | p::ps,m=>zlz anc ps (m ||| (1 <<< p) ||| anc.getD p 0)
def zks (ops:Array Oper) (anc:Anc):Bool:=(yq ops.size).all fun i=>((ops[i]?).map fun o=>yr (anc.getD i 0) (zlz anc (zbg o) 0)).getD false
def z4s (ops:Array Oper) (i:Nat):Option Tmp:=(ops[i]?).bind (·.dst)
inductive Gt where
 | fin
 | one (e:Nat) (kp qs:List Nat) (sub:Gt)
 | alt (e:Nat) (kp qs:List Nat) (sub rest:Gt)
def Gt.zfy:Gt→List Nat
 | .fin=>[]
 | .one e _ _ _=>[e]
 | .alt e _ _ _ r=>e::r.zfy
def Gt.pick:Gt→Nat→Option (List Nat × List Nat × Gt)
 | .fin,_=>none
 | .one e kp qs sub,i=>if e=i then some (kp,qs,sub) else none
 | .alt e kp qs sub r,i=>if e=i then some (kp,qs,sub) else r.pick i
def z13 (l:List Nat) (qs:List Nat):List Nat:=l.filter fun q => !(qs.any (yr q))
def z84 (anc:Anc) (rem wai:List Nat) (g:Gt):Bool:=wai.all (fun q=>rem.any fun e=>behind anc q e)&&rem.all fun i=>g.zfy.contains i||rem.any fun j=>behind anc i j
def z48 (anc:Anc) (rem wai done:List Nat) (e:Nat) (kp qs:List Nat):Bool:=rem.contains e&&(done.all fun q=>kp.contains q||behind anc e q)&&kp.all (done.contains ·)&&qs.all fun q=>wai.contains q&&behind anc q e
def z1y (anc:Anc):List Nat→List Nat→List Nat→Gt→Bool
 | _,_,_,.fin=>true
 | rem,wai,done,.one e kp qs sub=>z48 anc rem wai done e kp qs&&z84 anc (z13 rem [e]) (z13 wai qs) sub&&z1y anc (z13 rem [e]) (z13 wai qs) (kp++qs) sub
 | rem,wai,done,.alt e kp qs sub r=>z48 anc rem wai done e kp qs&&z84 anc (z13 rem [e]) (z13 wai qs) sub&&z1y anc (z13 rem [e]) (z13 wai qs) (kp++qs) sub&&z1y anc rem wai done r
theorem z1y.pick {anc:Anc} {i:Nat} {kp qs:List Nat} {sub:Gt}:∀ {g:Gt} {rem wai done:List Nat},z1y anc rem wai done g=true→g.pick i=some (kp,qs,sub) →
  z48 anc rem wai done i kp qs=true∧z84 anc (z13 rem [i]) (z13 wai qs) sub=true∧z1y anc (z13 rem [i]) (z13 wai qs) (kp++qs) sub=true
 | .fin,_,_,_,_,h=>by cases h
 | .one e kp' qs' sub',rem,wai,done,h,hp=>by
  unfold Gt.pick at hp
  split at hp
  ·rename_i e1
   subst e1
   cases hp
   simp only [z1y,yc] at h
   exact ⟨h.1.1,h.1.2,h.2⟩
  ·cases hp
 | .alt e kp' qs' sub' r,rem,wai,done,h,hp=>by
  unfold Gt.pick at hp
  simp only [z1y,yc] at h
  split at hp
  ·rename_i e1
   subst e1
   cases hp
   exact ⟨h.1.1.1,h.1.1.2,h.1.2⟩
  ·exact z1y.pick h.2 hp
theorem Gt.zf0 {i:Nat}:∀ {g:Gt},i∈g.zfy→∃ p,g.pick i=some p
 | .fin,h=>by cases h
 | .one e kp qs sub,h=>by
  simp only [Gt.zfy,List.mem_singleton] at h
  exact ⟨(kp,qs,sub),by simp [Gt.pick,h]⟩
 | .alt e kp qs sub r,h=>by
  by_cases e1:e=i
  ·exact ⟨(kp,qs,sub),by simp [Gt.pick,e1]⟩
  ·rcases List.mem_cons.1 h with rfl|h
   ·exact (e1 rfl).elim
   ·obtain ⟨p,hp⟩:=Gt.zf0 h
    exact ⟨p,by simp [Gt.pick,e1,hp]⟩
theorem z3c {l qs:List Nat} {q:Nat}:q∈z13 l qs↔q∈l∧q∉qs:=by
 unfold z13
 rw [yo,yd,yg]
 refine and_congr_right fun _=>⟨fun h hm=>h q hm (Nat.beq_refl q),fun h x hx e => ?_⟩
 exact h ((yu e)▸hx)
def zsr (ops:Array Oper):Bool:=(yq ops.size).all fun i=>((ops[i]?).map fun o=>(zbg o).all (ys · i)).getD false
def zd5 (anc:Anc) (Q:List Nat) (ts:List Tmp) (i:Nat):List Oper→Nat→Bool
 | [],_=>true
 | o::r,j=>((match o.dst with|some d => !(ts.any (yr d))|none=>true) || !(Q.contains j)||behind anc i j)&&zd5 anc Q ts i r (j+1)
def zom (ops:Array Oper) (anc:Anc) (Q:List Nat):Bool:=(yq ops.size).all fun i=>((ops[i]?).map fun o=>zd5 anc Q (o.looksAt ops) i ops.toList 0).getD false
def zsq (ops:Array Oper) (n:Nat) (Q E:List Nat):Bool:=Q.all fun q=>match z4s ops q with|some t=>decide (t<n) && !(E.any fun e=>z4s ops e==some t)|none=>false
def z36 (ops:Array Oper) (E:List Nat):List Nat:=(yq ops.size).filter fun i => !(E.contains i)
def z5w (ops:Array Oper) (anc:Anc) (n:Nat) (E qs:List Nat) (g:Gt):Bool :=
 zsr ops&&zks ops anc&&zom ops anc (z36 ops E)&&Region.noSelect ops&&zsq ops n (z36 ops E) E&&E.all (· < ops.size)&&qs.all ((z36 ops E).contains ·) &&
 z84 anc E (z13 (z36 ops E) qs) g&&z1y anc E (z13 (z36 ops E) qs) qs g
theorem z9f {anc:Anc} {Q:List Nat} {ts:List Tmp} {i:Nat}:∀ {l:List Oper} {j0:Nat},zd5 anc Q ts i l j0=true→∀ (k:Nat) (o:Oper) (d:Nat),l[k]? = some o→o.dst=some d→d∈ts→(j0+k)∈Q→behind anc i (j0+k)=true
 | [],_,_,k,o,d,h,_,_,_=>by simp at h
 | x::l,j0,hl,k,o,d,h,hd,ht,hq=>by
  simp only [zd5,yc] at hl
  cases k with
  | zero =>
   simp only [List.getElem?_cons_zero,Option.some.injEq] at h
   subst h
   have h1:=hl.1
   rw [hd] at h1
   have h2:ts.any (yr d)=true:=yh.2 ⟨d,ht,Nat.beq_refl d⟩
   have h3:j0∈Q:=by simpa using hq
   simp [h2,h3] at h1
   exact h1
  | succ k =>
   have:=z9f hl.2 k o d (by simpa using h) hd ht (by rw [Nat.add_assoc,Nat.add_comm 1 k];exact hq)
   rwa [Nat.add_assoc,Nat.add_comm 1 k] at this
section
variable {P:Program} {ops:Array Oper} {anc:Anc}
def z4h (P:Program) (ops:Array Oper) (a:Act) (w:World) (q:Nat):Prop :=
 ∀ o,ops[q]? = some o→∀ d,o.dst=some d→(Region.wanted o (yielded ops a.tmps)=true→∃ v,a.tmps[d]? = some v∧(execOp a.eval o).run P w = .ok (.value v) w) ∧
  (Region.wanted o (yielded ops a.tmps)=false→a.tmps[d]? = some undef)
structure Off (ops:Array Oper) (S:List Nat) (a b:Act):Prop where
 size:a.tmps.size=b.tmps.size
 defers:a.defers=b.defers
 get:∀ t,(∀ q∈S,z4s ops q≠some t)→a.tmps[t]? = b.tmps[t]?
def DRa (C:Cx) (ds:List Deferred) (ops:Array Oper) (K:Act→World→Prop):(done:List Nat)→Gt→Act→World→Prop
 | done,.fin,a,w=>(∀ q∈done,z4h C.P ops a w q)∧K a w
 | done,.one e kp qs sub,a,w=>(∀ q∈done,z4h C.P ops a w q)∧∀ o,ops[e]? = some o →
   wpList C.P ops (QT C ds (fun a' w'=>∃ b',Off ops qs a' b'∧DRa C ds ops K (kp++qs) sub b' w')) [o] a w
 | done,.alt e kp qs sub r,a,w=>(∀ o,ops[e]? = some o →
   wpList C.P ops (QT C ds (fun a' w'=>∃ b',Off ops qs a' b'∧DRa C ds ops K (kp++qs) sub b' w')) [o] a w)∧DRa C ds ops K done r a w
theorem DRa.znw {C:Cx} {ds:List Deferred} {ops:Array Oper} {K:Act→World→Prop} {done:List Nat} {a:Act} {w:World}:∀ {g:Gt},DRa C ds ops K done g a w→∀ q∈done,z4h C.P ops a w q
 | .fin,h=>h.1
 | .one ..,h=>h.1
 | .alt _ _ _ _ r,h=>DRa.znw (g:=r) h.2
theorem DRa.pick {C:Cx} {ds:List Deferred} {ops:Array Oper} {K:Act→World→Prop} {done kp qs:List Nat} {a:Act} {w:World} {i:Nat} {o:Oper} {sub:Gt} (ho:ops[i]? = some o):∀ {g:Gt},DRa C ds ops K done g a w→g.pick i=some (kp,qs,sub) →
  wpList C.P ops (QT C ds (fun a' w'=>∃ b',Off ops qs a' b'∧DRa C ds ops K (kp++qs) sub b' w')) [o] a w
 | .fin,_,hp=>by cases hp
 | .one e _ _ _,h,hp=>by
  unfold Gt.pick at hp
  split at hp
  ·rename_i e1
   subst e1
   cases hp
   exact h.2 o ho
  ·cases hp
 | .alt e _ _ _ r,h,hp=>by
  unfold Gt.pick at hp
  split at hp
  ·rename_i e1
   subst e1
   cases hp
   exact h.1 o ho
  ·exact DRa.pick ho (g:=r) h.2 hp

theorem zas {o:Oper} {j:Nat}:j∈zbg o↔∃ e∈o.after,Region.binds .any e=true∧e.on=j:=by
 simp only [zbg,List.mem_map,yo]
 constructor
 ·rintro ⟨e,⟨h1,h2⟩,h3⟩;exact ⟨e,by simpa using h1,h2,h3⟩
 ·rintro ⟨e,h1,h2,h3⟩;exact ⟨e,⟨by simpa using h1,h2⟩,h3⟩
theorem zds {anc:Anc} {j:Nat}:∀ {ps:List Nat} {m:Nat},yx (zlz anc ps m) j=true→yx m j=true∨∃ p∈ps,j=p∨behind anc p j=true
 | [],m,h => .inl h
 | p::ps,m,h=>by
  simp only [zlz] at h
  rcases zds h with h|⟨q,h1,h2⟩
  ·rw [Nat.testBit_or,Nat.testBit_or,ye,ye] at h
   rcases h with (h|h)|h
   ·exact .inl h
   ·refine .inr ⟨p,yn,.inl ?_⟩
    rw [Nat.one_shiftLeft,Nat.testBit_two_pow] at h
    simp at h
    exact h.symm
   ·exact .inr ⟨p,yn,.inr h⟩
  ·exact .inr ⟨q,ym _ h1,h2⟩
theorem zcb (h:zks ops anc=true) {i j:Nat} {o:Oper} (ho:ops[i]? = some o) (hb:behind anc i j=true):∃ p∈zbg o,j=p∨behind anc p j=true:=by
 have:=yf.1 h i (yp.2 (yab.1 ho).1)
 simp only [ho,yb,ya] at this
 have:=yu this
 unfold behind at hb
 rw [this] at hb
 rcases zds hb with h|h
 ·simp at h
 ·exact h
theorem z3m {listed:Array Bool} {i j:Nat} {o:Oper} (ha:zks ops anc=true) (hlow:∀ (i:Nat) (o:Oper),ops[i]? = some o→∀ j∈zbg o,j<i) (hd:∀ i,listed.getD i false=true→∀ o,ops[i]? = some o→∀ j∈zbg o,listed.getD j false=true)
  (ho:ops[i]? = some o) (hr:∀ e∈o.after,Region.binds .any e=true→listed.getD e.on false=true) (h:behind anc i j=true):listed.getD j false=true:=by
 have key:∀ k,listed.getD k false=true→k<ops.size→∀ j,behind anc k j=true→listed.getD j false=true:=by
  intro k
  induction k using yw with
  | _ k ih =>
   intro hk hlt j hb
   have hok:ops[k]? = some ops[k]:=by simp [hlt]
   obtain ⟨p,hp,hj⟩:=zcb ha hok hb
   have hlp:=hd k hk _ hok p hp
   rcases hj with rfl|hj
   ·exact hlp
   ·have hpk:=hlow k _ hok p hp
    exact ih p hpk hlp (by omega) j hj
 obtain ⟨p,hp,hj⟩:=zcb ha ho h
 obtain ⟨e,h1,h2,rfl⟩:=zas.1 hp
 have hle:=hr e h1 h2
 rcases hj with rfl|hj
 ·exact hle
 ·have hpk:=hlow i o ho e.on hp
  have:=(yab.1 ho).1
  exact key e.on hle (by omega) j hj
structure Stat (ops:Array Oper) (anc:Anc) (Q E:List Nat):Prop where
 okA:zks ops anc=true
 low:∀ (i:Nat) (o:Oper),ops[i]? = some o→∀ j∈zbg o,j<i
 look:∀ (i:Nat) (o:Oper),ops[i]? = some o→∀ t∈o.looksAt ops,∀ j,j<ops.size→j∈Q→z4s ops j=some t→behind anc i j=true
 sel:∀ (i:Nat) (o:Oper),ops[i]? = some o→∀ cs b,o.op ≠ .select cs b
 cov:∀ i,i<ops.size→i∈Q∨i∈E
 dst:∀ q∈Q,∃ t,z4s ops q=some t∧∀ e∈E,z4s ops e≠some t
 dis:∀ q∈Q,q∉E
 rng:∀ e∈E,e<ops.size
structure zr8 (ops:Array Oper) (anc:Anc) (Q E:List Nat) (listed:Array Bool) (rem wai done:List Nat) (g:Gt) (a b:Act):Prop where
 sz:listed.size=ops.size
 down:∀ i,listed.getD i false=true→∀ o,ops[i]? = some o→∀ j∈zbg o,listed.getD j false=true
 size:a.tmps.size=b.tmps.size
 defers:a.defers=b.defers
 get:∀ t,(∀ q∈done,listed.getD q false=false→z4s ops q≠some t)→a.tmps[t]? = b.tmps[t]?
 zrh:∀ e∈rem,listed.getD e false=false∧e∈E
 ztv:∀ q∈wai,listed.getD q false=false∧q∈Q
 zu8:∀ i∈Q,listed.getD i false=true∨i∈done∨i∈wai
 zu7:∀ i∈E,listed.getD i false=true∨i∈rem
 zm7:∀ q∈done,q∈Q
 cov:z84 anc rem wai g=true
 alts:z1y anc rem wai done g=true

theorem zfx {listed:Array Bool} {i:Nat} (h:listed.getD i true=false):i<listed.size:=by
 rcases yv i listed.size with h'|h'
 ·exact h'
 ·simp [yy,Nat.not_lt.2 h'] at h
theorem zeb {listed:Array Bool} {i:Nat} (h:listed.getD i true=false):listed.getD i false=false:=by
 have hl:=zfx h
 simp [yy,hl] at h ⊢
 exact h
theorem zea {listed:Array Bool} {i:Nat} (hl:i<listed.size) (h:listed.getD i false=false):listed.getD i true=false:=by
 simp [yy,hl] at h ⊢
 exact h
theorem zhx {listed:Array Bool} {i:Nat} (h:i<listed.size) (d:Bool):(listed.setIfInBounds i true).getD i d=true:=by
 simp [yy,h]
theorem ziu {Q E:List Nat} {listed:Array Bool} {rem wai done:List Nat} {g:Gt} {a b:Act} (hs:Stat ops anc Q E) (hi:zr8 ops anc Q E listed rem wai done g a b) {i:Nat} {o:Oper} (ho:ops[i]? = some o)
  (hr:∀ e∈o.after,Region.binds .any e=true→listed.getD e.on false=true):(∀ t∈o.looksAt ops,a.tmps[t]? = b.tmps[t]?):=by
 intro t ht
 refine hi.get t fun q hq hl e => ?_
 have hlt:q<ops.size:=by
  unfold z4s at e
  rcases yv q ops.size with h|h
  ·exact h
  ·simp [yaa h] at e
 rw [z3m hs.okA hs.low hi.down ho hr (hs.look i o ho t ht q hlt (hi.zm7 q hq) e)] at hl
 cases hl
theorem zih {a b:Act} {o:Oper} (hsel:∀ cs b,o.op ≠ .select cs b) (h:∀ t∈o.looksAt ops,a.tmps[t]? = b.tmps[t]?):execOp a.eval o=execOp b.eval o :=
 execOp_congr o hsel fun x hx=>by
  cases x with
  | tmp t =>
   have:=h t (by unfold Oper.looksAt;exact yk _ (List.mem_filterMap.2 ⟨.tmp t,by simpa using hx,rfl⟩))
   simp [Act.eval,this]
  | const v=>rfl
  | global g=>rfl
  | func f=>rfl
theorem zfh {a b:Act} {o:Oper} (h:∀ t∈o.looksAt ops,a.tmps[t]? = b.tmps[t]?):Region.wanted o (yielded ops a.tmps)=Region.wanted o (yielded ops b.tmps):=by
 unfold Region.wanted
 cases hg:o.guard with
 | none=>rfl
 | some gw =>
  obtain ⟨j,want⟩:=gw
  have:yielded ops a.tmps j=yielded ops b.tmps j:=by
   unfold yielded
   cases ht:(ops[j]?).bind (·.dst) with
   | none=>rfl
   | some t =>
    have:=h t (by unfold Oper.looksAt;rw [hg];exact yl _ (by simp [ht]))
    simp [this]
  simp only [this]
theorem z97 {o:Oper} {a b:Act} {na nb:Act→World→Prop} {Qa Qb:Exit→Act→World→Prop} (hn:∀ dd v w,nb ({ b with defers:=dd++b.defers }.put o.dst v) w→na ({ a with defers:=dd++a.defers }.put o.dst v) w)
  (hp:∀ ch w,Qb (.panic ch) b w→Qa (.panic ch) a w) (hout:¬LetsOut Qb):∀ r,o.upon P b nb Qb r→o.upon P a na Qa r:=by
 have hn0:∀ v w,nb (b.put o.dst v) w→na (a.put o.dst v) w:=fun v w h=>hn [] v w h
 intro r h
 cases r with
 | ok x w' =>
  cases x<;>simp only [Oper.upon] at h ⊢ <;>
   first
    | exact hn0 _ _ h
    | exact hn [_] _ _ h
    | exact Calls.mono h (fun e w2 he=>by
      cases e with
      | returned v=>exact hn0 _ _ he
      | panicked ch=>exact hp _ _ he
      | outgrown=>exact (hout he).elim)
    | exact Rows.mono h (fun _ _ he=>hn0 _ _ he)
 | halt x w'=>cases x<;>simp only [Oper.upon] at h ⊢ <;> first|exact hp _ _ h|exact h
end
theorem zbj {C:Cx} {ds:List Deferred} {K:Act→World→Prop}:¬LetsOut (QT C ds K):=fun ⟨_,_,h⟩=>h

theorem zi4 {ops:Array Oper} {anc:Anc} {Q E:List Nat} (hs:Stat ops anc Q E) {listed:Array Bool} (hz:listed.size=ops.size) (hr:Region.ready .any ops listed=[]):∀ i,i<ops.size→listed.getD i false=true:=by
 intro i
 induction i using yw with
 | _ i ih =>
  intro hlt
  rcases hb:listed.getD i false with _|_
  ·have hm:i∈Region.ready .any ops listed:=mem_ready.2 ⟨zea (by omega) hb,ops[i],by simp [hlt],fun e he hbnd=>by
    have h1:=hs.low i ops[i] (by simp [hlt]) e.on (zas.2 ⟨e,he,hbnd,rfl⟩)
    exact ih e.on h1 (by omega)⟩
   rw [hr] at hm
   cases hm
  ·rfl
theorem zh1 {C:Cx} {ds:List Deferred} {ops:Array Oper} {anc:Anc} {K:Act→World→Prop} {Q E:List Nat} (hs:Stat ops anc Q E) {listed:Array Bool} {rem wai done:List Nat} {g:Gt} {a b:Act} {w:World}
  (hall:∀ i,i<ops.size→listed.getD i false=true) (hd:a.defers=ds) (hi:zr8 ops anc Q E listed rem wai done g a b) (hr:DRa C ds ops K done g b w):QT C ds K .normal a w:=by
 have hab:a=b:=by
  have h1:a.tmps=b.tmps:=Array.ext_getElem? fun t=>hi.get t fun q _ hl e=>by
   have hlt:q<ops.size:=by
    unfold z4s at e
    rcases yv q ops.size with h|h
    ·exact h
    ·simp [yaa h] at e
   rw [hall q hlt] at hl
   cases hl
  cases a;cases b
  simp only at h1
  have h2:=hi.defers
  simp only at h2
  subst h1 h2
  rfl
 subst hab
 have no:∀ e kp qs sub,z48 anc rem wai done e kp qs=true∧sub=sub→False:=fun e kp qs (sub:Gt) ⟨h,_⟩=>by
  simp only [z48,yc] at h
  have hm:e∈rem:=by simpa using h.1.1.1
  obtain ⟨h1,h2⟩:=hi.zrh e hm
  rw [hall _ (hs.rng e h2)] at h1
  cases h1
 have ha:=hi.alts
 cases g with
 | fin=>exact ⟨hd,hr.2⟩
 | one e kp qs sub=>simp only [z1y,yc] at ha;exact (no e kp qs sub ⟨ha.1.1,rfl⟩).elim
 | alt e kp qs sub r=>simp only [z1y,yc] at ha;exact (no e kp qs sub ⟨ha.1.1.1,rfl⟩).elim
theorem filter_lt {n:Nat} {listed:Array Bool} {i:Nat} (hz:listed.size=n) (hi:listed.getD i true=false) {fuel:Nat} (h:((yq n).filter fun i => !listed.getD i true).length≤fuel+1) :
  ((yq n).filter fun j => !(listed.setIfInBounds i true).getD j true).length≤fuel:=by
 have hlt:=zfx hi
 have hsub:((yq n).filter fun j => !(listed.setIfInBounds i true).getD j true)=((yq n).filter fun j => !listed.getD j true).filter (fun j=>j != i):=by
  rw [List.filter_filter]
  refine List.filter_congr fun j _ => ?_
  rcases yt i j with hne|rfl
  ·rw [getD_set_ne true hne]
   have:(j != i)=true:=by simp;omega
   simp [this]
  ·simp [zhx hlt]
 rw [hsub]
 have hmem:i∈(yq n).filter fun j => !listed.getD j true:=by
  rw [yo]
  exact ⟨yp.2 (by omega),by simp only [hi];rfl⟩
 have hlen:(((yq n).filter fun j => !listed.getD j true).filter (fun j=>j != i)).length<((yq n).filter fun j => !listed.getD j true).length:=by
  refine Nat.lt_of_le_of_ne (yi _ _) fun e => ?_
  rw [List.length_filter_eq_length_iff] at e
  have:=e i hmem
  simp at this
 omega
def zgn:ResultVar→Nat
 | .tmp t=>t
 | .cell t _=>t
def zr9 (C:Cx) (ops:Array Oper):Prop:=C.lv=false∨∀ q t,z4s ops q=some t→∀ r∈C.fn.results.toList,zgn r≠t
theorem mapM_alike {α β:Type} {f g:α→Sem β}:∀ {l:List α},(∀ r∈l,f r=g r)→l.mapM f=l.mapM g
 | [],_=>rfl
 | r::l,h=>by rw [yj,yj,h r yn,mapM_alike fun q hq=>h q (ym _ hq)]
theorem zdd {P:Program} {fn:Func} {ta tb:Array Value} (h:∀ r∈fn.results.toList,ta[zgn r]? = tb[zgn r]?) (w:World):(results fn ta).run P w=(results fn tb).run P w:=by
 unfold results
 rw [yad,yad]
 congr 2
 refine congrArg _ (mapM_alike fun r hr => ?_)
 have h1:=h r hr
 have e1:ta.getD (zgn r) undef=tb.getD (zgn r) undef:=by
  rw [yz,yz,h1]
 cases r<;>simp only [zgn] at e1<;>simp only [e1]
theorem z6j {P:Program} {fn:Func} {ta tb:Array Value} {R:Ending→World→Prop} (h:∀ w,(results fn ta).run P w=(results fn tb).run P w):∀ (ds:List Deferred) (u:FrameMode) (w:World),Leaves P fn tb R ds u w→Leaves P fn ta R ds u w
 | [],.returning,w,⟨v,h1,h2⟩=>⟨v,(h w).trans h1,h2⟩
 | [],.panicking _,w,hl=>hl
 | [],.run,w,hl=>hl.elim
 | d::ds,u,w,⟨h1,fv,cap,f,args,h2,h3,h4⟩=>⟨h1,fv,cap,f,args,h2,h3,h4.mono fun e u' w' he=>by
   cases e with
   | returned v=>exact z6j h ds _ _ he
   | panicked ch=>exact z6j h ds _ _ he
   | outgrown=>exact he⟩
theorem PN.alike {C:Cx} {ops:Array Oper} (h:zr9 C ops) {a b:Act} {ch:List PanicEntry} {w:World} (hdef:a.defers=b.defers) (hget:∀ t,(∀ q,z4s ops q≠some t)→a.tmps[t]? = b.tmps[t]?) (hq:PN C b ch w):PN C a ch w:=by
 cases hlv:C.lv<;>cases hdf:C.dfr<;>simp only [PN,hlv,hdf] at hq ⊢
 ·exact ⟨hdef.trans hq.1,hq.2⟩
 ·exact ⟨hdef.trans hq.1,hq.2⟩
 ·rcases h with h|h
  ·rw [h] at hlv;cases hlv
  ·rw [hdef]
   exact z6j (zdd fun r hr=>hget _ fun q e=>h q _ e r hr rfl) _ _ _ hq
 ·exact ⟨hdef.trans hq.1,hq.2⟩
theorem zig {C:Cx} {ds:List Deferred} {ops:Array Oper} {anc:Anc} {K:Act→World→Prop} {Q E:List Nat} (hlv:zr9 C ops) (hs:Stat ops anc Q E):∀ (fuel:Nat) (listed:Array Bool) (rem wai done:List Nat) (g:Gt) (a b:Act) (w:World),
  ((yq ops.size).filter fun i => !listed.getD i true).length≤fuel→a.defers=ds→zr8 ops anc Q E listed rem wai done g a b→DRa C ds ops K done g b w→wpAny C.P .any ops (QT C ds K) fuel listed a w:=by
 intro fuel
 induction fuel with
 | zero =>
  intro listed rem wai done g a b w hf hd hi hr
  have hnil:((yq ops.size).filter fun i => !listed.getD i true)=[]:=List.eq_nil_of_length_eq_zero (by omega)
  have hall:∀ i,i<ops.size→listed.getD i false=true:=fun i hlt=>by
   have:i∉((yq ops.size).filter fun i => !listed.getD i true):=by rw [hnil];simp
   rw [yo] at this
   have hz:=hi.sz
   rcases hb:listed.getD i false with _|_
   ·exact absurd ⟨yp.2 hlt,by simp only [zea (by omega:i<listed.size) hb];rfl⟩ this
   ·rfl
  refine ⟨?_,zh1 hs hall hd hi hr⟩
  refine List.eq_nil_iff_forall_not_mem.2 fun i hm => ?_
  obtain ⟨h0,o,ho,_⟩:=mem_ready.1 hm
  have h1:=zeb h0
  rw [hall i (yab.1 ho).1] at h1
  cases h1
 | succ fuel ih =>
  intro listed rem wai done g a b w hf hd hi hr
  refine ⟨fun hn=>zh1 hs (zi4 hs hi.sz hn) hd hi hr,fun i hm => ?_⟩
  obtain ⟨h0,o,ho,hready⟩:=mem_ready.1 hm
  have hlt:=zfx h0
  have h0':=zeb h0
  have hlook:=ziu hs hi ho hready
  have hex:=zih (hs.sel i o ho) hlook
  have hwt:=zfh hlook
  have hf':=filter_lt hi.sz h0 hf
  have hdown':∀ j,(listed.setIfInBounds i true).getD j false=true→∀ o,ops[j]? = some o→∀ k∈zbg o,(listed.setIfInBounds i true).getD k false=true:=by
   intro j hj o' ho' k hk
   rcases yt i j with hne|rfl
   ·rw [getD_set_ne false hne] at hj
    exact getD_set_true (hi.down j hj o' ho' k hk)
   ·rw [ho] at ho'
    cases ho'
    obtain ⟨e,h1,h2,rfl⟩:=zas.1 hk
    exact getD_set_true (hready e h1 h2)
  unfold wpOp
  simp only [ho]
  rcases hs.cov i (by have:=hi.sz;omega) with hiq|hie
  ·-- a quiet one
   have hdone:i∈done:=by
    rcases hi.zu8 i hiq with h|h|h
    ·rw [h0'] at h;cases h
    ·exact h
    ·have hc:=hi.cov
     simp only [z84,yc,yf] at hc
     obtain ⟨e,he,hb⟩:=yh.1 (hc.1 i h)
     have h1:=z3m hs.okA hs.low hi.down ho hready hb
     rw [(hi.zrh e he).1] at h1
     cases h1
   have hstab:z4h C.P ops b w i:=hr.znw i hdone
   obtain ⟨d,hdd,hdE⟩:=hs.dst i hiq
   have hod:o.dst=some d:=by simpa [z4s,ho] using hdd
   have hst:=hstab o ho d hod
   have key:∀ v,b.tmps[d]? = some v→zr8 ops anc Q E (listed.setIfInBounds i true) rem wai done g (a.put o.dst v) b:=fun v hv=>by
    refine ⟨by simpa using hi.sz,hdown',by simpa [hod,Act.put] using hi.size,by simpa [hod,Act.put] using hi.defers,fun t ht => ?_,fun e he => ?_,fun q hq => ?_,fun e he => ?_,fun e he => ?_,hi.zm7,hi.cov,hi.alts⟩
    ·rw [hod]
     simp only [Act.put]
     rcases yt d t with hne|rfl
     ·rw [yac hne]
      refine hi.get t fun q hq hl => ?_
      rcases yt i q with hne2|rfl
      ·exact ht q hq (by rw [getD_set_ne false hne2];exact hl)
      ·rw [hdd];intro e;exact hne (Option.some.inj e)
     ·have hsz:d<a.tmps.size:=by
       rw [hi.size]
       exact (yab.1 hv).1
      rw [hv]
      simp [hsz]
    ·obtain ⟨k1,k2⟩:=hi.zrh e he
     have hne:i≠e:=fun h=>hs.dis i hiq (h▸k2)
     exact ⟨by rw [getD_set_ne false hne];exact k1,k2⟩
    ·obtain ⟨k1,k2⟩:=hi.ztv q hq
     have hne:i≠q:=fun h=>by
      subst h
      have hc:=hi.cov
      simp only [z84,yc,yf] at hc
      obtain ⟨e,he,hb⟩:=yh.1 (hc.1 i hq)
      have h1:=z3m hs.okA hs.low hi.down ho hready hb
      rw [(hi.zrh e he).1] at h1
      cases h1
     exact ⟨by rw [getD_set_ne false hne];exact k1,k2⟩
    ·rcases hi.zu8 e he with h|h
     ·exact .inl (getD_set_true h)
     ·exact .inr h
    ·rcases hi.zu7 e he with h|h
     ·exact .inl (getD_set_true h)
     ·exact .inr h
   by_cases hw:Region.wanted o (yielded ops a.tmps)=true
   ·rw [if_pos hw]
    obtain ⟨v,hv,hrun⟩:=hst.1 (by rw [←hwt];exact hw)
    left
    unfold Oper.wp
    rw [hex,hrun,Oper.upon_value]
    exact ih _ rem wai done g _ b w hf' (by simpa [hod,Act.put] using hd) (key v hv) hr
   ·rw [if_neg hw]
    have hu:=hst.2 (by rw [←hwt];simpa using hw)
    exact ih _ rem wai done g _ b w hf' (by simpa [hod,Act.put] using hd) (key undef hu) hr
  ·-- one that acts: a choice
   have him:i∈rem:=by
    rcases hi.zu7 i hie with h|h
    ·rw [h0'] at h;cases h
    ·exact h
   have hhead:i∈g.zfy:=by
    have hc:=hi.cov
    simp only [z84,yc,yf,ye] at hc
    rcases hc.2 i him with h|h
    ·simpa using h
    ·obtain ⟨e,he,hb⟩:=yh.1 h
     have h1:=z3m hs.okA hs.low hi.down ho hready hb
     rw [(hi.zrh e he).1] at h1
     cases h1
   obtain ⟨⟨kp,qs,sub⟩,hpick⟩:=Gt.zf0 hhead
   have hwp:=hr.pick ho hpick
   obtain ⟨hnode,hcov,halts⟩:=z1y.pick hi.alts hpick
   simp only [z48,yc] at hnode
   obtain ⟨⟨⟨_,hn2⟩,hn3⟩,hn4⟩:=hnode
   ·have hdrop:∀ q∈done,q∈kp∨listed.getD q false=true:=fun q hq=>by
     have:=yf.1 hn2 q hq
     rw [ye] at this
     rcases this with h|h
     ·exact .inl (by simpa using h)
     ·exact .inr (z3m hs.okA hs.low hi.down ho hready h)
    have hkd:∀ q∈kp,q∈done:=fun q hq=>by simpa using yf.1 hn3 q hq
    have hqw:∀ q∈qs,q∈wai:=fun q hq=>by
     have:=yf.1 hn4 q hq
     rw [yc] at this
     simpa using this.1
    have hEd:∀ q∈Q,o.dst≠none→z4s ops q≠o.dst:=fun q hq hne heq=>by
     obtain ⟨t,h1,h2⟩:=hs.dst q hq
     have:z4s ops i=o.dst:=by simp [z4s,ho]
     exact h2 i hie (by rw [this,←heq,h1])
    have key:∀ (dd:List Deferred) (v:Value) (b':Act),Off ops qs ({ b with defers:=dd++b.defers }.put o.dst v) b' →
      zr8 ops anc Q E (listed.setIfInBounds i true) (z13 rem [i]) (z13 wai qs) (kp++qs) sub ({ a with defers:=dd++a.defers }.put o.dst v) b':=fun dd v b' ho'=>by
     have hget:∀ t,(∀ q∈done,listed.getD q false=false→z4s ops q≠some t)∨o.dst=some t→({ a with defers:=dd++a.defers }.put o.dst v).tmps[t]? = ({ b with defers:=dd++b.defers }.put o.dst v).tmps[t]?:=fun t ht=>by
      cases hdst:o.dst with
      | none =>
       rw [hdst] at ht
       exact hi.get t (ht.resolve_right (by simp))
      | some d =>
       rw [hdst] at ht
       simp only [Act.put]
       rcases yt d t with hne|rfl
       ·rw [yac hne,yac hne]
        exact hi.get t (ht.resolve_right fun e=>hne (Option.some.inj e))
       ·rcases yv d a.tmps.size with hl|hl
        ·have hl2:d<b.tmps.size:=by rw [←hi.size];exact hl
         simp [hl,hl2]
        ·have hl2:b.tmps.size≤d:=by rw [←hi.size];exact hl
         rw [yaa (by simpa using hl),yaa (by simpa using hl2)]
     refine ⟨by simpa using hi.sz,hdown',?_,?_,fun t ht => ?_,fun e he => ?_,fun q hq => ?_,fun q hq => ?_,fun q hq => ?_,fun q hq => ?_,hcov,halts⟩
     ·rw [←ho'.size]
      cases o.dst<;>simpa [Act.put] using hi.size
     ·rw [←ho'.defers]
      have:=hi.defers
      cases o.dst<;>simp [Act.put,this]
     ·rw [←ho'.get t fun q hq => ?_]
      ·refine hget t (.inl fun q hq hl=>ht q (yk _ ((hdrop q hq).resolve_right (by rw [hl];simp))) ?_)
       have hne:i≠q:=fun h=>hs.dis q (hi.zm7 q hq) (h▸hie)
       rw [getD_set_ne false hne]
       exact hl
      ·obtain ⟨m1,m2⟩:=hi.ztv q (hqw q hq)
       have hne:i≠q:=fun h=>hs.dis q m2 (h▸hie)
       exact ht q (yl _ hq) (by rw [getD_set_ne false hne];exact m1)
     ·obtain ⟨h1,h2⟩:=z3c.1 he
      obtain ⟨k1,k2⟩:=hi.zrh e h1
      have hne:i≠e:=fun h=>h2 (by simp [h])
      exact ⟨by rw [getD_set_ne false hne];exact k1,k2⟩
     ·obtain ⟨k1,k2⟩:=hi.ztv q (z3c.1 hq).1
      have hne:i≠q:=fun h=>hs.dis q k2 (h▸hie)
      exact ⟨by rw [getD_set_ne false hne];exact k1,k2⟩
     ·rcases hi.zu8 q hq with h|h|h
      ·exact .inl (getD_set_true h)
      ·rcases hdrop q h with h|h
       ·exact .inr (.inl (yk _ h))
       ·exact .inl (getD_set_true h)
      ·by_cases hqq:q∈qs
       ·exact .inr (.inl (yl _ hqq))
       ·exact .inr (.inr (z3c.2 ⟨h,hqq⟩))
     ·rcases hi.zu7 q hq with h|h
      ·exact .inl (getD_set_true h)
      ·rcases yt i q with hne|rfl
       ·exact .inr (z3c.2 ⟨h,by simpa using fun e=>hne e.symm⟩)
       ·exact .inl (zhx hlt false)
     ·rcases List.mem_append.1 hq with h|h
      ·exact hi.zm7 q (hkd q h)
      ·exact (hi.ztv q (hqw q h)).2
    unfold wpList at hwp
    by_cases hw:Region.wanted o (yielded ops a.tmps)=true
    ·rw [if_pos hw]
     rw [if_pos (by rw [←hwt];exact hw)] at hwp
     rcases hwp with hwp|⟨_,hout⟩
     ·left
      unfold Oper.wp at hwp ⊢
      rw [hex]
      refine z97 (nb:=wpList C.P ops _ []) (fun dd v w2 hn => ?_) (fun ch w2 hq=>by
       have hq:PN C b ch w2:=hq
       show PN C a ch w2
       exact PN.alike hlv hi.defers (fun t ht=>hi.get t fun q _ _=>ht q) hq) zbj _ hwp
      obtain ⟨hdef,b',h1,h2⟩:=hn
      refine ih _ _ _ (kp++qs) sub _ b' w2 hf' ?_ (key dd v b' h1) h2
      rw [←hdef]
      have:=hi.defers
      cases o.dst<;>simp [Act.put,this]
     ·exact (zbj hout).elim
    ·rw [if_neg hw]
     rw [if_neg (by rw [←hwt];exact hw)] at hwp
     obtain ⟨hdef,b',h1,h2⟩:=hwp
     exact ih _ _ _ (kp++qs) sub _ b' w hf' (by cases hdst:o.dst<;>simpa [hdst,Act.put] using hd) (key [] undef b' h1) h2
theorem zat {ops:Array Oper} {E:List Nat} {i:Nat}:i∈z36 ops E↔i<ops.size∧i∉E:=by
 unfold z36
 simp
theorem z5w.stat {ops:Array Oper} {anc:Anc} {n:Nat} {E qs:List Nat} {g:Gt} (h:z5w ops anc n E qs g=true):Stat ops anc (z36 ops E) E:=by
 simp only [z5w,yc] at h
 obtain ⟨⟨⟨⟨⟨⟨⟨⟨h1,h0⟩,h2⟩,h3⟩,h5⟩,h7⟩,h8⟩,h9⟩,h10⟩:=h
 refine ⟨h0,fun i o ho j hj => ?_,fun i o ho t ht j hj hjq hd => ?_,fun i o ho cs b=>Region.noSelect_spec h3 i o cs b ho,fun i hi => ?_,fun q hq => ?_,fun q hq=>(zat.1 hq).2,fun e he => ?_⟩
 ·have:=yf.1 h1 i (yp.2 (yab.1 ho).1)
  simp only [ho,yb,ya] at this
  simpa using yf.1 this j hj
 ·have:=yf.1 h2 i (yp.2 (yab.1 ho).1)
  simp only [ho,yb,ya] at this
  have hoj:ops.toList[j]? = some ops[j]:=by simp [hj]
  have:=z9f this j ops[j] t hoj (by simpa [z4s,hj] using hd) ht (by simpa using hjq)
  simpa using this
 ·by_cases h:i∈E
  ·exact .inr h
  ·exact .inl (zat.2 ⟨hi,h⟩)
 ·have:=yf.1 h5 q hq
  split at this
  ·rename_i t ht
   refine ⟨t,ht,fun e he hc => ?_⟩
   simp only [yc,yd,yg] at this
   exact this.2 e he (by simp [hc])
  ·cases this
 ·simpa using yf.1 h7 e he

theorem Has.over {n:Nat} {qv L:Env} {a:Act} (hq:qv.all (fun p=>ys p.1 n)=true) (h:Has n L a):∃ b,Has n (qv++L) b∧b.defers=a.defers∧∀ t,(∀ p∈qv,p.1≠t)→a.tmps[t]? = b.tmps[t]?:=by
 induction qv with
 | nil=>exact ⟨a,h,rfl,fun _ _=>rfl⟩
 | cons p qv ih =>
  simp only [List.all_cons,yc] at hq
  obtain ⟨b,h1,h3,h4⟩:=ih hq.2
  refine ⟨b.put (some p.1) p.2,h1.put (by simpa [Nat.blt_eq] using hq.1),h3,fun t ht => ?_⟩
  simp only [Act.put]
  rw [yac (ht p yn)]
  exact h4 t fun q hq=>ht q (ym _ hq)
theorem Has.off {n:Nat} {qv L:Env} {a:Act} {ops:Array Oper} {S:List Nat} (hq:qv.all (fun p=>ys p.1 n&&S.any fun q=>z4s ops q==some p.1)=true) (h:Has n L a):∃ b,Has n (qv++L) b∧Off ops S a b:=by
 have h1:qv.all (fun p=>ys p.1 n)=true:=yf.2 fun p hp=>by
  have:=yf.1 hq p hp
  simp only [yc] at this
  exact this.1
 obtain ⟨b,e1,e2,e3⟩:=h.over h1
 refine ⟨b,e1,by rw [h.size,e1.size],e2.symm,fun t ht=>e3 t fun p hp e => ?_⟩
 have:=yf.1 hq p hp
 simp only [yc,yh] at this
 obtain ⟨_,q,hq,hqe⟩:=this
 exact ht q hq (by simpa [e] using hqe)
def ztp (ops:Array Oper) (n:Nat) (S:List Nat) (qv:Env):Bool:=qv.all (fun p=>ys p.1 n&&S.any fun q=>z4s ops q==some p.1)

theorem zmo {ops:Array Oper} {anc:Anc} {n:Nat} {E qs:List Nat} {g:Gt} {a b:Act} (h:z5w ops anc n E qs g=true) (ho:Off ops qs a b):zr8 ops anc (z36 ops E) E (yae ops.size false) E (z13 (z36 ops E) qs) qs g a b:=by
 simp only [z5w,yc] at h
 obtain ⟨⟨⟨⟨⟨⟨⟨⟨h1,h0⟩,h2⟩,h3⟩,h5⟩,h7⟩,h8⟩,h9⟩,h10⟩:=h
 have hno:∀ i,(yae ops.size false).getD i false=false:=fun i=>by
  rw [yz,Array.getElem?_replicate]
  split<;>rfl
 refine ⟨by simp,fun i hi=>(by rw [hno] at hi;cases hi),ho.size,ho.defers,fun t ht=>ho.get t fun q hq=>ht q hq (hno q),fun e he=>⟨hno e,he⟩,fun q hq=>⟨hno q,(z3c.1 hq).1⟩,fun i hi => ?_,fun i hi => .inr hi,fun q hq => ?_,h9,h10⟩
 ·by_cases hq:i∈qs
  ·exact .inr (.inl hq)
  ·exact .inr (.inr (z3c.2 ⟨hi,hq⟩))
 ·simpa using yf.1 h8 q hq

section
variable {C:Cx} {n:Nat} {ds:List Deferred} {ops:Array Oper} {K:Act→World→Prop} {done:List Nat} {L:Env} {w:World}
def DK (C:Cx) (n:Nat) (ds:List Deferred) (ops:Array Oper) (K:Act→World→Prop) (kp:List Nat) (qs:List Nat) (g:Gt):Act→World→Prop :=
 fun a' w'=>∃ b',Off ops qs a' b'∧DRa C ds ops K (kp++qs) g b' w'
def DP (C:Cx) (n:Nat) (ds:List Deferred) (ops:Array Oper) (K:Act→World→Prop) (done:List Nat) (qs:List Nat) (g:Gt) (L:Env) (w:World):Prop :=
 ∀ a,Has n L a→a.defers=ds→DK C n ds ops K done qs g a w
end
section
variable {C:Cx} {n:Nat} {ds:List Deferred} {k:Act→World→Prop} {L:Env} {w:World}
end
theorem TW.zp9 {C:Cx} {n:Nat} {ds:List Deferred} {k:List Item} {L:Env} {w:World} {id:Nat} {l:List Oper} (anc:Anc) (E qs:List Nat) (g:Gt) (hm:C.P.follows .mixedOrders=true) (hok:z5w l.toArray anc n E qs g=true) (hlv:zr9 C l.toArray)
  (h:∀ w',Ext z18 w w'→DP C n ds l.toArray (TWa C k) [] qs g L w'):TW C n ds (.code (.region id l.toArray true)::k) L w:=fun a ha hd cs=>by
 obtain ⟨b,hoff,h2⟩:=h { w with drawn:=w.drawn+1 } ⟨rfl,rfl,rfl,Nat.le_refl _,fun _ _ _=>rfl⟩ a ha hd
 have hsound:=zig (C:=C) (ds:=ds) (K:=TWa C k) hlv (z5w.stat hok) l.toArray.size (yae l.toArray.size false) E (z13 (z36 l.toArray E) qs) qs g a b { w with drawn:=w.drawn+1 }
  (Nat.le_trans (yi _ _) (by simp)) hd (zmo hok hoff) h2
 refine (?_:zra C cs _).of_steps (.one step_region_draw)
 simp only [Region.schedule,hm,Bool.true_or,if_true]
 exact z5g (C:=C) (wpAny_sound _ _ _ _ _ hsound) cs
end Go.Lk
