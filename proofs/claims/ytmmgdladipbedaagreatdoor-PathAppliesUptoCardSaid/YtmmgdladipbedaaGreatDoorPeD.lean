import Derived.Test.YtmmgdladipbedaaGreatDoorPeS5
import Derived.Test.YtmmgdladipbedaaGreatDoorLkF
set_option linter.all false
namespace Go.Pe
open _root_.Option renaming map_some → ya
open _root_.Bool renaming and_eq_true → yb, noConfusion → yc, not_eq_true' → yd, or_eq_true → ye
open _root_.List renaming all_eq_true → yf, any_cons → yg, any_eq_true → yh, cons_append → yi, filterMap_cons → yj, filter_map → yk, mem_append → yl, mem_cons → ym, mem_cons_of_mem → yn, mem_cons_self → yo, mem_filter → yp, mem_map → yq, mem_singleton → yr, take_append_drop → ys
open _root_.Nat renaming beq → yt, beq_refl → yu, eq_of_beq_eq_true → yv
open _root_.Array renaming getElem?_eq_none_iff → yw, toList_inj → yx
open Go.RowKit Go.Lk
variable [Lb]

def Vr (ops:Array Oper) (o:Oper) (V:Env):Env:=(o.looksAt ops).filterMap fun t=>(Env.get V t).map fun v=>(t,v)
theorem zvl {ops:Array Oper} {o:Oper} {V:Env} {t:Nat} {v:Value} (h:Env.get (Vr ops o V) t=some v):t∈o.looksAt ops∧Env.get V t=some v:=by
 unfold Vr at h
 revert h
 induction o.looksAt ops with
 | nil=>intro h;cases h
 | cons s l ih =>
  intro h
  simp only [yj] at h
  cases hs:Env.get V s with
  | none =>
   rw [hs] at h
   obtain ⟨h1,h2⟩:=ih h
   exact ⟨yn _ h1,h2⟩
  | some x =>
   rw [hs] at h
   simp only [ya] at h
   unfold Env.get at h
   split at h
   ·rename_i e
    cases h
    have e:=yv e
    subst e
    exact ⟨yo,hs⟩
   ·obtain ⟨h1,h2⟩:=ih h
    exact ⟨yn _ h1,h2⟩
theorem zya {ops:Array Oper} {o:Oper} {V:Env} {t:Nat} {v:Value} (ht:t∈o.looksAt ops) (h:Env.get V t=some v):Env.get (Vr ops o V) t=some v:=by
 unfold Vr
 revert ht
 induction o.looksAt ops with
 | nil=>intro ht;cases ht
 | cons s l ih =>
  intro ht
  simp only [yj]
  by_cases e:s=t
  ·subst e
   rw [h]
   simp [Env.get]
  ·have ht2:t∈l:=by
    rcases ym.1 ht with rfl|ht
    ·exact (e rfl).elim
    ·exact ht
   cases hs:Env.get V s with
   | none=>exact ih ht2
   | some x =>
    simp only [ya]
    unfold Env.get
    split
    ·rename_i e2
     exact (e (yv e2)).elim
    ·exact ih ht2
theorem z8f {β:Type} {t:Nat} {v:β}:∀ {ks:List Nat} {l:List (Nat × β)},lk (z5l ks l) t=some v→t∈ks
 | [],l,h=>by cases h
 | x::r,l,h=>by
  unfold z5l at h
  split at h
  ·rcases z0t h with ⟨rfl,rfl⟩|⟨_,h2⟩
   ·exact yo
   ·exact yn _ (z8f h2)
  ·exact yn _ (z8f h)
section
variable {z:W0} {V V':Env} {w w':World} {O O':Nat→Prop} {φ:Nat→Nat} {α:Nat→Value} {σ σ1:St} {C:Cx} {n:Nat} {ops:Array Oper} {o:Oper} {K:Act→World→Prop} {G:GI} {con:Nat→CIn→z3s→Prop} {tb:Tb} {cty:List (Nat × List (Option (Nat × Nat)))} {ann:Ann} {ds:List Deferred}
theorem zjf {σ σ':St}:∀ {xs:List Operand},(∀ x∈xs,σ'.ev x=σ.ev x)→σ'.evs xs=σ.evs xs
 | [],_=>rfl
 | x::xs,h=>by simp only [St.evs,h x yo,zjf fun y hy=>h y (yn _ hy)]
theorem zk8 {σ':St} {op:Op} {k:PV→Prop} (hev:∀ x∈op.operands,σ'.ev x=σ.ev x) (hB:σ'.B=σ.B) (hA:σ'.A=σ.A) (h:qop tb σ op k):qop tb σ' op k:=by
 have hl:∀ td u (kk:Int→Prop),zpg td σ u kk→zpg td σ' u kk:=fun td u kk=>by
  unfold zpg zsk
  rw [hA,hB]
  exact id
 have hload:∀ g m u,zgi σ g m u k→zgi σ' g m u k:=fun g m u=>by
  unfold zgi zu6
  rw [hA,hB]
  exact id
 revert h
 unfold qop
 split
 case h_1=>rw [hev _ (by simp [Op.operands])];exact id
 case h_2=>rw [hev _ (by simp [Op.operands])];exact id
 case h_3=>rename_i c x y;rw [hev c (by simp [Op.operands]),hev x (by simp [Op.operands]),hev y (by simp [Op.operands])];exact id
 case h_4=>rename_i x y _;rw [hev x (by simp [Op.operands]),hev y (by simp [Op.operands])];exact id
 case h_5=>rw [hev _ (by simp [Op.operands])];exact id
 case h_6=>rw [hev _ (by simp [Op.operands])];exact id
 case h_7=>rw [hev _ (by simp [Op.operands])];exact id
 case h_8=>rename_i as cs;rw [zjf (xs:=as.toList) fun x hx=>hev x (by simp [Op.operands];exact .inl (by simpa using hx)),zjf (xs:=cs.toList) fun x hx=>hev x (by simp [Op.operands];exact .inr (by simpa using hx))];exact id
 case h_9=>rw [hev _ (by simp [Op.operands])];exact id
 case h_10=>rw [hev _ (by simp [Op.operands])];exact id
 case h_11=>rw [hev _ (by simp [Op.operands])];exact id
 case h_12=>rw [hev _ (by simp [Op.operands])];exact id
 case h_13=>rw [hev _ (by simp [Op.operands])];exact zj fun _=>zj fun _=>hload _ _ _
 case h_14=>rename_i x y;rw [hev x (by simp [Op.operands]),hev y (by simp [Op.operands])];exact id
 case h_15 =>
  rename_i x y
  rw [hev y (by simp [Op.operands]),hA]
  split
  ·exact id
  ·rename_i hx
   rw [hev x (by simp [Op.operands])]
   exact id
 case h_16 =>
  rename_i t x lo hi
  have hlo:∀ y,lo=some y→σ'.ev y=σ.ev y:=fun y hy=>hev y (by subst hy;simp [Op.operands])
  have hhi:∀ y,hi=some y→σ'.ev y=σ.ev y:=fun y hy=>hev y (by subst hy;simp [Op.operands])
  rw [hev x (by simp [Op.operands])]
  refine zj fun _=>zj fun _ => ?_
  have e1:∀ kk:Int→Prop,loW σ lo kk→loW σ' lo kk:=fun kk=>by
   unfold loW
   cases lo with
   | none=>exact id
   | some y=>simp only [hlo y rfl];exact id
  have e2:∀ td u (kk:Int→Prop),hiW td σ u hi kk→hiW td σ' u hi kk:=fun td u kk=>by
   unfold hiW
   cases hi with
   | none=>exact hl td u kk
   | some y=>simp only [hhi y rfl];exact id
  exact fun hh=>e1 _ (zjs (fun _=>e2 _ _ _) hh)
 case h_17 =>
  rename_i c
  split
  ·rename_i x t e1 e2 e3
   rw [hev x (by
    have e4:c.args = #[x]:=by apply yx.1;simpa using e2
    simp [Op.operands,Call.operands,e4])]
   exact zj fun _=>zj fun _=>hl _ _ _
  ·rename_i x y e1 e2
   have e4:c.args = #[x,y]:=by apply yx.1;simpa using e2
   rw [hev x (by simp [Op.operands,Call.operands,e4]),hev y (by simp [Op.operands,Call.operands,e4])]
   exact id
  ·rename_i x y e1 e2
   have e4:c.args = #[x,y]:=by apply yx.1;simpa using e2
   rw [hev x (by simp [Op.operands,Call.operands,e4]),hev y (by simp [Op.operands,Call.operands,e4])]
   exact id
  ·exact id
 case h_18=>rw [hev _ (by simp [Op.operands])];exact id
 case h_19=>rename_i parts;rw [zjf (xs:=parts.toList.map (·.2)) fun x hx=>hev x (by simpa [Op.operands] using hx)];exact id
 case h_20=>rename_i x hi mx;rw [hev x (by simp [Op.operands]),hev hi (by simp [Op.operands]),hev mx (by simp [Op.operands])];exact id
 case h_21=>exact id
theorem zen {x:Operand} (hx:x∈o.op.operands):(σ.only ops o).ev x=σ.ev x:=by
 cases x with
 | tmp t =>
  have ht:t∈o.looksAt ops:=by
   unfold Oper.looksAt
   exact List.mem_append_left _ (List.mem_filterMap.2 ⟨.tmp t,by simpa using hx,rfl⟩)
  show lk (z5l (o.looksAt ops) σ.L) t=lk σ.L t
  revert ht
  induction o.looksAt ops with
  | nil=>intro ht;cases ht
  | cons s l ih =>
   intro ht
   unfold z5l
   by_cases e:s=t
   ·subst e
    cases hs:lk σ.L s with
    | none =>
     simp only
     by_cases hl:s∈l
     ·rw [ih hl,hs]
     ·cases hq:lk (z5l l σ.L) s with
      | none=>rfl
      | some y=>exact (hl (z8f hq)).elim
    | some v=>simp [lk]
   ·have ht2:t∈l:=by
     rcases ym.1 ht with rfl|ht
     ·exact (e rfl).elim
     ·exact ht
    cases hs:lk σ.L s with
    | none=>exact ih ht2
    | some v =>
     simp only
     show (match yt s t with
      | true=>some v
      | false=>lk (z5l l σ.L) t)=_
     split
     ·rename_i e2;exact (e (yv e2)).elim
     ·exact ih ht2
 | const v=>rfl
 | global g=>rfl
 | func f=>rfl
theorem zr3:stb (σ.only ops o) o.op=stb σ o.op:=by
 unfold stb
 split
 ·rename_i x ho
  rw [zen (by rw [ho];simp [Op.operands])]
 ·rename_i c ho
  split
  ·rename_i x hx
   have:x∈c.args:=by rw [←Array.mem_toList_iff,hx];simp
   rw [zen (by rw [ho];simp only [Op.operands,Call.operands];cases c.callee<;>simp [this])]
  ·rfl
 ·rfl
theorem Rel.lim (h:Rl z σ V w O φ α) (o:Oper):Rl z (σ.only ops o) (Vr ops o V) w O φ α :=
 ⟨fun t v hv=>by
  obtain ⟨u,h1,h2⟩:=h.env t v (z5c hv)
  exact ⟨u,zya (z8f hv) h1,h2⟩,h.box,h.arr,h.bb,h.aa,h.ab,h.bF,h.aF,h.bd,h.ext,h.only,h.gl,h.keep⟩
theorem Rel.zh0 (h:Rl z σ V w O φ α) {s:Nat} {b:Bool} (e:Env.get V s=some (.bool b)):Rl z (σ.zh0 s b) V w O φ α:=⟨fun t v hv=>by
  rcases z0t hv with ⟨rfl,rfl⟩|⟨_,h2⟩
  ·exact ⟨_,e,rfl⟩
  ·exact h.env t v h2,h.box,h.arr,h.bb,h.aa,h.ab,h.bF,h.aF,h.bd,h.ext,h.only,h.gl,h.keep⟩
def KQ (C:Cx) (n:Nat) (ops:Array Oper) (V:Env) (w:World) (O:Nat→Prop) (p:Nat × Bool):Prop :=
 ∃ (o:Oper) (d:Nat) (u:Value),ops[p.1]? = some o∧o.dst=some d∧Env.get V d=some u∧d∉o.looksAt ops ∧
  ((u=Go.undef∧∃ j b s x,o.guard=some (j,b)∧(ops[j]?).bind (·.dst)=some s∧Env.get V s=some x∧(x = .bool (!b)∨x=Go.undef)) ∨
   ((o.guard=none∨∃ j b s,o.guard=some (j,b)∧(ops[j]?).bind (·.dst)=some s∧Env.get V s=some (.bool b))∧(p.2=true→∀ w' O',Tr O w O' w'→EX C n (Vr ops o V) w' o u)))
def KN (C:Cx) (n:Nat) (ops:Array Oper) (V:Env) (w:World) (q:Nat):Prop :=
 ∃ (o:Oper) (d:Nat) (u:Value),ops[q]? = some o∧o.dst=some d∧Env.get V d=some u ∧
  ((u=Go.undef∧∃ j b s x,o.guard=some (j,b)∧(ops[j]?).bind (·.dst)=some s∧Env.get V s=some x∧(x = .bool (!b)∨x=Go.undef)) ∨
   ((o.guard=none∨∃ j b s,o.guard=some (j,b)∧(ops[j]?).bind (·.dst)=some s∧Env.get V s=some (.bool b))∧EX C n (Vr ops o V) w o u))
theorem z3e {j s:Nat} {b:Bool} (hg:o.guard=some (j,b)) (hj:(ops[j]?).bind (·.dst)=some s):s∈o.looksAt ops:=by
 unfold Oper.looksAt
 rw [hg]
 exact List.mem_append_right _ (by simp [hj])
theorem zt1 (h:∀ t∈o.looksAt ops,Env.get V' t=Env.get V t):Vr ops o V'=Vr ops o V:=by
 unfold Vr
 revert h
 induction o.looksAt ops with
 | nil=>intro _;rfl
 | cons s l ih =>
  intro h
  simp only [yj,h s yo,ih fun t ht=>h t (yn _ ht)]
theorem KQ.move {p:Nat × Bool} (h:KQ C n ops V w O p) (t:Tr O w O' w') (he:∀ o,ops[p.1]? = some o→∀ d,o.dst=some d→Env.get V' d=Env.get V d∧∀ t∈o.looksAt ops,Env.get V' t=Env.get V t):KQ C n ops V' w' O' p:=by
 obtain ⟨o,d,u,h1,h2,h3,h4,h5⟩:=h
 obtain ⟨e1,e2⟩:=he o h1 d h2
 refine ⟨o,d,u,h1,h2,by rw [e1];exact h3,h4,?_⟩
 rcases h5 with ⟨k1,j,b,s,x,k3,k4,k5,k6⟩|⟨k1,k2⟩
 ·exact .inl ⟨k1,j,b,s,x,k3,k4,by rw [e2 s (z3e k3 k4)];exact k5,k6⟩
 ·refine .inr ⟨?_,fun hp w2 O2 t2=>by rw [zt1 e2];exact k2 hp w2 O2 (t.trans t2)⟩
  rcases k1 with k1|⟨j,b,s,k3,k4,k5⟩
  ·exact .inl k1
  ·exact .inr ⟨j,b,s,k3,k4,by rw [e2 s (z3e k3 k4)];exact k5⟩
theorem KN.move {q:Nat} (h:KN C n ops V w q) (he:∀ o,ops[q]? = some o→∀ d,o.dst=some d→Env.get V' d=Env.get V d∧∀ t∈o.looksAt ops,Env.get V' t=Env.get V t):KN C n ops V' w q:=by
 obtain ⟨o,d,u,h1,h2,h3,h5⟩:=h
 obtain ⟨e1,e2⟩:=he o h1 d h2
 refine ⟨o,d,u,h1,h2,by rw [e1];exact h3,?_⟩
 rcases h5 with ⟨k1,j,b,s,x,k3,k4,k5,k6⟩|⟨k1,k2⟩
 ·exact .inl ⟨k1,j,b,s,x,k3,k4,by rw [e2 s (z3e k3 k4)];exact k5,k6⟩
 ·refine .inr ⟨?_,by rw [zt1 e2];exact k2⟩
  rcases k1 with k1|⟨j,b,s,k3,k4,k5⟩
  ·exact .inl k1
  ·exact .inr ⟨j,b,s,k3,k4,by rw [e2 s (z3e k3 k4)];exact k5⟩
theorem z4o {d:Nat}:∀ {dn:List Nat},z6v ops d dn=true→∀ p∈dn,∀ o,ops[p]? = some o→∀ e,o.dst=some e→e≠d∧d∉o.looksAt ops
 | q::r,h,p,hp,o,ho,e,he=>by
  simp only [z6v,yb] at h
  rcases ym.1 hp with rfl|hp
  ·have h1:=h.1
   rw [ho] at h1
   simp only [he,yb,yd] at h1
   refine ⟨Nat.ne_of_beq_eq_false h1.1,fun hm => ?_⟩
   have:(o.looksAt ops).any (yt d)=true:=yh.2 ⟨d,hm,yu d⟩
   rw [this] at h1
   exact yc h1.2
  ·exact z4o h.2 p hp o ho e he
theorem z2f {d t:Nat} {u:Value} (h:t≠d):Env.get ((d,u)::V) t=Env.get V t:=by
 show (match yt d t with
  | true=>some u
  | false=>Env.get V t)=_
 split
 ·rename_i e;exact (h (yv e).symm).elim
 ·rfl
theorem zrl {op:Op} (h:zuu op=true):stb σ op=true:=by
 cases op<;>first|rfl|cases h
theorem zg1 {dn:List (Nat × Bool)} {ix:List Nat} {q:Nat} {k:St→List (Nat × Bool)→Prop} (ht:TbOk C.P tb) (hgt:∀ w O,z.G w O→zpm tb w O) (h:Rl z σ V w O φ α) (hn:∀ o,ops[q]? = some o→dOk n o.dst=true) (hcq:zky ops [q] ix=true) (hw:exq tb ops σ dn q k) :
  ∃ d u b σ1 o,ops[q]? = some o∧o.dst=some d∧Nat.blt d n=true∧z6v ops d ix=true∧k σ1 ((q,b)::dn)∧Rl z σ1 ((d,u)::V) w O φ α∧KQ C n ops ((d,u)::V) w O (q,b)∧KN C n ops ((d,u)::V) w q∧(zuu o.op=true→b=true):=by
 unfold exq at hw
 simp only [St.go_eq,z7w] at hw
 split at hw
 ·exact hw.elim
 ·rename_i o ho
  have hn:=hn o ho
  split at hw
  ·rename_i d hd hq
   ·have hcl:=hcq
    simp only [zky,ho,hd,yb,yd,and_true] at hcl
    have hdl:d∉o.looksAt ops:=fun hm=>by
     have:(o.looksAt ops).any (yt d)=true:=yh.2 ⟨d,hm,yu d⟩
     rw [this] at hcl
     exact yc hcl.2
    rw [hd] at hn
    have gd:∀ u:Value,Env.get ((d,u)::V) d=some u:=fun u=>by simp [Env.get]
    have ev:∀ u:Value,Vr ops o ((d,u)::V)=Vr ops o V:=fun u=>zt1 fun t ht'=>z2f fun e=>hdl (e▸ht')
    -- wanted
    have yes:∀ (σ':St),Rl z σ' V w O φ α→(o.guard=none∨∃ j b s,o.guard=some (j,b)∧(ops[j]?).bind (·.dst)=some s∧Env.get V s=some (.bool b))→(qop tb σ' o.op fun v=>k (σ'.put (some d) v) ((q,stb σ' o.op)::dn)) →
      ∃ d u b σ1 o,ops[q]? = some o∧o.dst=some d∧Nat.blt d n=true∧z6v ops d ix=true∧k σ1 ((q,b)::dn)∧Rl z σ1 ((d,u)::V) w O φ α∧KQ C n ops ((d,u)::V) w O (q,b)∧KN C n ops ((d,u)::V) w q∧(zuu o.op=true→b=true):=fun σ' h' hg hw'=>by
     obtain ⟨v,u,k1,k2,k3,k4⟩:=z8p (n:=n) ht hgt (h'.lim (ops:=ops) o) (zk8 (fun x hx=>zen hx) rfl rfl hw')
     rw [zr3] at k4
     have hg':o.guard=none∨∃ j b s,o.guard=some (j,b)∧(ops[j]?).bind (·.dst)=some s∧Env.get ((d,u)::V) s=some (.bool b):=by
      rcases hg with hg|⟨j,b,s,g1,g2,g3⟩
      ·exact .inl hg
      ·exact .inr ⟨j,b,s,g1,g2,by rw [z2f (t:=s) (d:=d) fun e=>hdl (by rw [←e];exact z3e g1 g2)];exact g3⟩
     exact ⟨d,u,_,_,o,ho,hd,hn,hcl.1,k1,h'.za6 k2,⟨o,d,u,ho,hd,gd u,hdl,.inr ⟨hg',fun hs w2 O2 t2=>by rw [ev];exact k4 hs w2 O2 t2⟩⟩,⟨o,d,u,ho,hd,gd u,.inr ⟨hg',by rw [ev];exact k3⟩⟩,zrl⟩
    have no:∀ (σ':St) (j s:Nat) (b:Bool) (x:Value),Rl z σ' V w O φ α→o.guard=some (j,b)→(ops[j]?).bind (·.dst)=some s→Env.get V s=some x→(x = .bool (!b)∨x=Go.undef)→k (σ'.put (some d) .gone) ((q,true)::dn) →
      ∃ d u b σ1 o,ops[q]? = some o∧o.dst=some d∧Nat.blt d n=true∧z6v ops d ix=true∧k σ1 ((q,b)::dn)∧Rl z σ1 ((d,u)::V) w O φ α∧KQ C n ops ((d,u)::V) w O (q,b)∧KN C n ops ((d,u)::V) w q∧(zuu o.op=true→b=true):=fun σ' j s b x h' g1 g2 g3 g4 hk=>by
     have g5:Env.get ((d,Go.undef)::V) s=some x:=by rw [z2f (t:=s) (d:=d) fun e=>hdl (by rw [←e];exact z3e g1 g2)];exact g3
     exact ⟨d,Go.undef,true,_,o,ho,hd,hn,hcl.1,hk,h'.za6 (v:=.gone) rfl,⟨o,d,_,ho,hd,gd _,hdl,.inl ⟨rfl,j,b,s,x,g1,g2,g5,g4⟩⟩,⟨o,d,_,ho,hd,gd _,.inl ⟨rfl,j,b,s,x,g1,g2,g5,g4⟩⟩,fun _=>rfl⟩
    split at hw
    ·rename_i hg
     exact yes σ h (.inl hg) hw
    ·rename_i j b hg
     split at hw
     ·exact hw.elim
     ·rename_i s hj
      split at hw
      ·rename_i c hc
       obtain ⟨x,h1,h2⟩:=h.env s _ hc
       simp only [VR] at h2
       subst h2
       split at hw
       ·rcases zao hw with ⟨rfl,hw⟩|⟨rfl,hw⟩
        ·exact yes _ (h.zh0 h1) (.inr ⟨j,_,s,hg,hj,h1⟩) hw
        ·exact no _ j s _ _ (h.zh0 h1) hg hj h1 (.inl rfl) hw
       ·rcases zao hw with ⟨rfl,hw⟩|⟨rfl,hw⟩
        ·exact no _ j s _ _ (h.zh0 h1) hg hj h1 (.inl rfl) hw
        ·exact yes _ (h.zh0 h1) (.inr ⟨j,_,s,hg,hj,h1⟩) hw
      ·rename_i hc
       obtain ⟨x,h1,h2⟩:=h.env s _ hc
       exact no σ j s b x h hg hj h1 (.inr h2) hw
      ·exact hw.elim
  ·exact hw.elim
theorem zcy {k:St→List (Nat × Bool)→Prop} (ht:TbOk C.P tb) (hgt:∀ w O,z.G w O→zpm tb w O) (hn:∀ (q:Nat) (o:Oper),ops[q]? = some o→dOk n o.dst=true):∀ (qs:List Nat) {σ:St} {V:Env} {dn:List (Nat × Bool)},Rl z σ V w O φ α→zky ops qs (dn.map (·.1))=true→zqa tb ops qs σ dn k→(∀ p∈dn,KQ C n ops V w O p) →
  ∃ (qv:Env) (σ1:St) (dn1:List (Nat × Bool)),zy4 ops n qs qv=true∧k σ1 dn1∧Rl z σ1 (qv++V) w O φ α∧(∀ p∈dn1,KQ C n ops (qv++V) w O p)∧(∀ q∈qs,KN C n ops (qv++V) w q)∧(∀ p∈dn,p∈dn1)∧(∀ q∈qs,∃ b,(q,b)∈dn1)∧dn1.map (·.1)=qs.reverse++dn.map (·.1) ∧
   (∀ p∈dn,∀ o,ops[p.1]? = some o→∀ d,o.dst=some d→Env.get (qv++V) d=Env.get V d∧∀ t∈o.looksAt ops,Env.get (qv++V) t=Env.get V t)
 | [],σ,V,dn,h,_,hw,hd=>⟨[],σ,dn,rfl,hw,h,hd,by simp,fun _ h=>h,by simp,by simp,fun _ _ _ _ _ _=>⟨rfl,fun _ _=>rfl⟩⟩
 | q::r,σ,V,dn,h,hc,hw,hd=>by
  have hc1:zky ops [q] (dn.map (·.1))=true:=by
   simp only [zky,yb] at hc ⊢
   exact ⟨hc.1,trivial⟩
  have hc2:zky ops r (q::dn.map (·.1))=true:=by
   simp only [zky,yb] at hc
   exact hc.2
  obtain ⟨d,u,b,σ2,o,ho,hod,hdn,hcl,hk,h2,hq,hqn,_⟩:=zg1 ht hgt h (hn q) hc1 hw
  have keep:∀ p∈dn,∀ o,ops[p.1]? = some o→∀ e,o.dst=some e→Env.get ((d,u)::V) e=Env.get V e∧∀ t∈o.looksAt ops,Env.get ((d,u)::V) t=Env.get V t:=fun p hp o' ho' e he=>by
   obtain ⟨n1,n2⟩:=z4o hcl p.1 (yq.2 ⟨p,hp,rfl⟩) o' ho' e he
   exact ⟨z2f n1,fun t ht'=>z2f fun e=>n2 (e▸ht')⟩
  obtain ⟨qv,σ1,dn1,k1,k2,k3,k4,k5,k6,k7,k9,k8⟩:=zcy ht hgt hn r h2 (by simpa using hc2) hk (fun p hp=>by
   rcases ym.1 hp with rfl|hp
   ·exact hq
   ·exact (hd p hp).move (Tr.refl _ _) (keep p hp))
  have ee:qv++(d,u)::V=(qv++[(d,u)])++V:=by simp
  rw [ee] at k3 k4 k5 k8
  refine ⟨qv++[(d,u)],σ1,dn1,?_,k2,k3,k4,fun q' hq' => ?_,fun p hp=>k6 p (yn _ hp),fun p hp => ?_,by rw [k9];simp,fun p hp o' ho' e he => ?_⟩
  ·unfold zy4 at k1 ⊢
   rw [List.all_append,yb]
   refine ⟨yf.2 fun p hp => ?_,?_⟩
   ·have:=yf.1 k1 p hp
    simp only [yb,yg,ye] at this ⊢
    exact ⟨this.1,.inr this.2⟩
   ·simp only [List.all_cons,List.all_nil,Bool.and_true,yg,yb,ye]
    exact ⟨hdn,.inl (by simp [z4y,ho,hod])⟩
  ·rcases ym.1 hq' with rfl|hq'
   ·exact hqn.move fun o' ho' e he=>k8 (q',b) yo o' ho' e he
   ·exact k5 q' hq'
  ·rcases ym.1 hp with rfl|hp
   ·exact ⟨b,k6 _ yo⟩
   ·exact k7 p hp
  ·obtain ⟨a1,a2⟩:=k8 p (yn _ hp) o' ho' e he
   obtain ⟨b1,b2⟩:=keep p hp o' ho' e he
   exact ⟨a1.trans b1,fun t ht'=>(a2 t ht').trans (b2 t ht')⟩
mutual
theorem zn0:∀ (v:PV) (u u':Value),zve v=true→VR w O φ α v u→VR w O φ α v u'→u=u'
 | .int _ _,u,u',_,h,h'=>by simp only [VR] at h h';rw [h,h']
 | .bool _,u,u',_,h,h'=>by simp only [VR] at h h';rw [h,h']
 | .str _,u,u',_,h,h'=>by simp only [VR] at h h';rw [h,h']
 | .nil,u,u',_,h,h'=>by simp only [VR] at h h';rw [h,h']
 | .ref _,u,u',_,h,h'=>by simp only [VR] at h h';rw [h.1,h'.1]
 | .ptr _ _,u,u',_,h,h'=>by simp only [VR] at h h';rw [h,h']
 | .zc7,u,u',_,h,h'=>by simp only [VR] at h h';rw [h,h']
 | .zfc,u,u',_,h,h'=>by simp only [VR] at h h';rw [h,h']
 | .agg cs,u,u',hd,h,h'=>by
  obtain ⟨us,rfl,h⟩:=h
  obtain ⟨us',rfl,h'⟩:=h'
  rw [zho cs us us' hd h h']
 | .tup cs,u,u',hd,h,h'=>by
  obtain ⟨us,rfl,h⟩:=h
  obtain ⟨us',rfl,h'⟩:=h'
  rw [zho cs us us' hd h h']
 | .iface T v,u,u',hd,h,h'=>by
  obtain ⟨x,rfl,h⟩:=h
  obtain ⟨x',rfl,h'⟩:=h'
  rw [zn0 v x x' hd h h']
 | .sl _ _ _,_,_,hd,_,_=>by cases hd
 | .fsl _ _ _,_,_,hd,_,_=>by cases hd
 | .slx _ _ _ _,_,_,_,h,h'=>h.1.trans h'.1.symm
 | .z09 _ _,_,_,hd,_,_=>by cases hd
 | .z9k _ _ _,_,_,hd,_,_=>by cases hd
 | .z8y _ _ _ _,_,_,hd,_,_=>by cases hd
 | .fn _ _ _,_,_,hd,_,_=>by cases hd
 | .undef,_,_,hd,_,_=>by cases hd
 | .gone,_,_,hd,_,_=>by cases hd
 | .z0g _,_,_,hd,_,_=>by cases hd
 | .err _,_,_,hd,_,_=>by cases hd
 | .mp _,_,_,hd,_,_=>by cases hd
 | .md _,_,_,hd,_,_=>by cases hd
theorem zho:∀ (vs:List PV) (us us':List Value),zve.go vs=true→VRs w O φ α vs us→VRs w O φ α vs us'→us=us'
 | [],us,us',_,h,h'=>by rw [show us=[] from h,show us'=[] from h']
 | v::vs,us,us',hd,h,h'=>by
  simp only [zve.go,yb] at hd
  obtain ⟨u,r,rfl,h1,h2⟩:=h
  obtain ⟨u',r',rfl,h1',h2'⟩:=h'
  rw [zn0 v u u' hd.1 h1 h1',zho vs r r' hd.2 h2 h2']
end
theorem zbv (ht:TbOk C.P tb) (hgt:∀ w O,z.G w O→zpm tb w O) (h:Rl z σ V w O φ α):∀ {dn:List (Nat × Bool)},zew tb ops σ dn→(∀ p∈dn,KQ C n ops V w O p)→∀ p∈dn,KN C n ops V w p.1
 | [],_,_,p,hp=>by cases hp
 | (q,st)::r,hw,hd,p,hp=>by
  have hr:zew tb ops σ r:=by
   cases st with
   | true=>exact hw
   | false=>exact hw.2
  rcases ym.1 hp with rfl|hp
  ·obtain ⟨o,d,u,h1,h2,h3,h4,h5⟩:=hd _ yo
   refine ⟨o,d,u,h1,h2,h3,?_⟩
   rcases h5 with ⟨k1,k3⟩|⟨k1,k2⟩
   ·exact .inl ⟨k1,k3⟩
   ·refine .inr ⟨k1,?_⟩
    cases st with
    | true=>exact k2 rfl w O (Tr.refl _ _)
    | false =>
     have hw:=hw.1
     simp only [h1,h2] at hw
     split at hw
     ·rename_i v hv
      obtain ⟨hdet,hw⟩:=hw
      obtain ⟨v',u',e1,e2,e3,_⟩:=z8p (n:=n) ht hgt (h.lim (ops:=ops) o) (zk8 (fun x hx=>zen hx) rfl rfl hw)
      subst e1
      obtain ⟨u2,e4,e5⟩:=h.env d _ hv
      rw [h3] at e4
      cases e4
      rw [zn0 v' u u' hdet e5 e2]
      exact e3
     ·exact hw.elim
  ·exact zbv ht hgt h hr (fun p hp=>hd p (yn _ hp)) p hp
theorem KN.zri {q:Nat} {b:Act} (h:KN C n ops V w q) (hb:Has n V b):z5h C.P ops b w q:=by
 obtain ⟨o,d,u,h1,h2,h3,h4⟩:=h
 intro o' ho' d' hd'
 rw [h1] at ho'
 cases ho'
 rw [h2] at hd'
 cases hd'
 have hu:=hb.get d u h3
 rcases h4 with ⟨rfl,j,bb,s,x,g1,g2,g3,g4⟩|⟨g,hx⟩
 ·have hw:Region.wanted o (yielded ops b.tmps)=false:=by
   rcases g4 with rfl|rfl<;>cases bb<;>simp [Region.wanted,g1,yielded,g2,hb.get s _ g3,Go.undef]
  exact ⟨fun hh=>(by rw [hw] at hh;cases hh),fun _=>hu⟩
 ·have hw:Region.wanted o (yielded ops b.tmps)=true:=by
   rcases g with g|⟨j,bb,s,g1,g2,g3⟩
   ·simp [Region.wanted,g]
   ·simp [Region.wanted,g1,yielded,g2,hb.get s _ g3]
  exact ⟨fun _=>⟨u,hu,hx b ⟨hb.size,fun t v e=>hb.get t v (zvl e).2⟩⟩,fun hh=>(by rw [hw] at hh;cases hh)⟩
theorem zkl {b:Act} (h:wpList C.P ops (QT C ds fun a' w'=>(∀ t,o.dst≠some t→a'.tmps[t]? = b.tmps[t]?)→K a' w') [o] b w):wpList C.P ops (QT C ds K) [o] b w:=by
 have put:∀ dd v t,o.dst≠some t→(({ b with defers:=dd }:Act).put o.dst v).tmps[t]? = b.tmps[t]?:=fun dd v t hne=>by
  unfold Act.put
  cases hd:o.dst with
  | none=>rfl
  | some d =>
   rw [hd] at hne
   exact Array.getElem?_setIfInBounds_ne fun e=>hne (by rw [e])
 unfold wpList at h ⊢
 split at h
 ·rename_i hw
  rw [if_pos hw]
  rcases h with h|h
  ·left
   unfold Oper.wp at h ⊢
   refine z9g (o:=o) (a:=b) (b:=b) (fun dd v w hh => ?_) (fun _ _ hh=>hh) zco _ h
   exact ⟨hh.1,hh.2 (put _ v)⟩
  ·exact (zco h.2).elim
 ·rename_i hw
  rw [if_neg hw]
  exact ⟨h.1,h.2 (put b.defers _)⟩
def z4e (a:Act):Env:=(List.range a.tmps.size).filterMap fun t=>(a.tmps[t]?).map fun v=>(t,v)
theorem z8a {a:Act} {t:Nat} {v:Value}:Env.get (z4e a) t=some v↔a.tmps[t]? = some v:=by
 have key:∀ l:List Nat,(Env.get (l.filterMap fun t=>(a.tmps[t]?).map fun v=>(t,v)) t=some v↔t∈l∧a.tmps[t]? = some v):=by
  intro l
  induction l with
  | nil=>simp [Env.get]
  | cons s l ih =>
   simp only [yj]
   cases hs:a.tmps[s]? with
   | none =>
    simp only [Option.map_none]
    rw [ih]
    constructor
    ·exact fun h=>⟨yn _ h.1,h.2⟩
    ·rintro ⟨h1,h2⟩
     rcases ym.1 h1 with rfl|h1
     ·rw [hs] at h2;cases h2
     ·exact ⟨h1,h2⟩
   | some x =>
    simp only [ya]
    by_cases e:s=t
    ·subst e
     simp [Env.get,hs]
    ·rw [z2f (Ne.symm e),ih]
     constructor
     ·exact fun h=>⟨yn _ h.1,h.2⟩
     ·rintro ⟨h1,h2⟩
      rcases ym.1 h1 with rfl|h1
      ·exact (e rfl).elim
      ·exact ⟨h1,h2⟩
 unfold z4e
 rw [key]
 constructor
 ·exact fun h=>h.2
 ·exact fun h=>⟨List.mem_range.2 (Array.getElem?_eq_some_iff.1 h).1,h⟩
theorem z4z {a:Act} (h:a.tmps.size=n):Has n (z4e a) a:=⟨h,fun _ _ e=>z8a.1 e⟩
theorem Rel.z4e {a:Act} (h:Rl z σ V w O φ α) (ha:Has n V a):Rl z σ (Pe.z4e a) w O φ α:=⟨fun t v hv=>by
  obtain ⟨u,h1,h2⟩:=h.env t v hv
  exact ⟨u,z8a.2 (ha.get t u h1),h2⟩,h.box,h.arr,h.bb,h.aa,h.ab,h.bF,h.aF,h.bd,h.ext,h.only,h.gl,h.keep⟩
def W0.mark (z:W0) (w:World) (O:Nat→Prop):W0:={ z with G:=fun w' O'=>z.G w' O'∧Tr O w O' w',hG:=fun t h=>⟨z.hG t h.1,h.2.trans t⟩ }
theorem Rel.mark (h:Rl z σ V w O φ α):Rl (z.mark w O) σ V w O φ α:=⟨h.env,h.box,h.arr,h.bb,h.aa,h.ab,h.bF,h.aF,h.bd,h.ext,h.only,⟨h.gl,Tr.refl _ _⟩,h.keep⟩
theorem Rel.zh9 {w0:World} {O0:Nat→Prop} (h:Rl (z.mark w0 O0) σ V w O φ α):Rl z σ V w O φ α∧Tr O0 w0 O w:=⟨⟨h.env,h.box,h.arr,h.bb,h.aa,h.ab,h.bF,h.aF,h.bd,h.ext,h.only,h.gl.1,h.keep⟩,h.gl.2⟩
theorem zjq {kp:List Nat} {dn:List (Nat × Bool)} {p:Nat × Bool} (h:p∈z3n kp dn):p∈dn∧p.1∈kp:=by
 unfold z3n at h
 obtain ⟨h1,h2⟩:=yp.1 h
 obtain ⟨x,h3,h4⟩:=yh.1 h2
 exact ⟨h1,(yv h4)▸h3⟩
theorem zb4 (a:Act) (t:Nat):Env.get (Pe.z4e a) t=a.tmps[t]?:=by
 cases hx:a.tmps[t]? with
 | some x=>exact z8a.2 hx
 | none =>
  cases hy:Env.get (Pe.z4e a) t with
  | none=>rfl
  | some y=>rw [z8a.1 hy] at hx;cases hx
theorem zw8 {a b:Act} {qv:Env} (hb:Has n (qv++Pe.z4e a) b) (hz:a.tmps.size=n) (t:Nat):Env.get (qv++Pe.z4e a) t=b.tmps[t]?:=by
 cases hg:Env.get (qv++Pe.z4e a) t with
 | some x=>exact (hb.get t x hg).symm
 | none =>
  have:∀ {l l2:Env},Env.get (l++l2) t=none→Env.get l2 t=none:=by
   intro l l2
   induction l with
   | nil=>exact id
   | cons p l ih =>
    intro hh
    obtain ⟨s,y⟩:=p
    simp only [yi] at hh
    unfold Env.get at hh
    split at hh
    ·cases hh
    ·exact ih hh
  have h1:=this hg
  have h2:a.tmps[t]? = none:=by
   cases hx:a.tmps[t]? with
   | none=>rfl
   | some x=>rw [z8a.2 hx] at h1;cases h1
  have h3:=hb.size
  rw [yw] at h2
  symm
  rw [yw]
  omega
theorem zb5 {k:St→List (Nat × Bool)→Prop} (ht:TbOk C.P tb) (hgt:∀ w O,z.G w O→zpm tb w O) (hn:∀ (q:Nat) (o:Oper),ops[q]? = some o→dOk n o.dst=true) (qs done:List Nat) {dn:List (Nat × Bool)} (a:Act) (hsz:a.tmps.size=n) (hda:a.defers=ds) (h:Rl z σ (Pe.z4e a) w O φ α)
  (hd:∀ p∈dn,KQ C n ops (Pe.z4e a) w O p) (hdone:∀ q∈done,∃ b,(q,b)∈dn) (hc:zky ops qs (dn.map (·.1))=true) (hw:zqa tb ops qs σ dn fun σ1 dn1=>zew tb ops σ1 dn∧k σ1 dn1) :
  ∃ (b:Act) (σ1:St) (dn1:List (Nat × Bool)),Off ops qs a b∧b.tmps.size=n∧b.defers=ds∧Rl z σ1 (Pe.z4e b) w O φ α∧(∀ p∈dn1,KQ C n ops (Pe.z4e b) w O p)∧(∀ q∈done++qs,z5h C.P ops b w q)∧(∀ q∈done++qs,∃ st,(q,st)∈dn1)∧dn1.map (·.1)=qs.reverse++dn.map (·.1)∧k σ1 dn1:=by
 obtain ⟨qv,σ1,dn1,e1,⟨e2,e3⟩,e4,e5,e6,e7,e8,e10,_⟩:=zcy ht hgt hn qs h hc hw hd
 obtain ⟨b,hb,hoff⟩:=(z4z hsz).off e1
 have fb:=zw8 hb hsz
 refine ⟨b,σ1,dn1,hoff,hb.size,by rw [←hoff.defers];exact hda,e4.z4e hb,fun p hp=>(e5 p hp).move (Tr.refl _ _) fun o _ d _=>⟨(zb4 b d).trans (fb d).symm,fun t _=>(zb4 b t).trans (fb t).symm⟩,fun q hq => ?_,fun q hq => ?_,e10,e3⟩
 ·rcases yl.1 hq with hq|hq
  ·obtain ⟨st,hst⟩:=hdone q hq
   exact (zbv ht hgt e4 e2 (fun p hp=>e5 p (e7 p hp)) (q,st) hst).zri hb
  ·exact (e6 q hq).zri hb
 ·rcases yl.1 hq with hq|hq
  ·obtain ⟨st,hst⟩:=hdone q hq
   exact ⟨st,e7 _ hst⟩
  ·exact e8 q hq
theorem zwz {cs:List (Nat × Cut)} {e:Nat} {k:St→Prop} {w':World} {V':Env} (h:rst cs e σ k) (hr:RS z σ V' w'):∃ s,RS z s V' w'∧k s:=by
 unfold rst at h
 split at h
 ·obtain ⟨J,h1,h2⟩:=h
  obtain ⟨s,e1,hj⟩:=zi h1
  exact ⟨s,hr.cut e1,h2 s hj⟩
 ·exact ⟨σ,hr,h⟩
theorem zj2 {cs:List (Nat × Cut)} {anc:Anc} {k:St→Prop} {kp:PV→St→Prop} {e:Nat} {o:Oper} {kpl qs2:List Nat} {g:Gt} {rem wai done:List Nat} {dn:List (Nat × Bool)} (ht:TbG C.P tb G) (hcon:∀ f i o,con f i o→Con C.P G f i o) (hz:∀ w O,z.G w O→G.p w O) (hn:∀ (q:Nat) (o:Oper),ops[q]? = some o→dOk n o.dst=true) (hp:∀ v s,kp v s→z8w z C n ds v s)
  (_hk:∀ s,k s→∀ V w,RS z s V w→∀ a,Has n V a→a.defers=ds→K a w) (ho:ops[e]? = some o) (hnode:z9u anc rem wai done e kpl qs2=true) (hal:z2v anc (z11 rem [e]) (z11 wai qs2) (kpl++qs2) g=true)
  (hc2:(match (some o:Option Oper) with
   | some o=>match o.dst with
    | some d=>z6v ops d (z92 kpl (dn.map (·.1)))
    | none=>true
   | none=>true)=true) (hcq:zky ops qs2 (z92 kpl (dn.map (·.1)))=true) (hca:zq1 ops g (qs2.reverse++z92 kpl (dn.map (·.1)))=true)
  (ih:∀ (dn:List (Nat × Bool)) (rem wai done:List Nat) (σ:St) (w:World) (O:Nat→Prop) (φ:Nat→Nat) (α:Nat→Value) (b:Act),b.tmps.size=n→b.defers=ds→Rl z σ (Pe.z4e b) w O φ α→(∀ x,z.O x→O x)→(∀ p∈dn,KQ C n ops (Pe.z4e b) w O p) →
   (∀ q∈done,z5h C.P ops b w q)→(∀ q∈done,∃ st,(q,st)∈dn)→z2v anc rem wai done g=true→zq1 ops g (dn.map (·.1))=true→z7j tb cty ann con ops cs kp k g dn σ→DRa C ds ops K done g b w)
  (b:Act) (hsz:b.tmps.size=n) (hda:b.defers=ds) (h:Rl z σ (Pe.z4e b) w O φ α) (hs:∀ x,z.O x→O x) (hd:∀ p∈dn,KQ C n ops (Pe.z4e b) w O p) (hdone:∀ q∈done,∃ st,(q,st)∈dn)
  (hw:exo tb cty ann con ops σ o (fun σ2=>rst cs e σ2 fun σ2=>zqa tb ops qs2 σ2 (z3n kpl dn) fun σ3 dn3=>zew tb ops σ3 (z3n kpl dn)∧z7j tb cty ann con ops cs kp k g dn3 σ3) kp) :
  wpList C.P ops (QT C ds (fun a' w'=>∃ b',Off ops qs2 a' b'∧DRa C ds ops K (kpl++qs2) g b' w')) [o] b w:=by
 have ekept:(z3n kpl dn).map (·.1)=z92 kpl (dn.map (·.1)):=by
  unfold z3n z92
  rw [yk]
  rfl
 have hb:Has n (Pe.z4e b) b:=z4z hsz
 refine zkl (zav (z:=z.mark w O) (rest:=[]) (K:=fun a' w'=>(∀ t,o.dst≠some t→a'.tmps[t]? = b.tmps[t]?)→∃ b',Off ops qs2 a' b'∧DRa C ds ops K (kpl++qs2) g b' w') ht hcon (fun w O h=>hz w O h.1) (hn e o ho) h.mark hs (fun σ2 hσ2 V2 w2 hr => ?_) (fun v s hv V w O φ α u φ' α' r s2 hr a ha hda=>hp v s hv V w O φ α u φ' α' r.zh9.1 s2 hr a ha hda) hw b hb hda)
 obtain ⟨σ2',hr,hσ2⟩:=zwz hσ2 hr
 obtain ⟨O2,φ2,α2,r,s2⟩:=hr
 obtain ⟨r',t⟩:=r.zh9
 refine OW.fin fun a' ha' hda' hag => ?_
 simp only [z9u,yb] at hnode
 have hmv:∀ p∈z3n kpl dn,KQ C n ops (Pe.z4e a') w2 O2 p:=fun p hp=>by
  obtain ⟨hp1,hp2⟩:=zjq hp
  refine (hd p hp1).move t fun o' ho' d hd' => ?_
  have hne:∀ x,o.dst=some x→d≠x∧x∉o'.looksAt ops:=fun x hx=>by
   simp only [hx] at hc2
   exact z4o hc2 p.1 (by rw [←ekept];exact yq.2 ⟨p,hp,rfl⟩) o' ho' d hd'
  refine ⟨?_,fun t ht' => ?_⟩
  ·rw [zb4,zb4]
   exact hag d fun e=>(hne d e).1 rfl
  ·rw [zb4,zb4]
   exact hag t fun e=>(hne t e).2 ht'
 have hkd:∀ q∈kpl,∃ st,(q,st)∈z3n kpl dn:=fun q hq=>by
  have hc:=yf.1 hnode.1.2 q hq
  have hm:q∈done:=by simpa using hc
  obtain ⟨st,hst⟩:=hdone q hm
  exact ⟨st,yp.2 ⟨hst,yh.2 ⟨q,hq,yu q⟩⟩⟩
 obtain ⟨b',σ3,dn3,e1,e2,e3,e4,e5,e6,e7,e8,e9⟩:=zb5 (k:=fun σ3 dn3=>z7j tb cty ann con ops cs kp k g dn3 σ3) ht.toTbOk (fun w O h=>ht.gt w O (hz w O h)) hn qs2 kpl a' ha'.size hda' (r'.z4e ha') hmv hkd (by rw [ekept];exact hcq) hσ2
 exact ⟨b',e1,ih dn3 _ _ _ σ3 w2 O2 φ2 α2 b' e2 e3 e4 s2 e5 e6 e7 hal (by rw [e8,ekept];exact hca) e9⟩
theorem z52 {cs:List (Nat × Cut)} {anc:Anc} {k:St→Prop} {kp:PV→St→Prop} (ht:TbG C.P tb G) (hcon:∀ f i o,con f i o→Con C.P G f i o) (hz:∀ w O,z.G w O→G.p w O) (hn:∀ (q:Nat) (o:Oper),ops[q]? = some o→dOk n o.dst=true) (hp:∀ v s,kp v s→z8w z C n ds v s)
  (hk:∀ s,k s→∀ V w,RS z s V w→∀ a,Has n V a→a.defers=ds→K a w) :
  ∀ (g:Gt) (dn:List (Nat × Bool)) (rem wai done:List Nat) {σ:St} {w:World} {O:Nat→Prop} {φ:Nat→Nat} {α:Nat→Value} (b:Act),b.tmps.size=n→b.defers=ds→Rl z σ (Pe.z4e b) w O φ α→(∀ x,z.O x→O x)→(∀ p∈dn,KQ C n ops (Pe.z4e b) w O p) →
   (∀ q∈done,z5h C.P ops b w q)→(∀ q∈done,∃ st,(q,st)∈dn)→z2v anc rem wai done g=true→zq1 ops g (dn.map (·.1))=true→z7j tb cty ann con ops cs kp k g dn σ→DRa C ds ops K done g b w
 | .fin,dn,rem,wai,done,σ,w,O,φ,α,b,hsz,hda,h,hs,_,hst,_,_,_,hw=>⟨hst,hk σ hw _ _ ⟨_,_,_,h,hs⟩ b (z4z hsz) hda⟩
 | .one e kpl qs2 g,dn,rem,wai,done,σ,w,O,φ,α,b,hsz,hda,h,hs,hd,hst,hdone,hal,hcl,hw=>by
  simp only [z2v,yb] at hal
  simp only [zq1,zxm,yb] at hcl
  refine ⟨hst,fun o ho => ?_⟩
  unfold z7j at hw
  rw [z7w,ho] at hw
  rw [ho] at hcl
  exact zj2 ht hcon hz hn hp hk ho hal.1.1 hal.2 hcl.1.1 hcl.1.2 hcl.2 (fun dn rem wai done σ w O φ α b=>z52 ht hcon hz hn hp hk g dn rem wai done b) b hsz hda h hs hd hdone hw
 | .alt e kpl qs2 g r,dn,rem,wai,done,σ,w,O,φ,α,b,hsz,hda,h,hs,hd,hst,hdone,hal,hcl,hw=>by
  simp only [z2v,yb] at hal
  simp only [zq1,zxm,yb] at hcl
  unfold z7j at hw
  refine ⟨fun o ho => ?_,z52 ht hcon hz hn hp hk r dn rem wai done b hsz hda h hs hd hst hdone hal.2 hcl.2 hw.2⟩
  have hw:=hw.1
  rw [z7w,ho] at hw
  rw [ho] at hcl
  exact zj2 ht hcon hz hn hp hk ho hal.1.1.1 hal.1.2 hcl.1.1.1 hcl.1.1.2 hcl.1.2 (fun dn rem wai done σ w O φ α b=>z52 ht hcon hz hn hp hk g dn rem wai done b) b hsz hda h hs hd hdone hw
theorem zru {K':Act→World→Prop} {b:Act} (hK:∀ a w,K a w→K' a w) (h:wpList C.P ops (QT C ds K) [o] b w):wpList C.P ops (QT C ds K') [o] b w:=by
 unfold wpList at h ⊢
 split at h
 ·rename_i hw
  rw [if_pos hw]
  rcases h with h|h
  ·left
   unfold Oper.wp at h ⊢
   refine z9g (o:=o) (a:=b) (b:=b) (fun dd v w hh => ?_) (fun _ _ hh=>hh) zco _ h
   exact ⟨hh.1,hK _ _ hh.2⟩
  ·exact (zco h.2).elim
 ·rename_i hw
  rw [if_neg hw]
  exact ⟨h.1,hK _ _ h.2⟩
def SI (C:Cx) (ds:List Deferred) (ops:Array Oper) (K:List Nat→Act→World→Prop):List It→List Nat→Act→World→Prop
 | [],done,b,w=>K done b w
 | .q q::r,done,b,w=>∃ b',Off ops [q] b b'∧SI C ds ops K r (done++[q]) b' w
 | .a e kpl::r,done,b,w=>(∀ q∈done,z5h C.P ops b w q)∧∀ o,ops[e]? = some o→wpList C.P ops (QT C ds (fun a' w'=>SI C ds ops K r kpl a' w')) [o] b w
theorem SI.app {K:List Nat→Act→World→Prop}:∀ (l r:List It),SI C ds ops K (l++r)=SI C ds ops (SI C ds ops K r) l
 | [],r=>by funext done b w;simp only [List.nil_append,SI]
 | .q q::l,r=>by funext done b w;simp only [yi,SI,SI.app l r]
 | .a e kpl::l,r=>by funext done b w;simp only [yi,SI,SI.app l r]
theorem zz6 {q:Nat} {qs:List Nat} {a b c:Act} (h1:Off ops [q] a b) (h2:Off ops qs b c):Off ops (q::qs) a c :=
 ⟨h1.size.trans h2.size,h1.defers.trans h2.defers,fun t ht=>(h1.get t fun x hx=>ht x (by rw [yr] at hx;rw [hx];exact yo)).trans (h2.get t fun x hx=>ht x (yn _ hx))⟩
theorem SI.qs {K:List Nat→Act→World→Prop} {K2:List Nat→Act→World→Prop} {r:List It} (h:∀ done b w,SI C ds ops K r done b w→K2 done b w):∀ (qs done:List Nat) (b:Act) (w:World),SI C ds ops K (zud qs r) done b w→∃ b',Off ops qs b b'∧K2 (done++qs) b' w
 | [],done,b,w,hs=>⟨b,⟨rfl,rfl,fun _ _=>rfl⟩,by rw [List.append_nil];exact h _ _ _ hs⟩
 | q::qs,done,b,w,⟨b1,h1,h2⟩=>by
  obtain ⟨b',h3,h4⟩:=SI.qs h qs _ _ _ h2
  exact ⟨b',zz6 h1 h3,by rw [List.append_assoc] at h4;exact h4⟩
theorem SI.g:∀ (g:Gt),zfp g=true→∀ done b w,SI C ds ops (fun done b w=>(∀ q∈done,z5h C.P ops b w q)∧K b w) (zle g) done b w→DRa C ds ops K done g b w
 | .fin,_,done,b,w,h=>h
 | .one e kpl qs sub,hg,done,b,w,⟨h1,h2⟩=>⟨h1,fun o ho=>zru (fun a' w' hs=>SI.qs (SI.g sub hg) qs kpl a' w' hs) (h2 o ho)⟩
 | .alt _ _ _ _ _,hg,_,_,_,_=>by simp [zfp] at hg
def Inv (z:W0) (C:Cx) (n:Nat) (ds:List Deferred) (ops:Array Oper) (σ:St) (dn:List (Nat × Bool)) (b:Act) (w:World):Prop := ∃ O φ α,b.tmps.size=n∧b.defers=ds∧Rl z σ (Pe.z4e b) w O φ α∧(∀ x,z.O x→O x)∧∀ p∈dn,KQ C n ops (Pe.z4e b) w O p∧KN C n ops (Pe.z4e b) w p.1∧∀ o,ops[p.1]? = some o→zuu o.op=true→p.2=true
theorem zj0:∀ {dn:List (Nat × Bool)},zxk dn=true→∀ p∈dn,p.2=true
 | (_,b)::r,h,p,hp=>by
  simp only [zxk,yb] at h
  rcases ym.1 hp with rfl|hp
  ·exact h.1
  ·exact zj0 h.2 p hp
theorem Inv.zri {dn:List (Nat × Bool)} {done:List Nat} {b:Act} (h:Inv z C n ds ops σ dn b w) (hdone:∀ q∈done,∃ st,(q,st)∈dn):∀ q∈done,z5h C.P ops b w q:=by
 obtain ⟨O,φ,α,h1,h2,h3,h4,h5⟩:=h
 intro q hq
 obtain ⟨st,hst⟩:=hdone q hq
 exact (h5 (q,st) hst).2.1.zri (z4z h1)
theorem KQ.now {q:Nat} (h:KQ C n ops V w O (q,true)):KN C n ops V w q:=by
 obtain ⟨o,d,u,h1,h2,h3,h4,h5⟩:=h
 refine ⟨o,d,u,h1,h2,h3,?_⟩
 rcases h5 with ⟨k1,k3⟩|⟨k1,k2⟩
 ·exact .inl ⟨k1,k3⟩
 ·exact .inr ⟨k1,k2 rfl w O (Tr.refl _ _)⟩
theorem zd5 {kpl:List Nat} {dn:List (Nat × Bool)}:(z3n kpl dn).map (·.1)=z92 kpl (dn.map (·.1)):=by
 unfold z3n z92
 rw [yk]
 rfl
theorem zn5 {K:List Nat→Act→World→Prop} {k:St→List (Nat × Bool)→Prop} {kp:PV→St→Prop} (ht:TbG C.P tb G) (hcon:∀ f i o,con f i o→Con C.P G f i o) (hz:∀ w O,z.G w O→G.p w O) (hn:∀ (q:Nat) (o:Oper),ops[q]? = some o→dOk n o.dst=true) (hp:∀ v s,kp v s→z8w z C n ds v s)
  (i:It) (dn:List (Nat × Bool)) (done:List Nat) (b:Act) (w:World) (hc:zdu ops [i] (dn.map (·.1))=true) (hk:∀ σ' dn' done' b' w',k σ' dn'→Inv z C n ds ops σ' dn' b' w'→dn'.map (·.1)=dnI i (dn.map (·.1))→(∀ q∈done',∃ st,(q,st)∈dn')→K done' b' w')
  (hw:ex1 tb cty ann con ops kp i σ dn k) (hi:Inv z C n ds ops σ dn b w) (hdone:∀ q∈done,∃ st,(q,st)∈dn):SI C ds ops K [i] done b w:=by
 cases i with
 | q q =>
  obtain ⟨O,φ,α,h1,h2,h3,h4,h5⟩:=hi
  simp only [zdu,yb,and_true] at hc
  obtain ⟨d,u,b1,σ1,o,ho,hod,hdn,hcl,hk1,hr1,hq1,hn1,hs1⟩:=zg1 (k:=k) ht.toTbOk (fun w O h=>ht.gt w O (hz w O h)) h3 (hn q) hc hw
  have hqv:zy4 ops n [q] [(d,u)]=true:=by
   simp only [zy4,List.all_cons,List.all_nil,yg,List.any_nil,hdn,z4y,ho,hod,Option.bind_some,Bool.and_true,Bool.or_false,Bool.true_and,beq_self_eq_true]
  have e4:Rl z σ1 ([(d,u)]++Pe.z4e b) w O φ α:=hr1
  obtain ⟨b',hb,hoff⟩:=(z4z h1).off hqv
  have fb:=zw8 hb h1
  have same:∀ t,Env.get (Pe.z4e b') t=Env.get ((d,u)::Pe.z4e b) t:=fun t=>(zb4 b' t).trans (fb t).symm
  have keep:∀ p∈dn,∀ o,ops[p.1]? = some o→∀ e,o.dst=some e→Env.get (Pe.z4e b') e=Env.get (Pe.z4e b) e∧∀ t∈o.looksAt ops,Env.get (Pe.z4e b') t=Env.get (Pe.z4e b) t:=fun p hp o' ho' e he=>by
   obtain ⟨n1,n2⟩:=z4o hcl p.1 (yq.2 ⟨p,hp,rfl⟩) o' ho' e he
   exact ⟨(same e).trans (z2f n1),fun t ht'=>(same t).trans (z2f fun e=>n2 (e▸ht'))⟩
  refine ⟨b',hoff,hk σ1 _ _ b' w hk1 ⟨O,φ,α,hb.size,by rw [←hoff.defers];exact h2,e4.z4e hb,h4,fun p hp => ?_⟩ rfl fun x hx => ?_⟩
  ·rcases ym.1 hp with rfl|hp
   ·exact ⟨hq1.move (Tr.refl _ _) fun _ _ d _=>⟨same d,fun t _=>same t⟩,hn1.move fun _ _ d _=>⟨same d,fun t _=>same t⟩,fun o' ho'=>by rw [ho] at ho';cases ho';exact hs1⟩
   ·obtain ⟨g1,g2,g3⟩:=h5 p hp
    exact ⟨g1.move (Tr.refl _ _) (keep p hp),g2.move (keep p hp),g3⟩
  ·rcases yl.1 hx with hx|hx
   ·obtain ⟨st,hst⟩:=hdone x hx
    exact ⟨st,yn _ hst⟩
   ·rw [yr] at hx
    subst hx
    exact ⟨b1,yo⟩
 | a e kpl =>
  simp only [ex1] at hw
  split at hw
  ·rename_i hT
   split at hw
   ·rename_i o ho
    rw [z7w] at ho
    refine ⟨hi.zri hdone,fun o' ho' => ?_⟩
    rw [ho] at ho'
    cases ho'
    simp only [zdu,ho,yb,and_true] at hc
    obtain ⟨O,φ,α,h1,h2,h3,h4,h5⟩:=hi
    have hb:Has n (Pe.z4e b) b:=z4z h1
    refine zkl (zav (z:=z.mark w O) (rest:=[]) (K:=fun a' w'=>(∀ t,o.dst≠some t→a'.tmps[t]? = b.tmps[t]?)→SI C ds ops K [] kpl a' w') ht hcon (fun w O h=>hz w O h.1) (hn e o ho) h3.mark h4 (fun σ2 hσ2 V2 w2 hr => ?_) (fun v s hv V w O φ α u φ' α' r s2 hr a ha hda=>hp v s hv V w O φ α u φ' α' r.zh9.1 s2 hr a ha hda) hw b hb h2)
    obtain ⟨O2,φ2,α2,r,s2⟩:=hr
    obtain ⟨r',t⟩:=r.zh9
    refine OW.fin fun a' ha' hda' hag => ?_
    have hmv:∀ p∈z3n kpl dn,KQ C n ops (Pe.z4e a') w2 O2 p∧KN C n ops (Pe.z4e a') w2 p.1∧∀ o,ops[p.1]? = some o→zuu o.op=true→p.2=true:=fun p hp=>by
     obtain ⟨hp1,hp2⟩:=zjq hp
     have hq:=(h5 p hp1).1.move (V':=Pe.z4e a') t fun o' ho' d hd'=>by
      have hne:∀ x,o.dst=some x→d≠x∧x∉o'.looksAt ops:=fun x hx=>by
       have hc1:=hc.1
       simp only [hx] at hc1
       exact z4o hc1 p.1 (by rw [←zd5];exact yq.2 ⟨p,hp,rfl⟩) o' ho' d hd'
      refine ⟨?_,fun t ht' => ?_⟩
      ·rw [zb4,zb4]
       exact hag d fun e=>(hne d e).1 rfl
      ·rw [zb4,zb4]
       exact hag t fun e=>(hne t e).2 ht'
     have h2:=zj0 hT p hp
     obtain ⟨q,st⟩:=p
     simp only at h2
     subst h2
     exact ⟨hq,hq.now,fun _ _ _=>rfl⟩
    refine hk σ2 _ kpl a' w2 hσ2 ⟨O2,φ2,α2,ha'.size,hda',r'.z4e ha',s2,hmv⟩ zd5 fun q hq => ?_
    have hm:=yf.1 hc.2 q hq
    obtain ⟨x,hx,e⟩:=yh.1 hm
    obtain ⟨p,hp1,hp2⟩:=yq.1 hx
    have e:=yv e
    subst hp2
    exact ⟨p.2,yp.2 ⟨by rw [e];exact hp1,yh.2 ⟨q,hq,by rw [e];exact yu _⟩⟩⟩
   ·exact hw.elim
  ·exact hw.elim
theorem zft {i:It} {r:List It} {dn:List Nat} (h:zdu ops (i::r) dn=true):zdu ops [i] dn=true∧zdu ops r (dnI i dn)=true:=by
 cases i with
 | q q =>
  simp only [zdu,yb,and_true] at h ⊢
  exact h
 | a e kpl =>
  simp only [zdu,yb,and_true] at h ⊢
  exact h
theorem zdv:∀ {l r:List It} {dn:List Nat},zdu ops (l++r) dn=true→zdu ops l dn=true∧zdu ops r (zxo l dn)=true
 | [],_,_,h=>⟨rfl,h⟩
 | i::l,r,dn,h=>by
  obtain ⟨h1,h2⟩:=zft h
  obtain ⟨h3,h4⟩:=zdv h2
  refine ⟨?_,h4⟩
  cases i with
  | q q =>
   simp only [zdu,yb,and_true] at h1 ⊢
   exact ⟨h1,h3⟩
  | a e kpl =>
   simp only [zdu,yb,and_true] at h1 ⊢
   exact ⟨h1,h3⟩
theorem z56 {K:List Nat→Act→World→Prop} {k:St→List (Nat × Bool)→Prop} {kp:PV→St→Prop} (ht:TbG C.P tb G) (hcon:∀ f i o,con f i o→Con C.P G f i o) (hz:∀ w O,z.G w O→G.p w O) (hn:∀ (q:Nat) (o:Oper),ops[q]? = some o→dOk n o.dst=true) (hp:∀ v s,kp v s→z8w z C n ds v s) :
  ∀ (l:List It) (σ:St) (dn:List (Nat × Bool)) (done:List Nat) (b:Act) (w:World),zdu ops l (dn.map (·.1))=true→(∀ σ' dn' done' b' w',k σ' dn'→Inv z C n ds ops σ' dn' b' w'→dn'.map (·.1)=zxo l (dn.map (·.1))→(∀ q∈done',∃ st,(q,st)∈dn')→K done' b' w') →
   zhq tb cty ann con ops kp k l σ dn→Inv z C n ds ops σ dn b w→(∀ q∈done,∃ st,(q,st)∈dn)→SI C ds ops K l done b w
 | [],σ,dn,done,b,w,_,hk,hw,hi,hd=>hk σ dn done b w hw hi rfl hd
 | i::r,σ,dn,done,b,w,hc,hk,hw,hi,hd=>by
  obtain ⟨hc1,hc2⟩:=zft hc
  have:=zn5 (K:=SI C ds ops K r) ht hcon hz hn hp i dn done b w hc1 (fun σ' dn' done' b' w' hk' hi' e hd' =>
   z56 ht hcon hz hn hp r σ' dn' done' b' w' (by rw [e];exact hc2) (fun σ2 dn2 done2 b2 w2 k2 i2 e2 d2=>hk σ2 dn2 done2 b2 w2 k2 i2 (by rw [e2,e];rfl) d2) hk' hi' hd') hw hi hd
  rw [←SI.app] at this
  exact this
theorem Inv.cut {s:St} {c:Cut} {dn:List (Nat × Bool)} {l:List Nat} {b:Act} (h:Inv z C n ds ops σ dn b w) (e:σ.cut c=some s) (hm:l=dn.map (·.1)):Inv z C n ds ops s (l.map fun q=>(q,zut ops q)) b w:=by
 obtain ⟨O,φ,α,h1,h2,h3,h4,h5⟩:=h
 obtain ⟨O',α',h',hs'⟩:=zfx h3.mark h4 e
 obtain ⟨h'',t⟩:=h'.zh9
 refine ⟨O',φ,α',h1,h2,h'',hs',fun p hp => ?_⟩
 obtain ⟨q,hq,rfl⟩:=yq.1 hp
 rw [hm] at hq
 obtain ⟨p,hp2,rfl⟩:=yq.1 hq
 obtain ⟨g1,g2,g3⟩:=h5 p hp2
 have g4:zut ops p.1=true→p.2=true:=fun hs=>by
  obtain ⟨o,d,u,k1,_⟩:=g1
  unfold zut at hs
  rw [z7w,k1] at hs
  exact g3 o k1 hs
 refine ⟨?_,g2,fun o ho hs=>by show zut ops p.1=true;unfold zut;rw [z7w,ho];exact hs⟩
 have hmv:=g1.move (V':=Pe.z4e b) t fun _ _ _ _=>⟨rfl,fun _ _=>rfl⟩
 obtain ⟨o,d,u,k1,k2,k3,k4,k5⟩:=hmv
 refine ⟨o,d,u,k1,k2,k3,k4,?_⟩
 rcases k5 with k5|⟨k5,k6⟩
 ·exact .inl k5
 ·exact .inr ⟨k5,fun hs=>k6 (g4 hs)⟩
theorem zqx {done l:List Nat} {dn:List (Nat × Bool)} (h:∀ q∈done,∃ st,(q,st)∈dn) (hm:l=dn.map (·.1)):∀ q∈done,∃ st,(q,st)∈l.map fun q=>(q,zut ops q):=fun q hq=>by
 obtain ⟨st,hst⟩:=h q hq
 exact ⟨_,yq.2 ⟨q,by rw [hm];exact yq.2 ⟨_,hst,rfl⟩,rfl⟩⟩
theorem zau {K:List Nat→Act→World→Prop} {k:St→Prop} {kp:PV→St→Prop} (ht:TbG C.P tb G) (hcon:∀ f i o,con f i o→Con C.P G f i o) (hz:∀ w O,z.G w O→G.p w O) (hn:∀ (q:Nat) (o:Oper),ops[q]? = some o→dOk n o.dst=true) (hp:∀ v s,kp v s→z8w z C n ds v s)
  (hk:∀ σ' dn' done' b' w',k σ'→Inv z C n ds ops σ' dn' b' w'→(∀ q∈done',∃ st,(q,st)∈dn')→K done' b' w') :
  ∀ (l:List (Nat × Nat × Cut)) (its:List It) (σ:St) (dn:List (Nat × Bool)) (done:List Nat) (b:Act) (w:World),zdu ops its (dn.map (·.1))=true→zn6 tb cty ann con ops kp k l its σ dn→Inv z C n ds ops σ dn b w→(∀ q∈done,∃ st,(q,st)∈dn)→SI C ds ops K its done b w
 | [],its,σ,dn,done,b,w,hc,hw,hi,hd=>z56 ht hcon hz hn hp its σ dn done b w hc (fun σ' dn' done' b' w' hk' hi' _ hd'=>hk σ' dn' done' b' w' hk' hi' hd') hw hi hd
 | (n0,m,c)::r,its,σ,dn,done,b,w,hc,hw,hi,hd=>by
  rw [←ys n0 its] at hc ⊢
  obtain ⟨hc1,hc2⟩:=zdv hc
  rw [SI.app]
  refine z56 ht hcon hz hn hp (its.take n0) σ dn done b w hc1 (fun σ1 dn1 done1 b1 w1 hk1 hi1 e1 hd1 => ?_) hw hi hd
  obtain ⟨J,h1,h2⟩:=hk1
  rw [←e1] at hc2
  rw [←ys m (its.drop n0)] at hc2 ⊢
  obtain ⟨hc3,hc4⟩:=zdv hc2
  rw [SI.app]
  refine z56 ht hcon hz hn hp ((its.drop n0).take m) σ1 dn1 done1 b1 w1 hc3 (fun σ2 dn2 done2 b2 w2 hk2 hi2 e2 hd2 => ?_) h1 hi1 hd1
  obtain ⟨s',e,hj⟩:=zi hk2
  exact zau ht hcon hz hn hp hk r _ s' _ done2 b2 w2 (by unfold dnA;rw [List.map_map];simpa [Function.comp_def] using hc4) (h2 s' hj) (hi2.cut e e2.symm) (zqx hd2 e2.symm)
theorem zhp {k:St→Prop} {kp:PV→St→Prop} {d:Drw} {id:Nat} {todo:List Item} (ht:TbG C.P tb G) (hcon:∀ f i o,con f i o→Con C.P G f i o) (hz:∀ w O,z.G w O→G.p w O) (hok:z6x ops d.anc n d.E d.qs d.g=true) (hcg:zyd ops d.g d.qs=true) (hli:(match d.lin with|some _=>zfp d.g&&zdu ops (zud d.qs (zle d.g)) []|none=>true)=true) (hn:ops.toList.all (fun o=>dOk n o.dst)=true)
  (hw:zhs tb cty ann con ops kp k d σ) (hk:∀ s,k s→∀ V w,RS z s V w→TW C n ds todo V w) (hp:∀ v s,kp v s→z8w z { C with lv:=false } n ds v s) (V:Env) (w:World) (hr:RS z σ V w):TW C n ds (.code (.region id ops true)::todo) V w:=by
 have hn':∀ (q:Nat) (o:Oper),ops[q]? = some o→dOk n o.dst=true:=fun q o ho=>yf.1 hn o (by
  have:=List.mem_of_getElem? (l:=ops.toList) (i:=q) (a:=o) (by simpa using ho)
  exact this)
 cases hl:d.lin with
 | some l =>
  rw [hl] at hli
  simp only [yb] at hli
  unfold zhs at hw
  rw [hl] at hw
  obtain ⟨O,φ,α,h,hs⟩:=hr
  have:=TW.zvz (C:=C) (n:=n) (ds:=ds) (k:=todo) (L:=V) (w:=w) (id:=id) (l:=ops.toList) d.anc d.E d.qs d.g ht.mix (by simpa using hok) fun w' x a ha hda=>by
   have h2:=h.zlk x
   have:=zau (C:={ C with lv:=false }) (ds:=ds) (G:=G) (z:=z) (K:=fun done b w=>(∀ q∈done,z5h C.P ops b w q)∧TWa C todo b w) ht hcon hz hn' hp (fun σ' dn' done' b' w' hks hi hd=>by
    refine ⟨hi.zri hd,?_⟩
    obtain ⟨O,φ,α,h1,h2,h3,h4,h5⟩:=hi
    exact hk σ' hks _ _ ⟨_,_,_,h3,h4⟩ b' (z4z h1) h2) l (zud d.qs (zle d.g)) σ [] [] a w' hli.2 hw ⟨O,φ,α,ha.size,hda,h2.z4e ha,hs,by simp⟩ (by simp)
   obtain ⟨b,e1,e2⟩:=SI.qs (SI.g (C:={ C with lv:=false }) d.g hli.1) d.qs [] a w' this
   exact ⟨b,by simpa using e1,by simpa using e2⟩
  simpa using this
 | none =>
 obtain ⟨k0,hw,hk⟩:∃ k0:St→Prop,zcw tb cty ann con ops d.cs kp k0 d.g d.qs σ∧∀ s,k0 s→∀ V w,RS z s V w→TW C n ds todo V w:=by
  revert hw
  unfold zhs
  rw [hl]
  simp only
  split
  ·exact fun hw=>⟨_,hw,hk⟩
  ·rintro ⟨J,h1,h2⟩
   refine ⟨_,h1,fun s hs V w hr => ?_⟩
   obtain ⟨s',e,hj⟩:=zi hs
   exact hk s' (h2 s' hj) V w (hr.cut e)
 obtain ⟨O,φ,α,h,hs⟩:=hr
 have hal:z2v d.anc d.E (z11 (z3r ops d.E) d.qs) d.qs d.g=true:=by
  simp only [z6x,yb] at hok
  exact hok.2
 simp only [zyd,yb] at hcg
 have:=TW.zvz (C:=C) (n:=n) (ds:=ds) (k:=todo) (L:=V) (w:=w) (id:=id) (l:=ops.toList) d.anc d.E d.qs d.g ht.mix (by simpa using hok) fun w' x a ha hda=>by
  have h2:=h.zlk x
  unfold zcw at hw
  obtain ⟨b,σ1,dn1,e1,e2,e3,e4,e5,e6,e7,e8,e9⟩:=zb5 (C:={ C with lv:=false }) (ds:=ds) (done:=[]) (k:=fun σ1 dn1=>z7j tb cty ann con ops d.cs kp k0 d.g dn1 σ1) ht.toTbOk (fun w O h=>ht.gt w O (hz w O h)) hn' d.qs a ha.size hda (h2.z4e ha) (by simp) (by simp) (by simpa using hcg.1) hw
  refine ⟨b,by simpa using e1,?_⟩
  have:=z52 (C:={ C with lv:=false }) (K:=TWa C todo) (G:=G) (z:=z) (anc:=d.anc) ht hcon hz hn' hp (fun s hks V w hr a ha hda=>hk s hks V w hr a ha hda) d.g dn1 _ _ d.qs b e2 e3 e4 hs e5 (by simpa using e6) (by simpa using e7) hal (by rw [e8];simpa using hcg.2) e9
  simpa using this
 simpa using this
end
end Go.Pe
