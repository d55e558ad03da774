import Derived.Test.YtmmgdladipbedaaGreatDoorPeS5
import Derived.Test.YtmmgdladipbedaaGreatDoorLkG
set_option linter.all false
namespace Go.Pe
open Go.RowKit Go.Lk

def Vr (ops:Array Oper) (o:Oper) (V:Env):Env:=(o.looksAt ops).filterMap fun t=>(Env.get V t).map fun v=>(t,v)
theorem zyi {ops:Array Oper} {o:Oper} {V:Env} {t:Nat} {v:Value} (h:Env.get (Vr ops o V) t=some v):t∈o.looksAt ops∧Env.get V t=some v:=by
  unfold Vr at h
  revert h
  induction o.looksAt ops with
  | nil=>intro h;cases h
  | cons s l ih =>
    intro h
    simp only [List.filterMap_cons] at h
    cases hs:Env.get V s with
    | none =>
      rw [hs] at h
      obtain ⟨h1,h2⟩:=ih h
      exact ⟨List.mem_cons_of_mem _ h1,h2⟩
    | some x =>
      rw [hs] at h
      simp only [Option.map_some] at h
      unfold Env.get at h
      split at h
      · rename_i e
        cases h
        have e:=Nat.eq_of_beq_eq_true e
        subst e
        exact ⟨List.mem_cons_self,hs⟩
      · obtain ⟨h1,h2⟩:=ih h
        exact ⟨List.mem_cons_of_mem _ h1,h2⟩
theorem Vr_of {ops:Array Oper} {o:Oper} {V:Env} {t:Nat} {v:Value} (ht:t∈o.looksAt ops) (h:Env.get V t=some v):Env.get (Vr ops o V) t=some v:=by
  unfold Vr
  revert ht
  induction o.looksAt ops with
  | nil=>intro ht;cases ht
  | cons s l ih =>
    intro ht
    simp only [List.filterMap_cons]
    by_cases e:s=t
    · subst e
      rw [h]
      simp [Env.get]
    · have ht2:t∈l:=by
        rcases List.mem_cons.1 ht with rfl|ht
        · exact (e rfl).elim
        · exact ht
      cases hs:Env.get V s with
      | none=>exact ih ht2
      | some x =>
        simp only [Option.map_some]
        unfold Env.get
        split
        · rename_i e2
          exact (e (Nat.eq_of_beq_eq_true e2)).elim
        · exact ih ht2
theorem z9k {β:Type} {t:Nat} {v:β}:∀ {ks:List Nat} {l:List (Nat × β)},lk (z6j ks l) t=some v→t∈ks
  | [],l,h=>by cases h
  | x::r,l,h=>by
    unfold z6j at h
    split at h
    · rcases z2l h with ⟨rfl,rfl⟩|⟨_,h2⟩
      · exact List.mem_cons_self
      · exact List.mem_cons_of_mem _ (z9k h2)
    · exact List.mem_cons_of_mem _ (z9k h)
section
variable {z:W0} {V V':Env} {w w':World} {O O':Nat→Prop} {φ:Nat→Nat} {α:Nat→Value} {σ σ1:St} {C:Cx} {n:Nat} {ops:Array Oper} {o:Oper} {K:Act→World→Prop} {G:GI} {con:Nat→CIn→z4n→Prop} {tb:Tb} {cty:List (Nat × List (Option (Nat × Nat)))} {ann:Ann} {ds:List Deferred}
theorem zlt {σ σ':St}:∀ {xs:List Operand},(∀ x∈xs,σ'.ev x=σ.ev x)→σ'.evs xs=σ.evs xs
  | [],_=>rfl
  | x::xs,h=>by simp only [St.evs,h x List.mem_cons_self,zlt fun y hy=>h y (List.mem_cons_of_mem _ hy)]
theorem zmm {σ':St} {op:Op} {k:PV→Prop} (hev:∀ x∈op.operands,σ'.ev x=σ.ev x) (hB:σ'.B=σ.B) (hA:σ'.A=σ.A) (h:qop tb σ op k):qop tb σ' op k:=by
  have hl:∀ td u (kk:Int→Prop),zs3 td σ u kk→zs3 td σ' u kk:=fun td u kk=>by
    unfold zs3 zv5
    rw [hA,hB]
    exact id
  have hload:∀ g m u,zic σ g m u k→zic σ' g m u k:=fun g m u=>by
    unfold zic zwq
    rw [hA,hB]
    exact id
  revert h
  unfold qop
  split
  case h_1=>rw [hev _ (by simp [Op.operands])];exact id
  case h_2=>rw [hev _ (by simp [Op.operands])];exact id
  case h_3=>rename_i c x y;rw [hev c (by simp [Op.operands]),hev x (by simp [Op.operands]),hev y (by simp [Op.operands])];exact id
  case h_4=>rename_i x y _;rw [hev x (by simp [Op.operands]),hev y (by simp [Op.operands])];exact id
  case h_5=>rw [hev _ (by simp [Op.operands])];exact id
  case h_6=>rw [hev _ (by simp [Op.operands])];exact id
  case h_7=>rw [hev _ (by simp [Op.operands])];exact id
  case h_8=>rename_i as cs;rw [zlt (xs:=as.toList) fun x hx=>hev x (by simp [Op.operands];exact .inl (by simpa using hx)),zlt (xs:=cs.toList) fun x hx=>hev x (by simp [Op.operands];exact .inr (by simpa using hx))];exact id
  case h_9=>rw [hev _ (by simp [Op.operands])];exact id
  case h_10=>rw [hev _ (by simp [Op.operands])];exact id
  case h_11=>rw [hev _ (by simp [Op.operands])];exact id
  case h_12=>rw [hev _ (by simp [Op.operands])];exact id
  case h_13=>rw [hev _ (by simp [Op.operands])];exact zj fun _=>zj fun _=>hload _ _ _
  case h_14=>rename_i x y;rw [hev x (by simp [Op.operands]),hev y (by simp [Op.operands])];exact id
  case h_15 =>
    rename_i x y
    rw [hev y (by simp [Op.operands]),hA]
    split
    · exact id
    · rename_i hx
      rw [hev x (by simp [Op.operands])]
      exact id
  case h_16 =>
    rename_i t x lo hi
    have hlo:∀ y,lo=some y→σ'.ev y=σ.ev y:=fun y hy=>hev y (by subst hy;simp [Op.operands])
    have hhi:∀ y,hi=some y→σ'.ev y=σ.ev y:=fun y hy=>hev y (by subst hy;simp [Op.operands])
    rw [hev x (by simp [Op.operands])]
    refine zj fun _=>zj fun _ => ?_
    have e1:∀ kk:Int→Prop,loW σ lo kk→loW σ' lo kk:=fun kk=>by
      unfold loW
      cases lo with
      | none=>exact id
      | some y=>simp only [hlo y rfl];exact id
    have e2:∀ td u (kk:Int→Prop),hiW td σ u hi kk→hiW td σ' u hi kk:=fun td u kk=>by
      unfold hiW
      cases hi with
      | none=>exact hl td u kk
      | some y=>simp only [hhi y rfl];exact id
    exact fun hh=>e1 _ (zm5 (fun _=>e2 _ _ _) hh)
  case h_17 =>
    rename_i c
    split
    · rename_i x t e1 e2 e3
      rw [hev x (by
        have e4:c.args = #[x]:=by apply Array.toList_inj.1;simpa using e2
        simp [Op.operands,Call.operands,e4])]
      exact zj fun _=>zj fun _=>hl _ _ _
    · rename_i x y e1 e2
      have e4:c.args = #[x,y]:=by apply Array.toList_inj.1;simpa using e2
      rw [hev x (by simp [Op.operands,Call.operands,e4]),hev y (by simp [Op.operands,Call.operands,e4])]
      exact id
    · rename_i x y e1 e2
      have e4:c.args = #[x,y]:=by apply Array.toList_inj.1;simpa using e2
      rw [hev x (by simp [Op.operands,Call.operands,e4]),hev y (by simp [Op.operands,Call.operands,e4])]
      exact id
    · exact id
  case h_18=>rw [hev _ (by simp [Op.operands])];exact id
  case h_19=>rename_i parts;rw [zlt (xs:=parts.toList.map (·.2)) fun x hx=>hev x (by simpa [Op.operands] using hx)];exact id
  case h_20=>rename_i x hi mx;rw [hev x (by simp [Op.operands]),hev hi (by simp [Op.operands]),hev mx (by simp [Op.operands])];exact id
  case h_21=>exact id
theorem zgh {x:Operand} (hx:x∈o.op.operands):(σ.only ops o).ev x=σ.ev x:=by
  cases x with
  | tmp t =>
    have ht:t∈o.looksAt ops:=by
      unfold Oper.looksAt
      exact List.mem_append_left _ (List.mem_filterMap.2 ⟨.tmp t,by simpa using hx,rfl⟩)
    show lk (z6j (o.looksAt ops) σ.L) t=lk σ.L t
    revert ht
    induction o.looksAt ops with
    | nil=>intro ht;cases ht
    | cons s l ih =>
      intro ht
      unfold z6j
      by_cases e:s=t
      · subst e
        cases hs:lk σ.L s with
        | none =>
          simp only
          by_cases hl:s∈l
          · rw [ih hl,hs]
          · cases hq:lk (z6j l σ.L) s with
            | none=>rfl
            | some y=>exact (hl (z9k hq)).elim
        | some v=>simp [lk]
      · have ht2:t∈l:=by
          rcases List.mem_cons.1 ht with rfl|ht
          · exact (e rfl).elim
          · exact ht
        cases hs:lk σ.L s with
        | none=>exact ih ht2
        | some v =>
          simp only
          show (match Nat.beq s t with
            | true=>some v
            | false=>lk (z6j l σ.L) t)=_
          split
          · rename_i e2;exact (e (Nat.eq_of_beq_eq_true e2)).elim
          · exact ih ht2
  | const v=>rfl
  | global g=>rfl
  | func f=>rfl
theorem ztv:stb (σ.only ops o) o.op=stb σ o.op:=by
  unfold stb
  split
  · rename_i x ho
    rw [zgh (by rw [ho];simp [Op.operands])]
  · rename_i c ho
    split
    · rename_i x hx
      have:x∈c.args:=by rw [←Array.mem_toList_iff,hx];simp
      rw [zgh (by rw [ho];simp only [Op.operands,Call.operands];cases c.callee<;>simp [this])]
    · rfl
  · rfl
theorem Rel.lim (h:Rl z σ V w O φ α) (o:Oper):Rl z (σ.only ops o) (Vr ops o V) w O φ α :=
  ⟨fun t v hv=>by
    obtain ⟨u,h1,h2⟩:=h.env t v (z6a hv)
    exact ⟨u,Vr_of (z9k hv) h1,h2⟩,h.box,h.arr,h.bb,h.aa,h.ab,h.bF,h.aF,h.bd,h.ext,h.only,h.gl,h.keep⟩
theorem Rel.zj3 (h:Rl z σ V w O φ α) {s:Nat} {b:Bool} (e:Env.get V s=some (.bool b)):Rl z (σ.zj3 s b) V w O φ α:=⟨fun t v hv=>by
    rcases z2l hv with ⟨rfl,rfl⟩|⟨_,h2⟩
    · exact ⟨_,e,rfl⟩
    · exact h.env t v h2,h.box,h.arr,h.bb,h.aa,h.ab,h.bF,h.aF,h.bd,h.ext,h.only,h.gl,h.keep⟩
/-- The quiet operation q has been done: it is as if it were done again. -/
def KQ (C:Cx) (n:Nat) (ops:Array Oper) (V:Env) (w:World) (O:Nat→Prop) (p:Nat × Bool):Prop :=
  ∃ (o:Oper) (d:Nat) (u:Value),ops[p.1]? = some o∧o.dst=some d∧Env.get V d=some u∧d∉o.looksAt ops ∧
    ((u=Go.undef∧∃ j b s x,o.guard=some (j,b)∧(ops[j]?).bind (·.dst)=some s∧Env.get V s=some x∧(x = .bool (!b)∨x=Go.undef)) ∨
     ((o.guard=none∨∃ j b s,o.guard=some (j,b)∧(ops[j]?).bind (·.dst)=some s∧Env.get V s=some (.bool b))∧(p.2=true→∀ w' O',Tr O w O' w'→EX C n (Vr ops o V) w' o u)))
/-- .. and in this very world. -/
def KN (C:Cx) (n:Nat) (ops:Array Oper) (V:Env) (w:World) (q:Nat):Prop :=
  ∃ (o:Oper) (d:Nat) (u:Value),ops[q]? = some o∧o.dst=some d∧Env.get V d=some u ∧
    ((u=Go.undef∧∃ j b s x,o.guard=some (j,b)∧(ops[j]?).bind (·.dst)=some s∧Env.get V s=some x∧(x = .bool (!b)∨x=Go.undef)) ∨
     ((o.guard=none∨∃ j b s,o.guard=some (j,b)∧(ops[j]?).bind (·.dst)=some s∧Env.get V s=some (.bool b))∧EX C n (Vr ops o V) w o u))
theorem z3u {j s:Nat} {b:Bool} (hg:o.guard=some (j,b)) (hj:(ops[j]?).bind (·.dst)=some s):s∈o.looksAt ops:=by
  unfold Oper.looksAt
  rw [hg]
  exact List.mem_append_right _ (by simp [hj])
/-- V' zds what V zds of what o looks at. -/
theorem zvp (h:∀ t∈o.looksAt ops,Env.get V' t=Env.get V t):Vr ops o V'=Vr ops o V:=by
  unfold Vr
  revert h
  induction o.looksAt ops with
  | nil=>intro _;rfl
  | cons s l ih =>
    intro h
    simp only [List.filterMap_cons,h s List.mem_cons_self,ih fun t ht=>h t (List.mem_cons_of_mem _ ht)]
theorem KQ.move {p:Nat × Bool} (h:KQ C n ops V w O p) (t:Tr O w O' w') (he:∀ o,ops[p.1]? = some o→∀ d,o.dst=some d→Env.get V' d=Env.get V d∧∀ t∈o.looksAt ops,Env.get V' t=Env.get V t):KQ C n ops V' w' O' p:=by
  obtain ⟨o,d,u,h1,h2,h3,h4,h5⟩:=h
  obtain ⟨e1,e2⟩:=he o h1 d h2
  refine ⟨o,d,u,h1,h2,by rw [e1];exact h3,h4,?_⟩
  rcases h5 with ⟨k1,j,b,s,x,k3,k4,k5,k6⟩|⟨k1,k2⟩
  · exact .inl ⟨k1,j,b,s,x,k3,k4,by rw [e2 s (z3u k3 k4)];exact k5,k6⟩
  · refine .inr ⟨?_,fun hp w2 O2 t2=>by rw [zvp e2];exact k2 hp w2 O2 (t.trans t2)⟩
    rcases k1 with k1|⟨j,b,s,k3,k4,k5⟩
    · exact .inl k1
    · exact .inr ⟨j,b,s,k3,k4,by rw [e2 s (z3u k3 k4)];exact k5⟩
theorem KN.move {q:Nat} (h:KN C n ops V w q) (he:∀ o,ops[q]? = some o→∀ d,o.dst=some d→Env.get V' d=Env.get V d∧∀ t∈o.looksAt ops,Env.get V' t=Env.get V t):KN C n ops V' w q:=by
  obtain ⟨o,d,u,h1,h2,h3,h5⟩:=h
  obtain ⟨e1,e2⟩:=he o h1 d h2
  refine ⟨o,d,u,h1,h2,by rw [e1];exact h3,?_⟩
  rcases h5 with ⟨k1,j,b,s,x,k3,k4,k5,k6⟩|⟨k1,k2⟩
  · exact .inl ⟨k1,j,b,s,x,k3,k4,by rw [e2 s (z3u k3 k4)];exact k5,k6⟩
  · refine .inr ⟨?_,by rw [zvp e2];exact k2⟩
    rcases k1 with k1|⟨j,b,s,k3,k4,k5⟩
    · exact .inl k1
    · exact .inr ⟨j,b,s,k3,k4,by rw [e2 s (z3u k3 k4)];exact k5⟩
theorem z5q {d:Nat}:∀ {dn:List Nat},z86 ops d dn=true→∀ p∈dn,∀ o,ops[p]? = some o→∀ e,o.dst=some e→e≠d∧d∉o.looksAt ops
  | q::r,h,p,hp,o,ho,e,he=>by
    simp only [z86,Bool.and_eq_true] at h
    rcases List.mem_cons.1 hp with rfl|hp
    · have h1:=h.1
      rw [ho] at h1
      simp only [he,Bool.and_eq_true,Bool.not_eq_true'] at h1
      refine ⟨Nat.ne_of_beq_eq_false h1.1,fun hm => ?_⟩
      have:(o.looksAt ops).any (Nat.beq d)=true:=List.any_eq_true.2 ⟨d,hm,Nat.beq_refl d⟩
      rw [this] at h1
      exact Bool.noConfusion h1.2
    · exact z5q h.2 p hp o ho e he
theorem z2q {d t:Nat} {u:Value} (h:t≠d):Env.get ((d,u)::V) t=Env.get V t:=by
  show (match Nat.beq d t with
    | true=>some u
    | false=>Env.get V t)=_
  split
  · rename_i e;exact (h (Nat.eq_of_beq_eq_true e).symm).elim
  · rfl
theorem zuh {op:Op} (h:zxo op=true):stb σ op=true:=by
  cases op<;>first|rfl|cases h
/-- A quiet operation. -/
theorem zhr {dn:List (Nat × Bool)} {ix:List Nat} {q:Nat} {k:St→List (Nat × Bool)→Prop} (ht:TbOk C.P tb) (hgt:∀ w O,z.G w O→zy9 tb w O) (h:Rl z σ V w O φ α) (hn:∀ o,ops[q]? = some o→dOk n o.dst=true) (hcq:znd ops [q] ix=true) (hw:exq tb ops σ dn q k) :
    ∃ d u b σ1 o,ops[q]? = some o∧o.dst=some d∧Nat.blt d n=true∧z86 ops d ix=true∧k σ1 ((q,b)::dn)∧Rl z σ1 ((d,u)::V) w O φ α∧KQ C n ops ((d,u)::V) w O (q,b)∧KN C n ops ((d,u)::V) w q∧(zxo o.op=true→b=true):=by
  unfold exq at hw
  simp only [St.go_eq,z8x] at hw
  split at hw
  · exact hw.elim
  · rename_i o ho
    have hn:=hn o ho
    split at hw
    · rename_i d hd hq
      · have hcl:=hcq
        simp only [znd,ho,hd,Bool.and_eq_true,Bool.not_eq_true',and_true] at hcl
        have hdl:d∉o.looksAt ops:=fun hm=>by
          have:(o.looksAt ops).any (Nat.beq d)=true:=List.any_eq_true.2 ⟨d,hm,Nat.beq_refl d⟩
          rw [this] at hcl
          exact Bool.noConfusion hcl.2
        rw [hd] at hn
        have gd:∀ u:Value,Env.get ((d,u)::V) d=some u:=fun u=>by simp [Env.get]
        have ev:∀ u:Value,Vr ops o ((d,u)::V)=Vr ops o V:=fun u=>zvp fun t ht'=>z2q fun e=>hdl (e▸ht')
        -- wanted
        have yes:∀ (σ':St),Rl z σ' V w O φ α→(o.guard=none∨∃ j b s,o.guard=some (j,b)∧(ops[j]?).bind (·.dst)=some s∧Env.get V s=some (.bool b))→(qop tb σ' o.op fun v=>k (σ'.put (some d) v) ((q,stb σ' o.op)::dn)) →
            ∃ d u b σ1 o,ops[q]? = some o∧o.dst=some d∧Nat.blt d n=true∧z86 ops d ix=true∧k σ1 ((q,b)::dn)∧Rl z σ1 ((d,u)::V) w O φ α∧KQ C n ops ((d,u)::V) w O (q,b)∧KN C n ops ((d,u)::V) w q∧(zxo o.op=true→b=true):=fun σ' h' hg hw'=>by
          obtain ⟨v,u,k1,k2,k3,k4⟩:=z9u (n:=n) ht hgt (h'.lim (ops:=ops) o) (zmm (fun x hx=>zgh hx) rfl rfl hw')
          rw [ztv] at k4
          have hg':o.guard=none∨∃ j b s,o.guard=some (j,b)∧(ops[j]?).bind (·.dst)=some s∧Env.get ((d,u)::V) s=some (.bool b):=by
            rcases hg with hg|⟨j,b,s,g1,g2,g3⟩
            · exact .inl hg
            · exact .inr ⟨j,b,s,g1,g2,by rw [z2q (t:=s) (d:=d) fun e=>hdl (by rw [←e];exact z3u g1 g2)];exact g3⟩
          exact ⟨d,u,_,_,o,ho,hd,hn,hcl.1,k1,h'.zmj k2,⟨o,d,u,ho,hd,gd u,hdl,.inr ⟨hg',fun hs w2 O2 t2=>by rw [ev];exact k4 hs w2 O2 t2⟩⟩,⟨o,d,u,ho,hd,gd u,.inr ⟨hg',by rw [ev];exact k3⟩⟩,zuh⟩
        have no:∀ (σ':St) (j s:Nat) (b:Bool) (x:Value),Rl z σ' V w O φ α→o.guard=some (j,b)→(ops[j]?).bind (·.dst)=some s→Env.get V s=some x→(x = .bool (!b)∨x=Go.undef)→k (σ'.put (some d) .gone) ((q,true)::dn) →
            ∃ d u b σ1 o,ops[q]? = some o∧o.dst=some d∧Nat.blt d n=true∧z86 ops d ix=true∧k σ1 ((q,b)::dn)∧Rl z σ1 ((d,u)::V) w O φ α∧KQ C n ops ((d,u)::V) w O (q,b)∧KN C n ops ((d,u)::V) w q∧(zxo o.op=true→b=true):=fun σ' j s b x h' g1 g2 g3 g4 hk=>by
          have g5:Env.get ((d,Go.undef)::V) s=some x:=by rw [z2q (t:=s) (d:=d) fun e=>hdl (by rw [←e];exact z3u g1 g2)];exact g3
          exact ⟨d,Go.undef,true,_,o,ho,hd,hn,hcl.1,hk,h'.zmj (v:=.gone) rfl,⟨o,d,_,ho,hd,gd _,hdl,.inl ⟨rfl,j,b,s,x,g1,g2,g5,g4⟩⟩,⟨o,d,_,ho,hd,gd _,.inl ⟨rfl,j,b,s,x,g1,g2,g5,g4⟩⟩,fun _=>rfl⟩
        split at hw
        · rename_i hg
          exact yes σ h (.inl hg) hw
        · rename_i j b hg
          split at hw
          · exact hw.elim
          · rename_i s hj
            split at hw
            · rename_i c hc
              obtain ⟨x,h1,h2⟩:=h.env s _ hc
              simp only [VR] at h2
              subst h2
              split at hw
              · rcases zcb hw with ⟨rfl,hw⟩|⟨rfl,hw⟩
                · exact yes _ (h.zj3 h1) (.inr ⟨j,_,s,hg,hj,h1⟩) hw
                · exact no _ j s _ _ (h.zj3 h1) hg hj h1 (.inl rfl) hw
              · rcases zcb hw with ⟨rfl,hw⟩|⟨rfl,hw⟩
                · exact no _ j s _ _ (h.zj3 h1) hg hj h1 (.inl rfl) hw
                · exact yes _ (h.zj3 h1) (.inr ⟨j,_,s,hg,hj,h1⟩) hw
            · rename_i hc
              obtain ⟨x,h1,h2⟩:=h.env s _ hc
              exact no σ j s b x h hg hj h1 (.inr h2) hw
            · exact hw.elim
    · exact hw.elim
theorem zeq {k:St→List (Nat × Bool)→Prop} (ht:TbOk C.P tb) (hgt:∀ w O,z.G w O→zy9 tb w O) (hn:∀ (q:Nat) (o:Oper),ops[q]? = some o→dOk n o.dst=true):∀ (qs:List Nat) {σ:St} {V:Env} {dn:List (Nat × Bool)},Rl z σ V w O φ α→znd ops qs (dn.map (·.1))=true→zsu tb ops qs σ dn k→(∀ p∈dn,KQ C n ops V w O p) →
    ∃ (qv:Env) (σ1:St) (dn1:List (Nat × Bool)),qvOk ops n qs qv=true∧k σ1 dn1∧Rl z σ1 (qv++V) w O φ α∧(∀ p∈dn1,KQ C n ops (qv++V) w O p)∧(∀ q∈qs,KN C n ops (qv++V) w q)∧(∀ p∈dn,p∈dn1)∧(∀ q∈qs,∃ b,(q,b)∈dn1)∧dn1.map (·.1)=qs.reverse++dn.map (·.1) ∧
      (∀ p∈dn,∀ o,ops[p.1]? = some o→∀ d,o.dst=some d→Env.get (qv++V) d=Env.get V d∧∀ t∈o.looksAt ops,Env.get (qv++V) t=Env.get V t)
  | [],σ,V,dn,h,_,hw,hd=>⟨[],σ,dn,rfl,hw,h,hd,by simp,fun _ h=>h,by simp,by simp,fun _ _ _ _ _ _=>⟨rfl,fun _ _=>rfl⟩⟩
  | q::r,σ,V,dn,h,hc,hw,hd=>by
    have hc1:znd ops [q] (dn.map (·.1))=true:=by
      simp only [znd,Bool.and_eq_true] at hc ⊢
      exact ⟨hc.1,trivial⟩
    have hc2:znd ops r (q::dn.map (·.1))=true:=by
      simp only [znd,Bool.and_eq_true] at hc
      exact hc.2
    obtain ⟨d,u,b,σ2,o,ho,hod,hdn,hcl,hk,h2,hq,hqn,_⟩:=zhr ht hgt h (hn q) hc1 hw
    have keep:∀ p∈dn,∀ o,ops[p.1]? = some o→∀ e,o.dst=some e→Env.get ((d,u)::V) e=Env.get V e∧∀ t∈o.looksAt ops,Env.get ((d,u)::V) t=Env.get V t:=fun p hp o' ho' e he=>by
      obtain ⟨n1,n2⟩:=z5q hcl p.1 (List.mem_map.2 ⟨p,hp,rfl⟩) o' ho' e he
      exact ⟨z2q n1,fun t ht'=>z2q fun e=>n2 (e▸ht')⟩
    obtain ⟨qv,σ1,dn1,k1,k2,k3,k4,k5,k6,k7,k9,k8⟩:=zeq ht hgt hn r h2 (by simpa using hc2) hk (fun p hp=>by
      rcases List.mem_cons.1 hp with rfl|hp
      · exact hq
      · exact (hd p hp).move (Tr.refl _ _) (keep p hp))
    have ee:qv++(d,u)::V=(qv++[(d,u)])++V:=by simp
    rw [ee] at k3 k4 k5 k8
    refine ⟨qv++[(d,u)],σ1,dn1,?_,k2,k3,k4,fun q' hq' => ?_,fun p hp=>k6 p (List.mem_cons_of_mem _ hp),fun p hp => ?_,by rw [k9];simp,fun p hp o' ho' e he => ?_⟩
    · unfold qvOk at k1 ⊢
      rw [List.all_append,Bool.and_eq_true]
      refine ⟨List.all_eq_true.2 fun p hp => ?_,?_⟩
      · have:=List.all_eq_true.1 k1 p hp
        simp only [Bool.and_eq_true,List.any_cons,Bool.or_eq_true] at this ⊢
        exact ⟨this.1,.inr this.2⟩
      · simp only [List.all_cons,List.all_nil,Bool.and_true,List.any_cons,Bool.and_eq_true,Bool.or_eq_true]
        exact ⟨hdn,.inl (by simp [z61,ho,hod])⟩
    · rcases List.mem_cons.1 hq' with rfl|hq'
      · exact hqn.move fun o' ho' e he=>k8 (q',b) List.mem_cons_self o' ho' e he
      · exact k5 q' hq'
    · rcases List.mem_cons.1 hp with rfl|hp
      · exact ⟨b,k6 _ List.mem_cons_self⟩
      · exact k7 p hp
    · obtain ⟨a1,a2⟩:=k8 p (List.mem_cons_of_mem _ hp) o' ho' e he
      obtain ⟨b1,b2⟩:=keep p hp o' ho' e he
      exact ⟨a1.trans b1,fun t ht'=>(a2 t ht').trans (b2 t ht')⟩
mutual
theorem zpe:∀ (v:PV) (u u':Value),zyc v=true→VR w O φ α v u→VR w O φ α v u'→u=u'
  | .int _ _,u,u',_,h,h'=>by simp only [VR] at h h';rw [h,h']
  | .bool _,u,u',_,h,h'=>by simp only [VR] at h h';rw [h,h']
  | .str _,u,u',_,h,h'=>by simp only [VR] at h h';rw [h,h']
  | .nil,u,u',_,h,h'=>by simp only [VR] at h h';rw [h,h']
  | .ref _,u,u',_,h,h'=>by simp only [VR] at h h';rw [h.1,h'.1]
  | .ptr _ _,u,u',_,h,h'=>by simp only [VR] at h h';rw [h,h']
  | .ze2,u,u',_,h,h'=>by simp only [VR] at h h';rw [h,h']
  | .zh5,u,u',_,h,h'=>by simp only [VR] at h h';rw [h,h']
  | .agg cs,u,u',hd,h,h'=>by
    obtain ⟨us,rfl,h⟩:=h
    obtain ⟨us',rfl,h'⟩:=h'
    rw [zjs cs us us' hd h h']
  | .tup cs,u,u',hd,h,h'=>by
    obtain ⟨us,rfl,h⟩:=h
    obtain ⟨us',rfl,h'⟩:=h'
    rw [zjs cs us us' hd h h']
  | .iface T v,u,u',hd,h,h'=>by
    obtain ⟨x,rfl,h⟩:=h
    obtain ⟨x',rfl,h'⟩:=h'
    rw [zpe v x x' hd h h']
  | .sl _ _ _,_,_,hd,_,_=>by cases hd
  | .z07 _ _,_,_,hd,_,_=>by cases hd
  | .za9 _ _ _ _,_,_,hd,_,_=>by cases hd
  | .fn _ _ _,_,_,hd,_,_=>by cases hd
  | .undef,_,_,hd,_,_=>by cases hd
  | .gone,_,_,hd,_,_=>by cases hd
  | .z0k _,_,_,hd,_,_=>by cases hd
  | .err _,_,_,hd,_,_=>by cases hd
  | .mp _,_,_,hd,_,_=>by cases hd
  | .md _,_,_,hd,_,_=>by cases hd
theorem zjs:∀ (vs:List PV) (us us':List Value),zyc.go vs=true→VRs w O φ α vs us→VRs w O φ α vs us'→us=us'
  | [],us,us',_,h,h'=>by rw [show us=[] from h,show us'=[] from h']
  | v::vs,us,us',hd,h,h'=>by
    simp only [zyc.go,Bool.and_eq_true] at hd
    obtain ⟨u,r,rfl,h1,h2⟩:=h
    obtain ⟨u',r',rfl,h1',h2'⟩:=h'
    rw [zpe v u u' hd.1 h1 h1',zjs vs r r' hd.2 h2 h2']
end
theorem zdn (ht:TbOk C.P tb) (hgt:∀ w O,z.G w O→zy9 tb w O) (h:Rl z σ V w O φ α):∀ {dn:List (Nat × Bool)},zgo tb ops σ dn→(∀ p∈dn,KQ C n ops V w O p)→∀ p∈dn,KN C n ops V w p.1
  | [],_,_,p,hp=>by cases hp
  | (q,st)::r,hw,hd,p,hp=>by
    have hr:zgo tb ops σ r:=by
      cases st with
      | true=>exact hw
      | false=>exact hw.2
    rcases List.mem_cons.1 hp with rfl|hp
    · obtain ⟨o,d,u,h1,h2,h3,h4,h5⟩:=hd _ List.mem_cons_self
      refine ⟨o,d,u,h1,h2,h3,?_⟩
      rcases h5 with ⟨k1,k3⟩|⟨k1,k2⟩
      · exact .inl ⟨k1,k3⟩
      · refine .inr ⟨k1,?_⟩
        cases st with
        | true=>exact k2 rfl w O (Tr.refl _ _)
        | false =>
          have hw:=hw.1
          simp only [h1,h2] at hw
          split at hw
          · rename_i v hv
            obtain ⟨hdet,hw⟩:=hw
            obtain ⟨v',u',e1,e2,e3,_⟩:=z9u (n:=n) ht hgt (h.lim (ops:=ops) o) (zmm (fun x hx=>zgh hx) rfl rfl hw)
            subst e1
            obtain ⟨u2,e4,e5⟩:=h.env d _ hv
            rw [h3] at e4
            cases e4
            rw [zpe v' u u' hdet e5 e2]
            exact e3
          · exact hw.elim
    · exact zdn ht hgt h hr (fun p hp=>hd p (List.mem_cons_of_mem _ hp)) p hp
/-- What is known of slots is known of the act. -/
theorem KN.zue {q:Nat} {b:Act} (h:KN C n ops V w q) (hb:Has n V b):z6e C.P ops b w q:=by
  obtain ⟨o,d,u,h1,h2,h3,h4⟩:=h
  intro o' ho' d' hd'
  rw [h1] at ho'
  cases ho'
  rw [h2] at hd'
  cases hd'
  have hu:=hb.get d u h3
  rcases h4 with ⟨rfl,j,bb,s,x,g1,g2,g3,g4⟩|⟨g,hx⟩
  · have hw:Region.wanted o (yielded ops b.tmps)=false:=by
      rcases g4 with rfl|rfl<;>cases bb<;>simp [Region.wanted,g1,yielded,g2,hb.get s _ g3,Go.undef]
    exact ⟨fun hh=>(by rw [hw] at hh;cases hh),fun _=>hu⟩
  · have hw:Region.wanted o (yielded ops b.tmps)=true:=by
      rcases g with g|⟨j,bb,s,g1,g2,g3⟩
      · simp [Region.wanted,g]
      · simp [Region.wanted,g1,yielded,g2,hb.get s _ g3]
    exact ⟨fun _=>⟨u,hu,hx b ⟨hb.size,fun t v e=>hb.get t v (zyi e).2⟩⟩,fun hh=>(by rw [hw] at hh;cases hh)⟩
/-- An operation turns the slot alone that it is told in. -/
theorem zmz {b:Act} (h:wpList C.P ops (QT C ds fun a' w'=>(∀ t,o.dst≠some t→a'.tmps[t]? = b.tmps[t]?)→K a' w') [o] b w):wpList C.P ops (QT C ds K) [o] b w:=by
  have put:∀ dd v t,o.dst≠some t→(({ b with defers:=dd }:Act).put o.dst v).tmps[t]? = b.tmps[t]?:=fun dd v t hne=>by
    unfold Act.put
    cases hd:o.dst with
    | none=>rfl
    | some d =>
      rw [hd] at hne
      exact Array.getElem?_setIfInBounds_ne fun e=>hne (by rw [e])
  unfold wpList at h ⊢
  split at h
  · rename_i hw
    rw [if_pos hw]
    rcases h with h|h
    · left
      unfold Oper.wp at h ⊢
      refine zaw (o:=o) (a:=b) (b:=b) (fun dd v w hh => ?_) (fun _ _ hh=>hh) zeh _ h
      exact ⟨hh.1,hh.2 (put _ v)⟩
    · exact (zeh h.2).elim
  · rename_i hw
    rw [if_neg hw]
    exact ⟨h.1,h.2 (put b.defers _)⟩
def z5k (a:Act):Env:=(List.range a.tmps.size).filterMap fun t=>(a.tmps[t]?).map fun v=>(t,v)
theorem z9c {a:Act} {t:Nat} {v:Value}:Env.get (z5k a) t=some v↔a.tmps[t]? = some v:=by
  have key:∀ l:List Nat,(Env.get (l.filterMap fun t=>(a.tmps[t]?).map fun v=>(t,v)) t=some v↔t∈l∧a.tmps[t]? = some v):=by
    intro l
    induction l with
    | nil=>simp [Env.get]
    | cons s l ih =>
      simp only [List.filterMap_cons]
      cases hs:a.tmps[s]? with
      | none =>
        simp only [Option.map_none]
        rw [ih]
        constructor
        · exact fun h=>⟨List.mem_cons_of_mem _ h.1,h.2⟩
        · rintro ⟨h1,h2⟩
          rcases List.mem_cons.1 h1 with rfl|h1
          · rw [hs] at h2;cases h2
          · exact ⟨h1,h2⟩
      | some x =>
        simp only [Option.map_some]
        by_cases e:s=t
        · subst e
          simp [Env.get,hs]
        · rw [z2q (Ne.symm e),ih]
          constructor
          · exact fun h=>⟨List.mem_cons_of_mem _ h.1,h.2⟩
          · rintro ⟨h1,h2⟩
            rcases List.mem_cons.1 h1 with rfl|h1
            · exact (e rfl).elim
            · exact ⟨h1,h2⟩
  unfold z5k
  rw [key]
  constructor
  · exact fun h=>h.2
  · exact fun h=>⟨List.mem_range.2 (Array.getElem?_eq_some_iff.1 h).1,h⟩
theorem z62 {a:Act} (h:a.tmps.size=n):Has n (z5k a) a:=⟨h,fun _ _ e=>z9c.1 e⟩
theorem Rel.z5k {a:Act} (h:Rl z σ V w O φ α) (ha:Has n V a):Rl z σ (Pe.z5k a) w O φ α:=⟨fun t v hv=>by
    obtain ⟨u,h1,h2⟩:=h.env t v hv
    exact ⟨u,z9c.2 (ha.get t u h1),h2⟩,h.box,h.arr,h.bb,h.aa,h.ab,h.bF,h.aF,h.bd,h.ext,h.only,h.gl,h.keep⟩
/-- The world of now is remembered. -/
def W0.mark (z:W0) (w:World) (O:Nat→Prop):W0:={ z with G:=fun w' O'=>z.G w' O'∧Tr O w O' w',hG:=fun t h=>⟨z.hG t h.1,h.2.trans t⟩ }
theorem Rel.mark (h:Rl z σ V w O φ α):Rl (z.mark w O) σ V w O φ α:=⟨h.env,h.box,h.arr,h.bb,h.aa,h.ab,h.bF,h.aF,h.bd,h.ext,h.only,⟨h.gl,Tr.refl _ _⟩,h.keep⟩
theorem Rel.zjc {w0:World} {O0:Nat→Prop} (h:Rl (z.mark w0 O0) σ V w O φ α):Rl z σ V w O φ α∧Tr O0 w0 O w:=⟨⟨h.env,h.box,h.arr,h.bb,h.aa,h.ab,h.bF,h.aF,h.bd,h.ext,h.only,h.gl.1,h.keep⟩,h.gl.2⟩
theorem zm2 {kp:List Nat} {dn:List (Nat × Bool)} {p:Nat × Bool} (h:p∈z4b kp dn):p∈dn∧p.1∈kp:=by
  unfold z4b at h
  obtain ⟨h1,h2⟩:=List.mem_filter.1 h
  obtain ⟨x,h3,h4⟩:=List.any_eq_true.1 h2
  exact ⟨h1,(Nat.eq_of_beq_eq_true h4)▸h3⟩
theorem zct (a:Act) (t:Nat):Env.get (Pe.z5k a) t=a.tmps[t]?:=by
  cases hx:a.tmps[t]? with
  | some x=>exact z9c.2 hx
  | none =>
    cases hy:Env.get (Pe.z5k a) t with
    | none=>rfl
    | some y=>rw [z9c.1 hy] at hx;cases hx
theorem zz3 {a b:Act} {qv:Env} (hb:Has n (qv++Pe.z5k a) b) (hz:a.tmps.size=n) (t:Nat):Env.get (qv++Pe.z5k a) t=b.tmps[t]?:=by
  cases hg:Env.get (qv++Pe.z5k a) t with
  | some x=>exact (hb.get t x hg).symm
  | none =>
    have:∀ {l l2:Env},Env.get (l++l2) t=none→Env.get l2 t=none:=by
      intro l l2
      induction l with
      | nil=>exact id
      | cons p l ih =>
        intro hh
        obtain ⟨s,y⟩:=p
        simp only [List.cons_append] at hh
        unfold Env.get at hh
        split at hh
        · cases hh
        · exact ih hh
    have h1:=this hg
    have h2:a.tmps[t]? = none:=by
      cases hx:a.tmps[t]? with
      | none=>rfl
      | some x=>rw [z9c.2 hx] at h1;cases h1
    have h3:=hb.size
    rw [Array.getElem?_eq_none_iff] at h2
    symm
    rw [Array.getElem?_eq_none_iff]
    omega
/-- A group's quiet operations, from an act on. -/
theorem zcu {k:St→List (Nat × Bool)→Prop} (ht:TbOk C.P tb) (hgt:∀ w O,z.G w O→zy9 tb w O) (hn:∀ (q:Nat) (o:Oper),ops[q]? = some o→dOk n o.dst=true) (qs done:List Nat) {dn:List (Nat × Bool)} (a:Act) (hsz:a.tmps.size=n) (hda:a.defers=ds) (h:Rl z σ (Pe.z5k a) w O φ α)
    (hd:∀ p∈dn,KQ C n ops (Pe.z5k a) w O p) (hdone:∀ q∈done,∃ b,(q,b)∈dn) (hc:znd ops qs (dn.map (·.1))=true) (hw:zsu tb ops qs σ dn fun σ1 dn1=>zgo tb ops σ1 dn∧k σ1 dn1) :
    ∃ (b:Act) (σ1:St) (dn1:List (Nat × Bool)),Off ops qs a b∧b.tmps.size=n∧b.defers=ds∧Rl z σ1 (Pe.z5k b) w O φ α∧(∀ p∈dn1,KQ C n ops (Pe.z5k b) w O p)∧(∀ q∈done++qs,z6e C.P ops b w q)∧(∀ q∈done++qs,∃ st,(q,st)∈dn1)∧dn1.map (·.1)=qs.reverse++dn.map (·.1)∧k σ1 dn1:=by
  obtain ⟨qv,σ1,dn1,e1,⟨e2,e3⟩,e4,e5,e6,e7,e8,e10,_⟩:=zeq ht hgt hn qs h hc hw hd
  obtain ⟨b,hb,hoff⟩:=(z62 hsz).off e1
  have fb:=zz3 hb hsz
  refine ⟨b,σ1,dn1,hoff,hb.size,by rw [←hoff.defers];exact hda,e4.z5k hb,fun p hp=>(e5 p hp).move (Tr.refl _ _) fun o _ d _=>⟨(zct b d).trans (fb d).symm,fun t _=>(zct b t).trans (fb t).symm⟩,fun q hq => ?_,fun q hq => ?_,e10,e3⟩
  · rcases List.mem_append.1 hq with hq|hq
    · obtain ⟨st,hst⟩:=hdone q hq
      exact (zdn ht hgt e4 e2 (fun p hp=>e5 p (e7 p hp)) (q,st) hst).zue hb
    · exact (e6 q hq).zue hb
  · rcases List.mem_append.1 hq with hq|hq
    · obtain ⟨st,hst⟩:=hdone q hq
      exact ⟨st,e7 _ hst⟩
    · exact e8 q hq
theorem zzz {cs:List (Nat × Cut)} {e:Nat} {k:St→Prop} {w':World} {V':Env} (h:rst cs e σ k) (hr:RS z σ V' w'):∃ s,RS z s V' w'∧k s:=by
  unfold rst at h
  split at h
  · obtain ⟨J,h1,h2⟩:=h
    obtain ⟨s,e1,hj⟩:=zi h1
    exact ⟨s,hr.cut e1,h2 s hj⟩
  · exact ⟨σ,hr,h⟩
theorem zlc {cs:List (Nat × Cut)} {anc:Anc} {k:St→Prop} {kp:PV→St→Prop} {e:Nat} {o:Oper} {kpl qs2:List Nat} {g:Gt} {rem wai done:List Nat} {dn:List (Nat × Bool)} (ht:TbG C.P tb G) (hcon:∀ f i o,con f i o→Con C.P G f i o) (hz:∀ w O,z.G w O→G.p w O) (hn:∀ (q:Nat) (o:Oper),ops[q]? = some o→dOk n o.dst=true) (hp:∀ v s,kp v s→za2 z C n ds v s)
    (_hk:∀ s,k s→∀ V w,RS z s V w→∀ a,Has n V a→a.defers=ds→K a w) (ho:ops[e]? = some o) (hnode:zbd anc rem wai done e kpl qs2=true) (hal:z3f anc (z1g rem [e]) (z1g wai qs2) (kpl++qs2) g=true)
    (hc2:(match (some o:Option Oper) with
      | some o=>match o.dst with
        | some d=>z86 ops d (zaf kpl (dn.map (·.1)))
        | none=>true
      | none=>true)=true) (hcq:znd ops qs2 (zaf kpl (dn.map (·.1)))=true) (hca:zsk ops g (qs2.reverse++zaf kpl (dn.map (·.1)))=true)
    (ih:∀ (dn:List (Nat × Bool)) (rem wai done:List Nat) (σ:St) (w:World) (O:Nat→Prop) (φ:Nat→Nat) (α:Nat→Value) (b:Act),b.tmps.size=n→b.defers=ds→Rl z σ (Pe.z5k b) w O φ α→(∀ x,z.O x→O x)→(∀ p∈dn,KQ C n ops (Pe.z5k b) w O p) →
      (∀ q∈done,z6e C.P ops b w q)→(∀ q∈done,∃ st,(q,st)∈dn)→z3f anc rem wai done g=true→zsk ops g (dn.map (·.1))=true→z8k tb cty ann con ops cs kp k g dn σ→DRa C ds ops K done g b w)
    (b:Act) (hsz:b.tmps.size=n) (hda:b.defers=ds) (h:Rl z σ (Pe.z5k b) w O φ α) (hs:∀ x,z.O x→O x) (hd:∀ p∈dn,KQ C n ops (Pe.z5k b) w O p) (hdone:∀ q∈done,∃ st,(q,st)∈dn)
    (hw:exo tb cty ann con ops σ o (fun σ2=>rst cs e σ2 fun σ2=>zsu tb ops qs2 σ2 (z4b kpl dn) fun σ3 dn3=>zgo tb ops σ3 (z4b kpl dn)∧z8k tb cty ann con ops cs kp k g dn3 σ3) kp) :
    wpList C.P ops (QT C ds (fun a' w'=>∃ b',Off ops qs2 a' b'∧DRa C ds ops K (kpl++qs2) g b' w')) [o] b w:=by
  have ekept:(z4b kpl dn).map (·.1)=zaf kpl (dn.map (·.1)):=by
    unfold z4b zaf
    rw [List.filter_map]
    rfl
  have hb:Has n (Pe.z5k b) b:=z62 hsz
  refine zmz (zch (z:=z.mark w O) (rest:=[]) (K:=fun a' w'=>(∀ t,o.dst≠some t→a'.tmps[t]? = b.tmps[t]?)→∃ b',Off ops qs2 a' b'∧DRa C ds ops K (kpl++qs2) g b' w') ht hcon (fun w O h=>hz w O h.1) (hn e o ho) h.mark hs (fun σ2 hσ2 V2 w2 hr => ?_) (fun v s hv V w O φ α u φ' α' r s2 hr a ha hda=>hp v s hv V w O φ α u φ' α' r.zjc.1 s2 hr a ha hda) hw b hb hda)
  obtain ⟨σ2',hr,hσ2⟩:=zzz hσ2 hr
  obtain ⟨O2,φ2,α2,r,s2⟩:=hr
  obtain ⟨r',t⟩:=r.zjc
  refine OW.fin fun a' ha' hda' hag => ?_
  simp only [zbd,Bool.and_eq_true] at hnode
  have hmv:∀ p∈z4b kpl dn,KQ C n ops (Pe.z5k a') w2 O2 p:=fun p hp=>by
    obtain ⟨hp1,hp2⟩:=zm2 hp
    refine (hd p hp1).move t fun o' ho' d hd' => ?_
    have hne:∀ x,o.dst=some x→d≠x∧x∉o'.looksAt ops:=fun x hx=>by
      simp only [hx] at hc2
      exact z5q hc2 p.1 (by rw [←ekept];exact List.mem_map.2 ⟨p,hp,rfl⟩) o' ho' d hd'
    refine ⟨?_,fun t ht' => ?_⟩
    · rw [zct,zct]
      exact hag d fun e=>(hne d e).1 rfl
    · rw [zct,zct]
      exact hag t fun e=>(hne t e).2 ht'
  have hkd:∀ q∈kpl,∃ st,(q,st)∈z4b kpl dn:=fun q hq=>by
    have hc:=List.all_eq_true.1 hnode.1.2 q hq
    have hm:q∈done:=by simpa using hc
    obtain ⟨st,hst⟩:=hdone q hm
    exact ⟨st,List.mem_filter.2 ⟨hst,List.any_eq_true.2 ⟨q,hq,Nat.beq_refl q⟩⟩⟩
  obtain ⟨b',σ3,dn3,e1,e2,e3,e4,e5,e6,e7,e8,e9⟩:=zcu (k:=fun σ3 dn3=>z8k tb cty ann con ops cs kp k g dn3 σ3) ht.toTbOk (fun w O h=>ht.gt w O (hz w O h)) hn qs2 kpl a' ha'.size hda' (r'.z5k ha') hmv hkd (by rw [ekept];exact hcq) hσ2
  exact ⟨b',e1,ih dn3 _ _ _ σ3 w2 O2 φ2 α2 b' e2 e3 e4 s2 e5 e6 e7 hal (by rw [e8,ekept];exact hca) e9⟩
theorem z63 {cs:List (Nat × Cut)} {anc:Anc} {k:St→Prop} {kp:PV→St→Prop} (ht:TbG C.P tb G) (hcon:∀ f i o,con f i o→Con C.P G f i o) (hz:∀ w O,z.G w O→G.p w O) (hn:∀ (q:Nat) (o:Oper),ops[q]? = some o→dOk n o.dst=true) (hp:∀ v s,kp v s→za2 z C n ds v s)
    (hk:∀ s,k s→∀ V w,RS z s V w→∀ a,Has n V a→a.defers=ds→K a w) :
    ∀ (g:Gt) (dn:List (Nat × Bool)) (rem wai done:List Nat) {σ:St} {w:World} {O:Nat→Prop} {φ:Nat→Nat} {α:Nat→Value} (b:Act),b.tmps.size=n→b.defers=ds→Rl z σ (Pe.z5k b) w O φ α→(∀ x,z.O x→O x)→(∀ p∈dn,KQ C n ops (Pe.z5k b) w O p) →
      (∀ q∈done,z6e C.P ops b w q)→(∀ q∈done,∃ st,(q,st)∈dn)→z3f anc rem wai done g=true→zsk ops g (dn.map (·.1))=true→z8k tb cty ann con ops cs kp k g dn σ→DRa C ds ops K done g b w
  | .fin,dn,rem,wai,done,σ,w,O,φ,α,b,hsz,hda,h,hs,_,hst,_,_,_,hw=>⟨hst,hk σ hw _ _ ⟨_,_,_,h,hs⟩ b (z62 hsz) hda⟩
  | .one e kpl qs2 g,dn,rem,wai,done,σ,w,O,φ,α,b,hsz,hda,h,hs,hd,hst,hdone,hal,hcl,hw=>by
    simp only [z3f,Bool.and_eq_true] at hal
    simp only [zsk,clrN,Bool.and_eq_true] at hcl
    refine ⟨hst,fun o ho => ?_⟩
    unfold z8k at hw
    rw [z8x,ho] at hw
    rw [ho] at hcl
    exact zlc ht hcon hz hn hp hk ho hal.1.1 hal.2 hcl.1.1 hcl.1.2 hcl.2 (fun dn rem wai done σ w O φ α b=>z63 ht hcon hz hn hp hk g dn rem wai done b) b hsz hda h hs hd hdone hw
  | .alt e kpl qs2 g r,dn,rem,wai,done,σ,w,O,φ,α,b,hsz,hda,h,hs,hd,hst,hdone,hal,hcl,hw=>by
    simp only [z3f,Bool.and_eq_true] at hal
    simp only [zsk,clrN,Bool.and_eq_true] at hcl
    unfold z8k at hw
    refine ⟨fun o ho => ?_,z63 ht hcon hz hn hp hk r dn rem wai done b hsz hda h hs hd hst hdone hal.2 hcl.2 hw.2⟩
    have hw:=hw.1
    rw [z8x,ho] at hw
    rw [ho] at hcl
    exact zlc ht hcon hz hn hp hk ho hal.1.1.1 hal.1.2 hcl.1.1.1 hcl.1.1.2 hcl.1.2 (fun dn rem wai done σ w O φ α b=>z63 ht hcon hz hn hp hk g dn rem wai done b) b hsz hda h hs hd hdone hw
/-! A chain of acting operations, as one row. -/
theorem zuo {K':Act→World→Prop} {b:Act} (hK:∀ a w,K a w→K' a w) (h:wpList C.P ops (QT C ds K) [o] b w):wpList C.P ops (QT C ds K') [o] b w:=by
  unfold wpList at h ⊢
  split at h
  · rename_i hw
    rw [if_pos hw]
    rcases h with h|h
    · left
      unfold Oper.wp at h ⊢
      refine zaw (o:=o) (a:=b) (b:=b) (fun dd v w hh => ?_) (fun _ _ hh=>hh) zeh _ h
      exact ⟨hh.1,hK _ _ hh.2⟩
    · exact (zeh h.2).elim
  · rename_i hw
    rw [if_neg hw]
    exact ⟨h.1,hK _ _ h.2⟩
def SI (C:Cx) (ds:List Deferred) (ops:Array Oper) (K:List Nat→Act→World→Prop):List It→List Nat→Act→World→Prop
  | [],done,b,w=>K done b w
  | .q q::r,done,b,w=>∃ b',Off ops [q] b b'∧SI C ds ops K r (done++[q]) b' w
  | .a e kpl::r,done,b,w=>(∀ q∈done,z6e C.P ops b w q)∧∀ o,ops[e]? = some o→wpList C.P ops (QT C ds (fun a' w'=>SI C ds ops K r kpl a' w')) [o] b w
theorem SI.app {K:List Nat→Act→World→Prop}:∀ (l r:List It),SI C ds ops K (l++r)=SI C ds ops (SI C ds ops K r) l
  | [],r=>by funext done b w;simp only [List.nil_append,SI]
  | .q q::l,r=>by funext done b w;simp only [List.cons_append,SI,SI.app l r]
  | .a e kpl::l,r=>by funext done b w;simp only [List.cons_append,SI,SI.app l r]
theorem offTr {q:Nat} {qs:List Nat} {a b c:Act} (h1:Off ops [q] a b) (h2:Off ops qs b c):Off ops (q::qs) a c :=
  ⟨h1.size.trans h2.size,h1.defers.trans h2.defers,fun t ht=>(h1.get t fun x hx=>ht x (by rw [List.mem_singleton] at hx;rw [hx];exact List.mem_cons_self)).trans (h2.get t fun x hx=>ht x (List.mem_cons_of_mem _ hx))⟩
theorem SI.qs {K:List Nat→Act→World→Prop} {K2:List Nat→Act→World→Prop} {r:List It} (h:∀ done b w,SI C ds ops K r done b w→K2 done b w):∀ (qs done:List Nat) (b:Act) (w:World),SI C ds ops K (zx9 qs r) done b w→∃ b',Off ops qs b b'∧K2 (done++qs) b' w
  | [],done,b,w,hs=>⟨b,⟨rfl,rfl,fun _ _=>rfl⟩,by rw [List.append_nil];exact h _ _ _ hs⟩
  | q::qs,done,b,w,⟨b1,h1,h2⟩=>by
    obtain ⟨b',h3,h4⟩:=SI.qs h qs _ _ _ h2
    exact ⟨b',offTr h1 h3,by rw [List.append_assoc] at h4;exact h4⟩
theorem SI.g:∀ (g:Gt),zhj g=true→∀ done b w,SI C ds ops (fun done b w=>(∀ q∈done,z6e C.P ops b w q)∧K b w) (znp g) done b w→DRa C ds ops K done g b w
  | .fin,_,done,b,w,h=>h
  | .one e kpl qs sub,hg,done,b,w,⟨h1,h2⟩=>⟨h1,fun o ho=>zuo (fun a' w' hs=>SI.qs (SI.g sub hg) qs kpl a' w' hs) (h2 o ho)⟩
  | .alt _ _ _ _ _,hg,_,_,_,_=>by simp [zhj] at hg
def Inv (z:W0) (C:Cx) (n:Nat) (ds:List Deferred) (ops:Array Oper) (σ:St) (dn:List (Nat × Bool)) (b:Act) (w:World):Prop := ∃ O φ α,b.tmps.size=n∧b.defers=ds∧Rl z σ (Pe.z5k b) w O φ α∧(∀ x,z.O x→O x)∧∀ p∈dn,KQ C n ops (Pe.z5k b) w O p∧KN C n ops (Pe.z5k b) w p.1∧∀ o,ops[p.1]? = some o→zxo o.op=true→p.2=true
theorem zl9:∀ {dn:List (Nat × Bool)},allT dn=true→∀ p∈dn,p.2=true
  | (_,b)::r,h,p,hp=>by
    simp only [allT,Bool.and_eq_true] at h
    rcases List.mem_cons.1 hp with rfl|hp
    · exact h.1
    · exact zl9 h.2 p hp
theorem Inv.zue {dn:List (Nat × Bool)} {done:List Nat} {b:Act} (h:Inv z C n ds ops σ dn b w) (hdone:∀ q∈done,∃ st,(q,st)∈dn):∀ q∈done,z6e C.P ops b w q:=by
  obtain ⟨O,φ,α,h1,h2,h3,h4,h5⟩:=h
  intro q hq
  obtain ⟨st,hst⟩:=hdone q hq
  exact (h5 (q,st) hst).2.1.zue (z62 h1)
theorem KQ.now {q:Nat} (h:KQ C n ops V w O (q,true)):KN C n ops V w q:=by
  obtain ⟨o,d,u,h1,h2,h3,h4,h5⟩:=h
  refine ⟨o,d,u,h1,h2,h3,?_⟩
  rcases h5 with ⟨k1,k3⟩|⟨k1,k2⟩
  · exact .inl ⟨k1,k3⟩
  · exact .inr ⟨k1,k2 rfl w O (Tr.refl _ _)⟩
theorem zf3 {kpl:List Nat} {dn:List (Nat × Bool)}:(z4b kpl dn).map (·.1)=zaf kpl (dn.map (·.1)):=by
  unfold z4b zaf
  rw [List.filter_map]
  rfl
theorem zpi {K:List Nat→Act→World→Prop} {k:St→List (Nat × Bool)→Prop} {kp:PV→St→Prop} (ht:TbG C.P tb G) (hcon:∀ f i o,con f i o→Con C.P G f i o) (hz:∀ w O,z.G w O→G.p w O) (hn:∀ (q:Nat) (o:Oper),ops[q]? = some o→dOk n o.dst=true) (hp:∀ v s,kp v s→za2 z C n ds v s)
    (i:It) (dn:List (Nat × Bool)) (done:List Nat) (b:Act) (w:World) (hc:zfq ops [i] (dn.map (·.1))=true) (hk:∀ σ' dn' done' b' w',k σ' dn'→Inv z C n ds ops σ' dn' b' w'→dn'.map (·.1)=dnI i (dn.map (·.1))→(∀ q∈done',∃ st,(q,st)∈dn')→K done' b' w')
    (hw:ex1 tb cty ann con ops kp i σ dn k) (hi:Inv z C n ds ops σ dn b w) (hdone:∀ q∈done,∃ st,(q,st)∈dn):SI C ds ops K [i] done b w:=by
  cases i with
  | q q =>
    obtain ⟨O,φ,α,h1,h2,h3,h4,h5⟩:=hi
    simp only [zfq,Bool.and_eq_true,and_true] at hc
    obtain ⟨d,u,b1,σ1,o,ho,hod,hdn,hcl,hk1,hr1,hq1,hn1,hs1⟩:=zhr (k:=k) ht.toTbOk (fun w O h=>ht.gt w O (hz w O h)) h3 (hn q) hc hw
    have hqv:qvOk ops n [q] [(d,u)]=true:=by
      simp only [qvOk,List.all_cons,List.all_nil,List.any_cons,List.any_nil,hdn,z61,ho,hod,Option.bind_some,Bool.and_true,Bool.or_false,Bool.true_and,beq_self_eq_true]
    have e4:Rl z σ1 ([(d,u)]++Pe.z5k b) w O φ α:=hr1
    obtain ⟨b',hb,hoff⟩:=(z62 h1).off hqv
    have fb:=zz3 hb h1
    have same:∀ t,Env.get (Pe.z5k b') t=Env.get ((d,u)::Pe.z5k b) t:=fun t=>(zct b' t).trans (fb t).symm
    have keep:∀ p∈dn,∀ o,ops[p.1]? = some o→∀ e,o.dst=some e→Env.get (Pe.z5k b') e=Env.get (Pe.z5k b) e∧∀ t∈o.looksAt ops,Env.get (Pe.z5k b') t=Env.get (Pe.z5k b) t:=fun p hp o' ho' e he=>by
      obtain ⟨n1,n2⟩:=z5q hcl p.1 (List.mem_map.2 ⟨p,hp,rfl⟩) o' ho' e he
      exact ⟨(same e).trans (z2q n1),fun t ht'=>(same t).trans (z2q fun e=>n2 (e▸ht'))⟩
    refine ⟨b',hoff,hk σ1 _ _ b' w hk1 ⟨O,φ,α,hb.size,by rw [←hoff.defers];exact h2,e4.z5k hb,h4,fun p hp => ?_⟩ rfl fun x hx => ?_⟩
    · rcases List.mem_cons.1 hp with rfl|hp
      · exact ⟨hq1.move (Tr.refl _ _) fun _ _ d _=>⟨same d,fun t _=>same t⟩,hn1.move fun _ _ d _=>⟨same d,fun t _=>same t⟩,fun o' ho'=>by rw [ho] at ho';cases ho';exact hs1⟩
      · obtain ⟨g1,g2,g3⟩:=h5 p hp
        exact ⟨g1.move (Tr.refl _ _) (keep p hp),g2.move (keep p hp),g3⟩
    · rcases List.mem_append.1 hx with hx|hx
      · obtain ⟨st,hst⟩:=hdone x hx
        exact ⟨st,List.mem_cons_of_mem _ hst⟩
      · rw [List.mem_singleton] at hx
        subst hx
        exact ⟨b1,List.mem_cons_self⟩
  | a e kpl =>
    simp only [ex1] at hw
    split at hw
    · rename_i hT
      split at hw
      · rename_i o ho
        rw [z8x] at ho
        refine ⟨hi.zue hdone,fun o' ho' => ?_⟩
        rw [ho] at ho'
        cases ho'
        simp only [zfq,ho,Bool.and_eq_true,and_true] at hc
        obtain ⟨O,φ,α,h1,h2,h3,h4,h5⟩:=hi
        have hb:Has n (Pe.z5k b) b:=z62 h1
        refine zmz (zch (z:=z.mark w O) (rest:=[]) (K:=fun a' w'=>(∀ t,o.dst≠some t→a'.tmps[t]? = b.tmps[t]?)→SI C ds ops K [] kpl a' w') ht hcon (fun w O h=>hz w O h.1) (hn e o ho) h3.mark h4 (fun σ2 hσ2 V2 w2 hr => ?_) (fun v s hv V w O φ α u φ' α' r s2 hr a ha hda=>hp v s hv V w O φ α u φ' α' r.zjc.1 s2 hr a ha hda) hw b hb h2)
        obtain ⟨O2,φ2,α2,r,s2⟩:=hr
        obtain ⟨r',t⟩:=r.zjc
        refine OW.fin fun a' ha' hda' hag => ?_
        have hmv:∀ p∈z4b kpl dn,KQ C n ops (Pe.z5k a') w2 O2 p∧KN C n ops (Pe.z5k a') w2 p.1∧∀ o,ops[p.1]? = some o→zxo o.op=true→p.2=true:=fun p hp=>by
          obtain ⟨hp1,hp2⟩:=zm2 hp
          have hq:=(h5 p hp1).1.move (V':=Pe.z5k a') t fun o' ho' d hd'=>by
            have hne:∀ x,o.dst=some x→d≠x∧x∉o'.looksAt ops:=fun x hx=>by
              have hc1:=hc.1
              simp only [hx] at hc1
              exact z5q hc1 p.1 (by rw [←zf3];exact List.mem_map.2 ⟨p,hp,rfl⟩) o' ho' d hd'
            refine ⟨?_,fun t ht' => ?_⟩
            · rw [zct,zct]
              exact hag d fun e=>(hne d e).1 rfl
            · rw [zct,zct]
              exact hag t fun e=>(hne t e).2 ht'
          have h2:=zl9 hT p hp
          obtain ⟨q,st⟩:=p
          simp only at h2
          subst h2
          exact ⟨hq,hq.now,fun _ _ _=>rfl⟩
        refine hk σ2 _ kpl a' w2 hσ2 ⟨O2,φ2,α2,ha'.size,hda',r'.z5k ha',s2,hmv⟩ zf3 fun q hq => ?_
        have hm:=List.all_eq_true.1 hc.2 q hq
        obtain ⟨x,hx,e⟩:=List.any_eq_true.1 hm
        obtain ⟨p,hp1,hp2⟩:=List.mem_map.1 hx
        have e:=Nat.eq_of_beq_eq_true e
        subst hp2
        exact ⟨p.2,List.mem_filter.2 ⟨by rw [e];exact hp1,List.any_eq_true.2 ⟨q,hq,by rw [e];exact Nat.beq_refl _⟩⟩⟩
      · exact hw.elim
    · exact hw.elim
theorem zhl {i:It} {r:List It} {dn:List Nat} (h:zfq ops (i::r) dn=true):zfq ops [i] dn=true∧zfq ops r (dnI i dn)=true:=by
  cases i with
  | q q =>
    simp only [zfq,Bool.and_eq_true,and_true] at h ⊢
    exact h
  | a e kpl =>
    simp only [zfq,Bool.and_eq_true,and_true] at h ⊢
    exact h
theorem zfr:∀ {l r:List It} {dn:List Nat},zfq ops (l++r) dn=true→zfq ops l dn=true∧zfq ops r (dnIs l dn)=true
  | [],_,_,h=>⟨rfl,h⟩
  | i::l,r,dn,h=>by
    obtain ⟨h1,h2⟩:=zhl h
    obtain ⟨h3,h4⟩:=zfr h2
    refine ⟨?_,h4⟩
    cases i with
    | q q =>
      simp only [zfq,Bool.and_eq_true,and_true] at h1 ⊢
      exact ⟨h1,h3⟩
    | a e kpl =>
      simp only [zfq,Bool.and_eq_true,and_true] at h1 ⊢
      exact ⟨h1,h3⟩
theorem z65 {K:List Nat→Act→World→Prop} {k:St→List (Nat × Bool)→Prop} {kp:PV→St→Prop} (ht:TbG C.P tb G) (hcon:∀ f i o,con f i o→Con C.P G f i o) (hz:∀ w O,z.G w O→G.p w O) (hn:∀ (q:Nat) (o:Oper),ops[q]? = some o→dOk n o.dst=true) (hp:∀ v s,kp v s→za2 z C n ds v s) :
    ∀ (l:List It) (σ:St) (dn:List (Nat × Bool)) (done:List Nat) (b:Act) (w:World),zfq ops l (dn.map (·.1))=true→(∀ σ' dn' done' b' w',k σ' dn'→Inv z C n ds ops σ' dn' b' w'→dn'.map (·.1)=dnIs l (dn.map (·.1))→(∀ q∈done',∃ st,(q,st)∈dn')→K done' b' w') →
      zjw tb cty ann con ops kp k l σ dn→Inv z C n ds ops σ dn b w→(∀ q∈done,∃ st,(q,st)∈dn)→SI C ds ops K l done b w
  | [],σ,dn,done,b,w,_,hk,hw,hi,hd=>hk σ dn done b w hw hi rfl hd
  | i::r,σ,dn,done,b,w,hc,hk,hw,hi,hd=>by
    obtain ⟨hc1,hc2⟩:=zhl hc
    have:=zpi (K:=SI C ds ops K r) ht hcon hz hn hp i dn done b w hc1 (fun σ' dn' done' b' w' hk' hi' e hd' =>
      z65 ht hcon hz hn hp r σ' dn' done' b' w' (by rw [e];exact hc2) (fun σ2 dn2 done2 b2 w2 k2 i2 e2 d2=>hk σ2 dn2 done2 b2 w2 k2 i2 (by rw [e2,e];rfl) d2) hk' hi' hd') hw hi hd
    rw [←SI.app] at this
    exact this
theorem Inv.cut {s:St} {c:Cut} {dn:List (Nat × Bool)} {l:List Nat} {b:Act} (h:Inv z C n ds ops σ dn b w) (e:σ.cut c=some s) (hm:l=dn.map (·.1)):Inv z C n ds ops s (l.map fun q=>(q,zxn ops q)) b w:=by
  obtain ⟨O,φ,α,h1,h2,h3,h4,h5⟩:=h
  obtain ⟨O',α',h',hs'⟩:=zho h3.mark h4 e
  obtain ⟨h'',t⟩:=h'.zjc
  refine ⟨O',φ,α',h1,h2,h'',hs',fun p hp => ?_⟩
  obtain ⟨q,hq,rfl⟩:=List.mem_map.1 hp
  rw [hm] at hq
  obtain ⟨p,hp2,rfl⟩:=List.mem_map.1 hq
  obtain ⟨g1,g2,g3⟩:=h5 p hp2
  have g4:zxn ops p.1=true→p.2=true:=fun hs=>by
    obtain ⟨o,d,u,k1,_⟩:=g1
    unfold zxn at hs
    rw [z8x,k1] at hs
    exact g3 o k1 hs
  refine ⟨?_,g2,fun o ho hs=>by show zxn ops p.1=true;unfold zxn;rw [z8x,ho];exact hs⟩
  have hmv:=g1.move (V':=Pe.z5k b) t fun _ _ _ _=>⟨rfl,fun _ _=>rfl⟩
  obtain ⟨o,d,u,k1,k2,k3,k4,k5⟩:=hmv
  refine ⟨o,d,u,k1,k2,k3,k4,?_⟩
  rcases k5 with k5|⟨k5,k6⟩
  · exact .inl k5
  · exact .inr ⟨k5,fun hs=>k6 (g4 hs)⟩
theorem ztp {done l:List Nat} {dn:List (Nat × Bool)} (h:∀ q∈done,∃ st,(q,st)∈dn) (hm:l=dn.map (·.1)):∀ q∈done,∃ st,(q,st)∈l.map fun q=>(q,zxn ops q):=fun q hq=>by
  obtain ⟨st,hst⟩:=h q hq
  exact ⟨_,List.mem_map.2 ⟨q,by rw [hm];exact List.mem_map.2 ⟨_,hst,rfl⟩,rfl⟩⟩
theorem zcg {K:List Nat→Act→World→Prop} {k:St→Prop} {kp:PV→St→Prop} (ht:TbG C.P tb G) (hcon:∀ f i o,con f i o→Con C.P G f i o) (hz:∀ w O,z.G w O→G.p w O) (hn:∀ (q:Nat) (o:Oper),ops[q]? = some o→dOk n o.dst=true) (hp:∀ v s,kp v s→za2 z C n ds v s)
    (hk:∀ σ' dn' done' b' w',k σ'→Inv z C n ds ops σ' dn' b' w'→(∀ q∈done',∃ st,(q,st)∈dn')→K done' b' w') :
    ∀ (l:List (Nat × Nat × Cut)) (its:List It) (σ:St) (dn:List (Nat × Bool)) (done:List Nat) (b:Act) (w:World),zfq ops its (dn.map (·.1))=true→zpj tb cty ann con ops kp k l its σ dn→Inv z C n ds ops σ dn b w→(∀ q∈done,∃ st,(q,st)∈dn)→SI C ds ops K its done b w
  | [],its,σ,dn,done,b,w,hc,hw,hi,hd=>z65 ht hcon hz hn hp its σ dn done b w hc (fun σ' dn' done' b' w' hk' hi' _ hd'=>hk σ' dn' done' b' w' hk' hi' hd') hw hi hd
  | (n0,m,c)::r,its,σ,dn,done,b,w,hc,hw,hi,hd=>by
    rw [←List.take_append_drop n0 its] at hc ⊢
    obtain ⟨hc1,hc2⟩:=zfr hc
    rw [SI.app]
    refine z65 ht hcon hz hn hp (its.take n0) σ dn done b w hc1 (fun σ1 dn1 done1 b1 w1 hk1 hi1 e1 hd1 => ?_) hw hi hd
    obtain ⟨J,h1,h2⟩:=hk1
    rw [←e1] at hc2
    rw [←List.take_append_drop m (its.drop n0)] at hc2 ⊢
    obtain ⟨hc3,hc4⟩:=zfr hc2
    rw [SI.app]
    refine z65 ht hcon hz hn hp ((its.drop n0).take m) σ1 dn1 done1 b1 w1 hc3 (fun σ2 dn2 done2 b2 w2 hk2 hi2 e2 hd2 => ?_) h1 hi1 hd1
    obtain ⟨s',e,hj⟩:=zi hk2
    exact zcg ht hcon hz hn hp hk r _ s' _ done2 b2 w2 (by unfold dnA;rw [List.map_map];simpa [Function.comp_def] using hc4) (h2 s' hj) (hi2.cut e e2.symm) (ztp hd2 e2.symm)
theorem zju {k:St→Prop} {kp:PV→St→Prop} {d:Drw} {id:Nat} {todo:List Item} (ht:TbG C.P tb G) (hcon:∀ f i o,con f i o→Con C.P G f i o) (hz:∀ w O,z.G w O→G.p w O) (hok:z88 ops d.anc n d.E d.qs d.g=true) (hcg:clrG ops d.g d.qs=true) (hli:(match d.lin with|some _=>zhj d.g&&zfq ops (zx9 d.qs (znp d.g)) []|none=>true)=true) (hn:ops.toList.all (fun o=>dOk n o.dst)=true)
    (hw:zjy tb cty ann con ops kp k d σ) (hk:∀ s,k s→∀ V w,RS z s V w→TW C n ds todo V w) (hp:∀ v s,kp v s→za2 z { C with lv:=false } n ds v s) (V:Env) (w:World) (hr:RS z σ V w):TW C n ds (.code (.region id ops true)::todo) V w:=by
  have hn':∀ (q:Nat) (o:Oper),ops[q]? = some o→dOk n o.dst=true:=fun q o ho=>List.all_eq_true.1 hn o (by
    have:=List.mem_of_getElem? (l:=ops.toList) (i:=q) (a:=o) (by simpa using ho)
    exact this)
  cases hl:d.lin with
  | some l =>
    rw [hl] at hli
    simp only [Bool.and_eq_true] at hli
    unfold zjy at hw
    rw [hl] at hw
    obtain ⟨O,φ,α,h,hs⟩:=hr
    have:=TW.zyu (C:=C) (n:=n) (ds:=ds) (k:=todo) (L:=V) (w:=w) (id:=id) (l:=ops.toList) d.anc d.E d.qs d.g ht.mix (by simpa using hok) fun w' x a ha hda=>by
      have h2:=h.znw x
      have:=zcg (C:={ C with lv:=false }) (ds:=ds) (G:=G) (z:=z) (K:=fun done b w=>(∀ q∈done,z6e C.P ops b w q)∧TWa C todo b w) ht hcon hz hn' hp (fun σ' dn' done' b' w' hks hi hd=>by
        refine ⟨hi.zue hd,?_⟩
        obtain ⟨O,φ,α,h1,h2,h3,h4,h5⟩:=hi
        exact hk σ' hks _ _ ⟨_,_,_,h3,h4⟩ b' (z62 h1) h2) l (zx9 d.qs (znp d.g)) σ [] [] a w' hli.2 hw ⟨O,φ,α,ha.size,hda,h2.z5k ha,hs,by simp⟩ (by simp)
      obtain ⟨b,e1,e2⟩:=SI.qs (SI.g (C:={ C with lv:=false }) d.g hli.1) d.qs [] a w' this
      exact ⟨b,by simpa using e1,by simpa using e2⟩
    simpa using this
  | none =>
  obtain ⟨k0,hw,hk⟩:∃ k0:St→Prop,zeo tb cty ann con ops d.cs kp k0 d.g d.qs σ∧∀ s,k0 s→∀ V w,RS z s V w→TW C n ds todo V w:=by
    revert hw
    unfold zjy
    rw [hl]
    simp only
    split
    · exact fun hw=>⟨_,hw,hk⟩
    · rintro ⟨J,h1,h2⟩
      refine ⟨_,h1,fun s hs V w hr => ?_⟩
      obtain ⟨s',e,hj⟩:=zi hs
      exact hk s' (h2 s' hj) V w (hr.cut e)
  obtain ⟨O,φ,α,h,hs⟩:=hr
  have hal:z3f d.anc d.E (z1g (z4e ops d.E) d.qs) d.qs d.g=true:=by
    simp only [z88,Bool.and_eq_true] at hok
    exact hok.2
  simp only [clrG,Bool.and_eq_true] at hcg
  have:=TW.zyu (C:=C) (n:=n) (ds:=ds) (k:=todo) (L:=V) (w:=w) (id:=id) (l:=ops.toList) d.anc d.E d.qs d.g ht.mix (by simpa using hok) fun w' x a ha hda=>by
    have h2:=h.znw x
    unfold zeo at hw
    obtain ⟨b,σ1,dn1,e1,e2,e3,e4,e5,e6,e7,e8,e9⟩:=zcu (C:={ C with lv:=false }) (ds:=ds) (done:=[]) (k:=fun σ1 dn1=>z8k tb cty ann con ops d.cs kp k0 d.g dn1 σ1) ht.toTbOk (fun w O h=>ht.gt w O (hz w O h)) hn' d.qs a ha.size hda (h2.z5k ha) (by simp) (by simp) (by simpa using hcg.1) hw
    refine ⟨b,by simpa using e1,?_⟩
    have:=z63 (C:={ C with lv:=false }) (K:=TWa C todo) (G:=G) (z:=z) (anc:=d.anc) ht hcon hz hn' hp (fun s hks V w hr a ha hda=>hk s hks V w hr a ha hda) d.g dn1 _ _ d.qs b e2 e3 e4 hs e5 (by simpa using e6) (by simpa using e7) hal (by rw [e8];simpa using hcg.2) e9
    simpa using this
  simpa using this
end
end Go.Pe
