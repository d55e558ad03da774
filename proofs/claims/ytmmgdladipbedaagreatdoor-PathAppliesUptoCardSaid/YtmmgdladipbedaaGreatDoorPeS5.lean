import Derived.Test.YtmmgdladipbedaaGreatDoorPeS3
set_option linter.all false
namespace Go.Pe
open _root_.Bool renaming and_eq_true → ya
open _root_.List renaming take_append_drop → yb
open Go.RowKit Go.Lk
variable [Lb]

section
variable {z:W0} {V:Env} {w:World} {O:Nat→Prop} {φ:Nat→Nat} {α:Nat→Value} {σ:St} {C:Cx} {n:Nat} {ops:Array Oper} {o:Oper} {rest:List Oper} {K:Act→World→Prop} {G:GI} {con:Nat→CIn→z3s→Prop} {tb:Tb} {cty:List (Nat × List (Option (Nat × Nat)))} {ann:Ann} {ds:List Deferred}
theorem OW.valO {v:Value} {w':World} (hg:o.guard=none) (hn:dOk n o.dst=true)
  (hr:∀ a,Has n V a→(execOp a.eval o).run C.P w = .ok (.value v) w') (h:OW C n ds ops rest K (zwv o.dst v V) w'):OW C n ds ops (o::rest) K V w:=fun a ha hds =>
 wpList_plain hg fun K hK=>by
  unfold Oper.wp
  rw [hr a ha,Oper.upon_value]
  revert h hn
  cases o.dst with
  | none=>exact fun _ h=>hK _ _ (h _ ha.same (by simpa [Act.put] using hds))
  | some d=>exact fun hn h=>hK _ _ (h _ (ha.put (by simpa [dOk,Nat.blt_eq] using hn)) (by simpa [Act.put] using hds))
theorem OW.zzx {j s:Nat} {b:Bool} {x:Value} (hg:o.guard=some (j,b)) (hj:(ops[j]?).bind (·.dst)=some s) (hs:Env.get V s=some x) (hx:(x = .bool (!b))∨x=Go.undef)
  (hn:dOk n o.dst=true) (h:OW C n ds ops rest K (zwv o.dst Go.undef V) w):OW C n ds ops (o::rest) K V w:=fun a ha hds =>
 wpList_step fun K hK=>by
  have hw:Region.wanted o (yielded ops a.tmps)=false:=by
   rcases hx with rfl|rfl<;>cases b<;>simp [Region.wanted,hg,yielded,hj,ha.get s _ hs,Go.undef]
  rw [if_neg (by simp [hw])]
  revert h hn
  cases o.dst with
  | none=>exact fun _ h=>hK _ _ (h _ ha.same (by simpa [Act.put] using hds))
  | some d=>exact fun hn h=>hK _ _ (h _ (ha.put (by simpa [dOk,Nat.blt_eq] using hn)) (by simpa [Act.put] using hds))
theorem zgy {k:St→Prop} {kp:PV→St→Prop} (ht:TbG C.P tb G) (hcon:∀ f i o,con f i o→Con C.P G f i o) (hz:∀ w O,z.G w O→G.p w O) (hg:o.guard=none) (hn:dOk n o.dst=true) (h:Rl z σ V w O φ α) (hs:∀ x,z.O x→O x)
  (hk:∀ s,k s→NX z C n ds ops rest K s) (hp:∀ v s,kp v s→z8w z C n ds v s) (hw:run tb cty ann con σ o k kp):OW C n ds ops (o::rest) K V w:=by
 unfold run at hw
 split at hw
 ·obtain ⟨v,u,h1,h2,h3,_⟩:=z8p (n:=n) ht.toTbOk (fun w O h=>ht.gt w O (hz w O h)) h hw
  exact OW.valO hg hn h3 (hk _ h1 _ _ ⟨_,_,_,h.zww o.dst h2,hs⟩)
 ·exact zmg ht.toTbOk hg hn h hs hk hp (fun c x vs f as cs ho hcx hvs hx hcw=>zkt hcon hz hg hn h hs hk hp ho hcx hvs hx hcw) hw
theorem zav {k:St→Prop} {kp:PV→St→Prop} (ht:TbG C.P tb G) (hcon:∀ f i o,con f i o→Con C.P G f i o) (hz:∀ w O,z.G w O→G.p w O) (hn:dOk n o.dst=true) (h:Rl z σ V w O φ α) (hs:∀ x,z.O x→O x)
  (hk:∀ s,k s→NX z C n ds ops rest K s) (hp:∀ v s,kp v s→z8w z C n ds v s) (hw:exo tb cty ann con ops σ o k kp):OW C n ds ops (o::rest) K V w:=by
 unfold exo at hw
 simp only [St.go_eq,z7w] at hw
 split at hw
 ·rename_i hg
  exact zgy ht hcon hz hg hn h hs hk hp hw
 ·rename_i j b hg
  split at hw
  ·exact hw.elim
  ·rename_i s hj
   have hB:∀ b',Env.get V s=some (.bool b')→Rl z (σ.zh0 s b') V w O φ α:=fun b' e=>⟨fun t v hv=>by
     rcases z0t hv with ⟨rfl,rfl⟩|⟨_,h2⟩
     ·exact ⟨_,e,rfl⟩
     ·exact h.env t v h2,h.box,h.arr,h.bb,h.aa,h.ab,h.bF,h.aF,h.bd,h.ext,h.only,h.gl,h.keep⟩
   have yes:run tb cty ann con (σ.zh0 s b) o k kp→Env.get V s=some (.bool b)→OW C n ds ops (o::rest) K V w:=fun hw hu =>
    OW.yes hg hj hu (zgy (o:={ o with guard:=none }) ht hcon hz rfl hn (hB _ hu) hs hk hp hw)
   have no:k ((σ.zh0 s (!b)).put o.dst .gone)→Env.get V s=some (.bool (!b))→OW C n ds ops (o::rest) K V w:=fun hw hu =>
    OW.zzx hg hj hu (.inl rfl) hn (hk _ hw _ _ ⟨_,_,_,(hB _ hu).zww o.dst (v:=.gone) rfl,hs⟩)
   have gone:k (σ.put o.dst .gone)→∀ u,Env.get V s=some u→u=Go.undef→OW C n ds ops (o::rest) K V w:=fun hw u hu e =>
    OW.zzx hg hj hu (.inr e) hn (hk _ hw _ _ ⟨_,_,_,h.zww o.dst (v:=.gone) rfl,hs⟩)
   split at hw
   ·rename_i c hc
    obtain ⟨u,h1,h2⟩:=h.env s _ hc
    simp only [VR] at h2
    subst h2
    split at hw
    ·rcases zao hw with ⟨rfl,hw⟩|⟨rfl,hw⟩
     ·exact yes hw h1
     ·exact no hw h1
    ·rcases zao hw with ⟨rfl,hw⟩|⟨rfl,hw⟩
     ·exact no hw h1
     ·exact yes hw h1
   ·rename_i hc
    obtain ⟨u,h1,h2⟩:=h.env s _ hc
    exact gone hw u h1 h2
   ·exact hw.elim
theorem z57 {k:St→Prop} {kp:PV→St→Prop} (ht:TbG C.P tb G) (hcon:∀ f i o,con f i o→Con C.P G f i o) (hz:∀ w O,z.G w O→G.p w O) (hk:∀ s,k s→NX z C n ds ops rest K s) (hp:∀ v s,kp v s→z8w z C n ds v s) :
  ∀ (os:List Oper) (σ:St),os.all (fun o=>dOk n o.dst)=true→zhr tb cty ann con ops kp k os σ→NX z C n ds ops (os++rest) K σ
 | [],σ,_,hw=>hk σ hw
 | o::os,σ,hn,hw=>fun V w ⟨O,φ,α,h,hs⟩=>by
  simp only [List.all_cons,ya] at hn
  exact zav ht hcon hz hn.1 h hs (fun s hks=>z57 ht hcon hz hk hp os s hn.2 hks) hp hw
theorem RS.cut {s:St} {c:Cut} (h:RS z σ V w) (e:σ.cut c=some s):RS z s V w:=by
 obtain ⟨O,φ,α,h,hs⟩:=h
 obtain ⟨O',α',h',hs'⟩:=zfx h hs e
 exact ⟨O',φ,α',h',hs'⟩
theorem zj1 {β:Type} {p:β→Bool} {l:List β} (h:l.all p=true) (m:Nat):(l.take m).all p=true∧(l.drop m).all p=true:=by
 rw [←yb m l,List.all_append,ya] at h
 exact h
theorem z9l {k:St→Prop} {kp:PV→St→Prop} (ht:TbG C.P tb G) (hcon:∀ f i o,con f i o→Con C.P G f i o) (hz:∀ w O,z.G w O→G.p w O) (hk:∀ s,k s→NX z C n ds ops [] K s) (hp:∀ v s,kp v s→z8w z C n ds v s) :
  ∀ (l:List (Nat × Nat × Cut)) (os:List Oper) (σ:St),os.all (fun o=>dOk n o.dst)=true→zg2 tb cty ann con ops kp k l os σ→NX z C n ds ops os K σ
 | [],os,σ,hn,hw=>by
  have:=z57 (rest:=[]) ht hcon hz hk hp os σ hn hw
  rwa [List.append_nil] at this
 | (n0,m,c)::r,os,σ,hn,hw=>by
  have hn0:=zj1 hn n0
  have:=z57 (rest:=os.drop n0) ht hcon hz (fun σ1 ⟨J,h1,h2⟩=>by
   have hn2:=zj1 hn0.2 m
   have:=z57 (rest:=(os.drop n0).drop m) (k:=fun s=>wt (s.cut c) J) ht hcon hz (fun s hs=>by
    obtain ⟨s',e,hj⟩:=zi hs
    exact fun V w hr=>z9l ht hcon hz hk hp r _ s' hn2.2 (h2 s' hj) V w (hr.cut e)) hp ((os.drop n0).take m) σ1 hn2.1 h1
   rwa [yb] at this) hp (os.take n0) σ hn0.1 hw
  rwa [yb] at this

end
end Go.Pe
