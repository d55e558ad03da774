import Derived.Test.YtmmgdladipbedaaGreatDoorPeB
import Derived.Lib.FrozenHead
set_option linter.all false
section
namespace Go.Pe
open Go.RowKit Go.Lk
variable [Lb]
def en {β:Type}:Nat→List β→List (Nat × β)
 | _,[]=>[]
 | i,x::r=>(i,x)::en (i+1) r
def entry (i:CIn):St:={ L:=en 0 i.vs,B:=en 0 i.B,A:=en 0 (i.A.map fun e=>(⟨false,e.1,e.2.1,e.2.2⟩:Arr)) }
def zvj (tb:Tb) (σ:St):List ResultVar→Option (List PV)
 | []=>some []
 | .tmp t::r=>match lk σ.L t,zvj tb σ r with
  | some v,some vs=>some (v::vs)
  | _,_=>none
 | .cell t T::r=>match lk σ.L t with
  | some (.ptr b 0)=>match lkB σ.B b,lk tb.shp T with
   | some e,some s=>match Nat.beq e.cs.length s.2,z3z s.1 s.2 e.cs,zvj tb σ r with
    | true,some v,some vs=>some (v::vs)
    | _,_,_=>none
   | _,_=>none
  | _=>none
def zkb:List ResultVar→List Nat
 | []=>[]
 | .tmp t::r=>t::zkb r
 | .cell t _::r=>t::zkb r
def St.zsf (σ:St):List Place→Option (List Nat)
 | []=>some []
 | p::r=>match σ.at p,σ.zsf r with
  | some (.ptr b 0),some l=>some (b::l)
  | _,_=>none
def rng:Nat→Nat→List Nat
 | 0,_=>[]
 | n+1,i=>i::rng n (i+1)
def zdp (σ:St):Nat→List (Option (Nat × Nat × List (List D)))→Prop
 | _,[]=>True
 | i,none::r=>zdp σ (i+1) r
 | i,some e::r=>(match lk σ.A i with
  | some x=>x.T=e.1∧x.n=e.2.1∧x.l=e.2.2
  | none=>False)∧zdp σ (i+1) r
def zw4 (tb:Tb) (ann:Ann) (res:List ResultVar) (σ:St) (vs:List PV) (B:List Bx) (A:List (Option (Nat × Nat × List (List D)))):Prop :=
 wt (({ σ with L:=z5l (zkb res) σ.L }:St).home ann.fin) fun σ=>wt (zvj tb σ res) fun rs=>wt (σ.freeze (z7s.go vs rs)) fun σ'=>wt (σ.zsf ann.finB) fun nk =>
  nrm.go σ vs rs=z7y.go (rng ann.nb 0++nk) (rng A.length 0) vs∧z7h σ' (rng ann.nb 0++nk) (rng A.length 0) (rng ann.nb 0++nk) B∧zdp σ' 0 A ∧
  (inR.go B.length A.length vs&&B.all (fun e=>inR.go B.length A.length e.cs)&&z5w nk&&nk.all (Nat.ble 1000)&&Nat.beq B.length (ann.nb+nk.length))=true
def fin (tb:Tb) (ann:Ann) (res:List ResultVar) (out:z3s):z8v→St→Prop
 | .ret,σ=>match out with
  | .ok vs B A=>zw4 tb ann res σ vs B A
  | .okI _ _ _=>False
  | .pan _=>False
 | .normal,σ=>match out with
  | .ok vs B A=>zw4 tb ann res σ vs B A
  | .okI _ _ _=>False
  | .pan _=>False
 | .pan v,_=>out = .pan v
 | .exit _,_=>False
def z2x (f:Func):Code:=match f.body with
 | some c=>c
 | none => .refuse ""

def S {R:Type} (y:Option R) (W:R→Prop):Prop := ∀ r,y=some r→W r
section
variable {R A:Type} {W W1 W2:R→Prop} {y y1 y2:Option R}
theorem S.cb {b:Bool} (h1:S y1 W1) (h2:S y2 W2):S (if b=true then y1 else y2) (fun r=>cond b (W1 r) (W2 r)):=by
 intro r h
 cases b with
 | true=>exact h1 r h
 | false=>exact h2 r h
theorem S.e {z:Option A} {F:R→A→Prop} {g:A→Option R} (h:∀ a,S (g a) (fun r=>F r a)):S (z >>= g) (fun r=>Ex z (F r)):=by
 intro r hm
 obtain ⟨a,h1,h2⟩:=bnd hm
 exact ⟨a,h1,h a r h2⟩
theorem S.eq {z:Option A} {F:R→A→Prop} {a:A} (hz:z=some a) (h:S y (fun r=>F r a)):S y (fun r=>Ex z (F r)):=fun r hm=>⟨a,hz,h r hm⟩
theorem S.z {a:R} (h:W a):S (some a) W:=fun r e=>by cases e;exact h
theorem S.ix {X:Type} {f c:X→List D} {l:List (List D)} {xs:List X} {i:Int} {F:R→List D→Prop} {g:X→Option R} (hl:l=xs.map f) (hc:∀ x,f x=c x) (h:∀ x,S (g x) (fun r=>F r (c x))):S (Go.Lk.ix xs i >>= g) (fun r=>Ex (Go.Lk.ix l i) (F r)):=by
 intro r hm
 obtain ⟨a,h1,h2⟩:=bnd hm
 obtain ⟨j,rfl,h3⟩:=znl h1
 exact ⟨f a,by rw [hl];simp [Go.Lk.ix,h3],by rw [hc];exact h a r h2⟩
theorem S.sub {X:Type} {f:X→List D} {l:List (List D)} {xs:List X} {i j:Int} {F:R→List (List D)→Prop} {g:List X→Option R} (hl:l=xs.map f) (h:∀ x,S (g x) (fun r=>F r (x.map f))):S (Go.Lk.sub xs i j >>= g) (fun r=>Ex (Go.Lk.sub l i j) (F r)):=by
 intro r hm
 obtain ⟨a,h1,h2⟩:=bnd hm
 refine ⟨a.map f,?_,h a r h2⟩
 subst hl
 unfold Go.Lk.sub at h1 ⊢
 split at h1
 ·rename_i hc
  cases h1
  rw [if_pos (by simpa using hc)]
  simp
 ·cases h1
theorem S.app {X:Type} {f:X→List D} {l l2:List (List D)} {xs ys:List X} {n:Nat} {F:R→List (List D)→Prop} {g:List X→Option R} (hl:l=xs.map f) (hl2:l2=ys.map f) (h:∀ x,S (g x) (fun r=>F r (x.map f))):S (Go.Lk.app n xs ys >>= g) (fun r=>Ex (Go.Lk.app n l l2) (F r)):=by
 intro r hm
 obtain ⟨a,h1,h2⟩:=bnd hm
 refine ⟨a.map f,?_,h a r h2⟩
 subst hl hl2
 unfold Go.Lk.app at h1 ⊢
 split at h1
 ·rename_i hc
  cases h1
  rw [if_pos (by simpa using hc)]
  simp
 ·cases h1
theorem S.j {B:R→St→Prop} {A':R→(St→Prop)→Prop} {z:Option A} {g:A→Option R} (sh:A→St) (hA:∀ r,S z fun a=>A' r fun s=>s=sh a) (hB:∀ a,S (g a) (fun r=>B r (sh a))):S (z >>= g) (fun r=>∃ J:St→Prop,A' r J∧∀ s,J s→B r s):=by
 intro r hm
 obtain ⟨a,h1,h2⟩:=bnd hm
 exact ⟨_,hA r a h1,fun s hs=>by subst hs;exact hB a r h2⟩
theorem S.jp {B:R→St→Prop} {A':R→(St→Prop)→Prop} (s0:St) (hA:∀ r,A' r fun s=>s=s0) (hB:S y (fun r=>B r s0)):S y (fun r=>∃ J:St→Prop,A' r J∧∀ s,J s→B r s):=fun r hm=>⟨_,hA r,fun s hs=>by subst hs;exact hB r hm⟩
theorem cnd {b:Bool} {p q:Prop} (h1:b=true→p) (h2:b=false→q):cond b p q:=by
 cases b with
 | true=>exact h1 rfl
 | false=>exact h2 rfl
theorem S.k {con:Nat→CIn→z3s→Prop} {σ:St} {f:Nat} {args:List PV} {k:R→PV→St→Prop} {kp:R→PV→St→Prop} {z:Option A} {g:A→Option R} {i:CIn} {o:A→z3s} (bs as as':List Nat) (hc:∀ a,z=some a→con f i (o a))
  (h1:nrm.go σ i.vs args=z7y.go bs as i.vs) (h2:z7h σ bs as bs i.B) (h3:zcr σ as i.A) (h4:zfj σ bs as (z7s.go i.vs args) i=true)
  (h:∀ a,S (g a) (fun r=>zkq bs as as' i args σ (k r) (kp r) (o a))):S (z >>= g) (fun r=>zfk con σ f args (k r) (kp r)):=by
 intro r hm
 obtain ⟨a,h5,h6⟩:=bnd hm
 exact ⟨bs,as,as',i,o a,hc a h5,h1,h2,h3,h4,h a r h6⟩
theorem zj {α:Type} {z:Option α} {k k':α→Prop} (h:∀ a,k a→k' a) (hw:wt z k):wt z k':=by
 cases z with
 | none=>exact hw
 | some a=>exact h a hw
theorem z18 {α:Type} {z:Option α} {k k':α→Prop} (h:∀ a,k a→k' a) (hw:Ex z k):Ex z k':=by
 obtain ⟨a,h1,h2⟩:=hw
 exact ⟨a,h1,h a h2⟩
theorem z4p {b:Bool} {p q p' q':Prop} (h1:p→p') (h2:q→q') (h:cond b p q):cond b p' q':=by
 cases b with
 | true=>exact h1 h
 | false=>exact h2 h
end
end Go.Pe
end
section
namespace Go.Pe
open Go.RowKit Go.Lk
variable [Lb]
theorem zpw {td:TypeDesc} {op:BinOp} {u v:PV} {k k':PV→Prop} (h:∀ a,k a→k' a) (hw:bop td op u v k):bop td op u v k':=by
 revert hw
 unfold bop
 repeat' split
 all_goals first
  | exact fun hw=>z18 (fun _=>h _) hw
  | exact fun hw=>zj (fun _=>h _) hw
  | exact fun hw=>h _ hw
  | exact fun hw=>hw
theorem zrq {op:UnOp} {u:PV} {k k':PV→Prop} (h:∀ a,k a→k' a) (hw:uop op u k):uop op u k':=by
 revert hw
 unfold uop
 repeat' split
 all_goals first
  | exact fun hw=>zj (fun _=>h _) hw
  | exact fun hw=>h _ hw
  | exact fun hw=>hw
theorem zli {σ:St} {g:Bool} {n:Nat} {u:PV} {k k':PV→Prop} (h:∀ a,k a→k' a) (hw:zgi σ g n u k):zgi σ g n u k':=by
 revert hw
 unfold zgi
 split
 ·refine fun hw=>zj (fun _ => ?_) hw
  split<;>first|exact z18 (fun _=>zj h)|exact id
 ·exact fun hw=>zj h hw
theorem znv {σ:St} {u:PV} {k k':Int→Prop} (h:∀ a,k a→k' a):zsk σ u k→zsk σ u k':=by
 unfold zsk
 split
 ·split
  ·split
   ·split<;>first|exact z18 h|exact id
   ·exact id
  ·exact id
 ·exact id
theorem zgh {td:TypeDesc} {σ:St} {u:PV} {k k':Int→Prop} (h:∀ a,k a→k' a):zpg td σ u k→zpg td σ u k':=by
 unfold zpg
 split
 ·exact h _
 ·exact z18 h
 ·exact h _
 ·exact zj fun _=>z18 h
 ·exact znv h
 ·exact id
theorem zjs {σ:St} {x:Option Operand} {k k':Int→Prop} (h:∀ a,k a→k' a):loW σ x k→loW σ x k':=by
 unfold loW
 split
 ·exact h _
 ·split<;>first|exact h _|exact id
theorem zqi {td:TypeDesc} {σ:St} {u:PV} {x:Option Operand} {k k':Int→Prop} (h:∀ a,k a→k' a):hiW td σ u x k→hiW td σ u x k':=by
 unfold hiW
 split
 ·exact zgh h
 ·split<;>first|exact h _|exact id
theorem zqw {b:Bool} {u v:PV} {k k':PV→Prop} (h:∀ x,k x→k' x):mmW b u v k→mmW b u v k':=by
 unfold mmW
 split
 ·split<;>first|exact h _|exact id
 ·exact id
theorem zaf {tb:Tb} {σ:St} {op:Op} {k k':PV→Prop} (h:∀ a,k a→k' a) (hw:qop tb σ op k):qop tb σ op k':=by
 revert hw
 unfold qop
 split
 case h_1=>exact zj h
 case h_2=>exact zj h
 case h_3=>split<;>first|exact zj (fun _=>zj fun _=>z4p (h _) (h _))|exact id
 case h_4 =>
  split
  ·split
   ·refine zj fun _ => ?_
    split<;>first|exact h _|exact id
   ·exact id
  ·exact zj fun _=>zj fun _=>zj fun _=>zpw h
 case h_5=>exact zj fun _=>zrq h
 case h_6=>refine zj fun _ => ?_;split<;>first|exact h _|exact id
 case h_7=>refine zj fun _ => ?_;split<;>first|exact h _|exact id
 case h_8=>exact zj fun _=>zj fun _=>h _
 case h_9=>split<;>first|exact zj h|exact id
 case h_10=>refine zj fun _ => ?_;split<;>first|exact h _|exact id
 case h_11=>refine zj fun _=>zj fun _ => ?_;split<;>first|exact h _|exact id
 case h_12=>refine zj fun _ => ?_;split<;>first|exact zj h|exact id
 case h_13=>exact zj fun _=>zj fun _=>zli h
 case h_14=>split<;>first|exact z18 fun _=>h _|exact id
 case h_15 =>
  split
  ·refine zj fun _ => ?_
   split
   ·refine zj fun _ => ?_;split<;>first|exact z18 fun _=>h _|exact id
   ·exact id
  refine zj fun _ => ?_
  split
  ·refine zj fun _ => ?_
   split
   ·split<;>first|exact z18 fun _=>h _|exact id
   ·refine zj fun _ => ?_;split<;>first|exact z18 fun _=>h _|exact id
   ·exact id
  ·exact id
 case h_16 =>
  refine zj fun _=>zj fun _=>zjs fun _=>zqi fun _ => ?_
  split
  ·exact z18 fun _=>h _
  ·refine zj fun _ => ?_;split<;>first|exact z18 fun _=>h _|exact id
  ·exact id
 case h_17=>split<;>first|exact zj fun _=>zj fun _=>zgh fun _=>h _|exact zj fun _=>zj fun _=>zqw fun _=>h _|exact id
 case h_19=>exact zj fun _=>zj fun _=>zj fun _=>by split<;>first|exact h _|exact id
 case h_18 =>
  refine zj fun _ => ?_
  split
  ·split<;>exact h _
  ·exact h _
  ·exact id
 case h_20 =>
  refine zj fun _ => ?_
  split
  ·refine zj fun _ => ?_
   split
   ·exact z18 fun _=>z18 fun _=>z18 fun _=>h _
   ·exact id
  ·exact id
 case h_21=>exact id
section
variable {tb:Tb} {cty:List (Nat × List (Option (Nat × Nat)))} {ann:Ann} {con:Nat→CIn→z3s→Prop}
theorem zkr {bs as as':List Nat} {i:CIn} {args:List PV} {σ:St} {k k':PV→St→Prop} {kp kp':PV→St→Prop} (h:∀ a s,k a s→k' a s) (hp:∀ v s,kp v s→kp' v s):∀ {o:z3s},zkq bs as as' i args σ k kp o→zkq bs as as' i args σ k' kp' o
 | .ok _ _ _,hw=>zj (fun _ hw=>⟨hw.1,h _ _ hw.2⟩) hw
 | .okI _ _ _,hw=>zj (fun _ hw=>⟨hw.1,h _ _ hw.2⟩) hw
 | .pan _,hw=>⟨hw.1,hp _ _ hw.2⟩
theorem zks {σ:St} {f:Nat} {args:List PV} {k k':PV→St→Prop} {kp kp':PV→St→Prop} (h:∀ a s,k a s→k' a s) (hp:∀ v s,kp v s→kp' v s) (hw:zfk con σ f args k kp):zfk con σ f args k' kp':=by
 obtain ⟨bs,as,as',i,o,h1,h2,h3,h4,h5,h6⟩:=hw
 exact ⟨bs,as,as',i,o,h1,h2,h3,h4,h5,zkr h hp h6⟩
theorem zmo {σ:St} {key E:Nat} {k k':St→Prop} (h:∀ s,k s→k' s):σ.born key E k→σ.born key E k':=by
 unfold St.born
 refine zj fun _ => ?_
 split<;>first|exact h _|exact id
theorem zpn {rem:List (List D)} {k0 k0':Prop} {k1 k1':List D→List (List D)→Prop} (h0:k0→k0') (h1:∀ x r,k1 x r→k1' x r):NxW rem k0 k1→NxW rem k0' k1' :=
 fun h=>⟨fun e=>h0 (h.1 e),fun i x e=>h1 _ _ (h.2 i x e)⟩
theorem zfh {σ:St} {o:Oper} {k k':St→Prop} (h:∀ s,k s→k' s) (hw:zt2 tb cty σ o k):zt2 tb cty σ o k':=by
 revert hw
 unfold zt2
 split
 case h_1 =>
  refine zj fun _ => ?_
  split
  ·refine zj fun _=>zj fun _ => ?_;split<;>first|exact h _|exact id
  ·exact id
 case h_2 =>
  split
  ·split
   ·refine zj fun _=>zj fun _=>zj fun _=>zj fun _=>zj fun _=>zj fun _=>zj fun _=>zj fun _=>zj fun _=>zj fun _ => ?_
    split<;>first|exact z18 fun _=>h _|exact id
   ·exact id
  ·exact id
 case h_3 =>
  refine zj fun _ => ?_
  split
  ·refine zj fun _=>zj fun _=>zj fun _=>zj fun _=>zj fun _=>zj fun _=>zj fun _=>zj fun _ => ?_
   split
   ·refine z18 fun _=>zj fun _ => ?_
    split
    ·exact h _
    ·exact z18 fun _=>h _
   ·exact id
  ·exact id
 case h_4 =>
  refine zj fun _ => ?_
  split
  ·refine zj fun _=>zj fun _=>zj fun _=>zj fun _ => ?_;split<;>first|exact h _|exact id
  ·exact id
 case h_5 =>
  refine zj fun _=>zj fun _ => ?_
  split
  ·refine zj fun _ => ?_
   split
   ·split<;>first|exact zpn (h _) fun _ _=>h _|exact id
   ·exact id
  ·exact id
 case h_6 =>
  refine zj fun _=>zj fun _ => ?_
  split
  ·refine zj fun _ => ?_
   split
   ·split<;>first|exact zj fun _=>h _|exact id
   ·exact id
  ·exact id
 case h_7 =>
  split
  ·split
   ·split
    ·exact zj fun _=>zj fun _=>zj fun _=>zj fun _=>zj fun _=>zj fun _=>z18 fun _=>h _
    ·exact id
   ·exact id
  ·exact id
 case h_8=>exact id
set_option maxRecDepth 100000 in
theorem zpp {σ:St} {o:Oper} {k k':St→Prop} {kp kp':PV→St→Prop} (h:∀ s,k s→k' s) (hp:∀ v s,kp v s→kp' v s) (hw:act tb cty ann con σ o k kp):act tb cty ann con σ o k' kp':=by
 revert hw
 unfold act
 split
 case h_1 =>
  refine zj fun _=>zj fun _ => ?_
  split
  ·split
   ·exact h _
   ·exact zmo h
  ·exact id
 case h_2 =>
  refine zj fun _=>zj fun _ => ?_
  split
  ·refine zj fun _ => ?_;split<;>first|exact h _|exact id
  ·split<;>first|exact h _|exact id
 case h_3 =>
  split
  ·refine zj fun _=>zj fun _=>zj fun _ => ?_
   split
   ·refine zj fun _ => ?_;split<;>first|exact h _|exact id
   ·refine zj fun _=>zj fun _=>zj fun _=>zj fun _ => ?_;split<;>first|exact z18 fun _=>h _|exact id
   ·exact id
  ·exact id
 case h_4 =>
  refine zj fun _ => ?_
  split
  ·refine zj fun _=>zj fun _=>zj fun _=>zj fun _=>zj fun _=>zj fun _ => ?_
   split
   ·split
    ·split<;>first|exact h _|exact id
    ·exact h _
   ·exact id
  ·exact id
 case h_5=>refine zj fun _ => ?_;split<;>first|exact hp _ _|exact id
 case h_6 =>
  refine zj fun _=>zj fun _ => ?_
  split
  ·split<;>first|exact z18 fun _=>h _|exact id
  ·split<;>first|exact z18 fun _=>h _|exact id
  ·refine zj fun _ => ?_;split<;>first|exact z18 fun _=>h _|exact id
  ·exact id
 case h_7 =>
  split
  ·refine zj fun _=>zj fun _=>zj fun _ => ?_
   split
   ·split
    ·refine zj fun _=>zj fun _=>zj fun _=>zj fun _ => ?_
     split
     ·split
      ·split<;>first|exact z18 fun _=>h _|exact id
      ·refine zj fun _ => ?_;split<;>first|exact z18 fun _=>h _|exact id
      ·exact id
     ·exact id
    ·exact id
   ·exact id
  ·refine zj fun _ => ?_
   split
   ·exact zks (fun _ _=>h _) hp
   ·exact id
  ·exact zfh h
 case h_8=>exact zfh h
theorem z38 {σ:St} {k k':St→Prop} (h:∀ s,k s→k' s):σ.go k→σ.go k':=by
 rw [St.go_eq,St.go_eq]
 exact h σ
theorem zez {σ:St} {o:Oper} {k k':St→Prop} {kp kp':PV→St→Prop} (h:∀ s,k s→k' s) (hp:∀ v s,kp v s→kp' v s) (hw:run tb cty ann con σ o k kp):run tb cty ann con σ o k' kp':=by
 revert hw
 unfold run
 split
 ·exact zaf fun _=>z38 h
 ·exact zpp h hp
theorem zac {ops:Array Oper} {σ:St} {o:Oper} {k k':St→Prop} {kp kp':PV→St→Prop} (h:∀ s,k s→k' s) (hp:∀ v s,kp v s→kp' v s) (hw:exo tb cty ann con ops σ o k kp):exo tb cty ann con ops σ o k' kp':=by
 revert hw
 unfold exo
 split
 ·exact zez h hp
 ·split
  ·exact id
  ·split
   ·split
    ·exact z4p (z38 fun _=>zez h hp) (z38 h)
    ·exact z4p (z38 h) (z38 fun _=>zez h hp)
   ·exact z38 h
   ·exact id
theorem z6g {ops:Array Oper} {k k':St→Prop} {kp kp':PV→St→Prop} (h:∀ s,k s→k' s) (hp:∀ v s,kp v s→kp' v s):∀ (os:List Oper) (σ:St),zhr tb cty ann con ops kp k os σ→zhr tb cty ann con ops kp' k' os σ
 | [],σ,hw=>h _ hw
 | o::os,σ,hw=>zac (fun s=>z6g h hp os s) hp hw
theorem zaw {ops:Array Oper} {k k':St→Prop} {kp kp':PV→St→Prop} (h:∀ s,k s→k' s) (hp:∀ v s,kp v s→kp' v s):∀ (l:List (Nat × Nat × Cut)) (os:List Oper) (σ:St),zg2 tb cty ann con ops kp k l os σ→zg2 tb cty ann con ops kp' k' l os σ
 | [],os,σ,hw=>z6g h hp os σ hw
 | (n0,m,c)::r,os,σ,hw=>z6g (fun _ ⟨J,h1,h2⟩=>⟨J,z6g (fun _=>id) hp _ _ h1,fun s hs=>zaw h hp r _ s (h2 s hs)⟩) hp _ σ hw
theorem zjg {ops:Array Oper} {σ:St} {dn:List (Nat × Bool)} {q:Nat} {k k':St→List (Nat × Bool)→Prop} (h:∀ s d,k s d→k' s d) (hw:exq tb ops σ dn q k):exq tb ops σ dn q k':=by
 revert hw
 unfold exq
 split
 ·exact id
 ·split
  ·split
   ·exact zaf fun _=>z38 fun _=>h _ _
   ·split
    ·exact id
    ·split
     ·split
      ·exact z4p (z38 fun _=>zaf fun _=>z38 fun _=>h _ _) (z38 fun _=>h _ _)
      ·exact z4p (z38 fun _=>h _ _) (z38 fun _=>zaf fun _=>z38 fun _=>h _ _)
     ·exact z38 fun _=>h _ _
     ·exact id
  ·exact id
theorem z8c {ops:Array Oper} {k k':St→List (Nat × Bool)→Prop} (h:∀ s d,k s d→k' s d):∀ (qs:List Nat) (σ:St) (dn:List (Nat × Bool)),zqa tb ops qs σ dn k→zqa tb ops qs σ dn k'
 | [],σ,dn,hw=>h _ _ hw
 | _::r,σ,dn,hw=>zjg (fun s d=>z8c h r s d) hw
theorem zkc {cs:List (Nat × Cut)} {e:Nat} {σ:St} {k k':St→Prop} (h:∀ s,k s→k' s):rst cs e σ k→rst cs e σ k':=by
 unfold rst
 split
 ·exact fun ⟨J,h1,h2⟩=>⟨J,h1,fun s hs=>h s (h2 s hs)⟩
 ·exact h _
theorem z6e {ops:Array Oper} {cs:List (Nat × Cut)} {k k':St→Prop} {kp kp':PV→St→Prop} (h:∀ s,k s→k' s) (hp:∀ v s,kp v s→kp' v s):∀ (g:Gt) (dn:List (Nat × Bool)) (σ:St),z7j tb cty ann con ops cs kp k g dn σ→z7j tb cty ann con ops cs kp' k' g dn σ
 | .fin,dn,σ,hw=>h _ hw
 | .one e kpl qs2 g,dn,σ,hw=>by
  revert hw
  unfold z7j
  split
  ·exact zac (fun s=>zkc fun s=>z8c (fun s d hw=>⟨hw.1,z6e h hp g d s hw.2⟩) _ _ _) hp
  ·exact id
 | .alt e kpl qs2 g r,dn,σ,hw=>by
  revert hw
  unfold z7j
  refine fun hw=>⟨?_,z6e h hp r dn σ hw.2⟩
  have h1:=hw.1
  revert h1
  split
  ·exact zac (fun s=>zkc fun s=>z8c (fun s d hw=>⟨hw.1,z6e h hp g d s hw.2⟩) _ _ _) hp
  ·exact id
theorem zat {ops:Array Oper} {cs:List (Nat × Cut)} {k k':St→Prop} {kp kp':PV→St→Prop} (h:∀ s,k s→k' s) (hp:∀ v s,kp v s→kp' v s) (g:Gt) (qs:List Nat) (σ:St) (hw:zcw tb cty ann con ops cs kp k g qs σ):zcw tb cty ann con ops cs kp' k' g qs σ :=
 z8c (fun s d hw=>⟨hw.1,z6e h hp g d s hw.2⟩) qs σ [] hw
theorem zq9 {ops:Array Oper} {k k':St→List (Nat × Bool)→Prop} {kp kp':PV→St→Prop} (h:∀ s d,k s d→k' s d) (hp:∀ v s,kp v s→kp' v s):∀ (i:It) (σ:St) (dn:List (Nat × Bool)),ex1 tb cty ann con ops kp i σ dn k→ex1 tb cty ann con ops kp' i σ dn k'
 | .q q,σ,dn,hw=>zjg h hw
 | .a e kpl,σ,dn,hw=>by
  simp only [ex1] at hw ⊢
  revert hw
  split
  ·split
   ·exact zac (fun s=>h s _) hp
   ·exact id
  ·exact id
theorem z6f {ops:Array Oper} {k k':St→List (Nat × Bool)→Prop} {kp kp':PV→St→Prop} (h:∀ s d,k s d→k' s d) (hp:∀ v s,kp v s→kp' v s):∀ (l:List It) (σ:St) (dn:List (Nat × Bool)),zhq tb cty ann con ops kp k l σ dn→zhq tb cty ann con ops kp' k' l σ dn
 | [],σ,dn,hw=>h _ _ hw
 | i::r,σ,dn,hw=>zq9 (fun s d=>z6f h hp r s d) hp i σ dn hw
theorem zcx {ops:Array Oper} {k k':St→Prop} {kp kp':PV→St→Prop} (h:∀ s,k s→k' s) (hp:∀ v s,kp v s→kp' v s):∀ (l:List (Nat × Nat × Cut)) (its:List It) (σ:St) (dn:List (Nat × Bool)),zn6 tb cty ann con ops kp k l its σ dn→zn6 tb cty ann con ops kp' k' l its σ dn
 | [],its,σ,dn,hw=>z6f (fun s _=>h s) hp its σ dn hw
 | (_,_,_)::r,_,σ,dn,hw=>z6f (fun _ _ ⟨J,h1,h2⟩=>⟨J,z6f (fun _ _=>id) hp _ _ _ h1,fun s hs=>zcx h hp r _ _ _ (h2 s hs)⟩) hp _ σ dn hw
theorem zl4 {ops:Array Oper} {k k':St→Prop} {kp kp':PV→St→Prop} (h:∀ s,k s→k' s) (hp:∀ v s,kp v s→kp' v s) (d:Drw) (σ:St) (hw:zhs tb cty ann con ops kp k d σ):zhs tb cty ann con ops kp' k' d σ:=by
 revert hw
 unfold zhs
 split
 ·exact zcx h hp _ _ _ _
 split
 ·exact zat h hp _ _ _
 ·exact fun ⟨J,h1,h2⟩=>⟨J,zat (fun _=>id) hp _ _ _ h1,fun s hs=>h s (h2 s hs)⟩
theorem z5t {f f':St→Prop} {k k':z8v→St→Prop} (hf:∀ s,f s→f' s) (hk:∀ fl s,k fl s→k' fl s):∀ fl s,z7a f k fl s→z7a f' k' fl s
 | .normal,s,h=>hf s h
 | .exit _,s,h=>hk _ s h
 | .ret,s,h=>hk _ s h
 | .pan _,s,h=>hk _ s h
theorem znm {i:Nat} {k k':z8v→St→Prop} (hk:∀ fl s,k fl s→k' fl s):∀ fl s,zwd i k fl s→zwd i k' fl s
 | .normal,s,h=>hk _ s h
 | .exit j,s,h=>by
  simp only [zwd] at h ⊢
  cases hb:Nat.beq i j with
  | true=>simp only [hb] at h ⊢;exact hk _ _ h
  | false=>simp only [hb] at h ⊢;exact hk _ _ h
 | .ret,s,h=>hk _ s h
 | .pan _,s,h=>hk _ s h
theorem LW.mono {step step':(St→Prop)→St→Prop} (h:∀ I s,step I s→step' I s) {s:St} (hw:LW step s):LW step' s:=fun I hI=>hw I fun s hs=>hI s (h I s hs)
theorem z4f:∀ (c:Code) (σ:St) (k k':z8v→St→Prop),(∀ fl s,k fl s→k' fl s)→ex tb cty ann con c σ k→ex tb cty ann con c σ k'
 | .skip,σ,k,k',h,hw=>h _ _ hw
 | .label _,σ,k,k',h,hw=>h _ _ hw
 | .region id ops dr,σ,k,k',h,hw=>by
  cases dr with
  | false=>exact zaw (fun s=>h _ s) (fun v s=>h _ s) _ _ _ hw
  | true=>exact zj (fun _=>zl4 (fun s=>h _ s) (fun v s=>h _ s) _ _) hw
 | .seq a b,σ,k,k',h,hw=>by
  unfold ex at hw ⊢
  split at hw
  ·obtain ⟨J,h1,h2⟩:=hw
   exact ⟨J,z4f a _ _ _ (z5t (fun _=>id) h) h1,fun s hs=>z4f b _ _ _ h (h2 s hs)⟩
  ·exact z4f a _ _ _ (z5t (fun s=>z4f b s _ _ h) h) hw
 | .cond c a b,σ,k,k',h,hw=>by
  unfold ex at hw ⊢
  split at hw
  ·exact z4p (z4f a _ _ _ h) (z4f b _ _ _ h) hw
  ·exact hw
 | .block i a,σ,k,k',h,hw=>z4f a _ _ _ (znm h) hw
 | .exit i,σ,k,k',h,hw=>h _ _ hw
 | .ret,σ,k,k',h,hw=>h _ _ hw
 | .loop a,σ,k,k',h,hw=>by
  unfold ex at hw ⊢
  exact zj (fun _=>zj fun _=>LW.mono fun I s=>z4f a _ _ _ (z5t (fun _=>id) h)) hw
 | .rangeFunc ..,σ,k,k',h,hw=>hw
 | .scope _,σ,k,k',h,hw=>hw
 | .goto _,σ,k,k',h,hw=>hw
 | .refuse _,σ,k,k',h,hw=>hw
theorem z6c (a:Code) (c:Cut) (k:z8v→St→Prop):∀ I I':St→Prop,(∀ s,I s→I' s)→∀ s,ex tb cty ann con a s (z7a (fun s=>wt (s.cut c) I) k)→ex tb cty ann con a s (z7a (fun s=>wt (s.cut c) I') k) :=
 fun _ _ h s hw=>z4f a s _ _ (z5t (fun _=>zj h) fun _ _=>id) hw
theorem LW.fold {step:(St→Prop)→St→Prop} (hm:∀ I I':St→Prop,(∀ s,I s→I' s)→∀ s,step I s→step I' s) {s:St} (h:step (LW step) s):LW step s:=fun I hI=>hI s (hm _ _ (fun s' h'=>h' I hI) s h)
theorem S.lw {X R:Type} {a:Code} {c:Cut} {k:R→z8v→St→Prop} {σ:St} {L:X→Option R} {Bd:(X→Option R)→X→Option R} {x:X} (sh:X→St)
  (pc:∀ motive:X→R→Prop,(∀ f:X→Option R,(∀ x r,f x=some r→motive x r)→∀ x r,Bd f x=some r→motive x r)→∀ x r,L x=some r→motive x r)
  (h0:σ=sh x) (h:∀ (f:X→Option R) (I:R→St→Prop),(∀ x,S (f x) (fun r=>I r (sh x)))→∀ x,S (Bd f x) (fun r=>ex tb cty ann con a (sh x) (z7a (fun s=>wt (s.cut c) (I r)) (k r)))) :
  S (L x) (fun r=>LW (fun I s=>ex tb cty ann con a s (z7a (fun s=>wt (s.cut c) I) (k r))) σ):=by
 subst h0
 exact pc (fun x r=>LW (fun I s=>ex tb cty ann con a s (z7a (fun s=>wt (s.cut c) I) (k r))) (sh x)) (fun f ih x r hm=>LW.fold (z6c a c (k r)) (h f (fun r=>LW (fun I s=>ex tb cty ann con a s (z7a (fun s=>wt (s.cut c) I) (k r)))) ih x r hm)) x
theorem S.lw2 {X Y R:Type} {a:Code} {c:Cut} {k:R→z8v→St→Prop} {σ:St} {L:X→Y→Option R} {Bd:(X→Y→Option R)→X→Y→Option R} {x:X} {y:Y} (sh:X→Y→St)
  (pc:∀ motive:X→Y→R→Prop,(∀ f:X→Y→Option R,(∀ x y r,f x y=some r→motive x y r)→∀ x y r,Bd f x y=some r→motive x y r)→∀ x y r,L x y=some r→motive x y r)
  (h0:σ=sh x y) (h:∀ (f:X→Y→Option R) (I:R→St→Prop),(∀ x y,S (f x y) (fun r=>I r (sh x y)))→∀ x y,S (Bd f x y) (fun r=>ex tb cty ann con a (sh x y) (z7a (fun s=>wt (s.cut c) (I r)) (k r)))) :
  S (L x y) (fun r=>LW (fun I s=>ex tb cty ann con a s (z7a (fun s=>wt (s.cut c) I) (k r))) σ):=by
 subst h0
 exact pc (fun x y r=>LW (fun I s=>ex tb cty ann con a s (z7a (fun s=>wt (s.cut c) I) (k r))) (sh x y)) (fun f ih x y r hm=>LW.fold (z6c a c (k r)) (h f (fun r=>LW (fun I s=>ex tb cty ann con a s (z7a (fun s=>wt (s.cut c) I) (k r)))) ih x y r hm)) x y
end
end Go.Pe
end
section
namespace Go.Pe
open _root_.Nat renaming eq_of_beq_eq_true → ya, ne_of_beq_eq_false → yb
open _root_.Array renaming getElem?_eq_some_iff → yc
open Go.RowKit Go.Lk
variable [Lb]

theorem zd8 {β γ:Type} (f:β→γ):∀ (l:List (Nat × β)) (t:Nat),lk (l.map fun p=>(p.1,f p.2)) t=(lk l t).map f
 | [],t=>rfl
 | (s,v)::r,t=>by
  simp only [List.map_cons,lk]
  cases Nat.beq s t with
  | true=>rfl
  | false=>exact zd8 f r t
theorem z0t {β:Type} {s t:Nat} {x v:β} {l:List (Nat × β)} (h:lk ((s,x)::l) t=some v):(t=s∧v=x)∨(t≠s∧lk l t=some v):=by
 unfold lk at h
 split at h
 ·rename_i e
  cases h
  exact .inl ⟨(ya e).symm,rfl⟩
 ·rename_i e
  exact .inr ⟨fun h'=>yb e h'.symm,h⟩
theorem z2m {β:Type} {a t:Nat} {v:β}:∀ {l:List (Nat × β)},lk (z88 a l) t=some v→t≠a∧lk l t=some v
 | [],h=>by cases h
 | (s,x)::r,h=>by
  unfold z88 at h
  split at h
  ·rename_i e
   have e:=ya e
   subst e
   obtain ⟨h1,h2⟩:=z2m h
   refine ⟨h1,?_⟩
   unfold lk
   split
   ·rename_i e2
    exact (h1 (ya e2).symm).elim
   ·exact h2
  ·rename_i e
   have e:=yb e
   rcases z0t h with ⟨rfl,rfl⟩|⟨h1,h2⟩
   ·refine ⟨e,?_⟩
    unfold lk
    simp
   ·obtain ⟨h3,h4⟩:=z2m h2
    refine ⟨h3,?_⟩
    unfold lk
    split
    ·rename_i e2
     exact (h1 (ya e2).symm).elim
    ·exact h4
theorem z1y {β:Type} {t:Nat} {v:β}:∀ {as:List Nat} {l:List (Nat × β)},lk (z34 as l) t=some v→t∉as∧lk l t=some v
 | [],l,h=>⟨by simp,h⟩
 | a::as,l,h=>by
  obtain ⟨h1,h2⟩:=z1y (as:=as) h
  obtain ⟨h3,h4⟩:=z2m h2
  exact ⟨by simp [h1,h3],h4⟩
theorem z5u {β:Type} {a t:Nat} {x v:β}:∀ {l:List (Nat × β)},lk (zh2 a x l) t=some v→(t=a∧v=x)∨(t≠a∧lk l t=some v)
 | [],h=>by cases h
 | (s,y)::r,h=>by
  unfold zh2 at h
  split at h
  ·rename_i e
   have e:=ya e
   subst e
   rcases z0t h with h|⟨h1,h2⟩
   ·exact .inl h
   ·refine .inr ⟨h1,?_⟩
    unfold lk
    split
    ·rename_i e2
     exact (h1 (ya e2).symm).elim
    ·exact h2
  ·rename_i e
   have e:=yb e
   rcases z0t h with ⟨rfl,rfl⟩|⟨h1,h2⟩
   ·refine .inr ⟨e,?_⟩
    unfold lk
    simp
   ·rcases z5u h2 with h3|⟨h3,h4⟩
    ·exact .inl h3
    ·refine .inr ⟨h3,?_⟩
     unfold lk
     split
     ·rename_i e2
      exact (h1 (ya e2).symm).elim
     ·exact h4
theorem z5c {β:Type} {t:Nat} {v:β}:∀ {ks:List Nat} {l:List (Nat × β)},lk (z5l ks l) t=some v→lk l t=some v
 | [],l,h=>by cases h
 | x::r,l,h=>by
  unfold z5l at h
  split at h
  ·rename_i y e
   rcases z0t h with ⟨rfl,rfl⟩|⟨_,h2⟩
   ·exact e
   ·exact z5c h2
  ·exact z5c h

abbrev FL:=Nat→Option PV
abbrev FB:=Nat→Option Bx
abbrev FA:=Nat→Option Arr
def upd {β:Type} (f:Nat→Option β) (a:Nat) (v:β):Nat→Option β:=fun x=>if x=a then some v else f x
def del {β:Type} (f:Nat→Option β) (a:Nat):Nat→Option β:=fun x=>if x=a then none else f x
def Le {β:Type} (f g:Nat→Option β):Prop := ∀ x v,f x=some v→g x=some v
theorem Le.refl {β:Type} (f:Nat→Option β):Le f f:=fun _ _ h=>h
theorem Le.cons {β:Type} {s:Nat} {x:β} {l:List (Nat × β)}:Le (lk ((s,x)::l)) (upd (lk l) s x):=fun t v h=>by
 unfold upd
 rcases z0t h with ⟨rfl,rfl⟩|⟨h1,h2⟩
 ·simp
 ·rw [if_neg h1];exact h2
theorem Le.z88 {β:Type} {a:Nat} {l:List (Nat × β)}:Le (lk (z88 a l)) (del (lk l) a):=fun t v h=>by
 unfold del
 obtain ⟨h1,h2⟩:=z2m h
 rw [if_neg h1];exact h2
theorem Le.zh2 {β:Type} {s:Nat} {x:β} {l:List (Nat × β)}:Le (lk (zh2 s x l)) (upd (del (lk l) s) s x):=fun t v h=>by
 unfold upd del
 rcases z5u h with ⟨rfl,rfl⟩|⟨h1,h2⟩
 ·simp
 ·rw [if_neg h1,if_neg h1];exact h2
theorem z47 {β:Type} {f:Nat→Option β} {a t:Nat} {v x:β} (h:upd f a v t=some x):(t=a∧x=v)∨(t≠a∧f t=some x):=by
 unfold upd at h
 split at h
 ·cases h;exact .inl ⟨by assumption,rfl⟩
 ·exact .inr ⟨by assumption,h⟩
theorem z2d {β:Type} {f:Nat→Option β} {a t:Nat} {x:β} (h:del f a t=some x):t≠a∧f t=some x:=by
 unfold del at h
 split at h
 ·cases h
 ·exact ⟨by assumption,h⟩
def ren (φ:Nat→Nat) (a b:Nat):Nat→Nat:=fun x=>if x=a then b else φ x
def zex (α:Nat→Value) (a:Nat) (v:Value):Nat→Value:=fun x=>if x=a then v else α x

structure W0 where
 w:World
 O:Nat→Prop
 F:Nat→Prop
 G:World→(Nat→Prop)→Prop
 hF:∀ x,F x→O x
 hB:Bd O w
 hG:∀ {O w O' w'},Tr O w O' w'→G w O→G w' O'
 φ0:Nat→Nat
 hl:Lb.n≤w.heap.size

def zvk (w:World) (O:Nat→Prop) (T m:Nat) (v:Value) (l:List (List D)):Prop :=
 ∃ xs,w.ownsRowF 0 T m v l.length xs∧RDl w O m l xs∧(∀ x∈xs,x.oneCell'=true)∧∀ b,v.ownBlock=some b→O b
def z7f (w:World) (O:Nat→Prop) (T m:Nat) (v:Value) (l:List (List D)):Prop :=
 (T<1000000∧Own w O T m v l)∨(1000000≤T∧zvk w O (T - 1000000) m v l)
theorem z7f.un {w:World} {O:Nat→Prop} {T m:Nat} {v:Value} {l:List (List D)} (h:z7f w O T m v l) (ht:T<1000000):Own w O T m v l:=by
 rcases h with h|h
 ·exact h.2
 ·omega
theorem zvk.keep {w w':World} {O O' F:Nat→Prop} {T m:Nat} {v:Value} {l:List (List D)} (h:zvk w O T m v l) (x:Ext F w w') (hf:∀ b,v.ownBlock=some b→¬F b) (t:Tr O w O' w') (ho:∀ b,O b→O' b):zvk w' O' T m v l:=by
 obtain ⟨xs,h1,h2,h3,h4⟩:=h
 refine ⟨xs,⟨h1.1,?_⟩,h2.tr t,h3,fun b hb=>ho b (h4 b hb)⟩
 rcases h1.2 with h5|⟨g,cap,cur,fz,rfl,h6,h7,h8⟩
 ·exact .inl h5
 ·exact .inr ⟨g,cap,cur,fz,rfl,h6,(x.block g (yc.1 h7).1 (hf g rfl)).trans h7,h8⟩
theorem z7f.nil (w:World) (O:Nat→Prop) (T m:Nat):z7f w O T m (.slice none 0 0) []:=by
 rcases Nat.lt_or_ge T 1000000 with h|h
 ·exact .inl ⟨h,Own.nil w O T m⟩
 ·exact .inr ⟨h,[],World.ownsRowF_of (World.ownsRow_nil w 0 _ m),trivial,by simp,by simp [Value.ownBlock]⟩
theorem z7f.keep {w w':World} {O O' F:Nat→Prop} {T m:Nat} {v:Value} {l:List (List D)} (h:z7f w O T m v l) (x:Ext F w w') (hf:∀ b,v.ownBlock=some b→¬F b) (t:Tr O w O' w') (ho:∀ b,O b→O' b):z7f w' O' T m v l :=
 h.imp (fun h=>⟨h.1,h.2.keep x hf t ho⟩) fun h=>⟨h.1,h.2.keep x hf t ho⟩
theorem z7f.mem {w:World} {O:Nat→Prop} {T m:Nat} {v:Value} {l:List (List D)} (h:z7f w O T m v l):∀ b,v.ownBlock=some b→O b:=by
 rcases h with ⟨_,h⟩|⟨_,xs,_,_,_,h⟩
 ·exact h.mem
 ·exact h
theorem z7f.down {w:World} {O O':Nat→Prop} {T m:Nat} {v:Value} {l:List (List D)} (h:z7f w O T m v l) (ho:∀ x,O' x→O x) (hv:∀ b,v.ownBlock=some b→O' b):z7f w O' T m v l:=by
 rcases h with ⟨k,h⟩|⟨k,xs,h1,h2,h3,_⟩
 ·exact .inl ⟨k,h.down ho hv⟩
 ·exact .inr ⟨k,xs,h1,h2.tr (Tr.drop w ho),h3,hv⟩
theorem z7f.lt {w:World} {O:Nat→Prop} {T m:Nat} {v:Value} {l:List (List D)} (h:z7f w O T m v l):∀ b,v.ownBlock=some b→b<w.heap.size:=by
 rcases h with ⟨k,h⟩|⟨k,xs,h1,_⟩
 ·exact h.lt
 ·intro b hb
  rcases h1.2 with ⟨rfl,_⟩|⟨g,cap,cur,fz,rfl,_,h7,_⟩
  ·simp [Value.ownBlock] at hb
  ·simp only [Value.ownBlock,Option.some.injEq] at hb
   subst hb
   exact (yc.1 h7).1
theorem z7f.len {w:World} {O:Nat→Prop} {T m:Nat} {v:Value} {l:List (List D)} (h:z7f w O T m v l):∃ p c,v = .slice p l.length c:=by
 rcases h with ⟨k,h⟩|⟨k,xs,h1,_⟩
 ·exact h.len
 ·rcases h1.2 with ⟨rfl,h0⟩|⟨g,cap,cur,fz,rfl,_⟩
  ·exact ⟨none,0,by rw [h0]⟩
  ·exact ⟨_,_,rfl⟩

structure Rel (z:W0) (fL:FL) (fB:FB) (fA:FA) (V:Env) (w:World) (O:Nat→Prop) (φ:Nat→Nat) (α:Nat→Value):Prop where
 env:∀ t v,fL t=some v→∃ u,Env.get V t=some u∧VR w O φ α v u
 box:∀ b e,fB b=some e→O (φ b)∧∃ us,zf8 w (φ b) e.T us∧VRs w O φ α e.cs us
 arr:∀ a e,fA a=some e→z7f w O e.T e.n (α a) e.l
 bb:∀ a b e e',fB a=some e→fB b=some e'→a≠b→φ a≠φ b
 aa:∀ a b e e',fA a=some e→fA b=some e'→a≠b→∀ x,(α a).ownBlock=some x→(α b).ownBlock≠some x
 ab:∀ a b e e',fA a=some e→fB b=some e'→(α a).ownBlock≠some (φ b)
 bF:∀ b e,fB b=some e→(b<1000∧z.F (φ b))∨z.w.heap.size≤φ b
 aF:∀ a e,fA a=some e→∀ x,(α a).ownBlock=some x→(e.zqv=false∧z.F x)∨z.w.heap.size≤x
 bd:Bd O w
 ext:Ext z.F z.w w
 only:∀ x,O x→z.O x∨z.w.heap.size≤x
 gl:z.G w O
 keep:∀ b,b<1000→φ b=z.φ0 b

section
variable {z:W0} {fL fL':FL} {fB fB':FB} {fA fA':FA} {V:Env} {w w':World} {O O':Nat→Prop} {φ φ':Nat→Nat} {α α':Nat→Value}
theorem Rel.mono (h:Rel z fL fB fA V w O φ α) (hL:Le fL' fL) (hB:Le fB' fB) (hA:Le fA' fA):Rel z fL' fB' fA' V w O φ α :=
 ⟨fun t v e=>h.env t v (hL _ _ e),fun b e k=>h.box b e (hB _ _ k),fun b e k=>h.arr b e (hA _ _ k),fun a b e e' k k'=>h.bb a b e e' (hB _ _ k) (hB _ _ k'),
  fun a b e e' k k'=>h.aa a b e e' (hA _ _ k) (hA _ _ k'),fun a b e e' k k'=>h.ab a b e e' (hA _ _ k) (hB _ _ k'),fun b e k=>h.bF b e (hB _ _ k),fun a e k=>h.aF a e (hA _ _ k),h.bd,h.ext,h.only,h.gl,h.keep⟩
theorem Rel.move {H:Nat→Prop} (h:Rel z fL fB fA V w O φ α) (x:Ext H w w') (t:Tr O w O' w') (more:∀ y,O y→O' y) (bd':Bd O' w') (hB:∀ b e,fB b=some e→¬H (φ b)) (hA:∀ a e,fA a=some e→∀ y,(α a).ownBlock=some y→¬H y)
  (hx:Ext z.F z.w w') (only':∀ x,O' x→z.O x∨z.w.heap.size≤x):Rel z fL fB fA V w' O' φ α:=by
 refine ⟨fun s v e => ?_,fun b e k => ?_,fun a e k=>(h.arr a e k).keep x (hA a e k) t more,h.bb,h.aa,h.ab,h.bF,h.aF,bd',hx,only',z.hG t h.gl,h.keep⟩
 ·obtain ⟨u,h1,h2⟩:=h.env s v e
  exact ⟨u,h1,h2.tr t⟩
 ·obtain ⟨h1,us,h2,h3⟩:=h.box b e k
  exact ⟨more _ h1,us,h2.keep x (hB b e k),VRs.tr t _ _ h3⟩
theorem Rel.re {kb ka:Nat→Prop} (h:Rel z fL fB fA V w O φ α) (hk:∀ x,x<1000→kb x) (hφ:∀ x,kb x→φ' x=φ x) (hα:∀ x,ka x→α' x=α x) (hL:∀ t v,fL t=some v→z2r kb ka v) (hB:∀ b e,fB b=some e→kb b∧z2r.go kb ka e.cs) (hA:∀ a e,fA a=some e→ka a):Rel z fL fB fA V w O φ' α':=by
 have eb:∀ b e,fB b=some e→φ' b=φ b:=fun b e k=>hφ b (hB b e k).1
 have ea:∀ b e,fA b=some e→α' b=α b:=fun b e k=>hα b (hA b e k)
 refine ⟨fun s v e => ?_,fun b e k => ?_,fun a e k => ?_,fun a b e e' k k' hn => ?_,fun a b e e' k k' hn => ?_,fun a b e e' k k' => ?_,fun b e k => ?_,fun a e k => ?_,h.bd,h.ext,h.only,h.gl,fun b hb=>(hφ b (hk b hb)).trans (h.keep b hb)⟩
 ·obtain ⟨u,h1,h2⟩:=h.env s v e
  exact ⟨u,h1,VR.re hφ hα _ _ (hL _ _ e) h2⟩
 ·obtain ⟨h1,us,h2,h3⟩:=h.box b e k
  rw [eb b e k]
  exact ⟨h1,us,h2,VRs.re hφ hα _ _ (hB b e k).2 h3⟩
 ·rw [ea a e k];exact h.arr a e k
 ·rw [eb a e k,eb b e' k'];exact h.bb a b e e' k k' hn
 ·rw [ea a e k,ea b e' k'];exact h.aa a b e e' k k' hn
 ·rw [ea a e k,eb b e' k'];exact h.ab a b e e' k k'
 ·rw [eb b e k];exact h.bF b e k
 ·rw [ea a e k];exact h.aF a e k
theorem Rel.put (h:Rel z fL fB fA V w O φ α) {d:Nat} {v:PV} {u:Value} (hv:VR w O φ α v u):Rel z (upd fL d v) fB fA ((d,u)::V) w O φ α:=by
 refine ⟨fun t x e => ?_,h.box,h.arr,h.bb,h.aa,h.ab,h.bF,h.aF,h.bd,h.ext,h.only,h.gl,h.keep⟩
 rcases z47 e with ⟨rfl,rfl⟩|⟨h1,h2⟩
 ·exact ⟨u,by simp [Env.get],hv⟩
 ·obtain ⟨u',h3,h4⟩:=h.env t x h2
  refine ⟨u',?_,h4⟩
  unfold Env.get
  split
  ·rename_i e2
   exact (h1 (ya e2).symm).elim
  ·exact h3
theorem Rel.zzn (h:Rel z fL fB fA V w O φ α) {b:Nat} {e:Bx} {us:List Value} (ho:O (φ b)) (hb:zf8 w (φ b) e.T us) (hv:VRs w O φ α e.cs us) (h1:∀ c e',fB c=some e'→c≠b→φ c≠φ b) (h2:∀ a e',fA a=some e'→(α a).ownBlock≠some (φ b))
  (h3:(b<1000∧z.F (φ b))∨z.w.heap.size≤φ b):Rel z fL (upd fB b e) fA V w O φ α:=by
 refine ⟨h.env,fun c e' k => ?_,h.arr,fun c d e1 e2 k1 k2 hn => ?_,h.aa,fun a c e1 e2 k1 k2 => ?_,fun c e' k => ?_,h.aF,h.bd,h.ext,h.only,h.gl,h.keep⟩
 ·rcases z47 k with ⟨rfl,rfl⟩|⟨_,k⟩
  ·exact ⟨ho,us,hb,hv⟩
  ·exact h.box c e' k
 ·rcases z47 k1 with ⟨rfl,rfl⟩|⟨n1,j1⟩<;>rcases z47 k2 with ⟨rfl,rfl⟩|⟨n2,j2⟩
  ·exact (hn rfl).elim
  ·exact fun e=>h1 d e2 j2 n2 e.symm
  ·exact h1 c e1 j1 n1
  ·exact h.bb c d e1 e2 j1 j2 hn
 ·rcases z47 k2 with ⟨rfl,rfl⟩|⟨n2,k2⟩
  ·exact h2 a e1 k1
  ·exact h.ab a c e1 e2 k1 k2
 ·rcases z47 k with ⟨rfl,rfl⟩|⟨_,k⟩
  ·exact h3
  ·exact h.bF c e' k
theorem Rel.zxj (h:Rel z fL fB fA V w O φ α) {a:Nat} {e:Arr} (ho:z7f w O e.T e.n (α a) e.l) (h1:∀ c e',fA c=some e'→c≠a→∀ x,(α c).ownBlock=some x→(α a).ownBlock≠some x) (h2:∀ b e',fB b=some e'→(α a).ownBlock≠some (φ b))
  (h3:∀ x,(α a).ownBlock=some x→(e.zqv=false∧z.F x)∨z.w.heap.size≤x):Rel z fL fB (upd fA a e) V w O φ α:=by
 refine ⟨h.env,h.box,fun c e' k => ?_,h.bb,fun c d e1 e2 k1 k2 hn => ?_,fun c b e1 e2 k1 k2 => ?_,h.bF,fun c e' k => ?_,h.bd,h.ext,h.only,h.gl,h.keep⟩
 ·rcases z47 k with ⟨rfl,rfl⟩|⟨_,k⟩
  ·exact ho
  ·exact h.arr c e' k
 ·rcases z47 k1 with ⟨rfl,rfl⟩|⟨n1,j1⟩<;>rcases z47 k2 with ⟨rfl,rfl⟩|⟨n2,j2⟩
  ·exact (hn rfl).elim
  ·exact fun x e=>fun e'=>h1 d e2 j2 n2 x e' e
  ·exact h1 c e1 j1 n1
  ·exact h.aa c d e1 e2 j1 j2 hn
 ·rcases z47 k1 with ⟨rfl,rfl⟩|⟨n1,k1⟩
  ·exact h2 b e2 k2
  ·exact h.ab c b e1 e2 k1 k2
 ·rcases z47 k with ⟨rfl,rfl⟩|⟨_,k⟩
  ·exact h3
  ·exact h.aF c e' k
theorem Rel.zpx (h:Rel z fL fB fA V w O φ α) {b:Nat} {e:Bx} (k:fB b=some e):φ b<w.heap.size:=h.bd _ (h.box b e k).1
theorem Rel.zt7 (h:Rel z fL fB fA V w O φ α) {a:Nat} {e:Arr} (k:fA a=some e) {x:Nat} (hx:(α a).ownBlock=some x):x<w.heap.size:=(h.arr a e k).lt x hx
theorem Rel.zxl (h:Rel z fL fB fA V w O φ α) {a:Nat} {e:Arr} (k:fA a=some e) {x:Nat} (hx:(α a).ownBlock=some x):O x:=(h.arr a e k).mem x hx
end
end Go.Pe
end
