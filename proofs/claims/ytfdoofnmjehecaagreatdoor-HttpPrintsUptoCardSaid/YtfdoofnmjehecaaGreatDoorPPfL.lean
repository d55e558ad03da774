import Derived.Test.YtfdoofnmjehecaaGreatDoorPPfB
set_option linter.all false
section
namespace Go.Pe
open Go.RowKit Go.Lk
def en {β:Type}:Nat→List β→List (Nat × β)
 | _,[]=>[]
 | i,x::r=>(i,x)::en (i+1) r
def entry (i:CIn):St:={ L:=en 0 i.vs,B:=en 0 i.B,A:=en 0 (i.A.map fun e=>(⟨false,e.1,e.2.1,e.2.2⟩:Arr)) }
def zri (tb:Tb) (σ:St):List ResultVar→Option (List PV)
 | []=>some []
 | .tmp t::r=>match lk σ.L t,zri tb σ r with
  | some v,some vs=>some (v::vs)
  | _,_=>none
 | .cell t T::r=>match lk σ.L t with
  | some (.ptr b 0)=>match lkB σ.B b,lk tb.shp T with
   | some e,some s=>match Nat.beq e.cs.length s.2,z4r s.1 s.2 e.cs,zri tb σ r with
    | true,some v,some vs=>some (v::vs)
    | _,_,_=>none
   | _,_=>none
  | _=>none
def zhv:List ResultVar→List Nat
 | []=>[]
 | .tmp t::r=>t::zhv r
 | .cell t _::r=>t::zhv r
def St.zoe (σ:St):List Place→Option (List Nat)
 | []=>some []
 | p::r=>match σ.at p,σ.zoe r with
  | some (.ptr b 0),some l=>some (b::l)
  | _,_=>none
def rng:Nat→Nat→List Nat
 | 0,_=>[]
 | n+1,i=>i::rng n (i+1)
def zck (σ:St):Nat→List (Option (Nat × Nat × List (List D)))→Prop
 | _,[]=>True
 | i,none::r=>zck σ (i+1) r
 | i,some e::r=>(match lk σ.A i with
  | some x=>x.T=e.1∧x.n=e.2.1∧x.l=e.2.2
  | none=>False)∧zck σ (i+1) r
def zmc (tb:Tb) (ann:Ann) (res:List ResultVar) (σ:St) (vs:List PV) (B:List Bx) (A:List (Option (Nat × Nat × List (List D)))):Prop :=
 wt (({ σ with L:=z62 (zhv res) σ.L }:St).home ann.fin) fun σ=>wt (zri tb σ res) fun rs=>wt (σ.freeze (z6z.go vs rs)) fun σ'=>wt (σ.zoe ann.zv3) fun nk =>
  nrm.go σ vs rs=z7j.go (rng ann.nb 0++nk) (rng A.length 0) vs∧z69 σ' (rng ann.nb 0++nk) (rng A.length 0) (rng ann.nb 0++nk) B∧zck σ' 0 A ∧
  (inR.go B.length A.length vs&&B.all (fun e=>inR.go B.length A.length e.cs)&&z5y nk&&nk.all (Nat.ble 1000)&&Nat.beq B.length (ann.nb+nk.length))=true
def fin (tb:Tb) (ann:Ann) (res:List ResultVar) (out:z2u):z61→St→Prop
 | .ret,σ=>match out with
  | .ok vs B A=>zmc tb ann res σ vs B A
  | _=>False
 | .normal,σ=>match out with
  | .ok vs B A=>zmc tb ann res σ vs B A
  | _=>False
 | .pan v,σ=>match out with
  | .zbf v' B=>v'=v∧z6f v'=false∧zmc tb { nb:=ann.nb } [] σ [] B []
  | o=>o = .pan v
 | .exit _,_=>False
def z22 (f:Func):Code:=match f.body with
 | some c=>c
 | none => .refuse ""

def S {R:Type} (y:Option R) (W:R→Prop):Prop := ∀ r,y=some r→W r
section
variable {R A:Type} {W W1 W2:R→Prop} {y y1 y2:Option R}
theorem S.cb {b:Bool} (h1:S y1 W1) (h2:S y2 W2):S (if b=true then y1 else y2) (fun r=>cond b (W1 r) (W2 r)):=by
 intro r h
 cases b with
 | true=>exact h1 r h
 | false=>exact h2 r h
theorem S.e {z:Option A} {F:R→A→Prop} {g:A→Option R} (h:∀ a,S (g a) (fun r=>F r a)):S (z >>= g) (fun r=>Ex z (F r)):=by
 intro r hm
 obtain ⟨a,h1,h2⟩:=bnd hm
 exact ⟨a,h1,h a r h2⟩
theorem S.eq {z:Option A} {F:R→A→Prop} {a:A} (hz:z=some a) (h:S y (fun r=>F r a)):S y (fun r=>Ex z (F r)):=fun r hm=>⟨a,hz,h r hm⟩
theorem S.z {a:R} (h:W a):S (some a) W:=fun r e=>by cases e;exact h
theorem S.ix {X:Type} {f c:X→List D} {l:List (List D)} {xs:List X} {i:Int} {F:R→List D→Prop} {g:X→Option R} (hl:l=xs.map f) (hc:∀ x,f x=c x) (h:∀ x,S (g x) (fun r=>F r (c x))):S (Go.Lk.ix xs i >>= g) (fun r=>Ex (Go.Lk.ix l i) (F r)):=by
 intro r hm
 obtain ⟨a,h1,h2⟩:=bnd hm
 obtain ⟨j,rfl,h3⟩:=zk8 h1
 exact ⟨f a,by rw [hl];simp [Go.Lk.ix,h3],by rw [hc];exact h a r h2⟩
theorem S.sub {X:Type} {f:X→List D} {l:List (List D)} {xs:List X} {i j:Int} {F:R→List (List D)→Prop} {g:List X→Option R} (hl:l=xs.map f) (h:∀ x,S (g x) (fun r=>F r (x.map f))):S (Go.Lk.sub xs i j >>= g) (fun r=>Ex (Go.Lk.sub l i j) (F r)):=by
 intro r hm
 obtain ⟨a,h1,h2⟩:=bnd hm
 refine ⟨a.map f,?_,h a r h2⟩
 subst hl
 unfold Go.Lk.sub at h1 ⊢
 split at h1
 ·rename_i hc
  cases h1
  rw [if_pos (by simpa using hc)]
  simp
 ·cases h1
theorem S.app {X:Type} {f:X→List D} {l l2:List (List D)} {xs ys:List X} {n:Nat} {F:R→List (List D)→Prop} {g:List X→Option R} (hl:l=xs.map f) (hl2:l2=ys.map f) (h:∀ x,S (g x) (fun r=>F r (x.map f))):S (Go.Lk.app n xs ys >>= g) (fun r=>Ex (Go.Lk.app n l l2) (F r)):=by
 intro r hm
 obtain ⟨a,h1,h2⟩:=bnd hm
 refine ⟨a.map f,?_,h a r h2⟩
 subst hl hl2
 unfold Go.Lk.app at h1 ⊢
 split at h1
 ·rename_i hc
  cases h1
  rw [if_pos (by simpa using hc)]
  simp
 ·cases h1
theorem zrv (xs:List Int):Go.Pe.dby (xs.map (eI .u8))=some (byt xs):=by
 induction xs with
 | nil=>rfl
 | cons x xs ih =>
  simp only [List.map_cons,eI,Go.Pe.dby]
  rw [ih]
  rfl
theorem S.dby {l:List (List D)} {xs:List Int} {F:R→List UInt8→Prop} (hl:l=xs.map (eI .u8)) (h:S y (fun r=>F r (byt xs))):S y (fun r=>Ex (Go.Pe.dby l) (F r)):=fun r hm=>⟨byt xs,by rw [hl];exact zrv xs,h r hm⟩
theorem S.j {B:R→St→Prop} {A':R→(St→Prop)→Prop} {z:Option A} {g:A→Option R} (sh:A→St) (hA:∀ r,S z fun a=>A' r fun s=>s=sh a) (hB:∀ a,S (g a) (fun r=>B r (sh a))):S (z >>= g) (fun r=>∃ J:St→Prop,A' r J∧∀ s,J s→B r s):=by
 intro r hm
 obtain ⟨a,h1,h2⟩:=bnd hm
 exact ⟨_,hA r a h1,fun s hs=>by subst hs;exact hB a r h2⟩
theorem S.jp {B:R→St→Prop} {A':R→(St→Prop)→Prop} (s0:St) (hA:∀ r,A' r fun s=>s=s0) (hB:S y (fun r=>B r s0)):S y (fun r=>∃ J:St→Prop,A' r J∧∀ s,J s→B r s):=fun r hm=>⟨_,hA r,fun s hs=>by subst hs;exact hB r hm⟩
theorem cnd {b:Bool} {p q:Prop} (h1:b=true→p) (h2:b=false→q):cond b p q:=by
 cases b with
 | true=>exact h1 rfl
 | false=>exact h2 rfl
theorem S.k {con:Nat→CIn→z2u→Prop} {σ:St} {f:Nat} {args:List PV} {k:R→PV→St→Prop} {kp:R→PV→St→Prop} {z:Option A} {g:A→Option R} {i:CIn} {o:A→z2u} (bs as as':List Nat) (hc:∀ a,z=some a→con f i (o a))
  (h1:nrm.go σ i.vs args=z7j.go bs as i.vs) (h2:z69 σ bs as bs i.B) (h3:z9v σ as i.A) (h4:zbn σ bs as (z6z.go i.vs args) i=true)
  (h:∀ a,S (g a) (fun r=>zfo bs as as' i args σ (k r) (kp r) (o a))):S (z >>= g) (fun r=>zcl con σ f args (k r) (kp r)):=by
 intro r hm
 obtain ⟨a,h5,h6⟩:=bnd hm
 exact ⟨bs,as,as',i,o a,hc a h5,h1,h2,h3,h4,h a r h6⟩
theorem zg {α:Type} {z:Option α} {k k':α→Prop} (h:∀ a,k a→k' a) (hw:wt z k):wt z k':=by
 cases z with
 | none=>exact hw
 | some a=>exact h a hw
theorem z1x {α:Type} {z:Option α} {k k':α→Prop} (h:∀ a,k a→k' a) (hw:Ex z k):Ex z k':=by
 obtain ⟨a,h1,h2⟩:=hw
 exact ⟨a,h1,h a h2⟩
theorem z57 {b:Bool} {p q p' q':Prop} (h1:p→p') (h2:q→q') (h:cond b p q):cond b p' q':=by
 cases b with
 | true=>exact h1 h
 | false=>exact h2 h
end
end Go.Pe
end
section
namespace Go.Pe
open Go.RowKit Go.Lk
theorem zm2 {td:TypeDesc} {op:BinOp} {u v:PV} {k k':PV→Prop} (h:∀ a,k a→k' a) (hw:bop td op u v k):bop td op u v k':=by
 revert hw
 unfold bop
 repeat' split
 all_goals first
  | exact fun hw=>z1x (fun _=>h _) hw
  | exact fun hw=>zg (fun _=>h _) hw
  | exact fun hw=>h _ hw
  | exact fun hw=>hw
theorem zny {op:UnOp} {u:PV} {k k':PV→Prop} (h:∀ a,k a→k' a) (hw:uop op u k):uop op u k':=by
 revert hw
 unfold uop
 repeat' split
 all_goals first
  | exact fun hw=>zg (fun _=>h _) hw
  | exact fun hw=>h _ hw
  | exact fun hw=>hw
theorem zit {σ:St} {g:Bool} {n:Nat} {u:PV} {k k':PV→Prop} (h:∀ a,k a→k' a) (hw:zep σ g n u k):zep σ g n u k':=by
 revert hw
 unfold zep
 split
 ·refine fun hw=>zg (fun _ => ?_) hw
  split<;>first|exact z1x (fun _=>zg h)|exact id
 ·exact fun hw=>zg h hw
theorem zkj {σ:St} {u:PV} {k k':Int→Prop} (h:∀ a,k a→k' a):zoi σ u k→zoi σ u k':=by
 unfold zoi
 split
 ·split
  ·split
   ·split<;>first|exact z1x h|exact id
   ·exact id
  ·exact id
 ·exact id
theorem zeo {td:TypeDesc} {σ:St} {u:PV} {k k':Int→Prop} (h:∀ a,k a→k' a):zls td σ u k→zls td σ u k':=by
 unfold zls
 split
 ·exact h _
 ·exact z1x h
 ·exact h _
 ·exact zg fun _=>z1x h
 ·exact zkj h
 ·exact id
theorem zhj {σ:St} {x:Option Operand} {k k':Int→Prop} (h:∀ a,k a→k' a):loW σ x k→loW σ x k':=by
 unfold loW
 split
 ·exact h _
 ·split<;>first|exact h _|exact id
theorem zmm {td:TypeDesc} {σ:St} {u:PV} {x:Option Operand} {k k':Int→Prop} (h:∀ a,k a→k' a):hiW td σ u x k→hiW td σ u x k':=by
 unfold hiW
 split
 ·exact zeo h
 ·split<;>first|exact h _|exact id
theorem zmw {b:Bool} {u v:PV} {k k':PV→Prop} (h:∀ x,k x→k' x):mmW b u v k→mmW b u v k':=by
 unfold mmW
 split
 ·split<;>first|exact h _|exact id
 ·exact id
theorem zko {td:TypeDesc} {op:BinOp} {u:PV} {k k':PV→Prop} (h:∀ a,k a→k' a) (hw:zsn td op u k):zsn td op u k':=by
 revert hw
 unfold zsn
 split
 ·split<;>first|exact h _|exact id
 ·exact id
theorem zjj {n:Nat} {op:BinOp} {u v:PV} {k k':PV→Prop} (h:∀ a,k a→k' a) (hw:zrq n op u v k):zrq n op u v k':=by
 revert hw
 unfold zrq
 split
 ·refine zg fun _ => ?_
  split<;>first|exact h _|exact id
 ·exact id
theorem z9r {tb:Tb} {σ:St} {op:Op} {k k':PV→Prop} (h:∀ a,k a→k' a) (hw:qop tb σ op k):qop tb σ op k':=by
 revert hw
 unfold qop
 split
 case h_1=>exact zg h
 case h_2=>exact zg h
 case h_3=>split<;>first|exact zg (fun _=>zg fun _=>z57 (h _) (h _))|exact id
 case h_4 =>
  split
  ·split
   ·refine zg fun _ => ?_
    split<;>first|exact h _|exact id
   ·exact id
  ·split
   ·exact zg fun _=>zg fun _=>zjj h
   ·refine zg fun _=>zg fun _ => ?_
    split
    ·exact zko h
    ·exact zg fun _=>zm2 h
 case h_5=>exact zg fun _=>zny h
 case h_6=>refine zg fun _ => ?_;split<;>first|exact h _|exact id
 case h_7=>refine zg fun _ => ?_;split<;>first|exact h _|exact id
 case h_8 =>
  split
  ·exact id
  ·exact zg fun _=>zg fun _=>h _
 case h_9=>split<;>first|exact zg h|exact id
 case h_10=>refine zg fun _ => ?_;split<;>first|exact h _|exact id
 case h_11=>refine zg fun _=>zg fun _ => ?_;split<;>first|exact h _|exact id
 case h_12=>refine zg fun _ => ?_;split<;>first|exact zg h|exact id
 case h_13=>exact zg fun _=>zg fun _=>zit h
 case h_14=>split<;>first|exact z1x fun _=>h _|exact id
 case h_15 =>
  split
  ·refine zg fun _ => ?_
   split
   ·refine zg fun _ => ?_;split<;>first|exact z1x fun _=>h _|exact id
   ·exact id
  refine zg fun _ => ?_
  split
  ·refine zg fun _ => ?_
   split
   ·split<;>first|exact z1x fun _=>h _|exact id
   ·refine zg fun _ => ?_;split<;>first|exact z1x fun _=>h _|exact id
   ·exact id
  ·exact id
 case h_16 =>
  refine zg fun _=>zg fun _=>zhj fun _=>zmm fun _ => ?_
  split
  ·exact z1x fun _=>h _
  ·refine zg fun _ => ?_;split<;>first|exact z1x fun _=>h _|exact id
  ·exact id
 case h_17=>split<;>first|exact zg fun _=>zg fun _=>zeo fun _=>h _|exact zg fun _=>zg fun _=>zmw fun _=>h _|exact id
 case h_19 =>
  refine zg fun _ => ?_
  split
  ·split<;>first|exact h _|exact id
  ·exact zg fun _=>zg fun _=>by simp only [zcv,zcs];split<;>first|exact h _|exact id
 case h_18 =>
  refine zg fun _ => ?_
  split
  ·split<;>exact h _
  ·exact h _
  ·exact id
 case h_20 =>
  refine zg fun _ => ?_
  split
  ·refine zg fun _ => ?_
   split
   ·exact z1x fun _=>z1x fun _=>z1x fun _=>h _
   ·exact id
  ·exact id
 case h_21=>exact id
section
variable {tb:Tb} {cty:List (Nat × List (Option (Nat × Nat)))} {ann:Ann} {con:Nat→CIn→z2u→Prop}
theorem zi7 {bs as as':List Nat} {i:CIn} {args:List PV} {σ:St} {k k':PV→St→Prop} {kp kp':PV→St→Prop} (h:∀ a s,k a s→k' a s) (hp:∀ v s,kp v s→kp' v s):∀ {o:z2u},zfo bs as as' i args σ k kp o→zfo bs as as' i args σ k' kp' o
 | .ok _ _ _,hw=>zg (fun _ hw=>⟨hw.1,h _ _ hw.2⟩) hw
 | .okI _ _ _,hw=>zg (fun _ hw=>⟨hw.1,h _ _ hw.2⟩) hw
 | .pan _,hw=>⟨hw.1,hp _ _ hw.2⟩
 | .zbf _ _,hw=>zg (fun _ h=>⟨h.1,hp _ _ h.2⟩) hw
theorem zi8 {σ:St} {f:Nat} {args:List PV} {k k':PV→St→Prop} {kp kp':PV→St→Prop} (h:∀ a s,k a s→k' a s) (hp:∀ v s,kp v s→kp' v s) (hw:zcl con σ f args k kp):zcl con σ f args k' kp':=by
 obtain ⟨bs,as,as',i,o,h1,h2,h3,h4,h5,h6⟩:=hw
 exact ⟨bs,as,as',i,o,h1,h2,h3,h4,h5,zi7 h hp h6⟩
theorem zjm {σ:St} {key E:Nat} {k k':St→Prop} (h:∀ s,k s→k' s):σ.born key E k→σ.born key E k':=by
 unfold St.born
 refine zg fun _ => ?_
 split<;>first|exact h _|exact id
theorem zlv {rem:List (List D)} {k0 k0':Prop} {k1 k1':List D→List (List D)→Prop} (h0:k0→k0') (h1:∀ x r,k1 x r→k1' x r):NxW rem k0 k1→NxW rem k0' k1' :=
 fun h=>⟨fun e=>h0 (h.1 e),fun i x e=>h1 _ _ (h.2 i x e)⟩
theorem zdr {σ:St} {o:Oper} {k k':St→Prop} (h:∀ s,k s→k' s) (hw:zow tb cty σ o k):zow tb cty σ o k':=by
 revert hw
 unfold zow
 split
 case h_1 =>
  refine zg fun _ => ?_
  split
  ·refine zg fun _=>zg fun _ => ?_;split<;>first|exact h _|exact id
  ·exact id
 case h_2 =>
  split
  ·split
   ·refine zg fun _=>zg fun _=>zg fun _=>zg fun _=>zg fun _=>zg fun _=>zg fun _=>zg fun _=>zg fun _=>zg fun _ => ?_
    split<;>first|exact z1x fun _=>h _|exact id
   ·exact id
  ·exact id
 case h_3 =>
  split
  ·split
   ·refine zg fun _=>zg fun _=>zg fun _=>zg fun _=>zg fun _=>zg fun _=>zg fun _=>zg fun _=>zg fun _=>zg fun _ => ?_
    split<;>first|exact z1x fun _=>h _|exact id
   ·exact id
  ·exact id
 case h_4 =>
  refine zg fun _ => ?_
  split
  ·refine zg fun _=>zg fun _=>zg fun _=>zg fun _=>zg fun _=>zg fun _=>zg fun _=>zg fun _ => ?_
   split
   ·refine z1x fun _=>zg fun _ => ?_
    split
    ·exact h _
    ·exact z1x fun _=>h _
   ·exact id
  ·exact id
 case h_5 =>
  refine zg fun _ => ?_
  split
  ·refine zg fun _=>zg fun _=>zg fun _=>zg fun _ => ?_;split<;>first|exact h _|exact id
  ·exact id
 case h_6 =>
  refine zg fun _=>zg fun _ => ?_
  split
  ·refine zg fun _ => ?_
   split
   ·split<;>first|exact zlv (h _) fun _ _=>h _|exact id
   ·exact id
  ·exact id
 case h_7 =>
  refine zg fun _=>zg fun _ => ?_
  split
  ·refine zg fun _ => ?_
   split
   ·split<;>first|exact zg fun _=>h _|exact id
   ·exact id
  ·exact id
 case h_8 =>
  split
  ·split
   ·split
    ·exact zg fun _=>zg fun _=>zg fun _=>zg fun _=>zg fun _=>zg fun _=>z1x fun _=>h _
    ·exact id
   ·exact id
  ·exact id
 case h_9=>exact id
set_option maxRecDepth 100000 in
theorem znv {σ:St} {n T d:Nat} {y:Operand} {k k':St→Prop} (h:∀ s,k s→k' s) (hw:stR cty σ n T d y k):stR cty σ n T d y k':=by
 revert hw
 unfold stR
 refine zg fun _=>zg fun _=>zg fun _=>zg fun _ => ?_
 split
 ·refine zg fun _=>zg fun _ => ?_;split<;>first|exact h _|exact id
 ·exact id
set_option maxRecDepth 100000 in
theorem zlw {σ:St} {o:Oper} {k k':St→Prop} {kp kp':PV→St→Prop} (h:∀ s,k s→k' s) (hp:∀ v s,kp v s→kp' v s) (hw:act tb cty ann con σ o k kp):act tb cty ann con σ o k' kp':=by
 revert hw
 unfold act
 split
 case h_1 =>
  refine zg fun _=>zg fun _ => ?_
  split
  ·split
   ·exact h _
   ·exact zjm h
  ·exact id
 case h_2 =>
  refine zg fun _=>zg fun _ => ?_
  split
  ·refine zg fun _ => ?_;split<;>first|exact h _|exact id
  ·split<;>first|exact h _|exact id
 case h_3 =>
  split
  ·refine zg fun _ => ?_
   split
   ·exact znv h
   refine zg fun _=>zg fun _ => ?_
   split
   ·exact zg fun _=>zg fun _=>h _
   ·refine zg fun _=>zg fun _=>zg fun _=>zg fun _ => ?_;split<;>first|exact z1x fun _=>h _|exact id
   ·exact id
  ·exact id
 case h_4 =>
  refine zg fun _ => ?_
  split
  ·refine zg fun _=>zg fun _=>zg fun _=>zg fun _=>zg fun _=>zg fun _ => ?_
   split
   ·split
    ·split<;>first|exact h _|exact id
    ·exact h _
   ·exact id
  ·exact id
 case h_5=>refine zg fun _ => ?_;split<;>first|exact hp _ _|exact id
 case h_6 =>
  refine zg fun _=>zg fun _ => ?_
  split
  ·split
   ·refine z1x fun _ => ?_
    split
    ·split<;>first|exact h _|exact id
    ·exact h _
   ·exact id
  ·split<;>first|exact z1x fun _=>h _|exact id
  ·refine zg fun _ => ?_;split<;>first|exact z1x fun _=>h _|exact id
  ·exact id
 case h_7 =>
  split
  ·refine zg fun _=>zg fun _=>zg fun _ => ?_
   split
   ·split
    ·refine zg fun _=>zg fun _=>zg fun _=>zg fun _ => ?_
     split
     ·split
      ·split<;>first|exact z1x fun _=>h _|exact id
      ·split
       ·split<;>first|exact z1x fun _=>h _|exact id
       ·refine zg fun _ => ?_;split<;>first|exact z1x fun _=>h _|exact id
      ·exact id
     ·exact id
    ·exact id
   ·exact id
  ·refine zg fun _ => ?_
   split
   ·exact zi8 (fun _ _=>h _) hp
   ·exact id
  ·exact zdr h
 case h_8=>exact zdr h
theorem z3q {σ:St} {k k':St→Prop} (h:∀ s,k s→k' s):σ.go k→σ.go k':=by
 rw [St.go_eq,St.go_eq]
 exact h σ
theorem zdf {σ:St} {o:Oper} {k k':St→Prop} {kp kp':PV→St→Prop} (h:∀ s,k s→k' s) (hp:∀ v s,kp v s→kp' v s) (hw:run tb cty ann con σ o k kp):run tb cty ann con σ o k' kp':=by
 revert hw
 unfold run
 split
 ·exact z9r fun _=>z3q h
 ·exact zlw h hp
theorem z9o {ops:Array Oper} {σ:St} {o:Oper} {k k':St→Prop} {kp kp':PV→St→Prop} (h:∀ s,k s→k' s) (hp:∀ v s,kp v s→kp' v s) (hw:exo tb cty ann con ops σ o k kp):exo tb cty ann con ops σ o k' kp':=by
 revert hw
 unfold exo
 split
 ·exact zdf h hp
 ·split
  ·exact id
  ·split
   ·split
    ·exact z57 (z3q fun _=>zdf h hp) (z3q h)
    ·exact z57 (z3q h) (z3q fun _=>zdf h hp)
   ·exact z3q h
   ·exact id
theorem z6x {ops:Array Oper} {k k':St→Prop} {kp kp':PV→St→Prop} (h:∀ s,k s→k' s) (hp:∀ v s,kp v s→kp' v s):∀ (os:List Oper) (σ:St),ze5 tb cty ann con ops kp k os σ→ze5 tb cty ann con ops kp' k' os σ
 | [],σ,hw=>h _ hw
 | o::os,σ,hw=>z9o (fun s=>z6x h hp os s) hp hw
theorem za5 {ops:Array Oper} {k k':St→Prop} {kp kp':PV→St→Prop} (h:∀ s,k s→k' s) (hp:∀ v s,kp v s→kp' v s):∀ (l:List (Nat × Nat × Cut)) (os:List Oper) (σ:St),ze7 tb cty ann con ops kp k l os σ→ze7 tb cty ann con ops kp' k' l os σ
 | [],os,σ,hw=>z6x h hp os σ hw
 | (n0,m,c)::r,os,σ,hw=>z6x (fun _ ⟨J,h1,h2⟩=>⟨J,z6x (fun _=>id) hp _ _ h1,fun s hs=>za5 h hp r _ s (h2 s hs)⟩) hp _ σ hw
theorem zh7 {ops:Array Oper} {σ:St} {dn:List (Nat × Bool)} {q:Nat} {k k':St→List (Nat × Bool)→Prop} (h:∀ s d,k s d→k' s d) (hw:exq tb ops σ dn q k):exq tb ops σ dn q k':=by
 revert hw
 unfold exq
 split
 ·exact id
 ·split
  ·split
   ·exact z9r fun _=>z3q fun _=>h _ _
   ·split
    ·exact id
    ·split
     ·split
      ·exact z57 (z3q fun _=>z9r fun _=>z3q fun _=>h _ _) (z3q fun _=>h _ _)
      ·exact z57 (z3q fun _=>h _ _) (z3q fun _=>z9r fun _=>z3q fun _=>h _ _)
     ·exact z3q fun _=>h _ _
     ·exact id
  ·exact id
theorem z8c {ops:Array Oper} {k k':St→List (Nat × Bool)→Prop} (h:∀ s d,k s d→k' s d):∀ (qs:List Nat) (σ:St) (dn:List (Nat × Bool)),zh8 tb ops qs σ dn k→zh8 tb ops qs σ dn k'
 | [],σ,dn,hw=>h _ _ hw
 | _::r,σ,dn,hw=>zh7 (fun s d=>z8c h r s d) hw
theorem zhw {cs:List (Nat × Cut)} {e:Nat} {σ:St} {k k':St→Prop} (h:∀ s,k s→k' s):rst cs e σ k→rst cs e σ k':=by
 unfold rst
 split
 ·exact fun ⟨J,h1,h2⟩=>⟨J,h1,fun s hs=>h s (h2 s hs)⟩
 ·exact h _
theorem z6v {ops:Array Oper} {cs:List (Nat × Cut)} {k k':St→Prop} {kp kp':PV→St→Prop} (h:∀ s,k s→k' s) (hp:∀ v s,kp v s→kp' v s):∀ (g:Gt) (dn:List (Nat × Bool)) (σ:St),z7o tb cty ann con ops cs kp k g dn σ→z7o tb cty ann con ops cs kp' k' g dn σ
 | .fin,dn,σ,hw=>h _ hw
 | .one e kpl qs2 g,dn,σ,hw=>by
  revert hw
  unfold z7o
  split
  ·exact z9o (fun s=>zhw fun s=>z8c (fun s d hw=>⟨hw.1,z6v h hp g d s hw.2⟩) _ _ _) hp
  ·exact id
 | .alt e kpl qs2 g r,dn,σ,hw=>by
  revert hw
  unfold z7o
  refine fun hw=>⟨?_,z6v h hp r dn σ hw.2⟩
  have h1:=hw.1
  revert h1
  split
  ·exact z9o (fun s=>zhw fun s=>z8c (fun s d hw=>⟨hw.1,z6v h hp g d s hw.2⟩) _ _ _) hp
  ·exact id
theorem za3 {ops:Array Oper} {cs:List (Nat × Cut)} {k k':St→Prop} {kp kp':PV→St→Prop} (h:∀ s,k s→k' s) (hp:∀ v s,kp v s→kp' v s) (g:Gt) (qs:List Nat) (σ:St) (hw:zbs tb cty ann con ops cs kp k g qs σ):zbs tb cty ann con ops cs kp' k' g qs σ :=
 z8c (fun s d hw=>⟨hw.1,z6v h hp g d s hw.2⟩) qs σ [] hw
theorem zma {ops:Array Oper} {k k':St→List (Nat × Bool)→Prop} {kp kp':PV→St→Prop} (h:∀ s d,k s d→k' s d) (hp:∀ v s,kp v s→kp' v s):∀ (i:It) (σ:St) (dn:List (Nat × Bool)),ex1 tb cty ann con ops kp i σ dn k→ex1 tb cty ann con ops kp' i σ dn k'
 | .q q,σ,dn,hw=>zh7 h hw
 | .a e kpl,σ,dn,hw=>by
  simp only [ex1] at hw ⊢
  revert hw
  split
  ·split
   ·exact z9o (fun s=>h s _) hp
   ·exact id
  ·exact id
theorem z6w {ops:Array Oper} {k k':St→List (Nat × Bool)→Prop} {kp kp':PV→St→Prop} (h:∀ s d,k s d→k' s d) (hp:∀ v s,kp v s→kp' v s):∀ (l:List It) (σ:St) (dn:List (Nat × Bool)),zft tb cty ann con ops kp k l σ dn→zft tb cty ann con ops kp' k' l σ dn
 | [],σ,dn,hw=>h _ _ hw
 | i::r,σ,dn,hw=>zma (fun s d=>z6w h hp r s d) hp i σ dn hw
theorem zbt {ops:Array Oper} {k k':St→Prop} {kp kp':PV→St→Prop} (h:∀ s,k s→k' s) (hp:∀ v s,kp v s→kp' v s):∀ (l:List (Nat × Nat × Cut)) (its:List It) (σ:St) (dn:List (Nat × Bool)),zjy tb cty ann con ops kp k l its σ dn→zjy tb cty ann con ops kp' k' l its σ dn
 | [],its,σ,dn,hw=>z6w (fun s _=>h s) hp its σ dn hw
 | (_,_,_)::r,_,σ,dn,hw=>z6w (fun _ _ ⟨J,h1,h2⟩=>⟨J,z6w (fun _ _=>id) hp _ _ _ h1,fun s hs=>zbt h hp r _ _ _ (h2 s hs)⟩) hp _ σ dn hw
theorem zii {ops:Array Oper} {k k':St→Prop} {kp kp':PV→St→Prop} (h:∀ s,k s→k' s) (hp:∀ v s,kp v s→kp' v s) (d:Drw) (σ:St) (hw:zfu tb cty ann con ops kp k d σ):zfu tb cty ann con ops kp' k' d σ:=by
 revert hw
 unfold zfu
 split
 ·exact zbt h hp _ _ _ _
 split
 ·exact za3 h hp _ _ _
 ·exact fun ⟨J,h1,h2⟩=>⟨J,za3 (fun _=>id) hp _ _ _ h1,fun s hs=>h s (h2 s hs)⟩
theorem z6h {f f':St→Prop} {k k':z61→St→Prop} (hf:∀ s,f s→f' s) (hk:∀ fl s,k fl s→k' fl s):∀ fl s,z68 f k fl s→z68 f' k' fl s
 | .normal,s,h=>hf s h
 | .exit _,s,h=>hk _ s h
 | .ret,s,h=>hk _ s h
 | .pan _,s,h=>hk _ s h
theorem zk9 {i:Nat} {k k':z61→St→Prop} (hk:∀ fl s,k fl s→k' fl s):∀ fl s,zpj i k fl s→zpj i k' fl s
 | .normal,s,h=>hk _ s h
 | .exit j,s,h=>by
  simp only [zpj] at h ⊢
  cases hb:Nat.beq i j with
  | true=>simp only [hb] at h ⊢;exact hk _ _ h
  | false=>simp only [hb] at h ⊢;exact hk _ _ h
 | .ret,s,h=>hk _ s h
 | .pan _,s,h=>hk _ s h
theorem LW.mono {step step':(St→Prop)→St→Prop} (h:∀ I s,step I s→step' I s) {s:St} (hw:LW step s):LW step' s:=fun I hI=>hw I fun s hs=>hI s (h I s hs)
theorem z4x:∀ (c:Code) (σ:St) (k k':z61→St→Prop),(∀ fl s,k fl s→k' fl s)→ex tb cty ann con c σ k→ex tb cty ann con c σ k'
 | .skip,σ,k,k',h,hw=>h _ _ hw
 | .label _,σ,k,k',h,hw=>h _ _ hw
 | .region id ops dr,σ,k,k',h,hw=>by
  cases dr with
  | false=>exact za5 (fun s=>h _ s) (fun v s=>h _ s) _ _ _ hw
  | true=>exact zg (fun _=>zii (fun s=>h _ s) (fun v s=>h _ s) _ _) hw
 | .seq a b,σ,k,k',h,hw=>by
  unfold ex at hw ⊢
  split at hw
  ·obtain ⟨J,h1,h2⟩:=hw
   exact ⟨J,z4x a _ _ _ (z6h (fun _=>id) h) h1,fun s hs=>z4x b _ _ _ h (h2 s hs)⟩
  ·exact z4x a _ _ _ (z6h (fun s=>z4x b s _ _ h) h) hw
 | .cond c a b,σ,k,k',h,hw=>by
  unfold ex at hw ⊢
  split at hw
  ·exact z57 (z4x a _ _ _ h) (z4x b _ _ _ h) hw
  ·exact hw
 | .block i a,σ,k,k',h,hw=>z4x a _ _ _ (zk9 h) hw
 | .exit i,σ,k,k',h,hw=>h _ _ hw
 | .ret,σ,k,k',h,hw=>h _ _ hw
 | .loop a,σ,k,k',h,hw=>by
  unfold ex at hw ⊢
  exact zg (fun _=>zg fun _=>LW.mono fun I s=>z4x a _ _ _ (z6h (fun _=>id) h)) hw
 | .rangeFunc ..,σ,k,k',h,hw=>hw
 | .scope _,σ,k,k',h,hw=>hw
 | .goto _,σ,k,k',h,hw=>hw
 | .refuse _,σ,k,k',h,hw=>hw
theorem z6t (a:Code) (c:Cut) (k:z61→St→Prop):∀ I I':St→Prop,(∀ s,I s→I' s)→∀ s,ex tb cty ann con a s (z68 (fun s=>wt (s.cut c) I) k)→ex tb cty ann con a s (z68 (fun s=>wt (s.cut c) I') k) :=
 fun _ _ h s hw=>z4x a s _ _ (z6h (fun _=>zg h) fun _ _=>id) hw
theorem LW.fold {step:(St→Prop)→St→Prop} (hm:∀ I I':St→Prop,(∀ s,I s→I' s)→∀ s,step I s→step I' s) {s:St} (h:step (LW step) s):LW step s:=fun I hI=>hI s (hm _ _ (fun s' h'=>h' I hI) s h)
theorem S.lw {X R:Type} {a:Code} {c:Cut} {k:R→z61→St→Prop} {σ:St} {L:X→Option R} {Bd:(X→Option R)→X→Option R} {x:X} (sh:X→St)
  (pc:∀ motive:X→R→Prop,(∀ f:X→Option R,(∀ x r,f x=some r→motive x r)→∀ x r,Bd f x=some r→motive x r)→∀ x r,L x=some r→motive x r)
  (h0:σ=sh x) (h:∀ (f:X→Option R) (I:R→St→Prop),(∀ x,S (f x) (fun r=>I r (sh x)))→∀ x,S (Bd f x) (fun r=>ex tb cty ann con a (sh x) (z68 (fun s=>wt (s.cut c) (I r)) (k r)))) :
  S (L x) (fun r=>LW (fun I s=>ex tb cty ann con a s (z68 (fun s=>wt (s.cut c) I) (k r))) σ):=by
 subst h0
 exact pc (fun x r=>LW (fun I s=>ex tb cty ann con a s (z68 (fun s=>wt (s.cut c) I) (k r))) (sh x)) (fun f ih x r hm=>LW.fold (z6t a c (k r)) (h f (fun r=>LW (fun I s=>ex tb cty ann con a s (z68 (fun s=>wt (s.cut c) I) (k r)))) ih x r hm)) x
theorem S.lw2 {X Y R:Type} {a:Code} {c:Cut} {k:R→z61→St→Prop} {σ:St} {L:X→Y→Option R} {Bd:(X→Y→Option R)→X→Y→Option R} {x:X} {y:Y} (sh:X→Y→St)
  (pc:∀ motive:X→Y→R→Prop,(∀ f:X→Y→Option R,(∀ x y r,f x y=some r→motive x y r)→∀ x y r,Bd f x y=some r→motive x y r)→∀ x y r,L x y=some r→motive x y r)
  (h0:σ=sh x y) (h:∀ (f:X→Y→Option R) (I:R→St→Prop),(∀ x y,S (f x y) (fun r=>I r (sh x y)))→∀ x y,S (Bd f x y) (fun r=>ex tb cty ann con a (sh x y) (z68 (fun s=>wt (s.cut c) (I r)) (k r)))) :
  S (L x y) (fun r=>LW (fun I s=>ex tb cty ann con a s (z68 (fun s=>wt (s.cut c) I) (k r))) σ):=by
 subst h0
 exact pc (fun x y r=>LW (fun I s=>ex tb cty ann con a s (z68 (fun s=>wt (s.cut c) I) (k r))) (sh x y)) (fun f ih x y r hm=>LW.fold (z6t a c (k r)) (h f (fun r=>LW (fun I s=>ex tb cty ann con a s (z68 (fun s=>wt (s.cut c) I) (k r)))) ih x y r hm)) x y
end
end Go.Pe
end
