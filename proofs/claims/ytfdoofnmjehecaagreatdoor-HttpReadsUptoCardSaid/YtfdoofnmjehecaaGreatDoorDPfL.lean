import Derived.Test.YtfdoofnmjehecaaGreatDoorDPfB
set_option linter.all false
section
namespace Go.Pe
open Go.RowKit Go.Lk
def en {β:Type}:Nat→List β→List (Nat × β)
 | _,[]=>[]
 | i,x::r=>(i,x)::en (i+1) r
def entry (i:CIn):St:={ L:=en 0 i.vs,B:=en 0 i.B,A:=en 0 (i.A.map fun e=>(⟨false,e.1,e.2.1,e.2.2⟩:Arr)) }
def ztu (tb:Tb) (σ:St):List ResultVar→Option (List PV)
 | []=>some []
 | .tmp t::r=>match lk σ.L t,ztu tb σ r with
  | some v,some vs=>some (v::vs)
  | _,_=>none
 | .cell t T::r=>match lk σ.L t with
  | some (.ptr b 0)=>match lkB σ.B b,lk tb.shp T with
   | some e,some s=>match Nat.beq e.cs.length s.2,z5g s.1 s.2 e.cs,ztu tb σ r with
    | true,some v,some vs=>some (v::vs)
    | _,_,_=>none
   | _,_=>none
  | _=>none
def zjn:List ResultVar→List Nat
 | []=>[]
 | .tmp t::r=>t::zjn r
 | .cell t _::r=>t::zjn r
def St.zqg (σ:St):List Place→Option (List Nat)
 | []=>some []
 | p::r=>match σ.at p,σ.zqg r with
  | some (.ptr b 0),some l=>some (b::l)
  | _,_=>none
def rng:Nat→Nat→List Nat
 | 0,_=>[]
 | n+1,i=>i::rng n (i+1)
def zdi (σ:St):Nat→List (Option (Nat × Nat × List (List D)))→Prop
 | _,[]=>True
 | i,none::r=>zdi σ (i+1) r
 | i,some e::r=>(match lk σ.A i with
  | some x=>x.T=e.1∧x.n=e.2.1∧x.l=e.2.2
  | none=>False)∧zdi σ (i+1) r
def zo9 (tb:Tb) (ann:Ann) (res:List ResultVar) (σ:St) (vs:List PV) (B:List Bx) (A:List (Option (Nat × Nat × List (List D)))):Prop :=
 wt (({ σ with L:=z6o (zjn res) σ.L }:St).home ann.fin) fun σ=>wt (ztu tb σ res) fun rs=>wt (σ.freeze (z7t.go vs rs)) fun σ'=>wt (σ.zqg ann.zxf) fun nk =>
  nrm.go σ vs rs=z8b.go (rng ann.nb 0++nk) (rng A.length 0) vs∧z6s σ' (rng ann.nb 0++nk) (rng A.length 0) (rng ann.nb 0++nk) B∧zdi σ' 0 A ∧
  (inR.go B.length A.length vs&&B.all (fun e=>inR.go B.length A.length e.cs)&&z6m nk&&nk.all (Nat.ble 1000)&&Nat.beq B.length (ann.nb+nk.length))=true
def fin (tb:Tb) (ann:Ann) (res:List ResultVar) (out:z2z):z6n→St→Prop
 | .ret,σ=>match out with
  | .ok vs B A=>zo9 tb ann res σ vs B A
  | _=>False
 | .normal,σ=>match out with
  | .ok vs B A=>zo9 tb ann res σ vs B A
  | _=>False
 | .pan v,σ=>match out with
  | .zcj v' B=>v'=v∧z6z v'=false∧zo9 tb { nb:=ann.nb } [] σ [] B []
  | o=>o = .pan v
 | .exit _,_=>False
def z29 (f:Func):Code:=match f.body with
 | some c=>c
 | none => .refuse ""

def S {R:Type} (y:Option R) (W:R→Prop):Prop := ∀ r,y=some r→W r
section
variable {R A:Type} {W W1 W2:R→Prop} {y y1 y2:Option R}
theorem S.cb {b:Bool} (h1:S y1 W1) (h2:S y2 W2):S (if b=true then y1 else y2) (fun r=>cond b (W1 r) (W2 r)):=by
 intro r h
 cases b with
 | true=>exact h1 r h
 | false=>exact h2 r h
theorem S.e {z:Option A} {F:R→A→Prop} {g:A→Option R} (h:∀ a,S (g a) (fun r=>F r a)):S (z >>= g) (fun r=>Ex z (F r)):=by
 intro r hm
 obtain ⟨a,h1,h2⟩:=bnd hm
 exact ⟨a,h1,h a r h2⟩
theorem S.eq {z:Option A} {F:R→A→Prop} {a:A} (hz:z=some a) (h:S y (fun r=>F r a)):S y (fun r=>Ex z (F r)):=fun r hm=>⟨a,hz,h r hm⟩
theorem S.z {a:R} (h:W a):S (some a) W:=fun r e=>by cases e;exact h
theorem S.ix {X:Type} {f c:X→List D} {l:List (List D)} {xs:List X} {i:Int} {F:R→List D→Prop} {g:X→Option R} (hl:l=xs.map f) (hc:∀ x,f x=c x) (h:∀ x,S (g x) (fun r=>F r (c x))):S (Go.Lk.ix xs i >>= g) (fun r=>Ex (Go.Lk.ix l i) (F r)):=by
 intro r hm
 obtain ⟨a,h1,h2⟩:=bnd hm
 obtain ⟨j,rfl,h3⟩:=zm9 h1
 exact ⟨f a,by rw [hl];simp [Go.Lk.ix,h3],by rw [hc];exact h a r h2⟩
theorem S.sub {X:Type} {f:X→List D} {l:List (List D)} {xs:List X} {i j:Int} {F:R→List (List D)→Prop} {g:List X→Option R} (hl:l=xs.map f) (h:∀ x,S (g x) (fun r=>F r (x.map f))):S (Go.Lk.sub xs i j >>= g) (fun r=>Ex (Go.Lk.sub l i j) (F r)):=by
 intro r hm
 obtain ⟨a,h1,h2⟩:=bnd hm
 refine ⟨a.map f,?_,h a r h2⟩
 subst hl
 unfold Go.Lk.sub at h1 ⊢
 split at h1
 ·rename_i hc
  cases h1
  rw [if_pos (by simpa using hc)]
  simp
 ·cases h1
theorem S.app {X:Type} {f:X→List D} {l l2:List (List D)} {xs ys:List X} {n:Nat} {F:R→List (List D)→Prop} {g:List X→Option R} (hl:l=xs.map f) (hl2:l2=ys.map f) (h:∀ x,S (g x) (fun r=>F r (x.map f))):S (Go.Lk.app n xs ys >>= g) (fun r=>Ex (Go.Lk.app n l l2) (F r)):=by
 intro r hm
 obtain ⟨a,h1,h2⟩:=bnd hm
 refine ⟨a.map f,?_,h a r h2⟩
 subst hl hl2
 unfold Go.Lk.app at h1 ⊢
 split at h1
 ·rename_i hc
  cases h1
  rw [if_pos (by simpa using hc)]
  simp
 ·cases h1
theorem S.zjq {X:Type} {f:X→List D} {l:List (List D)} {d:List D} {xs:List X} {x:X} {i:Int} {F:R→List (List D)→Prop} {g:List X→Option R} (hl:l=xs.map f) (hd:d=f x) (h:∀ x,S (g x) (fun r=>F r (x.map f))):S (Go.Lk.zjq xs i x >>= g) (fun r=>Ex (Go.Lk.zjq l i d) (F r)):=by
 intro r hm
 obtain ⟨a,h1,h2⟩:=bnd hm
 refine ⟨a.map f,?_,h a r h2⟩
 subst hl hd
 unfold Go.Lk.zjq at h1 ⊢
 split at h1
 ·rename_i hc
  cases h1
  rw [if_pos (by simpa using hc)]
  simp [List.map_set]
 ·cases h1
theorem zu9 (xs:List Int):Go.Pe.dby (xs.map (eI .u8))=some (byt xs):=by
 induction xs with
 | nil=>rfl
 | cons x xs ih =>
  simp only [List.map_cons,eI,Go.Pe.dby]
  rw [ih]
  rfl
theorem S.dby {l:List (List D)} {xs:List Int} {F:R→List UInt8→Prop} (hl:l=xs.map (eI .u8)) (h:S y (fun r=>F r (byt xs))):S y (fun r=>Ex (Go.Pe.dby l) (F r)):=fun r hm=>⟨byt xs,by rw [hl];exact zu9 xs,h r hm⟩
theorem S.j {B:R→St→Prop} {A':R→(St→Prop)→Prop} {z:Option A} {g:A→Option R} (sh:A→St) (hA:∀ r,S z fun a=>A' r fun s=>s=sh a) (hB:∀ a,S (g a) (fun r=>B r (sh a))):S (z >>= g) (fun r=>∃ J:St→Prop,A' r J∧∀ s,J s→B r s):=by
 intro r hm
 obtain ⟨a,h1,h2⟩:=bnd hm
 exact ⟨_,hA r a h1,fun s hs=>by subst hs;exact hB a r h2⟩
theorem S.jp {B:R→St→Prop} {A':R→(St→Prop)→Prop} (s0:St) (hA:∀ r,A' r fun s=>s=s0) (hB:S y (fun r=>B r s0)):S y (fun r=>∃ J:St→Prop,A' r J∧∀ s,J s→B r s):=fun r hm=>⟨_,hA r,fun s hs=>by subst hs;exact hB r hm⟩
theorem cnd {b:Bool} {p q:Prop} (h1:b=true→p) (h2:b=false→q):cond b p q:=by
 cases b with
 | true=>exact h1 rfl
 | false=>exact h2 rfl
theorem S.k {con:Nat→CIn→z2z→Prop} {σ:St} {f:Nat} {args:List PV} {k:R→PV→St→Prop} {kp:R→PV→St→Prop} {z:Option A} {g:A→Option R} {i:CIn} {o:A→z2z} (bs as as':List Nat) (hc:∀ a,z=some a→con f i (o a))
  (h1:nrm.go σ i.vs args=z8b.go bs as i.vs) (h2:z6s σ bs as bs i.B) (h3:zar σ as i.A) (h4:zcr σ bs as (z7t.go i.vs args) i=true)
  (h:∀ a,S (g a) (fun r=>zgw bs as as' i args σ (k r) (kp r) (o a))):S (z >>= g) (fun r=>zdk con σ f args (k r) (kp r)):=by
 intro r hm
 obtain ⟨a,h5,h6⟩:=bnd hm
 exact ⟨bs,as,as',i,o a,hc a h5,h1,h2,h3,h4,h a r h6⟩
theorem zg {α:Type} {z:Option α} {k k':α→Prop} (h:∀ a,k a→k' a) (hw:wt z k):wt z k':=by
 cases z with
 | none=>exact hw
 | some a=>exact h a hw
theorem z1w {α:Type} {z:Option α} {k k':α→Prop} (h:∀ a,k a→k' a) (hw:Ex z k):Ex z k':=by
 obtain ⟨a,h1,h2⟩:=hw
 exact ⟨a,h1,h a h2⟩
theorem z5u {b:Bool} {p q p' q':Prop} (h1:p→p') (h2:q→q') (h:cond b p q):cond b p' q':=by
 cases b with
 | true=>exact h1 h
 | false=>exact h2 h
end
end Go.Pe
end
section
namespace Go.Pe
open Go.RowKit Go.Lk
theorem znw {td:TypeDesc} {op:BinOp} {u v:PV} {k k':PV→Prop} (h:∀ a,k a→k' a) (hw:bop td op u v k):bop td op u v k':=by
 revert hw
 unfold bop
 repeat' split
 all_goals first
  | exact fun hw=>z1w (fun _=>h _) hw
  | exact fun hw=>zg (fun _=>h _) hw
  | exact fun hw=>h _ hw
  | exact fun hw=>hw
theorem zpx {op:UnOp} {u:PV} {k k':PV→Prop} (h:∀ a,k a→k' a) (hw:uop op u k):uop op u k':=by
 revert hw
 unfold uop
 repeat' split
 all_goals first
  | exact fun hw=>zg (fun _=>h _) hw
  | exact fun hw=>h _ hw
  | exact fun hw=>hw
theorem zkj {σ:St} {g:Bool} {n:Nat} {u:PV} {k k':PV→Prop} (h:∀ a,k a→k' a) (hw:zft σ g n u k):zft σ g n u k':=by
 revert hw
 unfold zft
 split
 ·refine fun hw=>zg (fun _ => ?_) hw
  split<;>first|exact z1w (fun _=>zg h)|exact id
 ·exact fun hw=>zg h hw
theorem zmi {σ:St} {u:PV} {k k':Int→Prop} (h:∀ a,k a→k' a):zqk σ u k→zqk σ u k':=by
 unfold zqk
 split
 ·split
  ·split
   ·split<;>first|exact z1w h|exact id
   ·exact id
  ·exact id
 ·exact id
theorem zfs {td:TypeDesc} {σ:St} {u:PV} {k k':Int→Prop} (h:∀ a,k a→k' a):znl td σ u k→znl td σ u k':=by
 unfold znl
 split
 ·exact h _
 ·exact z1w h
 ·exact h _
 ·exact zg fun _=>z1w h
 ·exact zmi h
 ·exact id
theorem zjc {σ:St} {x:Option Operand} {k k':Int→Prop} (h:∀ a,k a→k' a):loW σ x k→loW σ x k':=by
 unfold loW
 split
 ·exact h _
 ·split<;>first|exact h _|exact id
theorem zoe {td:TypeDesc} {σ:St} {u:PV} {x:Option Operand} {k k':Int→Prop} (h:∀ a,k a→k' a):hiW td σ u x k→hiW td σ u x k':=by
 unfold hiW
 split
 ·exact zfs h
 ·split<;>first|exact h _|exact id
theorem zoo {b:Bool} {u v:PV} {k k':PV→Prop} (h:∀ x,k x→k' x):mmW b u v k→mmW b u v k':=by
 unfold mmW
 split
 ·split<;>first|exact h _|exact id
 ·exact id
theorem zmp {td:TypeDesc} {op:BinOp} {u:PV} {k k':PV→Prop} (h:∀ a,k a→k' a) (hw:zuv td op u k):zuv td op u k':=by
 revert hw
 unfold zuv
 split
 ·split<;>first|exact h _|exact id
 ·exact id
theorem zlg {n:Nat} {op:BinOp} {u v:PV} {k k':PV→Prop} (h:∀ a,k a→k' a) (hw:zu2 n op u v k):zu2 n op u v k':=by
 revert hw
 unfold zu2
 split
 ·refine zg fun _ => ?_
  split<;>first|exact h _|exact id
 ·exact id
theorem zam {tb:Tb} {σ:St} {op:Op} {k k':PV→Prop} (h:∀ a,k a→k' a) (hw:qop tb σ op k):qop tb σ op k':=by
 revert hw
 unfold qop
 split
 case h_1=>exact zg h
 case h_2=>exact zg h
 case h_3=>split<;>first|exact zg (fun _=>zg fun _=>z5u (h _) (h _))|exact id
 case h_4 =>
  split
  ·split
   ·refine zg fun _ => ?_
    split<;>first|exact h _|exact id
   ·exact id
  ·split
   ·exact zg fun _=>zg fun _=>zlg h
   ·refine zg fun _=>zg fun _ => ?_
    split
    ·exact zmp h
    ·exact zg fun _=>znw h
 case h_5=>exact zg fun _=>zpx h
 case h_6=>refine zg fun _ => ?_;split<;>first|exact h _|exact id
 case h_7=>refine zg fun _ => ?_;split<;>first|exact h _|exact id
 case h_8 =>
  split
  ·exact id
  ·exact zg fun _=>zg fun _=>h _
 case h_9=>split<;>first|exact zg h|exact id
 case h_10=>refine zg fun _ => ?_;split<;>first|exact h _|exact id
 case h_11=>refine zg fun _=>zg fun _ => ?_;split<;>first|exact h _|exact id
 case h_12=>refine zg fun _ => ?_;split<;>first|exact zg h|exact id
 case h_13=>exact zg fun _=>zg fun _=>zkj h
 case h_14=>split<;>first|exact z1w fun _=>h _|exact id
 case h_15 =>
  split
  ·refine zg fun _ => ?_
   split
   ·refine zg fun _ => ?_;split<;>first|exact z1w fun _=>h _|exact id
   ·exact id
  refine zg fun _ => ?_
  split
  ·refine zg fun _ => ?_
   split
   ·split<;>first|exact z1w fun _=>h _|exact id
   ·refine zg fun _ => ?_;split<;>first|exact z1w fun _=>h _|exact id
   ·exact id
  ·exact id
 case h_16 =>
  refine zg fun _=>zg fun _=>zjc fun _=>zoe fun _ => ?_
  split
  ·exact z1w fun _=>h _
  ·refine zg fun _ => ?_;split<;>first|exact z1w fun _=>h _|exact id
  ·exact id
 case h_17=>split<;>first|exact zg fun _=>zg fun _=>zfs fun _=>h _|exact zg fun _=>zg fun _=>zoo fun _=>h _|exact id
 case h_19 =>
  refine zg fun _ => ?_
  split
  ·split<;>first|exact h _|exact id
  ·exact zg fun _=>zg fun _=>by simp only [zdu,zdr];split<;>first|exact h _|exact id
 case h_18 =>
  refine zg fun _ => ?_
  split
  ·split<;>exact h _
  ·exact h _
  ·exact id
 case h_20 =>
  refine zg fun _ => ?_
  split
  ·refine zg fun _ => ?_
   split
   ·exact z1w fun _=>z1w fun _=>z1w fun _=>h _
   ·exact id
  ·exact id
 case h_21=>exact id
section
variable {tb:Tb} {cty:List (Nat × List (Option (Nat × Nat)))} {ann:Ann} {con:Nat→CIn→z2z→Prop}
theorem zjz {bs as as':List Nat} {i:CIn} {args:List PV} {σ:St} {k k':PV→St→Prop} {kp kp':PV→St→Prop} (h:∀ a s,k a s→k' a s) (hp:∀ v s,kp v s→kp' v s):∀ {o:z2z},zgw bs as as' i args σ k kp o→zgw bs as as' i args σ k' kp' o
 | .ok _ _ _,hw=>zg (fun _ hw=>⟨hw.1,h _ _ hw.2⟩) hw
 | .okI _ _ _,hw=>zg (fun _ hw=>⟨hw.1,h _ _ hw.2⟩) hw
 | .pan _,hw=>⟨hw.1,hp _ _ hw.2⟩
 | .zcj _ _,hw=>zg (fun _ h=>⟨h.1,hp _ _ h.2⟩) hw
theorem zk0 {σ:St} {f:Nat} {args:List PV} {k k':PV→St→Prop} {kp kp':PV→St→Prop} (h:∀ a s,k a s→k' a s) (hp:∀ v s,kp v s→kp' v s) (hw:zdk con σ f args k kp):zdk con σ f args k' kp':=by
 obtain ⟨bs,as,as',i,o,h1,h2,h3,h4,h5,h6⟩:=hw
 exact ⟨bs,as,as',i,o,h1,h2,h3,h4,h5,zjz h hp h6⟩
theorem zlj {σ:St} {key E:Nat} {k k':St→Prop} (h:∀ s,k s→k' s):σ.born key E k→σ.born key E k':=by
 unfold St.born
 refine zg fun _ => ?_
 split<;>first|exact h _|exact id
theorem znr {rem:List (List D)} {k0 k0':Prop} {k1 k1':List D→List (List D)→Prop} (h0:k0→k0') (h1:∀ x r,k1 x r→k1' x r):NxW rem k0 k1→NxW rem k0' k1' :=
 fun h=>⟨fun e=>h0 (h.1 e),fun i x e=>h1 _ _ (h.2 i x e)⟩
theorem zeu {σ:St} {o:Oper} {k k':St→Prop} (h:∀ s,k s→k' s) (hw:zqx tb cty σ o k):zqx tb cty σ o k':=by
 revert hw
 unfold zqx
 split
 case h_1 =>
  refine zg fun _ => ?_
  split
  ·refine zg fun _=>zg fun _ => ?_;split<;>first|exact h _|exact id
  ·exact id
 case h_2 =>
  split
  ·split
   ·refine zg fun _=>zg fun _=>zg fun _=>zg fun _=>zg fun _=>zg fun _=>zg fun _=>zg fun _=>zg fun _=>zg fun _ => ?_
    split<;>first|exact z1w fun _=>h _|exact id
   ·exact id
  ·exact id
 case h_3 =>
  split
  ·split
   ·refine zg fun _=>zg fun _=>zg fun _=>zg fun _=>zg fun _=>zg fun _=>zg fun _=>zg fun _=>zg fun _=>zg fun _ => ?_
    split<;>first|exact z1w fun _=>h _|exact id
   ·exact id
  ·exact id
 case h_4 =>
  refine zg fun _ => ?_
  split
  ·refine zg fun _=>zg fun _=>zg fun _=>zg fun _=>zg fun _=>zg fun _=>zg fun _=>zg fun _ => ?_
   split
   ·refine z1w fun _=>zg fun _ => ?_
    split
    ·exact h _
    ·exact z1w fun _=>h _
   ·exact id
  ·exact id
 case h_5 =>
  refine zg fun _ => ?_
  split
  ·refine zg fun _=>zg fun _=>zg fun _=>zg fun _ => ?_;split<;>first|exact h _|exact id
  ·exact id
 case h_6 =>
  refine zg fun _=>zg fun _ => ?_
  split
  ·refine zg fun _ => ?_
   split
   ·split<;>first|exact znr (h _) fun _ _=>h _|exact id
   ·exact id
  ·exact id
 case h_7 =>
  refine zg fun _=>zg fun _ => ?_
  split
  ·refine zg fun _ => ?_
   split
   ·split<;>first|exact zg fun _=>h _|exact id
   ·exact id
  ·exact id
 case h_8 =>
  split
  ·split
   ·split
    ·exact zg fun _=>zg fun _=>zg fun _=>zg fun _=>zg fun _=>zg fun _=>z1w fun _=>h _
    ·exact id
   ·exact id
  ·exact id
 case h_9=>exact id
set_option maxRecDepth 100000 in
theorem zps {σ:St} {n T d:Nat} {y:Operand} {k k':St→Prop} (h:∀ s,k s→k' s) (hw:stR cty σ n T d y k):stR cty σ n T d y k':=by
 revert hw
 unfold stR
 refine zg fun _=>zg fun _=>zg fun _=>zg fun _ => ?_
 split
 ·refine zg fun _=>zg fun _ => ?_;split<;>first|exact h _|exact id
 ·exact id
set_option maxRecDepth 100000 in
theorem zns {σ:St} {o:Oper} {k k':St→Prop} {kp kp':PV→St→Prop} (h:∀ s,k s→k' s) (hp:∀ v s,kp v s→kp' v s) (hw:act tb cty ann con σ o k kp):act tb cty ann con σ o k' kp':=by
 revert hw
 unfold act
 split
 case h_1 =>
  refine zg fun _=>zg fun _ => ?_
  split
  ·split
   ·exact h _
   ·exact zlj h
  ·exact id
 case h_2 =>
  refine zg fun _=>zg fun _ => ?_
  split
  ·refine zg fun _ => ?_;split<;>first|exact h _|exact id
  ·split<;>first|exact h _|exact id
 case h_3 =>
  split
  ·refine zg fun _ => ?_
   split
   ·exact zps h
   refine zg fun _=>zg fun _ => ?_
   split
   ·exact zg fun _=>zg fun _=>h _
   ·refine zg fun _=>zg fun _=>zg fun _=>zg fun _ => ?_;split<;>first|exact z1w fun _=>h _|exact id
   ·exact id
  ·exact id
 case h_4 =>
  refine zg fun _ => ?_
  split
  ·refine zg fun _=>zg fun _=>zg fun _=>zg fun _=>zg fun _=>zg fun _ => ?_
   split
   ·split
    ·split<;>first|exact h _|exact id
    ·exact h _
   ·exact id
  ·exact id
 case h_5=>refine zg fun _ => ?_;split<;>first|exact hp _ _|exact id
 case h_6 =>
  refine zg fun _=>zg fun _ => ?_
  split
  ·split
   ·refine z1w fun _ => ?_
    split
    ·split<;>first|exact h _|exact id
    ·exact h _
   ·exact id
  ·split<;>first|exact z1w fun _=>h _|exact id
  ·refine zg fun _ => ?_;split<;>first|exact z1w fun _=>h _|exact id
  ·exact id
 case h_7 =>
  split
  ·refine zg fun _=>zg fun _=>zg fun _ => ?_
   split
   ·split
    ·refine zg fun _=>zg fun _=>zg fun _=>zg fun _ => ?_
     split
     ·split
      ·split<;>first|exact z1w fun _=>h _|exact id
      ·split
       ·split<;>first|exact z1w fun _=>h _|exact id
       ·refine zg fun _ => ?_;split<;>first|exact z1w fun _=>h _|exact id
      ·exact id
     ·exact id
    ·exact id
   ·exact id
  ·refine zg fun _ => ?_
   split
   ·exact zk0 (fun _ _=>h _) hp
   ·exact id
  ·exact zeu h
 case h_8=>exact zeu h
theorem z4b {σ:St} {k k':St→Prop} (h:∀ s,k s→k' s):σ.go k→σ.go k':=by
 rw [St.go_eq,St.go_eq]
 exact h σ
theorem zeb {σ:St} {o:Oper} {k k':St→Prop} {kp kp':PV→St→Prop} (h:∀ s,k s→k' s) (hp:∀ v s,kp v s→kp' v s) (hw:run tb cty ann con σ o k kp):run tb cty ann con σ o k' kp':=by
 revert hw
 unfold run
 split
 ·exact zam fun _=>z4b h
 ·exact zns h hp
theorem zaj {ops:Array Oper} {σ:St} {o:Oper} {k k':St→Prop} {kp kp':PV→St→Prop} (h:∀ s,k s→k' s) (hp:∀ v s,kp v s→kp' v s) (hw:exo tb cty ann con ops σ o k kp):exo tb cty ann con ops σ o k' kp':=by
 revert hw
 unfold exo
 split
 ·exact zeb h hp
 ·split
  ·exact id
  ·split
   ·split
    ·exact z5u (z4b fun _=>zeb h hp) (z4b h)
    ·exact z5u (z4b h) (z4b fun _=>zeb h hp)
   ·exact z4b h
   ·exact id
theorem z7r {ops:Array Oper} {k k':St→Prop} {kp kp':PV→St→Prop} (h:∀ s,k s→k' s) (hp:∀ v s,kp v s→kp' v s):∀ (os:List Oper) (σ:St),zf6 tb cty ann con ops kp k os σ→zf6 tb cty ann con ops kp' k' os σ
 | [],σ,hw=>h _ hw
 | o::os,σ,hw=>zaj (fun s=>z7r h hp os s) hp hw
theorem zb1 {ops:Array Oper} {k k':St→Prop} {kp kp':PV→St→Prop} (h:∀ s,k s→k' s) (hp:∀ v s,kp v s→kp' v s):∀ (l:List (Nat × Nat × Cut)) (os:List Oper) (σ:St),zf8 tb cty ann con ops kp k l os σ→zf8 tb cty ann con ops kp' k' l os σ
 | [],os,σ,hw=>z7r h hp os σ hw
 | (n0,m,c)::r,os,σ,hw=>z7r (fun _ ⟨J,h1,h2⟩=>⟨J,z7r (fun _=>id) hp _ _ h1,fun s hs=>zb1 h hp r _ s (h2 s hs)⟩) hp _ σ hw
theorem zj1 {ops:Array Oper} {σ:St} {dn:List (Nat × Bool)} {q:Nat} {k k':St→List (Nat × Bool)→Prop} (h:∀ s d,k s d→k' s d) (hw:exq tb ops σ dn q k):exq tb ops σ dn q k':=by
 revert hw
 unfold exq
 split
 ·exact id
 ·split
  ·split
   ·exact zam fun _=>z4b fun _=>h _ _
   ·split
    ·exact id
    ·split
     ·split
      ·exact z5u (z4b fun _=>zam fun _=>z4b fun _=>h _ _) (z4b fun _=>h _ _)
      ·exact z5u (z4b fun _=>h _ _) (z4b fun _=>zam fun _=>z4b fun _=>h _ _)
     ·exact z4b fun _=>h _ _
     ·exact id
  ·exact id
theorem z94 {ops:Array Oper} {k k':St→List (Nat × Bool)→Prop} (h:∀ s d,k s d→k' s d):∀ (qs:List Nat) (σ:St) (dn:List (Nat × Bool)),zj2 tb ops qs σ dn k→zj2 tb ops qs σ dn k'
 | [],σ,dn,hw=>h _ _ hw
 | _::r,σ,dn,hw=>zj1 (fun s d=>z94 h r s d) hw
theorem zjo {cs:List (Nat × Cut)} {e:Nat} {σ:St} {k k':St→Prop} (h:∀ s,k s→k' s):rst cs e σ k→rst cs e σ k':=by
 unfold rst
 split
 ·exact fun ⟨J,h1,h2⟩=>⟨J,h1,fun s hs=>h s (h2 s hs)⟩
 ·exact h _
theorem z7p {ops:Array Oper} {cs:List (Nat × Cut)} {k k':St→Prop} {kp kp':PV→St→Prop} (h:∀ s,k s→k' s) (hp:∀ v s,kp v s→kp' v s):∀ (g:Gt) (dn:List (Nat × Bool)) (σ:St),z8g tb cty ann con ops cs kp k g dn σ→z8g tb cty ann con ops cs kp' k' g dn σ
 | .fin,dn,σ,hw=>h _ hw
 | .one e kpl qs2 g,dn,σ,hw=>by
  revert hw
  unfold z8g
  split
  ·exact zaj (fun s=>zjo fun s=>z94 (fun s d hw=>⟨hw.1,z7p h hp g d s hw.2⟩) _ _ _) hp
  ·exact id
 | .alt e kpl qs2 g r,dn,σ,hw=>by
  revert hw
  unfold z8g
  refine fun hw=>⟨?_,z7p h hp r dn σ hw.2⟩
  have h1:=hw.1
  revert h1
  split
  ·exact zaj (fun s=>zjo fun s=>z94 (fun s d hw=>⟨hw.1,z7p h hp g d s hw.2⟩) _ _ _) hp
  ·exact id
theorem zaz {ops:Array Oper} {cs:List (Nat × Cut)} {k k':St→Prop} {kp kp':PV→St→Prop} (h:∀ s,k s→k' s) (hp:∀ v s,kp v s→kp' v s) (g:Gt) (qs:List Nat) (σ:St) (hw:zcy tb cty ann con ops cs kp k g qs σ):zcy tb cty ann con ops cs kp' k' g qs σ :=
 z94 (fun s d hw=>⟨hw.1,z7p h hp g d s hw.2⟩) qs σ [] hw
theorem zo7 {ops:Array Oper} {k k':St→List (Nat × Bool)→Prop} {kp kp':PV→St→Prop} (h:∀ s d,k s d→k' s d) (hp:∀ v s,kp v s→kp' v s):∀ (i:It) (σ:St) (dn:List (Nat × Bool)),ex1 tb cty ann con ops kp i σ dn k→ex1 tb cty ann con ops kp' i σ dn k'
 | .q q,σ,dn,hw=>zj1 h hw
 | .a e kpl,σ,dn,hw=>by
  simp only [ex1] at hw ⊢
  revert hw
  split
  ·split
   ·exact zaj (fun s=>h s _) hp
   ·exact id
  ·exact id
theorem z7q {ops:Array Oper} {k k':St→List (Nat × Bool)→Prop} {kp kp':PV→St→Prop} (h:∀ s d,k s d→k' s d) (hp:∀ v s,kp v s→kp' v s):∀ (l:List It) (σ:St) (dn:List (Nat × Bool)),zh6 tb cty ann con ops kp k l σ dn→zh6 tb cty ann con ops kp' k' l σ dn
 | [],σ,dn,hw=>h _ _ hw
 | i::r,σ,dn,hw=>zo7 (fun s d=>z7q h hp r s d) hp i σ dn hw
theorem zcz {ops:Array Oper} {k k':St→Prop} {kp kp':PV→St→Prop} (h:∀ s,k s→k' s) (hp:∀ v s,kp v s→kp' v s):∀ (l:List (Nat × Nat × Cut)) (its:List It) (σ:St) (dn:List (Nat × Bool)),zlx tb cty ann con ops kp k l its σ dn→zlx tb cty ann con ops kp' k' l its σ dn
 | [],its,σ,dn,hw=>z7q (fun s _=>h s) hp its σ dn hw
 | (_,_,_)::r,_,σ,dn,hw=>z7q (fun _ _ ⟨J,h1,h2⟩=>⟨J,z7q (fun _ _=>id) hp _ _ _ h1,fun s hs=>zcz h hp r _ _ _ (h2 s hs)⟩) hp _ σ dn hw
theorem zka {ops:Array Oper} {k k':St→Prop} {kp kp':PV→St→Prop} (h:∀ s,k s→k' s) (hp:∀ v s,kp v s→kp' v s) (d:Drw) (σ:St) (hw:zh7 tb cty ann con ops kp k d σ):zh7 tb cty ann con ops kp' k' d σ:=by
 revert hw
 unfold zh7
 split
 ·exact zcz h hp _ _ _ _
 split
 ·exact zaz h hp _ _ _
 ·exact fun ⟨J,h1,h2⟩=>⟨J,zaz (fun _=>id) hp _ _ _ h1,fun s hs=>h s (h2 s hs)⟩
theorem z73 {f f':St→Prop} {k k':z6n→St→Prop} (hf:∀ s,f s→f' s) (hk:∀ fl s,k fl s→k' fl s):∀ fl s,z6r f k fl s→z6r f' k' fl s
 | .normal,s,h=>hf s h
 | .exit _,s,h=>hk _ s h
 | .ret,s,h=>hk _ s h
 | .pan _,s,h=>hk _ s h
theorem zma {i:Nat} {k k':z6n→St→Prop} (hk:∀ fl s,k fl s→k' fl s):∀ fl s,zrm i k fl s→zrm i k' fl s
 | .normal,s,h=>hk _ s h
 | .exit j,s,h=>by
  simp only [zrm] at h ⊢
  cases hb:Nat.beq i j with
  | true=>simp only [hb] at h ⊢;exact hk _ _ h
  | false=>simp only [hb] at h ⊢;exact hk _ _ h
 | .ret,s,h=>hk _ s h
 | .pan _,s,h=>hk _ s h
theorem LW.mono {step step':(St→Prop)→St→Prop} (h:∀ I s,step I s→step' I s) {s:St} (hw:LW step s):LW step' s:=fun I hI=>hw I fun s hs=>hI s (h I s hs)
theorem z5n:∀ (c:Code) (σ:St) (k k':z6n→St→Prop),(∀ fl s,k fl s→k' fl s)→ex tb cty ann con c σ k→ex tb cty ann con c σ k'
 | .skip,σ,k,k',h,hw=>h _ _ hw
 | .label _,σ,k,k',h,hw=>h _ _ hw
 | .region id ops dr,σ,k,k',h,hw=>by
  cases dr with
  | false=>exact zb1 (fun s=>h _ s) (fun v s=>h _ s) _ _ _ hw
  | true=>exact zg (fun _=>zka (fun s=>h _ s) (fun v s=>h _ s) _ _) hw
 | .seq a b,σ,k,k',h,hw=>by
  unfold ex at hw ⊢
  split at hw
  ·obtain ⟨J,h1,h2⟩:=hw
   exact ⟨J,z5n a _ _ _ (z73 (fun _=>id) h) h1,fun s hs=>z5n b _ _ _ h (h2 s hs)⟩
  ·exact z5n a _ _ _ (z73 (fun s=>z5n b s _ _ h) h) hw
 | .cond c a b,σ,k,k',h,hw=>by
  unfold ex at hw ⊢
  split at hw
  ·exact z5u (z5n a _ _ _ h) (z5n b _ _ _ h) hw
  ·exact hw
 | .block i a,σ,k,k',h,hw=>z5n a _ _ _ (zma h) hw
 | .exit i,σ,k,k',h,hw=>h _ _ hw
 | .ret,σ,k,k',h,hw=>h _ _ hw
 | .loop a,σ,k,k',h,hw=>by
  unfold ex at hw ⊢
  exact zg (fun _=>zg fun _=>LW.mono fun I s=>z5n a _ _ _ (z73 (fun _=>id) h)) hw
 | .rangeFunc ..,σ,k,k',h,hw=>hw
 | .scope _,σ,k,k',h,hw=>hw
 | .goto _,σ,k,k',h,hw=>hw
 | .refuse _,σ,k,k',h,hw=>hw
theorem z7m (a:Code) (c:Cut) (k:z6n→St→Prop):∀ I I':St→Prop,(∀ s,I s→I' s)→∀ s,ex tb cty ann con a s (z6r (fun s=>wt (s.cut c) I) k)→ex tb cty ann con a s (z6r (fun s=>wt (s.cut c) I') k) :=
 fun _ _ h s hw=>z5n a s _ _ (z73 (fun _=>zg h) fun _ _=>id) hw
theorem LW.fold {step:(St→Prop)→St→Prop} (hm:∀ I I':St→Prop,(∀ s,I s→I' s)→∀ s,step I s→step I' s) {s:St} (h:step (LW step) s):LW step s:=fun I hI=>hI s (hm _ _ (fun s' h'=>h' I hI) s h)
theorem S.lw {X R:Type} {a:Code} {c:Cut} {k:R→z6n→St→Prop} {σ:St} {L:X→Option R} {Bd:(X→Option R)→X→Option R} {x:X} (sh:X→St)
  (pc:∀ motive:X→R→Prop,(∀ f:X→Option R,(∀ x r,f x=some r→motive x r)→∀ x r,Bd f x=some r→motive x r)→∀ x r,L x=some r→motive x r)
  (h0:σ=sh x) (h:∀ (f:X→Option R) (I:R→St→Prop),(∀ x,S (f x) (fun r=>I r (sh x)))→∀ x,S (Bd f x) (fun r=>ex tb cty ann con a (sh x) (z6r (fun s=>wt (s.cut c) (I r)) (k r)))) :
  S (L x) (fun r=>LW (fun I s=>ex tb cty ann con a s (z6r (fun s=>wt (s.cut c) I) (k r))) σ):=by
 subst h0
 exact pc (fun x r=>LW (fun I s=>ex tb cty ann con a s (z6r (fun s=>wt (s.cut c) I) (k r))) (sh x)) (fun f ih x r hm=>LW.fold (z7m a c (k r)) (h f (fun r=>LW (fun I s=>ex tb cty ann con a s (z6r (fun s=>wt (s.cut c) I) (k r)))) ih x r hm)) x
theorem S.lw2 {X Y R:Type} {a:Code} {c:Cut} {k:R→z6n→St→Prop} {σ:St} {L:X→Y→Option R} {Bd:(X→Y→Option R)→X→Y→Option R} {x:X} {y:Y} (sh:X→Y→St)
  (pc:∀ motive:X→Y→R→Prop,(∀ f:X→Y→Option R,(∀ x y r,f x y=some r→motive x y r)→∀ x y r,Bd f x y=some r→motive x y r)→∀ x y r,L x y=some r→motive x y r)
  (h0:σ=sh x y) (h:∀ (f:X→Y→Option R) (I:R→St→Prop),(∀ x y,S (f x y) (fun r=>I r (sh x y)))→∀ x y,S (Bd f x y) (fun r=>ex tb cty ann con a (sh x y) (z6r (fun s=>wt (s.cut c) (I r)) (k r)))) :
  S (L x y) (fun r=>LW (fun I s=>ex tb cty ann con a s (z6r (fun s=>wt (s.cut c) I) (k r))) σ):=by
 subst h0
 exact pc (fun x y r=>LW (fun I s=>ex tb cty ann con a s (z6r (fun s=>wt (s.cut c) I) (k r))) (sh x y)) (fun f ih x y r hm=>LW.fold (z7m a c (k r)) (h f (fun r=>LW (fun I s=>ex tb cty ann con a s (z6r (fun s=>wt (s.cut c) I) (k r)))) ih x y r hm)) x y
end
end Go.Pe
end
