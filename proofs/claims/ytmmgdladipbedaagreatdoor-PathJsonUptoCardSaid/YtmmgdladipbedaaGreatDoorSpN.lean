import Derived.Test.YtmmgdladipbedaaGreatDoorPaP4
import Derived.Test.YtmmgdladipbedaaGreatDoorSnR
set_option linter.all false
section
namespace Go.Sen
open Go.Lk Go.Pe
def z30 (s:List UInt8):J:=⟨4,s,[],[]⟩
def opS (k:Int):List UInt8:=(opW[k.toNat]?).getD []
def z2g (x:ED):List UInt8 × Int:=if x.z0t=true then (if (prE x.zw).2=0 then (x.zg++(([91]++(prE x.zw).1)++[93]),0) else ([],(prE x.zw).2)) else (x.zg,0)
def zkf (x:ED) (p:List UInt8):J:=⟨6,[],[z30 (opS x.za),z30 p]++(if x.za=1 then [] else [⟨5,[],x.zh.map z30,[]⟩]),[kOp,z3q]++(if x.za=1 then [] else [z2c])⟩
def prX:List ED→Rs (List J)
 | [] => .ok []
 | x::l=>if (z2g x).2=0 then (match prX l with
  | .pan c => .pan c
  | .ok js => .ok (zkf x (z2g x).1::js)) else .pan (z2g x).2
def zoe (js:List J):J:=⟨6,[],[⟨5,[],js,[]⟩],[zte]⟩
def zo3 (l:List ED):List UInt8 × Int:=if z4y l=0 then (match prX l with
 | .pan c=>([],c)
 | .ok js=>print (zoe js)) else ([],z4y l)
theorem zqw (e:EX):(prE e).1.length≤1024:=by
 unfold prE
 split
 ·split
  ·simp
  ·simp only;omega
 ·simp
theorem zit {x:ED} (h:isName x.zg=true):(z2g x).1.length≤1050:=by
 have h1:=z7r h
 have h2:=zqw x.zw
 unfold z2g
 split
 ·split
  ·simp only [List.length_append,List.length_cons,List.length_nil];omega
  ·simp
 ·simp only;omega
theorem zu2 {x:ED} (hv:x.zh.length<1000000000):∀ (n i:Nat) (acc:List J),x.zh.length - i=n→i≤x.zh.length→acc.length≤i→M.z0h x (i:Int) acc=some (acc++(x.zh.drop i).map z30):=by
 intro n
 induction n with
 | zero =>
  intro i acc h1 h2 h3
  have:i=x.zh.length:=by omega
  subst this
  rw [M.z0h]
  simp
 | succ n ih =>
  intro i acc h1 h2 h3
  have hi:i<x.zh.length:=by omega
  rw [M.z0h,z1y hi]
  simp only [show ((i:Int)<(x.zh.length:Int)) by omega,decide_true,if_true,z4a,List.getElem?_eq_getElem hi,Option.bind_eq_bind,Option.bind_some,M.q2q,List.map_cons]
  rw [z3g (by simp only [List.length_cons,List.length_nil];omega)]
  simp only [Option.bind_some]
  rw [w1 (by omega),ih (i+1) _ (by omega) (by omega) (by simp;omega),List.append_assoc]
  rfl
theorem zu1 {l:List ED} {f:Nat} (hf:4*z4g l+17≤f) (hl:z4g l<1000000000) (hok:∀ x∈l,z5j x=true):∀ (n i:Nat) (acc:List J),l.length - i=n→i≤l.length→acc.length≤i→M.z0q l f (i:Int) acc=some (match prX (l.drop i) with | .pan c => .done ([],c) | .ok js => .go (acc++js)):=by
 have hlen:l.length≤z4g l:=z7l (g:=fun x:ED=>x.sz) (fun x=>by unfold q00.sz;omega) l
 have hm:∀ x∈l,x.sz≤z4g l:=fun x hx=>zaq (g:=fun x:ED=>x.sz) hx
 intro n
 induction n with
 | zero =>
  intro i acc h1 h2 h3
  have:i=l.length:=by omega
  subst this
  rw [M.z0q]
  simp [prX]
 | succ n ih =>
  intro i acc h1 h2 h3
  have hi:i<l.length:=by omega
  have hx:=hok _ (List.getElem_mem hi)
  have hsz:=hm _ (List.getElem_mem hi)
  have hx2:q00.sz l[i]=l[i].zg.length+l[i].zw.sz+kys l[i].zh+1:=rfl
  have hsm:z52 l[i]:=by unfold z52;omega
  have hvl:l[i].zh.length<1000000000:=hsm.parts.2.2.1
  have hnl:=z7r (z4u hx)
  have hpl:=zit (z4u hx)
  have hpr:=zqw l[i].zw
  rw [M.z0q,z1y hi]
  simp only [show ((i:Int)<(l.length:Int)) by omega,decide_true,if_true,z4a,List.getElem?_eq_getElem hi,Option.bind_eq_bind,Option.bind_some,prX]
  rw [z3n (by omega) (by unfold z0l;omega)]
  have hps:z2g l[i]=if l[i].z0t=true then (if (prE l[i].zw).2=0 then (l[i].zg++(([91]++(prE l[i].zw).1)++[93]),0) else ([],(prE l[i].zw).2)) else (l[i].zg,0):=rfl
  have hq:(if l[i].z0t=true then (some (prE l[i].zw)).bind fun a=>if (!decide (a.2=0))=true then some (Jn.done (Jn.done (Jn.done (([]:List UInt8),a.2)))) else (cat [91] a.1).bind fun s1=>(cat s1 [93]).bind fun s2=>(cat l[i].zg s2).bind fun s3=>some (Jn.go s3) else some (Jn.go l[i].zg):Option (Jn (Jn (Jn ((List UInt8) × Int) (List J)) (List J)) (List UInt8))) =
    some (if (z2g l[i]).2=0 then .go (z2g l[i]).1 else .done (.done (.done ([],(z2g l[i]).2)))):=by
   rw [hps]
   by_cases hs:l[i].z0t=true
   ·rw [if_pos hs,if_pos hs]
    simp only [Option.bind_some]
    by_cases h0:(prE l[i].zw).2=0
    ·rw [z2a (by simp only [List.length_cons,List.length_nil];omega)]
     simp only [h0,decide_true,Bool.not_true,Bool.false_eq_true,if_false,Option.bind_some,if_true]
     rw [z2a (by simp only [List.length_append,List.length_cons,List.length_nil];omega)]
     simp only [Option.bind_some]
     rw [z2a (by simp only [List.length_append,List.length_cons,List.length_nil];omega)]
     rfl
    ·simp [h0]
   ·rw [if_neg hs,if_neg hs]
    rfl
  rw [hq]
  simp only [Option.bind_some]
  by_cases h0:(z2g l[i]).2=0
  ·rw [if_pos h0,if_pos h0]
   simp only
   have hop:(M.q2d.bind fun a=>(ix a l[i].za).bind fun x=>(M.q2q x).bind fun q=>(M.q2q (z2g l[i]).1).bind fun r=>some [(q03.mk q.za q.z0d q.zf q.z0a),(q03.mk r.za r.z0d r.zf r.z0a)]:Option (List J))=some [z30 (opS l[i].za),z30 (z2g l[i]).1]:=by
    rcases z9a hx with h|h|h<;>rw [h.1]<;>rfl
   rw [hop]
   simp only [Option.bind_some]
   have hk2:=zu2 (x:=l[i]) hvl _ 0 [] rfl (Nat.zero_le _) (Nat.le_refl _)
   have hk2':M.z0h l[i] 0 []=_:=hk2
   have hj:(if (!decide (l[i].za=1))=true then (M.z0h l[i] 0 []).bind fun j=>((app 16 [([111,112]:List UInt8),([112,97,116,104]:List UInt8)] [([118,97,108,117,101]:List UInt8)]).bind fun a=>(app 72 [z30 (opS l[i].za),z30 (z2g l[i]).1] [(q03.mk 5 ([]:List UInt8) j [])]).bind fun b=>some (b,a)).bind fun q=>some (q.1,q.2) else some ([z30 (opS l[i].za),z30 (z2g l[i]).1],[([111,112]:List UInt8),([112,97,116,104]:List UInt8)]):Option ((List J) × (List (List UInt8)))) =
     some ([z30 (opS l[i].za),z30 (z2g l[i]).1]++(if l[i].za=1 then [] else [⟨5,[],l[i].zh.map z30,[]⟩]),[kOp,z3q]++(if l[i].za=1 then [] else [z2c])):=by
    by_cases hk:l[i].za=1
    ·simp [hk,kOp,z3q]
    ·simp only [hk,decide_false,Bool.not_false,if_true,hk2',Option.bind_some,List.drop_zero,List.nil_append,if_false]
     rw [z3g (by simp),z3g (by simp)]
     rfl
   rw [hj]
   simp only [Option.bind_some]
   rw [z3g (by simp only [List.length_cons,List.length_nil];omega)]
   simp only [Option.bind_some]
   rw [w1 (by omega),ih (i+1) _ (by omega) (by omega) (by simp;omega)]
   cases prX (l.drop (i+1)) with
   | pan c=>rfl
   | ok js=>simp [zkf]
  ·rw [if_neg h0,if_neg h0]
   rfl
theorem zxp (l:List (List UInt8)):szs (l.map z30)≤2*kys l:=by
 induction l with
 | nil=>simp [szs,kys]
 | cons v l ih =>
  have h:=q03.z1m (z30 v)
  simp only [z30,szs,z4d] at h
  rw [List.map_cons,z38]
  simp only [szs,z30] at ih ⊢
  omega
theorem zx3 (k:Int):(opS k).length≤7:=by
 unfold opS
 cases h:opW[k.toNat]? with
 | none=>simp
 | some w =>
  have:=List.mem_of_getElem? h
  simp only [opW,List.mem_cons,List.not_mem_nil,or_false] at this
  rcases this with rfl|rfl|rfl<;>decide
theorem zwx {x:ED} (h:z5j x=true):(zkf x (z2g x).1).sz≤20000:=by
 obtain ⟨h1,h2⟩:=z7g (z9b h)
 have h3:=zm3 h2
 have h4:=zxp x.zh
 have h5:=zit (z4u h)
 have h6:=zx3 x.za
 have e:=q03.z1m (zkf x (z2g x).1)
 have e1:=q03.z1m (z30 (opS x.za))
 have e2:=q03.z1m (z30 (z2g x).1)
 have e3:=q03.z1m ⟨5,[],x.zh.map z30,[]⟩
 have k1:kys [kOp,z3q]=8:=rfl
 have k2:kys [kOp,z3q,z2c]=14:=rfl
 simp only [szs,z4d,z30] at e1 e2
 simp only [List.length_nil,z4d] at e3
 generalize q03.sz (zkf x (z2g x).1)=S at e ⊢
 unfold zkf at e
 simp only at e
 by_cases hk:x.za=1
 ·rw [if_pos hk,if_pos hk] at e
  simp only [List.append_nil,szs,List.length_nil,z30] at e
  rw [k1] at e
  omega
 ·rw [if_neg hk,if_neg hk] at e
  simp only [List.cons_append,List.nil_append,szs,List.length_nil,z30] at e e3
  rw [k2] at e
  omega
theorem zkl:∀ {l:List ED} {js:List J},(∀ x∈l,z5j x=true)→prX l = .ok js→js.length=l.length∧szs js≤20001*l.length
 | [],js,_,h=>by simp only [prX,Rs.ok.injEq] at h;subst h;simp [szs]
 | x::l,js,hok,h=>by
  simp only [prX] at h
  split at h
  ·split at h
   ·cases h
   ·rename_i js' h2
    cases h
    obtain ⟨h3,h4⟩:=zkl (fun y hy=>hok y (List.mem_cons_of_mem _ hy)) h2
    have h5:=zwx (hok x List.mem_cons_self)
    simp only [szs,List.length_cons]
    omega
  ·cases h
theorem zof {l:List ED} {js:List J} (hok:∀ x∈l,z5j x=true) (h16:l.length≤16) (h:prX l = .ok js):Small (zoe js):=by
 obtain ⟨_,h2⟩:=zkl hok h
 have e:=q03.z1m (zoe js)
 have e1:=q03.z1m ⟨5,[],js,[]⟩
 have k1:kys [zte]=11:=rfl
 simp only [zoe,szs,k1,List.length_nil,z4d] at e e1
 unfold Small zoe
 omega
theorem z5d {l:List ED} {f:Nat} (hf:4*z4g l+17≤f) (hl:z4g l<1000000000):M.q1p f l=some (zo3 l):=by
 unfold M.q1p zo3
 rw [z2o hf hl]
 simp only [Option.bind_eq_bind,Option.bind_some]
 by_cases h0:z4y l=0
 ·obtain ⟨h16,hok,_⟩:=z2p.1 h0
  have hk:=zu1 hf hl hok _ 0 [] rfl (Nat.zero_le _) (Nat.le_refl _)
  have hk':M.z0q l f 0 []=_:=hk
  simp only [h0,decide_true,Bool.not_true,Bool.false_eq_true,if_false,if_true,hk',Option.bind_some,List.drop_zero,List.nil_append]
  cases hp:prX l with
  | pan c=>rfl
  | ok js =>
   simp only
   have:=z9i (v:=zoe js) (f:=f) (by omega) (zof hok h16 hp)
   have h2:M.q0l f (q03.mk 6 ([]:List UInt8) [(q03.mk 5 ([]:List UInt8) js [])] [([79,112,101,114,97,116,105,111,110,115]:List UInt8)])=some (print (zoe js)):=this
   rw [h2]
   rfl
 ·simp [h0]
/-! Read again. -/
theorem zjb:∀ l:List (List UInt8),texts (l.map z30)=some l
 | []=>rfl
 | v::l=>by simp [texts,z30,zjb l]
theorem zwt {n:List UInt8} (h:isName n=true):∀ b∈n,¬b=91:=fun b hb e=>by
 have:=List.all_eq_true.1 (zg0 h).1 b hb
 rw [e] at this
 revert this
 decide
theorem occ_no {n m:List UInt8} (h:∀ b∈n,¬b=91) {j:Nat} (hj:j<n.length):Lib.occAt (n++m) [91] j=false:=by
 unfold Lib.occAt
 rw [List.drop_append_of_le_length (by omega),List.drop_eq_getElem_cons hj,List.cons_append]
 have:=h _ (List.getElem_mem hj)
 have e:¬(91:UInt8)=n[j]:=fun q=>this q.symm
 simp [List.isPrefixOf,e]
theorem zlm {n r:List UInt8} (h:isName n=true):Lib.cut (n++91::r) [91]=(n,r,true)∧Lib.cut n [91]=(n,[],false):=by
 have hb:=zwt h
 have i1:Lib.index (n++91::r) [91]=n.length:=Lib.index_first (by simp) (by unfold Lib.occAt;simp [List.isPrefixOf]) fun j hj=>occ_no hb hj
 have i2:Lib.index n [91] = -1:=Lib.index_none fun j hj=>by
  by_cases hl:j<n.length
  ·have:=occ_no (m:=[]) hb hl
   rwa [List.append_nil] at this
  ·have:j=n.length:=by omega
   subst this
   unfold Lib.occAt
   simp [List.isPrefixOf]
 unfold Lib.cut
 rw [i1,i2]
 constructor
 ·rw [if_pos (by omega)]
  simp
 ·rw [if_neg (by omega)]
theorem zzp {k:Int} (h:k=0∨k=1∨k=2):zzo (opS k)=k:=by rcases h with rfl|rfl|rfl<;>rfl
theorem zf9 (x:ED) (p:List UInt8):z7v (zkf x p) z2c=if x.za=1 then (zwv,false) else (⟨5,[],x.zh.map z30,[]⟩,true):=by
 unfold z7v zkf
 by_cases h:x.za=1
 ·simp only [h,if_true,List.append_nil];rfl
 ·simp only [h,if_false];rfl
theorem zup {e:EX} (h:zrz e=true):e=zE:=by
 obtain ⟨k,n,v,l⟩:=e
 unfold zrz at h
 simp only [Bool.and_eq_true,decide_eq_true_eq] at h
 obtain ⟨⟨⟨rfl,rfl⟩,rfl⟩,h4⟩:=h
 rw [List.eq_nil_of_length_eq_zero h4]
 rfl
theorem zng {x:ED} (h:z5j x=true) (hs:x.z0t=false):x.zw=zE:=by
 unfold z5j at h
 simp only [Bool.and_eq_true,hs,Bool.false_eq_true,if_false] at h
 exact zup h.1.2
theorem zvb {e:EX} (h:(prE e).2=0):z6n e=0∧(tx e).length≤1024∧prE e=(tx e,0):=by
 rcases z9s e with h1|⟨_,h2⟩|⟨_,c,h2,h3,_⟩
 ·exact h1
 ·rw [h2] at h;cases h
 ·rw [h2] at h;exact (h3 h).elim
theorem zll (t:List UInt8):zoi (t++[93])=(t,true):=by
 unfold zoi
 have h:([93]:List UInt8).isSuffixOf (t++[93])=true:=List.isSuffixOf_iff_suffix.2 (List.suffix_append _ _)
 rw [if_pos h]
 simp
theorem zu4 {x:ED} (hx:z5j x=true) (hp:(z2g x).2=0):rdE (zkf x (z2g x).1) = .ok x:=by
 have hn:=z4u hx
 have hk:=z9a hx
 have hk3:x.za=0∨x.za=1∨x.za=2:=by rcases hk with h|h|h<;>simp [h.1]
 have s1:(say (zkf x (z2g x).1) kOp).1=opS x.za:=rfl
 have s2:(say (zkf x (z2g x).1) z3q).1=(z2g x).1:=rfl
 have hc:Lib.cut (z2g x).1 [91]=(x.zg,(if x.z0t=true then tx x.zw++[93] else []),x.z0t)∧z3o (z2g x).1=(x.zw,0):=by
  cases hs:x.z0t with
  | false =>
   have e:(z2g x).1=x.zg:=by unfold z2g;rw [hs];rfl
   have hcut:=(zlm (r:=[]) hn).2
   rw [e]
   refine ⟨by rw [hcut];rfl,?_⟩
   unfold z3o
   rw [hcut]
   simp only [Bool.false_eq_true,if_false]
   rw [zng hx hs]
  | true =>
   have e0:z2g x=if (prE x.zw).2=0 then (x.zg++(([91]++(prE x.zw).1)++[93]),0) else ([],(prE x.zw).2):=by unfold z2g;rw [if_pos hs]
   by_cases h0:(prE x.zw).2=0
   ·obtain ⟨c1,c2,c3⟩:=zvb h0
    rw [if_pos h0,c3] at e0
    have e:(z2g x).1=x.zg++91::(tx x.zw++[93]):=by rw [e0];simp
    have hcut:=(zlm (r:=tx x.zw++[93]) hn).1
    rw [e]
    refine ⟨by rw [hcut];rfl,?_⟩
    unfold z3o
    rw [hcut]
    simp only [if_true]
    rw [zll]
    exact zx5 c1 c2
   ·rw [if_neg h0] at e0
    rw [e0] at hp
    exact (h0 hp).elim
 unfold rdE
 rw [s1,s2,zzp hk3,hc.1,hc.2]
 simp only
 have hcl:¬(x.za<0∨isName x.zg=false∨x.z0t=true∧(zoi (if x.z0t=true then tx x.zw++[93] else [])).2=false):=by
  rintro (h|h|⟨h1,h2⟩)
  ·omega
  ·rw [hn] at h;cases h
  ·rw [if_pos h1,zll] at h2;cases h2
 have hv:z5g (zkf x (z2g x).1)=(x.zh,true):=by
  unfold z5g
  rw [zf9]
  by_cases h1:x.za=1
  ·rw [if_pos h1]
   have:x.zh=[]:=by rcases hk with h|h|h<;>first|exact h.2|omega
   rw [this]
   rfl
  ·rw [if_neg h1]
   simp only [show ¬((5:Int)=4) by decide,if_false,if_true,zau,zjb]
 have hm:¬((z7v (zkf x (z2g x).1) z2c).2=decide (x.za=1)):=by
  rw [zf9]
  by_cases h1:x.za=1<;>simp [h1]
 rw [if_neg hcl,if_neg (by simp),if_neg hm,hv]
 simp only [Bool.true_eq_false,if_false]
 have heta:(⟨x.za,x.zg,x.z0t,x.zw,x.zh⟩:ED)=x:=rfl
 rw [heta,hx]
 rfl
theorem zr2:∀ {l:List ED} {js:List J},(∀ x∈l,z5j x=true)→prX l = .ok js→rdL js = .ok l∧js.all zds=true
 | [],js,_,h=>by simp only [prX,Rs.ok.injEq] at h;subst h;exact ⟨rfl,rfl⟩
 | x::l,js,hok,h=>by
  simp only [prX] at h
  split at h
  ·rename_i h0
   split at h
   ·cases h
   ·rename_i js' h2
    cases h
    obtain ⟨h3,h4⟩:=zr2 (fun y hy=>hok y (List.mem_cons_of_mem _ hy)) h2
    have h5:=zu4 (hok x List.mem_cons_self) h0
    refine ⟨by simp only [rdL,h5,h3],?_⟩
    rw [List.all_cons,h4,Bool.and_true]
    rfl
  ·cases h
theorem zdg:∀ {l:List ED},(∀ x∈l,x.z0t=true→z6n x.zw=0)→(∃ js,prX l = .ok js)∨prX l = .pan 191
 | [],_ => .inl ⟨[],rfl⟩
 | x::l,h=>by
  have ih:=zdg (l:=l) fun y hy=>h y (List.mem_cons_of_mem _ hy)
  have hx:(z2g x).2=0∨(z2g x).2=191:=by
   unfold z2g
   by_cases hs:x.z0t=true
   ·rw [if_pos hs]
    rcases z9s x.zw with ⟨_,_,e⟩|⟨_,e⟩|⟨h1,_⟩
    ·rw [e];exact .inl rfl
    ·rw [e];exact .inr rfl
    ·exact (h1 (h x List.mem_cons_self hs)).elim
   ·rw [if_neg hs];exact .inl rfl
  simp only [prX]
  rcases hx with h0|h0
  ·rw [if_pos h0]
   rcases ih with ⟨js,e⟩|e
   ·rw [e];exact .inl ⟨_,rfl⟩
   ·rw [e];exact .inr rfl
  ·rw [if_neg (by rw [h0];decide),h0];exact .inr rfl
theorem za6:∀ {l:List J} {w:Nat},(∀ x∈l,z3t x w=0)→z6q l w=0
 | [],_,_=>rfl
 | x::l,w,h=>by
  simp only [z6q]
  rw [if_pos (h x List.mem_cons_self)]
  exact za6 fun y hy=>h y (List.mem_cons_of_mem _ hy)
theorem zdr {s:List UInt8} (h:Lib.validD s=true) (w:Nat):z3t (z30 s) w=0:=by
 rw [z3b]
 have:frm 4 s 0 []=true:=by unfold frm;simp [h]
 have h0:¬(((z30 s).za=5∨(z30 s).za=6)∧16≤w):=by
  show ¬(((4:Int)=5∨(4:Int)=6)∧16≤w)
  omega
 rw [if_neg h0]
 unfold z30
 simp only [List.length_nil,this,Bool.true_eq_false,if_false]
 rfl
theorem zde {x:ED} (hx:z5j x=true):Lib.validD (z2g x).1=true:=by
 have hn:=zge (z4u hx)
 unfold z2g
 split
 ·split
  ·rename_i h0
   obtain ⟨c1,_,c3⟩:=zvb h0
   rw [c3]
   simp only [List.append_assoc]
   rw [z4p hn,z4p (a:=[91]) (by decide),z9z (zuk _ (za4 c1).1)]
   decide
  ·rfl
 ·exact zp1 hn
theorem zin (k:Int):Lib.validD (opS k)=true:=by
 unfold opS
 cases h:opW[k.toNat]? with
 | none=>rfl
 | some w =>
  have:=List.mem_of_getElem? h
  simp only [opW,List.mem_cons,List.not_mem_nil,or_false] at this
  rcases this with rfl|rfl|rfl<;>decide
theorem zwp {l:List (List UInt8)} (h:∀ v∈l,Lib.validD v=true) {w:Nat} (hw:w<16):z3t ⟨5,[],l.map z30,[]⟩ w=0:=by
 rw [z3b,if_neg (by omega)]
 have:frm 5 [] (l.map z30).length []=true:=by unfold frm;simp
 simp only [this,Bool.true_eq_false,if_false]
 refine za6 fun x hx => ?_
 obtain ⟨v,hv,rfl⟩:=List.mem_map.1 hx
 exact zdr (h v hv) _
theorem zzk {x:ED} (hx:z5j x=true):z3t (zkf x (z2g x).1) 2=0:=by
 have hv:∀ v∈x.zh,Lib.validD v=true:=fun v h=>zb7 ((zgt.1 (z9b hx)).2.2 v h)
 have f1:frm 6 [] 2 [kOp,z3q]=true:=by decide
 have f2:frm 6 [] 3 [kOp,z3q,z2c]=true:=by decide
 rw [z3b,if_neg (by omega)]
 unfold zkf
 by_cases h:x.za=1
 ·simp only [h,if_true,List.append_nil,List.length_cons,List.length_nil,Nat.zero_add,Nat.reduceAdd,f1,Bool.true_eq_false,if_false]
  refine za6 fun y hy => ?_
  simp only [List.mem_cons,List.not_mem_nil,or_false] at hy
  rcases hy with rfl|rfl
  ·exact zdr (zin _) _
  ·exact zdr (zde hx) _
 ·simp only [h,if_false,List.cons_append,List.nil_append,List.length_cons,List.length_nil,Nat.zero_add,Nat.reduceAdd,f2,Bool.true_eq_false]
  refine za6 fun y hy => ?_
  simp only [List.mem_cons,List.not_mem_nil,or_false] at hy
  rcases hy with rfl|rfl|rfl
  ·exact zdr (zin _) _
  ·exact zdr (zde hx) _
  ·exact zwp hv (by decide)
theorem zc0:∀ {l:List ED} {js:List J},(∀ x∈l,z5j x=true)→prX l = .ok js→∀ j∈js,z3t j 2=0
 | [],js,_,h=>by simp only [prX,Rs.ok.injEq] at h;subst h;intro j hj;cases hj
 | x::l,js,hok,h=>by
  simp only [prX] at h
  split at h
  ·split at h
   ·cases h
   ·rename_i js' h2
    cases h
    have ih:=zc0 (fun y hy=>hok y (List.mem_cons_of_mem _ hy)) h2
    intro j hj
    rcases List.mem_cons.1 hj with rfl|hj
    ·exact zzk (hok x List.mem_cons_self)
    ·exact ih j hj
  ·cases h
theorem zrr {js:List J} (h:∀ j∈js,z3t j 2=0):z3t (zoe js) 0=0:=by
 have f1:frm 6 [] 1 [zte]=true:=by decide
 have f2:frm 5 [] js.length []=true:=by unfold frm;simp
 rw [z3b,if_neg (by omega)]
 simp only [zoe,List.length_cons,List.length_nil,Nat.zero_add,f1,Bool.true_eq_false,if_false]
 refine za6 fun y hy => ?_
 rw [List.mem_singleton] at hy
 subst hy
 rw [z3b,if_neg (by omega)]
 simp only [f2,Bool.true_eq_false,if_false]
 exact za6 h
theorem zmh {l:List ED} {t:List UInt8} (h:zo3 l=(t,0)):pEs t=(l,0):=by
 unfold zo3 at h
 by_cases h0:z4y l=0
 ·rw [if_pos h0] at h
  obtain ⟨h16,hok,hdeep⟩:=z2p.1 h0
  cases hp:prX l with
  | pan c =>
   rw [hp] at h
   have hd:∀ x∈l,x.z0t=true→z6n x.zw=0:=fun x hx hs=>by
    have:=List.any_eq_false.1 hdeep x hx
    simpa [hs] using this
   rcases zdg hd with ⟨js,e⟩|e
   ·rw [e] at hp;cases hp
   ·rw [e] at hp;cases hp;cases h
  | ok js =>
   rw [hp] at h
   simp only [print] at h
   obtain ⟨r1,r2⟩:=zr2 hok hp
   obtain ⟨r3,_⟩:=zkl hok hp
   rw [if_pos (zrr (zc0 hok hp))] at h
   by_cases hl:16384<(prJ (zoe js)).length
   ·rw [if_pos hl] at h;cases h
   ·rw [if_neg hl] at h
    have ht:prJ (zoe js)=t:=congrArg Prod.fst h
    have hpar:=zis (zrr (zc0 hok hp)) (by omega)
    rw [ht] at hpar
    unfold pEs
    rw [hpar]
    have hm:z7v (zoe js) zte=(⟨5,[],js,[]⟩,true):=rfl
    simp only [hm,r2,not_true_eq_false,Bool.true_eq_false,or_self,if_false,r1]
    rw [if_neg (by omega)]
 ·rw [if_neg h0] at h
  exact (h0 (congrArg Prod.snd h)).elim
theorem zzw {o:J} {x:ED} (h:rdE o = .ok x):z5j x=true∧(x.z0t=true→z6n x.zw=0)∧x.zw.sz≤204801:=by
 unfold rdE at h
 simp only at h
 split at h
 ·cases h
 ·split at h
  ·cases h
  ·rename_i h2
   split at h
   ·cases h
   ·split at h
    ·cases h
    ·split at h
     ·cases h
     ·rename_i h5
      simp only [Rs.ok.injEq] at h
      subst h
      refine ⟨by simpa using h5,fun hs => ?_,?_⟩
      ·simp only at hs ⊢
       have h2:(z3o (say o z3q).1).2=0:=by simpa using h2
       unfold z3o at h2 ⊢
       rw [if_pos hs] at h2 ⊢
       exact zzq (Prod.ext rfl h2)
      ·simp only
       unfold z3o
       split
       ·exact zx4 _
       ·decide
theorem zve:∀ {js:List J} {l:List ED},rdL js = .ok l→l.length=js.length∧∀ x∈l,z5j x=true∧(x.z0t=true→z6n x.zw=0)∧x.zw.sz≤204801
 | [],l,h=>by simp only [rdL,Rs.ok.injEq] at h;subst h;exact ⟨rfl,fun x hx=>(by cases hx)⟩
 | o::js,l,h=>by
  simp only [rdL] at h
  split at h
  ·cases h
  ·rename_i x hx
   split at h
   ·cases h
   ·rename_i xs hxs
    cases h
    obtain ⟨h1,h2⟩:=zve hxs
    refine ⟨by simp [h1],fun y hy => ?_⟩
    rcases List.mem_cons.1 hy with rfl|hy
    ·exact zzw hx
    ·exact h2 y hy
theorem zqu (s:List UInt8):(∃ c,¬c=0∧pEs s=([],c))∨∃ l,pEs s=(l,0)∧z4y l=0∧(∀ x∈l,x.z0t=true→z6n x.zw=0)∧z4g l≤3500000:=by
 unfold pEs
 simp only
 split
 ·exact .inl ⟨190,by decide,rfl⟩
 ·split
  ·exact .inl ⟨191,by decide,rfl⟩
  ·rename_i h16
   cases hr:rdL (z7v (parse s).1 zte).1.zf with
   | pan c =>
    refine .inl ⟨c,?_,rfl⟩
    have key:∀ (js:List J) (c:Int),rdL js = .pan c→¬c=0:=by
     intro js
     induction js with
     | nil=>intro c h;cases h
     | cons o js ih =>
      intro c h
      simp only [rdL] at h
      split at h
      ·rename_i c' h1;cases h;exact zr1 h1
      ·split at h
       ·rename_i c' h2;cases h;exact ih _ h2
       ·cases h
    exact key _ _ hr
   | ok l =>
    obtain ⟨h1,h2⟩:=zve hr
    refine .inr ⟨l,rfl,z2p.2 ⟨by omega,fun x hx=>(h2 x hx).1,List.any_eq_false.2 fun x hx => ?_⟩,fun x hx=>(h2 x hx).2.1,?_⟩
    ·intro q
     simp only [Bool.and_eq_true,Bool.not_eq_true',decide_eq_false_iff_not] at q
     exact q.2 ((h2 x hx).2.1 q.1)
    ·have key:∀ l:List ED,(∀ x∈l,z5j x=true∧x.zw.sz≤204801)→z4g l≤214000*l.length:=by
      intro l
      induction l with
      | nil=>intro _;simp [z4g]
      | cons x l ih =>
       intro hl
       have a:=ih fun y hy=>hl y (List.mem_cons_of_mem _ hy)
       obtain ⟨b1,b2⟩:=hl x List.mem_cons_self
       have b3:=z7r (z4u b1)
       obtain ⟨b4,b5⟩:=z7g (z9b b1)
       have b6:=zm3 b5
       have b7:x.sz=x.zg.length+x.zw.sz+kys x.zh+1:=rfl
       have b8:z4g (x::l)=x.sz+z4g l:=by simp [z4g]
       rw [b8,List.length_cons]
       omega
     have:=key l fun x hx=>⟨(h2 x hx).1,(h2 x hx).2.2⟩
     omega
theorem z8e {l:List ED} {f:Nat} (hf:z4g l≤f) (hl:z4g l<1000000000):M.q3v f l l=some true:=by
 have hlen:l.length≤z4g l:=z7l (g:=fun x:ED=>x.sz) (fun x=>by unfold q00.sz;omega) l
 have hm:∀ x∈l,x.sz≤z4g l:=fun x hx=>zaq (g:=fun x:ED=>x.sz) hx
 have hk:∀ (n i:Nat),l.length - i=n→i≤l.length→M.z10 l l f (i:Int)=some (.go ()):=by
  intro n
  induction n with
  | zero =>
   intro i h1 h2
   have:i=l.length:=by omega
   subst this
   rw [M.z10]
   simp
  | succ n ih =>
   intro i h1 h2
   have hi:i<l.length:=by omega
   have hsz:=hm _ (List.getElem_mem hi)
   have hx2:q00.sz l[i]=l[i].zg.length+l[i].zw.sz+kys l[i].zh+1:=rfl
   have hsm:z52 l[i]:=by unfold z52;omega
   rw [M.z10]
   simp only [show ((i:Int)<(l.length:Int)) by omega,decide_true,if_true,z4a,List.getElem?_eq_getElem hi,Option.bind_eq_bind,Option.bind_some,Bool.not_true,Bool.false_eq_true,if_false,beq_self_eq_true,z9v f _ (show l[i].zw.sz≤f by omega) hsm.parts.2.1,z6c hsm.parts.2.2.1]
   rw [w1 (by omega),ih (i+1) (by omega) (by omega)]
 have h0:=hk _ 0 rfl (Nat.zero_le _)
 have h0':M.z10 l l f 0=some (.go ()):=h0
 unfold M.q3v
 simp [h0']
theorem zi9 {l:List ED} {s:List UInt8} {f:Nat} (hl:z4g l≤1048576) (hf:20000000≤f):M.q17 f l s=some true:=by
 unfold M.q17
 rw [z5d (by omega) (by omega),z7q hf]
 simp only [Option.bind_eq_bind,Option.bind_some,Bool.not_true,Bool.false_eq_true,if_false,z5c _ hf]
 have hq:(if decide ((zo3 l).2=0)=true then (if (!decide ((pEs (zo3 l).1).2=0))=true then some true else (M.q3v f l (pEs (zo3 l).1).1).bind fun a=>some (!a)).bind fun j=>if j=true then some (Jn.done false) else some (Jn.go ()) else some (Jn.go ()):Option (Jn Bool Unit))=some (.go ()):=by
  by_cases h0:(zo3 l).2=0
  ·have h1:pEs (zo3 l).1=(l,0):=zmh (Prod.ext rfl h0)
   simp [h0,h1,z8e (f:=f) (l:=l) (by omega) (by omega)]
  ·simp [h0]
 rw [hq]
 simp only [Option.bind_some]
 rcases zqu s with ⟨c,hc,e⟩|⟨m,e,h1,h2,h3⟩
 ·rw [e]
  simp [hc]
 ·rw [e]
  simp only [decide_true,Bool.not_true,Bool.false_eq_true,if_false]
  rw [z5d (by omega) (by omega),z2o (by omega) (by omega),h1]
  simp only [Option.bind_some]
  have hp:(∃ t,zo3 m=(t,0))∨zo3 m=([],191)∨zo3 m=([],22):=by
   obtain ⟨_,hok,_⟩:=z2p.1 h1
   unfold zo3
   rw [if_pos h1]
   rcases zdg h2 with ⟨js,ej⟩|ej
   ·rw [ej]
    simp only [print]
    rw [if_pos (zrr (zc0 hok ej))]
    by_cases hlen:16384<(prJ (zoe js)).length
    ·rw [if_pos hlen];exact .inr (.inr rfl)
    ·rw [if_neg hlen];exact .inl ⟨_,rfl⟩
   ·rw [ej];exact .inr (.inl rfl)
  rcases hp with ⟨t,ep⟩|ep|ep
  ·rw [ep]
   have:=zmh ep
   simp [this,z8e (f:=f) (l:=m) (by omega) (by omega)]
  ·rw [ep];simp
  ·rw [ep];simp
end Go.Sen
end
section
namespace Go.Sen
open Go.Lk Go.Pe
end Go.Sen
end
section
namespace Go.Sen
open Go.Lk Go.Pe
end Go.Sen
end
