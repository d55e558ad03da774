import Derived.Test.YtmmgdladipbedaaGreatDoorRPaP5
set_option linter.all false
section
namespace Go.Sen
open _root_.Option renaming bind_eq_bind → ya, bind_some → yb
open _root_.List renaming drop_eq_getElem_cons → yc, drop_eq_nil_of_le → yd, getElem?_eq_getElem → ye, length_drop → yf
open _root_.Nat renaming le_of_not_lt → yg
open IntKind renaming wrap → yh
open Go.Lk Go.Pe
theorem z2j (b:UInt8):M.q3c (b.toNat:Int)=some (isD b):=by
 unfold M.q3c isD
 congr 2
 ·exact decide_eq_decide.2 (by omega)
 ·exact decide_eq_decide.2 (by omega)
theorem z4k {s:List UInt8} {i:Nat} (h:i<s.length):z42 (s.drop i)=if isD s[i] then z42 (s.drop (i+1))+1 else 0:=by
 rw [yc h,zfu]
theorem z5i {s:List UInt8} {i:Nat} (h:s.length≤i):z42 (s.drop i)=0:=by
 rw [yd h]
 rfl
theorem zwf {s:List UInt8} (hs:s.length<1152921504606846976):∀ (n i:Nat),s.length - i=n→i≤s.length→M.z1r s (i:Int)=some ((i+z42 (s.drop i):Nat):Int):=by
 intro n
 induction n with
 | zero =>
  intro i hn hi
  rw [M.z1r.eq_1]
  have:¬((i:Int)<(s.length:Int)):=by omega
  simp [this,z5i (show s.length≤i by omega)]
 | succ n ih =>
  intro i hn hi
  have hlt:i<s.length:=by omega
  rw [M.z1r.eq_1]
  have:((i:Int)<(s.length:Int)):=by omega
  simp only [this,decide_true,if_true,z2r,ye hlt,ya,yb,z2j]
  rw [z4k hlt]
  cases hd:isD s[i] with
  | false=>simp
  | true =>
   simp only [if_true]
   rw [w1 (by omega),ih (i+1) (by omega) (by omega)]
   congr 2
   omega
theorem zwg {s:List UInt8} (hs:s.length<1152921504606846976):∀ (n i:Nat),s.length - i=n→i≤s.length→M.z29 s (i:Int)=some ((i+z42 (s.drop i):Nat):Int):=by
 intro n
 induction n with
 | zero =>
  intro i hn hi
  rw [M.z29.eq_1]
  have:¬((i:Int)<(s.length:Int)):=by omega
  simp [this,z5i (show s.length≤i by omega)]
 | succ n ih =>
  intro i hn hi
  have hlt:i<s.length:=by omega
  rw [M.z29.eq_1]
  have:((i:Int)<(s.length:Int)):=by omega
  simp only [this,decide_true,if_true,z2r,ye hlt,ya,yb,z2j]
  rw [z4k hlt]
  cases hd:isD s[i] with
  | false=>simp
  | true =>
   simp only [if_true]
   rw [w1 (by omega),ih (i+1) (by omega) (by omega)]
   congr 2
   omega
theorem zwe {s:List UInt8} (hs:s.length<1152921504606846976) {b:Nat} (hb:b<s.length) (hz:¬s[b]=48):∀ (n i:Nat),s.length - i=n→i≤s.length→M.z13 s (b:Int) (i:Int)=some ((i+z42 (s.drop i):Nat):Int):=by
 intro n
 induction n with
 | zero =>
  intro i hn hi
  rw [M.z13.eq_1]
  have:¬((i:Int)<(s.length:Int)):=by omega
  simp [this,z5i (show s.length≤i by omega)]
 | succ n ih =>
  intro i hn hi
  have hlt:i<s.length:=by omega
  rw [M.z13.eq_1]
  have:((i:Int)<(s.length:Int)):=by omega
  have t:¬(((s[b]).toNat:Int)=48):=fun e=>hz ((toNat_eq (n:=48) (by omega)).1 e)
  simp only [this,decide_true,if_true,z2r,ye hlt,ye hb,ya,yb,z2j,t,decide_false,Bool.not_false]
  rw [z4k hlt]
  cases hd:isD s[i] with
  | false=>simp
  | true =>
   have:(if decide ((i:Int)=(b:Int))=true then some true else some true)=some true:=by split<;>rfl
   simp only [if_true,this,yb]
   rw [w1 (by omega),ih (i+1) (by omega) (by omega)]
   congr 2
   omega
theorem zr4 {s:List UInt8} (hs:s.length<1152921504606846976) {b:Nat} (hb:b≤s.length):M.z13 s (b:Int) (b:Int)=some ((b+z4v (s.drop b):Nat):Int):=by
 rcases Nat.lt_or_ge b s.length with h|h
 ·by_cases hz:s[b]=48
  ·rw [M.z13.eq_1]
   have h1:((b:Int)<(s.length:Int)):=by omega
   have h2:isD 48=true:=by decide
   simp only [h1,decide_true,if_true,z2r,ye h,ya,yb,z2j,hz,h2]
   rw [w1 (by omega),M.z13.eq_1]
   have e1:z4v (s.drop b)=1:=by unfold z4v;rw [getD,ye h,hz];rfl
   rw [e1]
   by_cases h3:b+1<s.length
   ·have h4:(((b+1:Nat):Int)<(s.length:Int)):=by omega
    have h5:¬(((b+1:Nat):Int)=(b:Int)):=by omega
    simp only [h4,decide_true,if_true,z2r,ye h3,ye h,ya,yb,z2j,h5,decide_false,hz]
    cases isD s[b+1]<;>simp
   ·have h4:¬((b:Int)+1<(s.length:Int)):=by omega
    simp [h4]
  ·rw [zwe hs h hz _ b rfl hb]
   have e1:z4v (s.drop b)=z42 (s.drop b):=by unfold z4v;rw [getD,ye h];simp [hz]
   rw [e1]
 ·rw [M.z13.eq_1]
  have:¬((b:Int)<(s.length:Int)):=by omega
  have e1:z4v (s.drop b)=0:=by rw [yd h];rfl
  simp [this,e1]
theorem zeu {s:List UInt8} (h:s.length<1152921504606846976):M.q3e s=some (num s:Int):=by
 unfold M.q3e
 have a1:(do
   let j_13←(do
     if (decide (0<(s.length:Int))) then
      let c_14←ix s 0
      some (decide ((c_14.toNat:Int)=45))
     else
      some false:Option Bool)
   if j_13 then
    some (yh .i64 (0+1))
   else
    some 0:Option Int)=some ((sgn s:Nat):Int):=by
  unfold sgn
  cases s with
  | nil=>rfl
  | cons c r =>
   have h1:(0:Int)<((c::r).length:Int):=by simp only [List.length_cons];omega
   have t1:((c.toNat:Int)=45)↔c=45:=toNat_eq (n:=45) (by omega)
   simp only [h1,decide_true,if_true,zlt,List.getElem?_cons_zero,ya,yb,t1,List.head?_cons,Option.some.injEq]
   by_cases hc:c=45<;>simp [hc]
   rfl
 rw [a1]
 simp only [ya,yb]
 have l1:=zp2 s
 rw [zr4 h l1]
 simp only [yb]
 unfold num
 simp only
 generalize hi:sgn s=i at *
 have l2:=zi2 (s.drop i)
 rw [yf] at l2
 by_cases hz:z4v (s.drop i)=0
 ·rw [if_pos (by simp [hz]),if_pos hz];rfl
 rw [if_neg (by simp;omega),if_neg hz]
 have hk:i+z4v (s.drop i)≤s.length:=by omega
 generalize i+z4v (s.drop i)=j at *
 clear a1
 have a3 : (do
    let j_132←(do
      if (decide ((yh .i64 ((j:Int)+1))<(s.length:Int))) then
       let c_133←ix s (j:Int)
       some (decide ((c_133.toNat:Int)=46))
      else
       some false:Option Bool)
    let j_138←(do
      if j_132 then
       let c_139←ix s (yh .i64 ((j:Int)+1))
       let a_140←M.q3c (c_139.toNat:Int)
       some a_140
      else
       some false:Option Bool)
    if j_138 then
     M.z1r s (yh .i64 ((j:Int)+1))
    else
     some (j:Int):Option Int)=some ((j+z7a (s.drop j):Nat):Int):=by
  rw [w1 (by omega)]
  by_cases h1:j+1<s.length
  ·have h1':(((j+1:Nat):Int)<(s.length:Int)):=by omega
   have h2:j<s.length:=by omega
   have t1:(((s[j]).toNat:Int)=46)↔s[j]=46:=toNat_eq (n:=46) (by omega)
   simp only [h1',decide_true,if_true,z2r,ye h1,ye h2,ya,yb,t1,z2j]
   rw [yc h2]
   by_cases hc:s[j]=46
   ·rw [hc]
    unfold z7a
    simp only [decide_true,if_true,yb]
    have hd:=z4k h1
    cases hq:isD s[j+1] with
    | false=>rw [hq] at hd;simp at hd;simp [hd]
    | true =>
     rw [hq] at hd
     simp only [if_true] at hd ⊢
     rw [zwf h _ (j+1) rfl (by omega),if_pos (by omega)]
     congr 2
     omega
   ·have:z7a (s[j]::s.drop (j+1))=0:=by
     unfold z7a
     split
     ·rename_i r hr
      injection hr with e1 e2
      exact absurd e1 hc
     ·rfl
    rw [this]
    simp [hc]
  ·have h1':¬((j:Int)+1<(s.length:Int)):=by omega
   have:z7a (s.drop j)=0:=by
    unfold z7a
    split
    ·rename_i r hr
     obtain ⟨_,g2,g3⟩:=ze5 hr
     have:r=[]:=by rw [←g2];exact yd (by omega)
     rw [this]
     rfl
    ·rfl
   rw [this]
   simp [h1']
 simp only [ya] at a3
 rw [a3]
 simp only [yb]
 have l3:=zhz (s.drop j)
 rw [yf] at l3
 have hk2:j+z7a (s.drop j)≤s.length:=by omega
 generalize j+z7a (s.drop j)=k at *
 clear a3
 by_cases hks:k<s.length
 ·have hks':((k:Int)<(s.length:Int)):=by omega
  have hdr:s.drop k=s[k]::s.drop (k+1):=by simp
  simp only [hks',decide_true,if_true,z2r,ye hks,yb]
  have ec:(if (decide (((s[k]).toNat:Int)=101))=true then some true else some (decide (((s[k]).toNat:Int)=69)))=some (decide (s[k]=101∨s[k]=69)):=by
   have t1:(((s[k]).toNat:Int)=101)↔s[k]=101:=toNat_eq (n:=101) (by omega)
   have t2:(((s[k]).toNat:Int)=69)↔s[k]=69:=toNat_eq (n:=69) (by omega)
   simp only [t1,t2]
   by_cases q:s[k]=101<;>simp [q]
  rw [ec]
  simp only [yb]
  rw [hdr]
  unfold zcm
  simp only
  by_cases hc:s[k]=101∨s[k]=69
  ·rw [if_pos (by simpa using hc),if_pos hc,w1 (by omega)]
   have es:(do
     let j_60 ← (if decide (((k + 1 : Nat) : Int) < (s.length : Int)) = true then do
        let c_61←ix s ((k+1:Nat):Int)
        if decide ((c_61.toNat:Int)=43)=true then some true
        else do
         let c_62←ix s ((k+1:Nat):Int)
         some (decide ((c_62.toNat:Int)=45))
       else some false)
     if j_60=true then some (yh .i64 (((k+1:Nat):Int)+1)) else some ((k+1:Nat):Int))=some ((k+1+z63 (s.drop (k+1)):Nat):Int):=by
    unfold z63
    rw [getD]
    by_cases hk1:k+1<s.length
    ·have:(((k+1:Nat):Int)<(s.length:Int)):=by omega
     simp only [this,decide_true,if_true,z2r,ye hk1,ya,yb]
     have t1:(((s[k+1]).toNat:Int)=43)↔s[k+1]=43:=toNat_eq (n:=43) (by omega)
     have t2:(((s[k+1]).toNat:Int)=45)↔s[k+1]=45:=toNat_eq (n:=45) (by omega)
     simp only [t1,t2,Option.some.injEq]
     have ww:yh .i64 (((k+1:Nat):Int)+1)=((k+1+1:Nat):Int):=w1 (by omega)
     rw [ww]
     by_cases q:s[k+1]=43
     ·simp [q]
     ·by_cases q2:s[k+1]=45
      ·simp [q2]
      ·simp [q,q2]
    ·have:¬((k:Int)+1<(s.length:Int)):=by omega
     simp [this,List.getElem?_eq_none (yg hk1)]
   simp only [ya] at es
   rw [es]
   simp only [yb]
   have l4:=ziy (s.drop (k+1))
   rw [yf] at l4
   have edd:s.drop (k+1+z63 (s.drop (k+1)))=(s.drop (k+1)).drop (z63 (s.drop (k+1))):=by rw [List.drop_drop]
   rw [zwg h _ _ rfl (by omega),edd]
   simp only [yb]
   generalize z42 ((s.drop (k+1)).drop (z63 (s.drop (k+1))))=y at *
   generalize z63 (s.drop (k+1))=z at *
   by_cases hd:0<y
   ·rw [if_pos (by simp only [decide_eq_true_eq];omega),if_pos hd]
    simp only [yb]
    congr 2
    omega
   ·rw [if_neg (by simp only [decide_eq_true_eq];omega),if_neg hd]
    rfl
  ·rw [if_neg (by simpa using hc),if_neg hc]
   rfl
 ·have hks':¬((k:Int)<(s.length:Int)):=by omega
  rw [yd (yg hks)]
  simp [hks',zcm]
end Go.Sen
end
section
namespace Go.Sen
open _root_.Option renaming bind_eq_bind → ya, bind_some → yb
open _root_.Bool renaming and_comm → yc, and_left_comm → yd
open _root_.List renaming drop_zero → ye, isPrefixOf → yf, le_antisymm → yg, length_cons → yh, nodup_iff_pairwise_ne → yi, pairwise_iff_getElem → yj
open Go.Lk Go.Pe
theorem z9z {P:UInt8→Prop} (h:∀ n:Fin 256,P (UInt8.ofNat n.val)) (b:UInt8):P b:=by
 have:=h ⟨b.toNat,z8v⟩
 simpa using this
theorem z3l (c:UInt8) (s:List UInt8):[c].isPrefixOf s=decide (s.head? = some c):=by
 cases s with
 | nil=>rfl
 | cons d r =>
  by_cases h:c=d
  ·simp [yf,h]
  ·have:¬d=c:=fun e=>h e.symm
   simp [yf,h,this]
def kys (ks:List (List UInt8)):Nat:=(ks.map fun k=>k.length+1).sum
mutual
def q03.sz:q03→Nat
 | ⟨_,t,l,ks⟩=>szs l+t.length+kys ks+1
def szs:List q03→Nat
 | []=>0
 | x::xs=>x.sz+szs xs+1
end
theorem q03.z2c (v:q03):v.sz=szs v.ze+v.z0r.length+kys v.z0m+1:=by cases v;simp [q03.sz]
theorem z7x:kys []=0:=rfl
theorem z3t (k:List UInt8) (ks:List (List UInt8)):kys (k::ks)=k.length+1+kys ks:=by simp [kys]
theorem z5q:∀ ks:List (List UInt8),ks.length≤kys ks
 | []=>by simp
 | k::ks=>by have:=z5q ks;rw [z3t,yh];omega
theorem zee:∀ {ks:List (List UInt8)} {k:List UInt8},k∈ks→k.length<kys ks
 | a::ks,k,h=>by
  rw [z3t]
  rcases List.mem_cons.1 h with rfl|h
  ·omega
  ·have:=zee h;omega
theorem zf3:∀ {l:List q03} {x:q03},x∈l→x.sz<szs l
 | y::l,x,hx=>by
  simp only [szs]
  rcases List.mem_cons.1 hx with rfl|hx
  ·omega
  ·have:=zf3 hx;omega
theorem zca:∀ l:List q03,l.length≤szs l
 | []=>by simp
 | y::l=>by have:=zca l;simp only [szs,yh];omega
def frm (k:Int) (t:List UInt8) (n:Nat) (ks:List (List UInt8)):Bool :=
 ks.all Lib.validD &&
 if k=0∨k=1∨k=2 then decide (t=[])&&decide (n=0)&&decide (ks=[])
 else if k=3 then !decide (t=[])&&decide (num t=t.length)&&decide (n=0)&&decide (ks=[])
 else if k=4 then Lib.validD t&&decide (n=0)&&decide (ks=[])
 else if k=5 then decide (t=[])&&decide (ks=[])
 else if k=6 then decide (t=[])&&decide (ks.length=n)&&decide ks.Nodup
 else false
mutual
def z8f:q03→Nat→Int
 | ⟨k,t,l,ks⟩,w=>if (k=5∨k=6)∧16≤w then 21 else if frm k t l.length ks=false then 23 else zce l (w+1)
def zce:List q03→Nat→Int
 | [],_=>0
 | x::xs,w=>if z8f x w=0 then zce xs w else z8f x w
end
theorem z5h (v:q03) (w:Nat):z8f v w=if (v.zc=5∨v.zc=6)∧16≤w then 21 else if frm v.zc v.z0r v.ze.length v.z0m=false then 23 else zce v.ze (w+1):=by cases v;simp only [z8f]
def zot (e:Int):Rs Unit:=if e=0 then .ok () else .pan e
theorem zgj (e:Int):M.q0r true e=some (.ok ()):=by simp [M.q0r]
instance:Std.Antisymm (α:=List UInt8) (· ≤ ·):=⟨fun _ _ h1 h2=>yg h1 h2⟩
theorem zp5 (l:List (List UInt8)):(l.mergeSort fun x y=>decide (x≤y)).Pairwise (· ≤ ·):=by
 have:=List.pairwise_mergeSort (le:=fun x y:List UInt8=>decide (x≤y)) (by intro a b c h1 h2;simp only [decide_eq_true_eq] at *;exact List.le_trans h1 h2) (by intro a b;simp only [Bool.or_eq_true,decide_eq_true_eq];exact List.le_total a b) l
 exact this.imp fun h=>by simpa using h
theorem zh9 {m:List (List UInt8)} (hs:m.Pairwise (· ≤ ·)):(∀ j,j<m.length→Lib.keeps m.toArray j=true)↔m.Nodup:=by
 have get:∀ i (h:i<m.length),m.toArray[i]! = m[i]:=fun i h=>by simp [h]
 rw [yj] at hs
 constructor
 ·intro hk
  rw [yi,yj]
  intro i j hi hj hij he
  have h1:=hk j hj
  unfold Lib.keeps at h1
  simp only [decide_eq_true_eq] at h1
  rcases h1 with h1|h1
  ·omega
  ·rw [get j hj,get (j - 1) (by omega)] at h1
   apply h1
   have h3:m[j - 1]≤m[j]:=hs (j - 1) j (by omega) hj (by omega)
   rcases Nat.lt_or_ge i (j - 1) with h|h
   ·have h2:m[i]≤m[j - 1]:=hs i (j - 1) hi (by omega) h
    rw [he] at h2
    exact yg h2 h3
   ·have:i=j - 1:=by omega
    subst this
    exact he.symm
 ·intro hn j hj
  unfold Lib.keeps
  simp only [decide_eq_true_eq]
  rcases Nat.eq_zero_or_pos j with h|h
  ·exact .inl h
  ·refine .inr ?_
   rw [get j hj,get (j - 1) (by omega)]
   rw [yi,yj] at hn
   exact fun e=>hn (j - 1) j (by omega) hj (by omega) e.symm
theorem zhs (m:List (List UInt8)):(Lib.compact m).length=m.length↔∀ j,j<m.length→Lib.keeps m.toArray j=true:=by
 unfold Lib.compact Lib.compactUpTo
 rw [List.length_map]
 conv=>lhs;rhs;rw [←List.length_range (n:=m.length)]
 rw [List.length_filter_eq_length_iff]
 simp
theorem zh7 {l:List (List UInt8)} (h:l.length*16≤140737488355328):M.single l=some (decide l.Nodup):=by
 unfold M.single
 rw [z2z (by simpa using h)]
 simp only [ya,yb,Option.some.injEq]
 apply decide_eq_decide.2
 rw [←List.Perm.nodup_iff (List.mergeSort_perm l fun x y=>decide (x≤y)),←zh9 (zp5 l),←zhs,List.length_mergeSort]
 omega
theorem z2t {s:List UInt8} (h:s.length≤9223372036854775807):M.z0i s=some (Lib.validD s):=by
 unfold M.z0i
 rw [z2z (by simpa using h)]
 rfl
theorem zg5 {ks:List (List UInt8)} (hs:∀ k∈ks,k.length<1152921504606846976) (hl:ks.length<1152921504606846976):∀ (n i:Nat),ks.length - i=n→i≤ks.length →
  ∃ r,M.zo ks (i:Int)=some r∧(((ks.drop i).all Lib.validD=true∧r = .go ())∨((ks.drop i).all Lib.validD=false∧∃ j:Nat,r = .done (j:Int))):=by
 intro n
 induction n with
 | zero =>
  intro i hn hi
  rw [M.zo.eq_1]
  have:¬((i:Int)<(ks.length:Int)):=by omega
  exact ⟨_,by rw [if_neg (by simpa using this)],.inl ⟨by rw [List.drop_eq_nil_of_le (by omega)];rfl,rfl⟩⟩
 | succ n ih =>
  intro i hn hi
  have hlt:i<ks.length:=by omega
  rw [M.zo.eq_1]
  have h1:((i:Int)<(ks.length:Int)):=by omega
  have h2:=hs ks[i] (List.getElem_mem hlt)
  unfold M.q0o
  simp only [h1,decide_true,if_true,z2r,List.getElem?_eq_getElem hlt,ya,yb]
  rw [z2t (by omega),List.drop_eq_getElem_cons hlt]
  simp only [yb,List.all_cons]
  cases hv:Lib.validD ks[i] with
  | false=>exact ⟨_,by simp,.inr ⟨by simp,i,rfl⟩⟩
  | true =>
   rw [w1 (by omega)]
   obtain ⟨r,h3,h4⟩:=ih (i+1) (by omega) (by omega)
   exact ⟨r,by simpa using h3,by simpa using h4⟩
theorem zb2 {ks:List (List UInt8)} (hs:∀ k∈ks,k.length<1152921504606846976) (hl:ks.length<1152921504606846976):M.q58 ks=some (!ks.all Lib.validD):=by
 unfold M.q58 M.q5n
 obtain ⟨r,h1,h2⟩:=zg5 hs hl _ 0 rfl (Nat.zero_le _)
 have h1:M.zo ks 0=some r:=h1
 rw [h1]
 rcases h2 with ⟨h3,rfl⟩|⟨h3,j,rfl⟩
 ·simp only [ye] at h3
  rw [h3]
  simp
 ·simp only [ye] at h3
  rw [h3]
  simp
theorem zg9 {k:Int} {t:List UInt8} {n:Nat} {ks:List (List UInt8)} (hw:¬(k=5∨k=6)∨True) :
  frm k t n ks=(((decide (0≤k))&&(decide (k<7)))&&((((decide (k=5))||(decide (k=6)))||(decide ((n:Int)=0)))&&((((decide (k=6))&&(decide ((ks.length:Int)=(n:Int))))||((decide ((ks.length:Int)=0))&&(!decide (k=6)))) &&
   ((ks.all Lib.validD&&decide ks.Nodup)&&(if k=3 then !decide (t=[])&&decide (num t=t.length) else if k=4 then Lib.validD t else decide (t=[])))))):=by
 have k0:((ks.length:Int)=0)↔ks=[]:=by rw [←List.length_eq_zero_iff];omega
 have n0:((n:Int)=0)↔n=0:=by omega
 simp only [k0,n0]
 unfold frm
 by_cases h0:k=0
 ·subst h0;cases ks<;>simp [and_comm,yc]
 by_cases h1:k=1
 ·subst h1;cases ks<;>simp [and_comm,yc]
 by_cases h2:k=2
 ·subst h2;cases ks<;>simp [and_comm,yc]
 by_cases h3:k=3
 ·subst h3;cases ks<;>simp [yc,yd]
 by_cases h4:k=4
 ·subst h4;cases ks<;>simp [yc,yd]
 by_cases h5:k=5
 ·subst h5;cases ks<;>simp
 by_cases h6:k=6
 ·subst h6
  have:(((ks.length:Int)=(n:Int)))↔ks.length=n:=by omega
  simp [this,yc,yd,Bool.and_assoc]
 have:((decide (0≤k))&&(decide (k<7)))=false:=by
  rw [←Bool.not_eq_true,Bool.and_eq_true,decide_eq_true_iff,decide_eq_true_iff]
  omega
 rw [this]
 simp [h0,h1,h2,h3,h4,h5,h6]
end Go.Sen
end
section
namespace Go.Sen
open _root_.Option renaming bind_eq_bind → ya, bind_some → yb
open _root_.Bool renaming not_eq_true → yc, not_eq_true' → yd, or_eq_true → ye
open _root_.List renaming drop_eq_getElem_cons → yf, drop_eq_nil_of_le → yg, getElem?_eq_getElem → yh, nodup_append → yi
open _root_.Nat renaming zero_le → yj
open Go.Lk Go.Pe
theorem z1s (b:Bool) (e:Int):M.q0r b e=some (if b=true then .ok () else .pan e):=by cases b<;>simp [M.q0r]
theorem zaz (x:q03) (xs:List q03) (w:Nat):zce (x::xs) w=if z8f x w=0 then zce xs w else z8f x w:=by simp only [zce]
theorem zle {v:q03} {self:q03→Int→Option (Rs Unit)} {w:Nat} (hw:w≤16) (hl:v.ze.length<1152921504606846976) (hs:∀ x∈v.ze,self x ((w+1:Nat):Int)=some (zot (z8f x (w+1)))) :
  ∀ (n i:Nat),v.ze.length - i=n→i≤v.ze.length→M.z18 v self (w:Int) (i:Int)=some (zot (zce (v.ze.drop i) (w+1))):=by
 intro n
 induction n with
 | zero =>
  intro i hn hi
  rw [M.z18.eq_1]
  have:¬((i:Int)<(v.ze.length:Int)):=by omega
  rw [if_neg (by simpa using this),yg (by omega)]
  rfl
 | succ n ih =>
  intro i hn hi
  have hlt:i<v.ze.length:=by omega
  rw [M.z18.eq_1]
  have h1:((i:Int)<(v.ze.length:Int)):=by omega
  simp only [h1,decide_true,if_true,z2r,yh hlt,ya,yb]
  rw [w1 (n:=w) (by omega),hs _ (List.getElem_mem hlt),w1 (by omega),ih (i+1) (by omega) (by omega),yf hlt,zaz]
  simp only [yb]
  unfold zot
  by_cases hc:z8f v.ze[i] (w+1)=0
  ·simp [hc]
  ·simp [hc]
def Small (v:q03):Prop:=v.sz<1000000000
theorem Small.mem {v x:q03} (h:Small v) (hx:x∈v.ze):Small x:=by
 unfold Small at *
 have:=zf3 hx
 rw [q03.z2c v] at h
 omega
theorem Small.parts {v:q03} (h:Small v):v.z0r.length<1000000000∧v.ze.length<1000000000∧v.z0m.length<1000000000∧∀ k∈v.z0m,k.length<1000000000:=by
 unfold Small at h
 rw [q03.z2c] at h
 have h1:=zca v.ze
 have h2:=z5q v.z0m
 exact ⟨by omega,by omega,by omega,fun k hk=>by have:=zee hk;omega⟩
theorem zbk:∀ (f:Nat) (v:q03) (w:Nat),w≤16→17≤f+w→Small v→M.q0n f v (w:Int)=some (zot (z8f v w)):=by
 intro f
 induction f with
 | zero=>intro v w h1 h2;omega
 | succ f ih =>
  intro v w hw hf hsm
  obtain ⟨s1,s2,s3,s4⟩:=hsm.parts
  have hk1:(v.ze=[]∨w<16)→M.z18 v (M.q0n f) (w:Int) 0=some (zot (zce v.ze (w+1))):=by
   intro h
   refine zle hw (by omega) (fun x hx => ?_) _ 0 rfl (yj _)
   rcases h with h|h
   ·rw [h] at hx;cases hx
   ·exact ih x (w+1) (by omega) (by omega) (hsm.mem hx)
  rw [M.q0n,z5h,zg9 (.inr trivial)]
  simp only [z1s,zb2 (fun k hk=>by have:=s4 k hk;omega) (show v.z0m.length<1152921504606846976 by omega),zh7 (show v.z0m.length*16≤140737488355328 by omega),ya,yb]
  have hj:(if (!(!v.z0m.all Lib.validD))=true then some (decide v.z0m.Nodup) else some false)=some (v.z0m.all Lib.validD&&decide v.z0m.Nodup):=by
   cases v.z0m.all Lib.validD<;>simp
  rw [hj]
  simp only [yb]
  have hn1:=z7j (s:=v.z0r) (by omega)
  have hn2:=z2t (s:=v.z0r) (by omega)
  generalize hb5:(v.z0m.all Lib.validD&&decide v.z0m.Nodup)=b5
  generalize hb4:(decide (v.zc=6)&&decide ((v.z0m.length:Int)=(v.ze.length:Int))||decide ((v.z0m.length:Int)=0) && !decide (v.zc=6))=b4
  generalize hb2:(decide (0≤v.zc)&&decide (v.zc<7))=b2
  by_cases hd:(v.zc=5∨v.zc=6)∧16≤w
  ·have:(!(decide (v.zc=5)||decide (v.zc=6))||decide ((w:Int)<16))=false:=by
    rw [←yc,ye,yd,←yc,ye]
    simp only [decide_eq_true_eq]
    omega
   rw [this,if_pos hd]
   rfl
  ·have h1:(!(decide (v.zc=5)||decide (v.zc=6))||decide ((w:Int)<16))=true:=by
    rw [ye,yd,←yc,ye]
    simp only [decide_eq_true_eq]
    omega
   rw [h1,if_neg hd]
   have h3:(decide (v.zc=5)||decide (v.zc=6)||decide ((v.ze.length:Int)=0))=true→(v.ze=[]∨w<16):=by
    rw [ye,ye]
    simp only [decide_eq_true_eq]
    intro h
    rcases h with h|h
    ·exact .inr (by omega)
    ·exact .inl (List.eq_nil_of_length_eq_zero (by omega))
   generalize (decide (v.zc=5)||decide (v.zc=6)||decide ((v.ze.length:Int)=0))=b3 at *
   cases b2 with
   | false=>rfl
   | true =>
    cases b3 with
    | false=>rfl
    | true =>
     cases b4 with
     | false=>rfl
     | true =>
      cases b5 with
      | false=>rfl
      | true =>
       have hk:=hk1 (h3 rfl)
       have e:((num v.z0r:Nat):Int)=(v.z0r.length:Int)↔num v.z0r=v.z0r.length:=by omega
       simp only [if_true,Bool.true_and]
       by_cases k3:v.zc=3
       ·by_cases ht:v.z0r=[]
        ·simp [k3,ht,zot]
        ·by_cases hn:num v.z0r=v.z0r.length
         ·simp [k3,ht,hn,hn1,hk]
         ·have:¬((num v.z0r:Nat):Int)=(v.z0r.length:Int):=fun x=>hn (e.1 x)
          simp [k3,ht,hn,hn1,this,zot]
       ·by_cases k4:v.zc=4
        ·cases hv:Lib.validD v.z0r<;>simp [k4,hv,hn2,hk,zot]
        ·by_cases ht:v.z0r=[]<;>simp [k3,k4,ht,hk,zot]
theorem ze8 {v:q03} {f:Nat} (hf:17≤f) (h:Small v):M.q0i f v=some (z8f v 0):=by
 unfold M.q0i
 have h1:=zbk f v 0 (by omega) (by omega) h
 have h1:M.q0n f v 0=some (zot (z8f v 0)):=h1
 rw [h1]
 simp only [ya,yb]
 unfold zot
 by_cases hc:z8f v 0=0<;>simp [hc]
theorem zrk {l:List (List UInt8)} (hl:l.length<1152921504606846976) {i:Nat} (hi:i<l.length):∀ (n k:Nat),i - k=n→k≤i →
  M.z1y (i:Int) l (k:Int)=some (if l[i]∈(l.take i).drop k then .done (.done true) else .go ()):=by
 intro n
 induction n with
 | zero =>
  intro k hn hk
  rw [M.z1y.eq_1]
  have:¬((k:Int)<(i:Int)):=by omega
  rw [if_neg (by simpa using this),yg (by simp;omega)]
  simp
 | succ n ih =>
  intro k hn hk
  rw [M.z1y.eq_1]
  have h1:((k:Int)<(i:Int)):=by omega
  have hk':k<l.length:=by omega
  simp only [h1,decide_true,if_true,z2r,yh hi,yh hk',ya,yb]
  rw [w1 (by omega),ih (k+1) (by omega) (by omega)]
  have e:(l.take i).drop k=l[k]::(l.take i).drop (k+1):=by
   rw [yf (by simp;omega)]
   simp
  rw [e]
  by_cases h:l[i]=l[k]
  ·simp [h]
  ·simp [h]
theorem zrj {l:List (List UInt8)} (hl:l.length<1152921504606846976):∀ (n i:Nat),l.length - i=n→i≤l.length→(l.take i).Nodup →
  M.z1x l (i:Int)=some (if l.Nodup then .go () else .done true):=by
 intro n
 induction n with
 | zero =>
  intro i hn hi hd
  rw [M.z1x.eq_1]
  have:¬((i:Int)<(l.length:Int)):=by omega
  rw [List.take_of_length_le (by omega)] at hd
  rw [if_neg (by simpa using this),if_pos hd]
 | succ n ih =>
  intro i hn hi hd
  have hlt:i<l.length:=by omega
  rw [M.z1x.eq_1]
  have h1:((i:Int)<(l.length:Int)):=by omega
  have h2:=zrk hl hlt _ 0 rfl (yj _)
  simp only [h1,decide_true,if_true,ya]
  have h2:M.z1y (i:Int) l 0=_:=h2
  rw [h2]
  simp only [yb,List.drop_zero]
  have e:l.take (i+1)=l.take i++[l[i]]:=by simp
  by_cases hm:l[i]∈l.take i
  ·rw [if_pos hm]
   have:¬l.Nodup:=fun h=>by
    have h3:=(List.take_sublist (i+1) l).nodup h
    rw [e,yi] at h3
    exact h3.2.2 _ hm _ (by simp) rfl
   simp [this]
  ·rw [if_neg hm]
   simp only
   rw [w1 (by omega)]
   refine ih (i+1) (by omega) (by omega) ?_
   rw [e,yi]
   exact ⟨hd,by simp,fun a ha b hb=>by simp at hb;subst hb;intro h;subst h;exact hm ha⟩
theorem zri {l:List (List UInt8)} (hl:l.length<1152921504606846976):M.q3o l=some (!decide l.Nodup):=by
 unfold M.q3o
 have h:=zrj hl _ 0 rfl (yj _) (by simp)
 have h:M.z1x l 0=_:=h
 rw [h]
 by_cases hn:l.Nodup<;>simp [hn]
end Go.Sen
end
