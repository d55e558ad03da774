import Derived.Test.YtfdoofnmjehecaaGreatDoorUHtM
import Derived.Test.YtfdoofnmjehecaaGreatDoorUShL
import Derived.Lib.SplitLaws
import Derived.Lib.AtoiAllCases
import Derived.Lib.MapLaws
import Derived.Lib.TrimAscii
import Derived.Lib.TrimU
import Derived.Lib.TrimUEq
set_option linter.all false
namespace Go.Sen
open _root_.Option renaming bind_eq_bind → ya, bind_eq_some_iff → yb, bind_some → yc, getD_some → yd, map_eq_some_iff → ye, map_some → yf
open _root_.Bool renaming and_comm → yg, and_eq_false_iff → yh, and_eq_true → yi, and_false → yj, and_left_comm → yk, and_self → yl, eq_iff_iff → ym, false_eq_true → yn, not_eq_true → yo, not_eq_true' → yp, not_false → yq, not_true → yr, or_eq_true → ys, true_and → yt, true_eq_false → yu
open _root_.List renaming all_cons → yv, all_eq_true → yw, append_assoc → yx, append_nil → yy, cons_append → yz, dropWhile_sublist → yaa, drop_eq_getElem_cons → yab, drop_eq_nil_of_le → yac, drop_succ_cons → yad, drop_take → yae, drop_zero → yaf, eq_nil_of_length_eq_zero → yag, findIdx?_cons → yah, getElem?_cons_succ → yai, getElem?_cons_zero → yaj, getElem?_eq_getElem → yak, getElem?_eq_none → yal, getElem_mem → yam, head?_cons → yan, isPrefixOf → yao, le_antisymm → yap, length_append → yaq, length_cons → yar, length_drop → yas, length_nil → yat, length_take → yau, map_append → yav, map_cons → yaw, mem_append → yax, mem_cons → yay, mem_singleton → yaz, nil_append → ya0, nodup_iff_pairwise_ne → ya1, pairwise_iff_getElem → ya2, sum_cons → ya3, tail_cons → ya4, takeWhile_cons → ya5, take_length → ya6, take_succ_cons → ya7
open _root_.Nat renaming add_assoc → ya8, add_right_comm → ya9, le_of_not_lt → yba, le_refl → ybb, le_trans → ybc, lt_or_ge → ybd, mul_le_mul_right → ybe, pow_le_pow_right → ybf, pow_succ → ybg, zero_add → ybh, zero_le → ybi
open _root_.Int renaming tmod → ybj
open IntKind renaming wrap → ybk
open _root_.UInt8 renaming ofNat → ybl
section
open Go.Lk Go.Pe
theorem z52 (s p:Z):M.q73 s p=some (p.isPrefixOf s):=by
 unfold M.q73 M.q2z
 by_cases h:p.length≤s.length
 ·have h':((p.length:Int)≤(s.length:Int)):=by omega
  simp only [h',decide_true,if_true,zr5 h,ya,yc,zy1]
 ·have h':¬((p.length:Int)≤(s.length:Int)):=by omega
  have:p.isPrefixOf s=false:=by
   cases hp:p.isPrefixOf s with
   | false=>rfl
   | true=>exact absurd (zn6 hp) h
  simp [h',this]
theorem z50 (s p:Z):M.q72 s p=some (if p.isPrefixOf s then (s.drop p.length,true) else (s,false)):=by
 have h:=z52 s p
 unfold M.q73 at h
 simp only [ya] at h
 unfold M.q72 M.q2y
 cases h1:M.q2z s p with
 | none=>rw [h1] at h;cases h
 | some b =>
  rw [h1] at h
  simp only [yc,Option.some.injEq] at h
  subst h
  cases hb:p.isPrefixOf s with
  | false=>simp
  | true=>simp [zci (zn6 hb)]
def isD (b:UInt8):Bool:=decide (48≤b.toNat)&&decide (b.toNat≤57)
theorem zz01o:∀ b:UInt8,([48,49,50,51,52,53,54,55,56,57]:Z).contains b=isD b:=by
 intro b
 have h:∀ n:Fin 256,([48,49,50,51,52,53,54,55,56,57]:Z).contains (ybl n.val)=isD (ybl n.val):=by decide +kernel
 have:=h ⟨b.toNat,zu0⟩
 simpa using this
def z6y (s:Z):Nat:=(s.takeWhile isD).length
theorem ze2 (s:Z):z6y s≤s.length:=by
 unfold z6y
 exact (List.takeWhile_sublist _).length_le
theorem zs7 (c:UInt8) (s:Z):z6y (c::s)=if isD c then z6y s+1 else 0:=by
 unfold z6y
 rw [ya5]
 split<;>simp
theorem z6g {s:Z} (h:s.length<4611686018427387904):M.q3c s=some (z6y s:Int):=by
 unfold M.q3c M.trimLeft
 have e:(decide ((([48,49,50,51,52,53,54,55,56,57]:Z)).length<4294967281)&&([48,49,50,51,52,53,54,55,56,57]:Z).all fun b=>decide (b.toNat<128))=true:=by decide
 rw [z2s e]
 simp only [ya,yc]
 have e2:Lib.trimLeftS s [48,49,50,51,52,53,54,55,56,57]=s.dropWhile isD:=by
  unfold Lib.trimLeftS
  congr 1
  funext b
  exact zz01o b
 rw [e2]
 have e3:z6y s+(s.dropWhile isD).length=s.length:=by
  unfold z6y
  rw [←yaq,List.takeWhile_append_dropWhile]
 rw [w64 (by omega) (by omega)]
 congr 1
 omega
def sgn (s:Z):Nat:=if s.head? = some 45 then 1 else 0
def z9d (s:Z):Nat:=if s.head? = some 48 then 1 else z6y s
def zda:Z→Nat
 | 46::r=>if 0<z6y r then 1+z6y r else 0
 | _=>0
def z9v (s:Z):Nat:=if s.head? = some 43∨s.head? = some 45 then 1 else 0
def zht:Z→Nat
 | c::r=>if c=101∨c=69 then (if 0<z6y (r.drop (z9v r)) then 1+z9v r+z6y (r.drop (z9v r)) else 0) else 0
 | []=>0
def num (s:Z):Nat :=
 let i:=sgn s
 if z9d (s.drop i)=0 then 0 else
 let i:=i+z9d (s.drop i)
 let i:=i+zda (s.drop i)
 i+zht (s.drop i)
theorem zz00d (s:Z):sgn s≤s.length:=by
 unfold sgn
 cases s<;>simp
 split<;>omega
theorem zv6 (s:Z):z9v s≤s.length:=by
 unfold z9v
 cases s<;>simp
 split<;>omega
theorem zt4 (s:Z):z9d s≤s.length:=by
 unfold z9d
 have:=ze2 s
 cases s with
 | nil=>simp [z6y]
 | cons c r=>split<;>simp_all
theorem zsr (s:Z):zda s≤s.length:=by
 unfold zda
 split
 ·rename_i r
  have:=ze2 r
  split<;>simp<;>omega
 ·simp
theorem zz019 (s:Z):zht s≤s.length:=by
 unfold zht
 split
 ·rename_i c r
  have h1:=zv6 r
  have h2:=ze2 (r.drop (z9v r))
  rw [yas] at h2
  repeat' split
  all_goals simp only [yar]
  all_goals omega
 ·simp
theorem zp2 (s:Z):num s≤s.length:=by
 unfold num
 simp only
 split
 ·simp
 ·have h1:=zz00d s
  have h2:=zt4 (s.drop (sgn s))
  have h3:=zsr (s.drop (sgn s+z9d (s.drop (sgn s))))
  have h4:=zz019 (s.drop (sgn s+z9d (s.drop (sgn s))+zda (s.drop (sgn s+z9d (s.drop (sgn s))))))
  simp only [yas] at h2 h3 h4
  omega
theorem z9f (s:Z):z6y s=0↔z9d s=0:=by
 unfold z9d
 cases s with
 | nil=>simp [z6y]
 | cons c r =>
  by_cases h:c=48
  ·subst h
   simp [zs7,isD]
  ·simp [h]
theorem zx0 (s:Z):s.head? = s[0]?:=by cases s<;>rfl
theorem getD {s:Z} {i:Nat}:(s.drop i).head? = s[i]?:=by rw [zx0];simp
theorem z9n {s:Z} (h:s.length<1152921504606846976):M.q3f s=some (num s:Int):=by
 unfold M.q3f
 have a1:(do
   let a_7←M.q73 s ([45]:Z)
   if a_7 then
    some 1
   else
    some 0:Option Int)=some ((sgn s:Nat):Int):=by
  rw [z52]
  unfold sgn
  cases s with
  | nil=>rfl
  | cons c r =>
   by_cases hc:c=45
   ·subst hc;simp
   ·have:¬(45:UInt8)=c:=fun e=>hc e.symm
    simp [hc,this]
 rw [a1]
 simp only [ya,yc]
 have l1:=zz00d s
 rw [zci l1]
 simp only [yc]
 rw [z6g (by simp;omega)]
 simp only [yc]
 unfold num
 simp only
 by_cases hz:z6y (s.drop (sgn s))=0
 ·rw [if_pos (by simpa using hz),if_pos ((z9f _).1 hz)]
  rfl
 rw [if_neg (by simpa using hz),if_neg (fun e=>hz ((z9f _).2 e))]
 generalize hi:sgn s=i at *
 have hlt:i<s.length:=by
  rcases ybd i s.length with h1|h1
  ·exact h1
  ·rw [yac h1] at hz;exact absurd rfl hz
 rw [z6k,yak hlt]
 simp only [yc]
 have a2:(if (decide (((s[i]).toNat:Int)=48))=true then some 1 else some ((z6y (s.drop i):Nat):Int))=some ((z9d (s.drop i):Nat):Int):=by
  unfold z9d
  rw [getD,yak hlt]
  by_cases hc:s[i]=48
  ·have:((s[i]).toNat:Int)=48:=by rw [hc];rfl
   simp [hc]
  ·have:¬((s[i]).toNat:Int)=48:=fun e=>hc ((toNat_eq (n:=48) (by omega)).1 e)
   simp [hc,this]
 rw [a2]
 simp only [yc]
 have l2:=zt4 (s.drop i)
 generalize hn:z9d (s.drop i)=n at *
 rw [yas] at l2
 have e1:ybk .i64 ((i:Int)+(n:Int))=((i+n:Nat):Int):=wadd (by omega)
 rw [e1]
 have hk:i+n≤s.length:=by omega
 generalize hj:i+n=j at *
 have a3:(do
   let s_31←sub s (j:Int) (s.length:Int)
   let a_32←M.q73 s_31 ([46]:Z)
   if a_32 then
    let s_34←sub s (ybk .i64 ((j:Int)+1)) (s.length:Int)
    let a_35←M.q3c s_34
    if (decide (0<a_35)) then
     some (ybk .i64 ((j:Int)+(ybk .i64 (1+a_35))))
    else
     some (j:Int)
   else
    some (j:Int):Option Int)=some ((j+zda (s.drop j):Nat):Int):=by
  rw [zci hk]
  simp only [ya,yc,z52]
  have ex:(∃ r,s.drop j=46::r)∨(([46]:Z).isPrefixOf (s.drop j)=false∧zda (s.drop j)=0):=by
   cases hd:s.drop j with
   | nil=>exact .inr ⟨rfl,rfl⟩
   | cons c r =>
    by_cases hc:c=46
    ·subst hc;exact .inl ⟨r,rfl⟩
    ·have h46:¬(46:UInt8)=c:=fun e=>hc e.symm
     refine .inr ⟨by simp [yao,h46],?_⟩
     unfold zda
     split
     ·rename_i r' hr
      injection hr with e1 e2
      exact absurd e1 hc
     ·rfl
  rcases ex with ⟨r,hr⟩|⟨e1,e2⟩
  ·obtain ⟨g1,g2,g3⟩:=zwy hr
   have:([46]:Z).isPrefixOf (s.drop j)=true:=by rw [hr];rfl
   rw [this,if_pos rfl,w1 (by omega),zci (by omega),hr]
   simp only [yc,zda]
   rw [g2,z6g (by rw [←g2];simp;omega)]
   simp only [yc]
   have:=ze2 r
   have hr2:r.length+(j+1)=s.length:=by rw [←g2];simp;omega
   by_cases hd:0<z6y r
   ·rw [if_pos (by simpa using hd),if_pos hd]
    rw [show (1:Int)+(z6y r:Int)=((1+z6y r:Nat):Int) by omega,w64 (x:=((1+z6y r:Nat):Int)) (by omega) (by omega),wadd (by omega)]
   ·rw [if_neg (by simpa using hd),if_neg hd]
    rfl
  ·rw [e1,e2]
   simp
 simp only [ya] at a3
 rw [a3]
 simp only [yc]
 have l3:=zsr (s.drop j)
 rw [yas] at l3
 have hk2:j+zda (s.drop j)≤s.length:=by omega
 generalize j+zda (s.drop j)=k at *
 clear a1 a2 a3
 by_cases hks:k<s.length
 ·have hks':((k:Int)<(s.length:Int)):=by omega
  have hdr:s.drop k=s[k]::s.drop (k+1):=by simp
  simp only [hks',decide_true,if_true,z6k,yak hks,yc]
  have ec:(if (decide (((s[k]).toNat:Int)=101))=true then some true else some (decide (((s[k]).toNat:Int)=69)))=some (decide (s[k]=101∨s[k]=69)):=by
   have t1:(((s[k]).toNat:Int)=101)↔s[k]=101:=toNat_eq (n:=101) (by omega)
   have t2:(((s[k]).toNat:Int)=69)↔s[k]=69:=toNat_eq (n:=69) (by omega)
   simp only [t1,t2]
   by_cases q:s[k]=101<;>simp [q]
  rw [ec]
  simp only [yc]
  rw [hdr]
  unfold zht
  simp only
  by_cases hc:s[k]=101∨s[k]=69
  ·rw [if_pos (by simpa using hc),if_pos hc,w1 (by omega)]
   have es:(do
     let j_60 ← (if decide (((k + 1 : Nat) : Int) < (s.length : Int)) = true then do
        let c_61←ix s ((k+1:Nat):Int)
        if decide ((c_61.toNat:Int)=43)=true then some true
        else do
         let c_62←ix s ((k+1:Nat):Int)
         some (decide ((c_62.toNat:Int)=45))
       else some false)
     if j_60=true then some (ybk .i64 (((k+1:Nat):Int)+1)) else some ((k+1:Nat):Int))=some ((k+1+z9v (s.drop (k+1)):Nat):Int):=by
    unfold z9v
    rw [getD]
    by_cases hk1:k+1<s.length
    ·have:(((k+1:Nat):Int)<(s.length:Int)):=by omega
     simp only [this,decide_true,if_true,z6k,yak hk1,ya,yc]
     have t1:(((s[k+1]).toNat:Int)=43)↔s[k+1]=43:=toNat_eq (n:=43) (by omega)
     have t2:(((s[k+1]).toNat:Int)=45)↔s[k+1]=45:=toNat_eq (n:=45) (by omega)
     simp only [t1,t2,Option.some.injEq]
     have ww:ybk .i64 (((k+1:Nat):Int)+1)=((k+1+1:Nat):Int):=w1 (by omega)
     rw [ww]
     by_cases q:s[k+1]=43
     ·simp [q]
     ·by_cases q2:s[k+1]=45
      ·simp [q2]
      ·simp [q,q2]
    ·have:¬((k:Int)+1<(s.length:Int)):=by omega
     simp [this,yal (yba hk1)]
   simp only [ya] at es
   rw [es]
   simp only [yc]
   have l4:=zv6 (s.drop (k+1))
   rw [yas] at l4
   rw [zci (by omega)]
   simp only [yc]
   rw [z6g (by simp;omega),←List.drop_drop]
   simp only [yc]
   have l5:=ze2 ((s.drop (k+1)).drop (z9v (s.drop (k+1))))
   rw [yas,yas] at l5
   by_cases hd:0<z6y ((s.drop (k+1)).drop (z9v (s.drop (k+1))))
   ·rw [if_pos (by simpa using hd),if_pos hd,wadd (by omega)]
    congr 2
    omega
   ·rw [if_neg (by simpa using hd),if_neg hd]
    rfl
  ·rw [if_neg (by simpa using hc),if_neg hc]
   rfl
 ·have hks':¬((k:Int)<(s.length:Int)):=by omega
  rw [yac (yba hks)]
  simp [hks',zht]
end
section
open Go.Lk Go.Pe
theorem z5t {P:UInt8→Prop} (h:∀ n:Fin 256,P (ybl n.val)) (b:UInt8):P b:=by
 have:=h ⟨b.toNat,zu0⟩
 simpa using this
theorem z6f (c:UInt8) (s:Z):[c].isPrefixOf s=decide (s.head? = some c):=by
 cases s with
 | nil=>rfl
 | cons d r =>
  by_cases h:c=d
  ·simp [yao,h]
  ·have:¬d=c:=fun e=>h e.symm
   simp [yao,h,this]
def kys (ks:List Z):Nat:=(ks.map fun k=>k.length+1).sum
mutual
def q04.sz:q04→Nat
 | ⟨_,t,l,ks⟩=>szs l+t.length+kys ks+1
def szs:List q04→Nat
 | []=>0
 | x::xs=>x.sz+szs xs+1
end
theorem q04.zfe (v:q04):v.sz=szs v.zk+v.z06.length+kys v.z08+1:=by cases v;simp [q04.sz]
theorem kys_nil:kys []=0:=rfl
theorem z5m (k:Z) (ks:List Z):kys (k::ks)=k.length+1+kys ks:=by simp [kys]
theorem zc7:∀ ks:List Z,ks.length≤kys ks
 | []=>by simp
 | k::ks=>by have:=zc7 ks;rw [z5m,yar];omega
theorem ztl:∀ {ks:List Z} {k:Z},k∈ks→k.length<kys ks
 | a::ks,k,h=>by
  rw [z5m]
  rcases yay.1 h with rfl|h
  ·omega
  ·have:=ztl h;omega
theorem zis:∀ {l:List q04} {x:q04},x∈l→x.sz<szs l
 | y::l,x,hx=>by
  simp only [szs]
  rcases yay.1 hx with rfl|hx
  ·omega
  ·have:=zis hx;omega
theorem zir:∀ l:List q04,l.length≤szs l
 | []=>by simp
 | y::l=>by have:=zir l;simp only [szs,yar];omega
def frm (k:Int) (t:Z) (n:Nat) (ks:List Z):Bool :=
 ks.all Lib.validD &&
 if k=0∨k=1∨k=2 then decide (t=[])&&decide (n=0)&&decide (ks=[])
 else if k=3 then !decide (t=[])&&decide (num t=t.length)&&decide (n=0)&&decide (ks=[])
 else if k=4 then Lib.validD t&&decide (n=0)&&decide (ks=[])
 else if k=5 then decide (t=[])&&decide (ks=[])
 else if k=6 then decide (t=[])&&decide (ks.length=n)&&decide ks.Nodup
 else false
mutual
def za0:q04→Nat→Int
 | ⟨k,t,l,ks⟩,w=>if (k=5∨k=6)∧16≤w then 21 else if frm k t l.length ks=false then 23 else zfm l (w+1)
def zfm:List q04→Nat→Int
 | [],_=>0
 | x::xs,w=>if za0 x w=0 then zfm xs w else za0 x w
end
theorem z73 (v:q04) (w:Nat):za0 v w=if (v.zh=5∨v.zh=6)∧16≤w then 21 else if frm v.zh v.z06 v.zk.length v.z08=false then 23 else zfm v.zk (w+1):=by cases v;simp only [za0]
def zux (e:Int):Rs Unit:=if e=0 then .ok () else .pan e
theorem zkn (e:Int):M.q3e true e=some (.ok ()):=by simp [M.q3e]
instance:Std.Antisymm (α:=Z) (· ≤ ·):=⟨fun _ _ h1 h2=>yap h1 h2⟩
theorem zvc (l:List Z):(l.mergeSort fun x y=>decide (x≤y)).Pairwise (· ≤ ·):=by
 have:=List.pairwise_mergeSort (le:=fun x y:Z=>decide (x≤y)) (by intro a b c h1 h2;simp only [decide_eq_true_eq] at *;exact List.le_trans h1 h2) (by intro a b;simp only [ys,decide_eq_true_eq];exact List.le_total a b) l
 exact this.imp fun h=>by simpa using h
theorem zlh {m:List Z} (hs:m.Pairwise (· ≤ ·)):(∀ j,j<m.length→Lib.keeps m.toArray j=true)↔m.Nodup:=by
 have get:∀ i (h:i<m.length),m.toArray[i]! = m[i]:=fun i h=>by simp [h]
 rw [ya2] at hs
 constructor
 ·intro hk
  rw [ya1,ya2]
  intro i j hi hj hij he
  have h1:=hk j hj
  unfold Lib.keeps at h1
  simp only [decide_eq_true_eq] at h1
  rcases h1 with h1|h1
  ·omega
  ·rw [get j hj,get (j - 1) (by omega)] at h1
   apply h1
   have h3:m[j - 1]≤m[j]:=hs (j - 1) j (by omega) hj (by omega)
   rcases ybd i (j - 1) with h|h
   ·have h2:m[i]≤m[j - 1]:=hs i (j - 1) hi (by omega) h
    rw [he] at h2
    exact yap h2 h3
   ·have:i=j - 1:=by omega
    subst this
    exact he.symm
 ·intro hn j hj
  unfold Lib.keeps
  simp only [decide_eq_true_eq]
  rcases Nat.eq_zero_or_pos j with h|h
  ·exact .inl h
  ·refine .inr ?_
   rw [get j hj,get (j - 1) (by omega)]
   rw [ya1,ya2] at hn
   exact fun e=>hn (j - 1) j (by omega) hj (by omega) e.symm
theorem zm2 (m:List Z):(Lib.compact m).length=m.length↔∀ j,j<m.length→Lib.keeps m.toArray j=true:=by
 unfold Lib.compact Lib.compactUpTo
 rw [List.length_map]
 conv=>lhs;rhs;rw [←List.length_range (n:=m.length)]
 rw [List.length_filter_eq_length_iff]
 simp
theorem zva {l:List Z} (h:l.length*16≤140737488355328):M.single l=some (decide l.Nodup):=by
 unfold M.single
 rw [z2s (by simpa using h)]
 simp only [ya,yc,Option.some.injEq]
 apply decide_eq_decide.2
 rw [←List.Perm.nodup_iff (List.mergeSort_perm l fun x y=>decide (x≤y)),←zlh (zvc l),←zm2,List.length_mergeSort]
 omega
theorem z6j {s:Z} (h:s.length≤9223372036854775807):M.z16 s=some (Lib.validD s):=by
 unfold M.z16
 rw [z2s (by simpa using h)]
 rfl
theorem zk7 {ks:List Z} (hs:∀ k∈ks,k.length<1152921504606846976) (hl:ks.length<1152921504606846976):∀ (n i:Nat),ks.length - i=n→i≤ks.length →
  ∃ r,M.zj ks (i:Int)=some r∧(((ks.drop i).all Lib.validD=true∧r = .go ())∨((ks.drop i).all Lib.validD=false∧∃ j:Nat,r = .done (j:Int))):=by
 intro n
 induction n with
 | zero =>
  intro i hn hi
  rw [M.zj.eq_1]
  have:¬((i:Int)<(ks.length:Int)):=by omega
  exact ⟨_,by rw [if_neg (by simpa using this)],.inl ⟨by rw [yac (by omega)];rfl,rfl⟩⟩
 | succ n ih =>
  intro i hn hi
  have hlt:i<ks.length:=by omega
  rw [M.zj.eq_1]
  have h1:((i:Int)<(ks.length:Int)):=by omega
  have h2:=hs ks[i] (yam hlt)
  unfold M.q3b
  simp only [h1,decide_true,if_true,z6k,yak hlt,ya,yc]
  rw [z6j (by omega),yab hlt]
  simp only [yc,yv]
  cases hv:Lib.validD ks[i] with
  | false=>exact ⟨_,by simp,.inr ⟨by simp,i,rfl⟩⟩
  | true =>
   rw [w1 (by omega)]
   obtain ⟨r,h3,h4⟩:=ih (i+1) (by omega) (by omega)
   exact ⟨r,by simpa using h3,by simpa using h4⟩
theorem zdy {ks:List Z} (hs:∀ k∈ks,k.length<1152921504606846976) (hl:ks.length<1152921504606846976):M.q6r ks=some (!ks.all Lib.validD):=by
 unfold M.q6r M.q6w
 obtain ⟨r,h1,h2⟩:=zk7 hs hl _ 0 rfl (ybi _)
 have h1:M.zj ks 0=some r:=h1
 rw [h1]
 rcases h2 with ⟨h3,rfl⟩|⟨h3,j,rfl⟩
 ·simp only [yaf] at h3
  rw [h3]
  simp
 ·simp only [yaf] at h3
  rw [h3]
  simp
theorem zkb {k:Int} {t:Z} {n:Nat} {ks:List Z} (hw:¬(k=5∨k=6)∨True) :
  frm k t n ks=(((decide (0≤k))&&(decide (k<7)))&&((((decide (k=5))||(decide (k=6)))||(decide ((n:Int)=0)))&&((((decide (k=6))&&(decide ((ks.length:Int)=(n:Int))))||((decide ((ks.length:Int)=0))&&(!decide (k=6)))) &&
   ((ks.all Lib.validD&&decide ks.Nodup)&&(if k=3 then !decide (t=[])&&decide (num t=t.length) else if k=4 then Lib.validD t else decide (t=[])))))):=by
 have k0:((ks.length:Int)=0)↔ks=[]:=by rw [←List.length_eq_zero_iff];omega
 have n0:((n:Int)=0)↔n=0:=by omega
 simp only [k0,n0]
 unfold frm
 by_cases h0:k=0
 ·subst h0;cases ks<;>simp [and_comm,yg]
 by_cases h1:k=1
 ·subst h1;cases ks<;>simp [and_comm,yg]
 by_cases h2:k=2
 ·subst h2;cases ks<;>simp [and_comm,yg]
 by_cases h3:k=3
 ·subst h3;cases ks<;>simp [yg,yk]
 by_cases h4:k=4
 ·subst h4;cases ks<;>simp [yg,yk]
 by_cases h5:k=5
 ·subst h5;cases ks<;>simp
 by_cases h6:k=6
 ·subst h6
  have:(((ks.length:Int)=(n:Int)))↔ks.length=n:=by omega
  simp [this,yg,yk,Bool.and_assoc]
 have:((decide (0≤k))&&(decide (k<7)))=false:=by
  rw [←yo,yi,decide_eq_true_iff,decide_eq_true_iff]
  omega
 rw [this]
 simp [h0,h1,h2,h3,h4,h5,h6]
end
section
open Go.Lk Go.Pe
def z2f (c:UInt8):Z→Z × Z × Bool
 | []=>([],[],false)
 | x::r=>if x=c then ([],r,true) else (x::(z2f c r).1,(z2f c r).2.1,(z2f c r).2.2)
theorem cutb_nil (c:UInt8):z2f c []=([],[],false):=rfl
theorem z4h (c x:UInt8) (r:Z):z2f c (x::r)=if x=c then ([],r,true) else (x::(z2f c r).1,(z2f c r).2.1,(z2f c r).2.2):=rfl
theorem z3l (c x:UInt8) (r:Z):Lib.index (x::r) [c]=if x=c then 0 else if Lib.index r [c] = -1 then -1 else Lib.index r [c]+1:=by
 rw [Lib.index]
 by_cases h:x=c
 ·subst h;simp [yao]
 ·have:([c]:Z).isPrefixOf (x::r)=false:=by simp [yao,Ne.symm h]
  rw [this]
  simp [h]
theorem cut_b (c:UInt8):∀ s:Z,Lib.cut s [c]=z2f c s
 | []=>by simp [Lib.cut,Lib.index,z2f]
 | x::r=>by
  have ih:=cut_b c r
  have hge:=Lib.index_ge r [c]
  have hc:=z3l c x r
  by_cases h:x=c
  ·rw [if_pos h] at hc
   unfold Lib.cut
   rw [hc,z4h,if_pos h]
   simp
  ·rw [if_neg h] at hc
   rw [z4h,if_neg h,←ih]
   by_cases hm:Lib.index r [c] = -1
   ·rw [if_pos hm] at hc
    unfold Lib.cut
    rw [hc,hm]
    simp
   ·rw [if_neg hm] at hc
    obtain ⟨k,hk⟩:∃ k:Nat,Lib.index r [c]=k:=⟨(Lib.index r [c]).toNat,by omega⟩
    unfold Lib.cut
    rw [hc,hk,if_pos (by omega),if_pos (by omega)]
    have e:((k:Int)+1).toNat=k+1:=by omega
    simp [e,ya8]
theorem z74 (c:UInt8):∀ s:Z,(z2f c s).1.length+(z2f c s).2.1.length≤s.length∧((z2f c s).2.2=true→(z2f c s).1.length+(z2f c s).2.1.length+1=s.length)
 | []=>by simp [z2f]
 | x::r=>by
  have ih:=z74 c r
  rw [z4h]
  split
  ·simp
  ·simp only [yar]
   refine ⟨by omega,fun h => ?_⟩
   have:=ih.2 h
   omega
theorem zrh {s:Z} (c:UInt8) (h:s.length<4294967281):M.cut s [c]=some (z2f c s):=by
 unfold M.cut
 rw [z2s (by simpa using h),←cut_b]
 rfl
def z15 (c:UInt8):Z→List Z
 | []=>[[]]
 | x::r=>if x=c then []::z15 c r else match z15 c r with
  | []=>[[x]]
  | h::t=>(x::h)::t
theorem zli (c:UInt8):∀ s:Z,∃ h t,z15 c s=h::t
 | []=>⟨_,_,rfl⟩
 | x::r=>by
  unfold z15
  split
  ·exact ⟨_,_,rfl⟩
  ·split<;>exact ⟨_,_,rfl⟩
def z4o (sep:Z):Nat→Z→List Z
 | 0,s=>[s]
 | k+1,s=>if Lib.index s sep = -1 then [s] else s.take (Lib.index s sep).toNat::z4o sep k (s.drop ((Lib.index s sep).toNat+sep.length))
theorem z7i (s sub:Z):Lib.indexB ⟨s.toArray⟩ ⟨sub.toArray⟩=Lib.index s sub:=by
 unfold Lib.indexB
 simp
theorem z8a (s:Z) (a b:Nat):(⟨s.toArray⟩:ByteArray).extract a b=⟨((s.take b).drop a).toArray⟩:=by
 apply ByteArray.ext
 rw [ByteArray.data_extract]
 simp [yae]
theorem zf9 (sep:Z):∀ (k:Nat) (s:Z),(Lib.splitB ⟨sep.toArray⟩ 0 k ⟨s.toArray⟩).map (·.data.toList)=z4o sep k s
 | 0,s=>by simp [Lib.splitB,z4o]
 | k+1,s=>by
  have hsz:∀ l:Z,(⟨l.toArray⟩:ByteArray).size=l.length:=fun l=>by simp [ByteArray.size]
  unfold Lib.splitB z4o
  rw [z7i]
  by_cases h:Lib.index s sep = -1
  ·rw [if_pos (by simpa using h),if_pos h];simp
  ·rw [if_neg (by simpa using h),if_neg h,z8a,z8a,yaw,zf9 sep k]
   simp [hsz]
theorem znk {sep:Z} (h1:1≤sep.length):∀ (n:Nat) (s:Z),s.length≤n→∀ k,s.length≤k→z4o sep (Lib.countB ⟨s.toArray⟩ ⟨sep.toArray⟩) s=z4o sep k s:=by
 intro n
 have hsz:∀ l:Z,(⟨l.toArray⟩:ByteArray).size=l.length:=fun l=>by simp [ByteArray.size]
 induction n with
 | zero =>
  intro s hn k hk
  have:s=[]:=yag (by omega)
  subst this
  have hi:Lib.index [] sep = -1:=by rw [Lib.index,if_neg];cases sep<;>simp_all
  rw [Lib.countB_miss _ _ (by rw [z7i];exact hi)]
  cases k with
  | zero=>rfl
  | succ k=>unfold z4o;rw [if_pos hi]
 | succ n ih =>
  intro s hn k hk
  have hge:=Lib.index_ge s sep
  by_cases hi:Lib.index s sep = -1
  ·rw [Lib.countB_miss _ _ (by rw [z7i];exact hi)]
   cases k with
   | zero=>rfl
   | succ k =>
    conv=>rhs;unfold z4o;rw [if_pos hi]
    rfl
  ·obtain ⟨i,hi2⟩:∃ i:Nat,Lib.index s sep=i:=⟨(Lib.index s sep).toNat,by omega⟩
   have hroom:=Lib.index_room s sep (by omega)
   have hh:=Lib.countB_hit ⟨s.toArray⟩ ⟨sep.toArray⟩ i (by rw [hsz];exact h1) (by rw [z7i];exact hi2)
   rw [z8a,hsz,hsz,ya6] at hh
   have hd:(s.drop (i+sep.length)).length≤n:=by rw [yas];omega
   obtain ⟨k,rfl⟩:∃ j,k=j+1:=⟨k - 1,by omega⟩
   rw [hh,Nat.add_comm 1]
   unfold z4o
   rw [if_neg hi,if_neg hi,hi2]
   have e:((i:Int)).toNat=i:=by omega
   rw [e,ih _ hd k (by rw [yas];omega)]
theorem zpi {sep:Z} (h1:1≤sep.length) (s:Z):zfa s sep=z4o sep s.length s:=by
 unfold zfa
 rw [zf9]
 exact znk h1 _ s (ybb _) _ (ybb _)
theorem zin (c:UInt8):∀ (s:Z) (k:Nat),s.length≤k→z4o [c] k s=z15 c s
 | [],k,_=>by
  cases k with
  | zero=>rfl
  | succ k=>unfold z4o;rw [if_pos (by simp [Lib.index])];rfl
 | x::r,k,hk=>by
  obtain ⟨k,rfl⟩:∃ j,k=j+1:=⟨k - 1,by simp at hk;omega⟩
  simp only [yar] at hk
  have ih:=zin c r k (by omega)
  have hge:=Lib.index_ge r [c]
  unfold z15
  by_cases hx:x=c
  ·rw [if_pos hx]
   unfold z4o
   rw [z3l,if_pos hx,if_neg (by decide)]
   simp [ih]
  ·rw [if_neg hx,←zin c r (k+1) (by omega)]
   unfold z4o
   rw [z3l,if_neg hx]
   by_cases hm:Lib.index r [c] = -1
   ·simp [hm]
   ·obtain ⟨i,hi⟩:∃ i:Nat,Lib.index r [c]=i:=⟨(Lib.index r [c]).toNat,by omega⟩
    rw [if_neg hm,hi,if_neg (by omega),if_neg (by omega)]
    have e1:((i:Int)+1).toNat=i+1:=by omega
    have e2:((i:Int)).toNat=i:=by omega
    simp [e1,e2,ya8]
theorem z9x {s:Z} (c:UInt8) (h:s.length<4294967281):M.split s [c]=some (z15 c s):=by
 unfold M.split
 rw [z2s (by simpa using h),zpi (by simp),zin c s _ (ybb _)]
 rfl
def z3u:Z→List Z
 | []=>[[]]
 | x::r=>if x=13∧r.head? = some 10 then []::z3u (r.drop 1) else match z3u r with
  | []=>[[x]]
  | h::t=>(x::h)::t
termination_by s=>s.length
theorem zlk:∀ s:Z,∃ h t,z3u s=h::t
 | []=>⟨_,_,by unfold z3u;rfl⟩
 | x::r=>by
  unfold z3u
  split
  ·exact ⟨_,_,rfl⟩
  ·split<;>exact ⟨_,_,rfl⟩
theorem zwd (x:UInt8) (r:Z):([13,10]:Z).isPrefixOf (x::r)=decide (x=13∧r.head? = some 10):=by
 cases r with
 | nil=>simp [yao]
 | cons y r =>
  simp only [yao,yan,Option.some.injEq]
  by_cases h1:x=13<;>by_cases h2:y=10<;>simp [h1,h2]
  ·exact fun h=>h2 h.symm
  ·exact fun h=>(h1 h.symm).elim
  ·exact fun h=>(h1 h.symm).elim
theorem z8f (x:UInt8) (r:Z):Lib.index (x::r) [13,10]=if x=13∧r.head? = some 10 then 0 else if Lib.index r [13,10] = -1 then -1 else Lib.index r [13,10]+1:=by
 rw [Lib.index,zwd]
 by_cases h:x=13∧r.head? = some 10
 ·simp [h]
 ·simp [h]
theorem zyv:∀ (n:Nat) (s:Z) (k:Nat),s.length≤n→s.length≤k→z4o [13,10] k s=z3u s:=by
 intro n
 induction n with
 | zero =>
  intro s k hn hk
  have:s=[]:=yag (by omega)
  subst this
  unfold z3u
  cases k with
  | zero=>rfl
  | succ k=>unfold z4o;rw [if_pos (by simp [Lib.index])]
 | succ n ih =>
  intro s k hn hk
  cases s with
  | nil =>
   unfold z3u
   cases k with
   | zero=>rfl
   | succ k=>unfold z4o;rw [if_pos (by simp [Lib.index])]
  | cons x r =>
   simp only [yar] at hn hk
   obtain ⟨k,rfl⟩:∃ j,k=j+1:=⟨k - 1,by omega⟩
   have hge:=Lib.index_ge r [13,10]
   unfold z3u
   by_cases hx:x=13∧r.head? = some 10
   ·rw [if_pos hx]
    unfold z4o
    rw [z8f,if_pos hx,if_neg (by decide)]
    have hd:(r.drop 1).length≤n:=by rw [yas];omega
    have q:=ih (r.drop 1) k hd (by rw [yas];omega)
    simpa using q
   ·rw [if_neg hx,←ih r (k+1) (by omega) (by omega)]
    unfold z4o
    rw [z8f,if_neg hx]
    by_cases hm:Lib.index r [13,10] = -1
    ·simp [hm]
    ·obtain ⟨i,hi⟩:∃ i:Nat,Lib.index r [13,10]=i:=⟨(Lib.index r [13,10]).toNat,by omega⟩
     rw [if_neg hm,hi,if_neg (by omega),if_neg (by omega)]
     have e1:((i:Int)+1).toNat=i+1:=by omega
     have e2:((i:Int)).toNat=i:=by omega
     simp [e1,e2,ya9]
theorem zvw {s:Z} (h:s.length<4294967281):M.split s [13,10]=some (z3u s):=by
 unfold M.split
 rw [z2s (by simpa using h),zpi (by simp),zyv _ s _ (ybb _) (ybb _)]
 rfl
end
section
open Go.Lk Go.Pe
theorem z38 (b:Bool) (e:Int):M.q3e b e=some (if b=true then .ok () else .pan e):=by cases b<;>simp [M.q3e]
theorem zdt (x:q04) (xs:List q04) (w:Nat):zfm (x::xs) w=if za0 x w=0 then zfm xs w else za0 x w:=by simp only [zfm]
theorem zpz {v:q04} {self:q04→Int→Option (Rs Unit)} {w:Nat} (hw:w≤16) (hl:v.zk.length<1152921504606846976) (hs:∀ x∈v.zk,self x ((w+1:Nat):Int)=some (zux (za0 x (w+1)))) :
  ∀ (n i:Nat),v.zk.length - i=n→i≤v.zk.length→M.z1z v self (w:Int) (i:Int)=some (zux (zfm (v.zk.drop i) (w+1))):=by
 intro n
 induction n with
 | zero =>
  intro i hn hi
  rw [M.z1z.eq_1]
  have:¬((i:Int)<(v.zk.length:Int)):=by omega
  rw [if_neg (by simpa using this),yac (by omega)]
  rfl
 | succ n ih =>
  intro i hn hi
  have hlt:i<v.zk.length:=by omega
  rw [M.z1z.eq_1]
  have h1:((i:Int)<(v.zk.length:Int)):=by omega
  simp only [h1,decide_true,if_true,z6k,yak hlt,ya,yc]
  rw [w1 (n:=w) (by omega),hs _ (yam hlt),w1 (by omega),ih (i+1) (by omega) (by omega),yab hlt,zdt]
  simp only [yc]
  unfold zux
  by_cases hc:za0 v.zk[i] (w+1)=0
  ·simp [hc]
  ·simp [hc]
def Small (v:q04):Prop:=v.sz<1000000000
theorem Small.mem {v x:q04} (h:Small v) (hx:x∈v.zk):Small x:=by
 unfold Small at *
 have:=zis hx
 rw [q04.zfe v] at h
 omega
theorem Small.parts {v:q04} (h:Small v):v.z06.length<1000000000∧v.zk.length<1000000000∧v.z08.length<1000000000∧∀ k∈v.z08,k.length<1000000000:=by
 unfold Small at h
 rw [q04.zfe] at h
 have h1:=zir v.zk
 have h2:=zc7 v.z08
 exact ⟨by omega,by omega,by omega,fun k hk=>by have:=ztl hk;omega⟩
theorem zel:∀ (f:Nat) (v:q04) (w:Nat),w≤16→17≤f+w→Small v→M.q3a f v (w:Int)=some (zux (za0 v w)):=by
 intro f
 induction f with
 | zero=>intro v w h1 h2;omega
 | succ f ih =>
  intro v w hw hf hsm
  obtain ⟨s1,s2,s3,s4⟩:=hsm.parts
  have hk1:(v.zk=[]∨w<16)→M.z1z v (M.q3a f) (w:Int) 0=some (zux (zfm v.zk (w+1))):=by
   intro h
   refine zpz hw (by omega) (fun x hx => ?_) _ 0 rfl (ybi _)
   rcases h with h|h
   ·rw [h] at hx;cases hx
   ·exact ih x (w+1) (by omega) (by omega) (hsm.mem hx)
  rw [M.q3a,z73,zkb (.inr trivial)]
  simp only [z38,zdy (fun k hk=>by have:=s4 k hk;omega) (show v.z08.length<1152921504606846976 by omega),zva (show v.z08.length*16≤140737488355328 by omega),ya,yc]
  have hj:(if (!(!v.z08.all Lib.validD))=true then some (decide v.z08.Nodup) else some false)=some (v.z08.all Lib.validD&&decide v.z08.Nodup):=by
   cases v.z08.all Lib.validD<;>simp
  rw [hj]
  simp only [yc]
  have hn1:=z9n (s:=v.z06) (by omega)
  have hn2:=z6j (s:=v.z06) (by omega)
  generalize hb5:(v.z08.all Lib.validD&&decide v.z08.Nodup)=b5
  generalize hb4:(decide (v.zh=6)&&decide ((v.z08.length:Int)=(v.zk.length:Int))||decide ((v.z08.length:Int)=0) && !decide (v.zh=6))=b4
  generalize hb2:(decide (0≤v.zh)&&decide (v.zh<7))=b2
  by_cases hd:(v.zh=5∨v.zh=6)∧16≤w
  ·have:(!(decide (v.zh=5)||decide (v.zh=6))||decide ((w:Int)<16))=false:=by
    rw [←yo,ys,yp,←yo,ys]
    simp only [decide_eq_true_eq]
    omega
   rw [this,if_pos hd]
   rfl
  ·have h1:(!(decide (v.zh=5)||decide (v.zh=6))||decide ((w:Int)<16))=true:=by
    rw [ys,yp,←yo,ys]
    simp only [decide_eq_true_eq]
    omega
   rw [h1,if_neg hd]
   have h3:(decide (v.zh=5)||decide (v.zh=6)||decide ((v.zk.length:Int)=0))=true→(v.zk=[]∨w<16):=by
    rw [ys,ys]
    simp only [decide_eq_true_eq]
    intro h
    rcases h with h|h
    ·exact .inr (by omega)
    ·exact .inl (yag (by omega))
   generalize (decide (v.zh=5)||decide (v.zh=6)||decide ((v.zk.length:Int)=0))=b3 at *
   cases b2 with
   | false=>rfl
   | true =>
    cases b3 with
    | false=>rfl
    | true =>
     cases b4 with
     | false=>rfl
     | true =>
      cases b5 with
      | false=>rfl
      | true =>
       have hk:=hk1 (h3 rfl)
       have e:((num v.z06:Nat):Int)=(v.z06.length:Int)↔num v.z06=v.z06.length:=by omega
       simp only [if_true,yt]
       by_cases k3:v.zh=3
       ·by_cases ht:v.z06=[]
        ·simp [k3,ht,zux]
        ·by_cases hn:num v.z06=v.z06.length
         ·simp [k3,ht,hn,hn1,hk]
         ·have:¬((num v.z06:Nat):Int)=(v.z06.length:Int):=fun x=>hn (e.1 x)
          simp [k3,ht,hn,hn1,this,zux]
       ·by_cases k4:v.zh=4
        ·cases hv:Lib.validD v.z06<;>simp [k4,hv,hn2,hk,zux]
        ·by_cases ht:v.z06=[]<;>simp [k3,k4,ht,hk,zux]
theorem zi7 {v:q04} {f:Nat} (hf:17≤f) (h:Small v):M.q32 f v=some (za0 v 0):=by
 unfold M.q32
 have h1:=zel f v 0 (by omega) (by omega) h
 have h1:M.q3a f v 0=some (zux (za0 v 0)):=h1
 rw [h1]
 simp only [ya,yc]
 unfold zux
 by_cases hc:za0 v 0=0<;>simp [hc]
end
section
open Go.Lk Go.Pe
theorem z1e {a:List Int} {b:Int} (h:a.length<1099511627776):M.q70 a b=some (a++[b]):=by
 unfold M.q70 M.z3j
 simp only [ya,yc]
 rw [z4f (by simp;omega)]
 rfl
theorem z2j {a:List Int} {b:Z} (h:a.length+b.length<1099511627776):M.q71 a b=some ((b.length:Int),a++unb b):=by
 unfold M.q71 M.z3j
 simp only [ya,yc]
 rw [z4f (by simp [unb];omega)]
 rfl
theorem builderLen_eq (a:List Int):M.q6z a=some (a.length:Int):=rfl
theorem z1r (s:Z):M.zw (unb s)=some s:=by
 unfold M.zw
 rw [z2s (by simp [zlx])]
 simp [zlx]
def hexd (n:Nat):UInt8:=ybl (if n<10 then 48+n else 87+n)
def qb (c:UInt8):Z :=
 if c=34∨c=92 then [92,c] else if c=8 then [92,98] else if c=9 then [92,116] else if c=10 then [92,110] else if c=12 then [92,102] else if c=13 then [92,114]
 else if c.toNat<32 then [92,117,48,48,hexd (c.toNat / 16),hexd (c.toNat % 16)] else [c]
def qbs (s:Z):Z:=s.flatMap qb
def qt (s:Z):Z:=34::qbs s++[34]
theorem zz009 (c:UInt8):(qb c).length≤6:=by
 unfold qb
 repeat' split
 all_goals simp
theorem zn7:∀ s:Z,(qbs s).length≤6*s.length
 | []=>by simp [qbs]
 | c::s=>by
  have h1:=zz009 c
  have h2:=zn7 s
  simp only [qbs,List.flatMap_cons,yaq,yar] at *
  omega
theorem zun (s:Z):(qt s).length≤6*s.length+2:=by
 have:=zn7 s
 simp only [qt,yaq,yar,yat]
 omega
theorem zy4 (c:UInt8) (s:Z):qbs (c::s)=qb c++qbs s:=by simp [qbs]
def jstep (x:Int):Option Z:=do
 let a←M.indexByte ([34,92,8,9,10,12,13]:Z) x
 if (decide (0≤a)) then
  let s_87←sub ([34,92,98,116,110,102,114]:Z) a (ybk .i64 (a+1))
  cat ([92]:Z) s_87
 else
  if (decide (x<32)) then
   let s_91←sub ([48,49]:Z) (zg5 .u8 x 4) (ybk .u8 ((zg5 .u8 x 4)+1))
   let s_92←cat ([92,117,48,48]:Z) s_91
   let s_93←sub ([48,49,50,51,52,53,54,55,56,57,97,98,99,100,101,102]:Z) (z7w .u8 x 15) (ybk .u8 ((z7w .u8 x 15)+1))
   cat s_92 s_93
  else some [ybl x.toNat]
theorem zxd:∀ c:UInt8,jstep (c.toNat:Int)=some (qb c):=z5t (by decide +kernel)
theorem zuo {s:Z} (hs:s.length<100000000000):∀ (n i:Nat) (acc:List Int),s.length - i=n→i≤s.length→acc.length+6*n<1099511627776→M.z1i s (i:Int) acc=some (acc++unb (qbs (s.drop i))):=by
 intro n
 induction n with
 | zero =>
  intro i acc hn hi ha
  rw [M.z1i.eq_1]
  have:¬((i:Int)<((unb s).length:Int)):=by rw [z1p];omega
  rw [if_neg (by simpa using this),yac (by omega)]
  simp [qbs,unb]
 | succ n ih =>
  intro i acc hn hi ha
  have hlt:i<s.length:=by omega
  have h1:((i:Int)<((unb s).length:Int)):=by rw [z1p];omega
  have hj:=zxd s[i]
  have hq:=zz009 s[i]
  rw [M.z1i.eq_1]
  simp only [h1,decide_true,if_true,z6k,zfi,yak hlt,yf,ya,yc]
  rw [w1 (by omega)]
  have next:∀ a:List Int,a=acc++unb (qb s[i])→M.z1i s ((i+1:Nat):Int) a=some (acc++unb (qbs (s.drop i))):=by
   rintro a rfl
   rw [ih (i+1) _ (by omega) (by omega) (by simp [unb];omega),yab hlt,zy4,z2r,yx]
  unfold jstep at hj
  simp only [ya] at hj
  cases hx:M.indexByte ([34,92,8,9,10,12,13]:Z) ((s[i]).toNat:Int) with
  | none=>rw [hx] at hj;cases hj
  | some a =>
   rw [hx] at hj
   simp only [yc] at hj ⊢
   by_cases ca:0≤a
   ·rw [if_pos (by simpa using ca)] at hj ⊢
    cases hy:sub ([34,92,98,116,110,102,114]:Z) a (ybk .i64 (a+1)) with
    | none=>rw [hy] at hj;cases hj
    | some y =>
     rw [hy] at hj
     simp only [yc] at hj ⊢
     rw [hj]
     simp only [yc]
     rw [z2j (by omega)]
     exact next _ rfl
   ·rw [if_neg (by simpa using ca)] at hj ⊢
    by_cases cx:((s[i]).toNat:Int)<32
    ·rw [if_pos (by simpa using cx)] at hj ⊢
     cases hy:sub ([48,49]:Z) (zg5 .u8 ((s[i]).toNat:Int) 4) (ybk .u8 ((zg5 .u8 ((s[i]).toNat:Int) 4)+1)) with
     | none=>rw [hy] at hj;cases hj
     | some y =>
      rw [hy] at hj
      simp only [yc] at hj ⊢
      cases hz:cat ([92,117,48,48]:Z) y with
      | none=>rw [hz] at hj;cases hj
      | some z =>
       rw [hz] at hj
       simp only [yc] at hj ⊢
       cases hu:sub ([48,49,50,51,52,53,54,55,56,57,97,98,99,100,101,102]:Z) (z7w .u8 ((s[i]).toNat:Int) 15) (ybk .u8 ((z7w .u8 ((s[i]).toNat:Int) 15)+1)) with
       | none=>rw [hu] at hj;cases hj
       | some u =>
        rw [hu] at hj
        simp only [yc] at hj ⊢
        rw [hj]
        simp only [yc]
        rw [z2j (by omega)]
        exact next _ rfl
    ·rw [if_neg (by simpa using cx)] at hj ⊢
     rw [z1e (by omega)]
     simp only [Option.some.injEq] at hj
     refine next _ ?_
     rw [←hj]
     simp [unb]
theorem z9o {s:Z} {acc:List Int} (h:acc.length+6*s.length+2<100000000000):M.q3g acc s=some (acc++unb (qt s)):=by
 unfold M.q3g
 rw [z1e (by omega),z2s (by simp;omega)]
 simp only [ya,yc]
 have h1:=zuo (s:=s) (by omega) _ 0 (acc++[34]) rfl (ybi _) (by simp;omega)
 have h1:M.z1i s 0 (acc++[34])=_:=h1
 rw [h1]
 simp only [yc,yaf]
 have:=zn7 s
 rw [z1e (by simp [unb];omega)]
 simp [qt,unb]
end
section
open Go.Lk Go.Pe
mutual
def prJ:q04→Z
 | ⟨k,t,l,ks⟩=>if k=0 then [110,117,108,108] else if k=1 then [102,97,108,115,101] else if k=2 then [116,114,117,101] else if k=3 then t else if k=4 then qt t
  else (if k=6 then 123 else 91)::prL (decide (k=6)) l ks true++[if k=6 then 125 else 93]
def prL (o:Bool):List q04→List Z→Bool→Z
 | [],_,_=>[]
 | x::xs,ks,f=>(if f=true then [] else [44])++((if o=true then qt (ks.head?.getD [])++[58] else [])++(prJ x++prL o xs ks.tail false))
end
theorem zz008 (v:q04):prJ v=if v.zh=0 then [110,117,108,108] else if v.zh=1 then [102,97,108,115,101] else if v.zh=2 then [116,114,117,101] else if v.zh=3 then v.z06 else if v.zh=4 then qt v.z06
  else (if v.zh=6 then 123 else 91)::prL (decide (v.zh=6)) v.zk v.z08 true++[if v.zh=6 then 125 else 93]:=by cases v;simp only [prJ]
theorem zp8 (o:Bool) (x:q04) (xs:List q04) (ks:List Z) (f:Bool):prL o (x::xs) ks f=(if f=true then [] else [44])++((if o=true then qt (ks.head?.getD [])++[58] else [])++(prJ x++prL o xs ks.tail false)):=by simp only [prL]
theorem ztk (ks:List Z):(qt (ks.head?.getD [])).length≤2+6*(kys ks - kys ks.tail)∧kys ks.tail≤kys ks:=by
 cases ks with
 | nil=>simp [qt,qbs]
 | cons k ks =>
  have:=zun k
  rw [z5m]
  simp only [yan,yd,ya4]
  omega
mutual
theorem zn4:∀ v:q04,(prJ v).length≤7*v.sz
 | ⟨k,t,l,ks⟩=>by
  have h1:=zn5 (decide (k=6)) l ks true
  have h2:=zun t
  simp only [prJ,q04.sz]
  repeat' split
  all_goals try simp only [yaq,yar,yat]
  all_goals omega
theorem zn5:∀ (o:Bool) (l:List q04) (ks:List Z) (f:Bool),(prL o l ks f).length≤7*szs l+7*kys ks
 | _,[],_,_=>by simp [prL]
 | o,x::xs,ks,f=>by
  have h1:=zn4 x
  have h2:=zn5 o xs ks.tail false
  obtain ⟨h3,h4⟩:=ztk ks
  simp only [prL,szs]
  repeat' split
  all_goals simp only [yaq,yar,yat]
  all_goals omega
end
theorem tail_drop {α:Type} (l:List α) (i:Nat):(l.drop i).tail=l.drop (i+1):=by simp
theorem zz01x {v:q04} {self:List Int→q04→Option (List Int)} (hl:v.zk.length<1152921504606846976) (hk:v.zh=6→v.z08.length=v.zk.length)
  (hs:∀ x∈v.zk,∀ a:List Int,a.length+7*x.sz<90000000000→self a x=some (a++unb (prJ x))):∀ (n i:Nat) (acc:List Int),v.zk.length - i=n→i≤v.zk.length →
  acc.length+7*szs (v.zk.drop i)+7*kys (v.z08.drop i)<90000000000→M.z2i v self (i:Int) acc=some (acc++unb (prL (decide (v.zh=6)) (v.zk.drop i) (v.z08.drop i) (decide (i=0)))):=by
 intro n
 induction n with
 | zero =>
  intro i acc hn hi ha
  rw [M.z2i.eq_1]
  have:¬((i:Int)<(v.zk.length:Int)):=by omega
  rw [if_neg (by simpa using this),(yac (by omega):v.zk.drop i=[])]
  simp [prL,unb]
 | succ n ih =>
  intro i acc hn hi ha
  have hlt:i<v.zk.length:=by omega
  have h1:((i:Int)<(v.zk.length:Int)):=by omega
  rw [M.z2i.eq_1]
  simp only [h1,decide_true,if_true,z6k,yak hlt,ya,yc]
  rw [w1 (by omega)]
  have e0:v.zk.drop i=v.zk[i]::v.zk.drop (i+1):=yab hlt
  have hsz:szs (v.zk.drop i)=(v.zk[i]).sz+szs (v.zk.drop (i+1))+1:=by rw [e0];simp only [szs]
  have hkd:kys (v.z08.drop (i+1))≤kys (v.z08.drop i):=by rw [←tail_drop];exact (ztk _).2
  have ej:(if decide (0<(i:Int))=true then (M.q70 acc 44).bind fun a_119=>some a_119 else some acc)=some (acc++unb (if decide (i=0)=true then [] else [44])):=by
   by_cases hz:i=0
   ·simp [hz,unb]
   ·have:0<(i:Int):=by omega
    rw [z1e (by omega)]
    simp [hz,this,unb]
  rw [ej]
  simp only [yc]
  have hc:(if decide (i=0)=true then ([]:Z) else [44]).length≤1:=by split<;>simp
  generalize hcm:(if decide (i=0)=true then ([]:Z) else [44])=cm at ej hc
  have hx:=hs _ (yam hlt)
  have hpl:=zn4 v.zk[i]
  by_cases h6:v.zh=6
  ·have hlk:i<v.z08.length:=by rw [hk h6];exact hlt
   have e1:v.z08.drop i=v.z08[i]::v.z08.drop (i+1):=yab hlk
   have hks:kys (v.z08.drop i)=(v.z08[i]).length+1+kys (v.z08.drop (i+1)):=by rw [e1,z5m]
   have hql:=zun v.z08[i]
   simp only [h6,decide_true,if_true,yak hlk,yc]
   rw [z9o (by simp [unb];omega)]
   simp only [yc]
   rw [z1e (by simp [unb];omega)]
   simp only [yc]
   rw [hx _ (by simp [unb];omega)]
   simp only [yc]
   rw [ih (i+1) _ (by omega) (by omega) (by simp [unb];omega),e0,zp8,hcm,e1]
   have e58:([58]:List Int)=unb [58]:=rfl
   rw [e58]
   simp [h6,z2r,yak hlk]
   rw [←z2r,←z2r]
   rfl
  ·rw [if_neg (by simpa using h6)]
   rw [hx _ (by simp [unb];omega)]
   simp only [yc]
   rw [ih (i+1) _ (by omega) (by omega) (by simp [unb];omega),e0,zp8,hcm,tail_drop]
   simp [h6,z2r]
theorem zhl:∀ {l:List q04} {w:Nat},zfm l w=0→∀ x∈l,za0 x w=0
 | y::l,w,h,x,hx=>by
  rw [zdt] at h
  by_cases hc:za0 y w=0
  ·rw [if_pos hc] at h
   rcases yay.1 hx with rfl|hx
   ·exact hc
   ·exact zhl h x hx
  ·rw [if_neg hc] at h;exact absurd h hc
theorem zbz {v:q04} {w:Nat} (h:za0 v w=0):¬((v.zh=5∨v.zh=6)∧16≤w)∧frm v.zh v.z06 v.zk.length v.z08=true∧zfm v.zk (w+1)=0:=by
 rw [z73] at h
 split at h
 ·cases h
 ·rename_i h1
  split at h
  ·cases h
  ·rename_i h2
   exact ⟨h1,by simpa using h2,h⟩
theorem zoh {k:Int} {t:Z} {n:Nat} {ks:List Z} (h:frm k t n ks=true):(k=6→ks.length=n)∧(¬(k=5∨k=6)→n=0)∧(0≤k∧k<7):=by
 rw [zkb (.inr trivial)] at h
 simp only [yi,ys,decide_eq_true_eq] at h
 obtain ⟨h1,h2,h3,_⟩:=h
 refine ⟨fun e => ?_,fun e => ?_,h1⟩
 ·rcases h3 with h3|h3
  ·omega
  ·simp [e] at h3
 ·rcases h2 with h2|h2
  ·exact absurd h2 e
  ·omega
theorem zkc:∀ (f:Nat) (v:q04) (w:Nat),w≤16→17≤f+w→za0 v w=0→∀ a:List Int,a.length+7*v.sz<90000000000→M.q3d f a v=some (a++unb (prJ v)):=by
 intro f
 induction f with
 | zero=>intro v w h1 h2;omega
 | succ f ih =>
  intro v w hw hf hc a ha
  obtain ⟨c1,c2,c3⟩:=zbz hc
  obtain ⟨d1,d2,d3⟩:=zoh c2
  have hsz:=q04.zfe v
  have hpl:=zn4 v
  rw [M.q3d,zz008]
  rw [zz008] at hpl
  by_cases h0:v.zh=0
  ·have hq:M.q71 a ([110,117,108,108]:Z)=_:=z2j (by simp;omega)
   simp [h0,hq]
  by_cases h1:v.zh=1
  ·have hq:M.q71 a ([102,97,108,115,101]:Z)=_:=z2j (by simp;omega)
   simp [h1,hq]
  by_cases h2:v.zh=2
  ·have hq:M.q71 a ([116,114,117,101]:Z)=_:=z2j (by simp;omega)
   simp [h2,hq]
  by_cases h3:v.zh=3
  ·have hq:=z2j (a:=a) (b:=v.z06) (by omega)
   simp [h3,hq]
  by_cases h4:v.zh=4
  ·have hq:=z9o (s:=v.z06) (acc:=a) (by omega)
   simp [h4,hq]
  have hl:v.zk=[]∨w<16:=by
   by_cases h56:v.zh=5∨v.zh=6
   ·exact .inr (by omega)
   ·exact .inl (yag (d2 h56))
  have hlen:=zir v.zk
  have hk1:=fun (acc:List Int) (hacc:acc.length≤a.length+1)=>zz01x (v:=v) (self:=M.q3d f) (by omega) d1 (fun x hx b hb=>by
   rcases hl with h|h
   ·rw [h] at hx;cases hx
   ·exact ih x (w+1) (by omega) (by omega) (zhl c3 x hx) b hb) _ 0 acc rfl (ybi _) (by simp only [yaf];omega)
  have hpl2:=zn5 (decide (v.zh=6)) v.zk v.z08 true
  rw [if_neg (by simpa using h0),if_neg (by simpa using h1),if_neg (by simpa using h2),if_neg (by simpa using h3),if_neg (by simpa using h4),if_neg h0,if_neg h1,if_neg h2,if_neg h3,if_neg h4]
  by_cases h6:v.zh=6
  ·simp only [h6,decide_true,if_true,ya,yc,zxc,ix_1,yaj,yai]
   rw [z1e (by omega)]
   simp only [yc]
   have hq:=hk1 (a++[123]) (by simp)
   have hq:M.z2i v (M.q3d f) 0 (a++[123])=_:=hq
   simp only [yaf,decide_true,h6] at hq
   have e:(((123:UInt8).toNat:Nat):Int)=123:=rfl
   rw [e,hq]
   simp only [yc]
   simp only [h6,decide_true] at hpl2
   rw [z1e (by simp [unb];omega)]
   simp [unb]
  ·simp only [h6,decide_false,if_false,ya,yc,zxc,ix_1,yaj,yai,yn]
   rw [z1e (by omega)]
   simp only [yc]
   have hq:=hk1 (a++[91]) (by simp)
   have hq:M.z2i v (M.q3d f) 0 (a++[91])=_:=hq
   simp only [yaf,decide_true,decide_false,h6] at hq
   have e:(((91:UInt8).toNat:Nat):Int)=91:=rfl
   rw [e,hq]
   simp only [yc]
   simp only [h6,decide_false] at hpl2
   rw [z1e (by simp [unb];omega)]
   simp [unb]
def print (v:q04):Z × Int:=if za0 v 0=0 then (if 16384<(prJ v).length then ([],22) else (prJ v,0)) else ([],za0 v 0)
theorem zba {v:q04} {f:Nat} (hf:17≤f) (h:Small v):M.q36 f v=some (print v):=by
 unfold M.q36 print
 rw [zi7 hf h]
 simp only [ya,yc]
 by_cases hc:za0 v 0=0
 ·unfold Small at h
  have hl:=zkc f v 0 (by omega) (by omega) hc [] (by simp;omega)
  rw [ya0] at hl
  simp only [hc,decide_true,yr,yn,if_false,if_true,hl,yc,builderLen_eq,z1p]
  by_cases h2:16384<(prJ v).length
  ·have:(16384:Int)<((prJ v).length:Int):=by omega
   simp [h2,this]
  ·have:¬(16384:Int)<((prJ v).length:Int):=by omega
   simp [h2,this,z1r]
 ·simp [hc]
end
section
open Go.Lk Go.Pe
def bl (b:UInt8):Bool:=([32,9,10,13]:Z).contains b
def z5d (s:Z):Z:=s.dropWhile bl
theorem z3k (s:Z):(z5d s).length≤s.length:=(yaa _).length_le
theorem z9m (s:Z):M.q3h ⟨s⟩=some ⟨z5d s⟩:=by
 unfold M.q3h M.trimLeft
 rw [z2s (by decide)]
 rfl
def take (s p:Z):Option Z:=if p.isPrefixOf s=true then some (z5d (s.drop p.length)) else none
theorem z22 (s p:Z):M.q3k ⟨s⟩ p=some (match take s p with|some r=>(true,⟨r⟩)|none=>(false,⟨s⟩)):=by
 unfold M.q3k take
 rw [z50]
 cases h:p.isPrefixOf s with
 | false=>rfl
 | true=>simp [z9m]
theorem take_one (c:UInt8) (s:Z):take s [c]=match s with|[]=>none|d::r=>if d=c then some (z5d r) else none:=by
 unfold take
 cases s with
 | nil=>rfl
 | cons d r =>
  by_cases h:c=d
  ·subst h;simp [yao]
  ·have:¬d=c:=fun e=>h e.symm
   simp [yao,h,this]
theorem take_len {s p r:Z} (h:take s p=some r):r.length+p.length≤s.length:=by
 unfold take at h
 split at h
 ·rename_i hp
  cases h
  have h1:=z3k (s.drop p.length)
  have h2:=zn6 hp
  rw [yas] at h1
  omega
 ·cases h
def z7g (c:UInt8):Option Nat:=if isD c=true then some (c.toNat - 48) else if 97≤c.toNat∧c.toNat≤102 then some (c.toNat - 87) else if 65≤c.toNat∧c.toNat≤70 then some (c.toNat - 55) else none
def zzs:Z:=[48,49,50,51,52,53,54,55,56,57,97,98,99,100,101,102,65,66,67,68,69,70]
theorem zqg:∀ c:UInt8,zzs.contains c=(z7g c).isSome:=z5t (by decide +kernel)
theorem z4c:∀ c:UInt8,∀ d,z7g c=some d→d<16:=by
 intro c d h
 unfold z7g isD at h
 have:=zu0 (b:=c)
 split at h
 ·rename_i hc
  simp only [yi,decide_eq_true_eq] at hc
  cases h
  omega
 ·split at h
  ·cases h;omega
  ·split at h
   ·cases h;omega
   ·cases h
theorem dropWhile_nil {α:Type} (p:α→Bool):∀ l:List α,l.dropWhile p=[]↔∀ b∈l,p b=true
 | []=>by simp
 | a::l=>by
  rw [List.dropWhile_cons]
  cases h:p a with
  | false=>simp [h]
  | true=>simp [h,dropWhile_nil p l]
theorem zln (l cs:Z):Lib.trimS l cs=[]↔∀ b∈l,cs.contains b=true:=by
 unfold Lib.trimS Lib.trimLeftS Lib.trimRightS
 rw [dropWhile_nil]
 constructor
 ·intro h
  have h2:l.reverse.dropWhile (cs.contains ·)=[]:=by
   cases hd:l.reverse.dropWhile (cs.contains ·) with
   | nil=>rfl
   | cons a r =>
    have h3:¬cs.contains a=true:=by
     have:=List.head?_dropWhile_not (cs.contains ·) l.reverse
     rw [hd] at this
     simpa using this
    exact absurd (h a (by rw [hd];simp)) h3
  rw [dropWhile_nil] at h2
  exact fun b hb=>h2 b (by simpa using hb)
 ·intro h b hb
  rw [List.mem_reverse] at hb
  exact h b (by simpa using (yaa _).subset hb)
def pstep (x:Int):Option Int :=
 if ((decide (48≤x))&&(decide (x≤57)))=true then some (ybk .u8 (x - 48))
 else if ((decide (97≤orI .u8 x 32))&&(decide (orI .u8 x 32≤122)))=true then some (ybk .u8 ((ybk .u8 (orI .u8 x 32 - 97))+10)) else none
theorem zuk:∀ c:UInt8,∀ d,z7g c=some d→pstep (c.toNat:Int)=some (d:Int):=by
 have:∀ c:UInt8,(match z7g c with|some d=>decide (pstep (c.toNat:Int)=some (d:Int))|none=>true)=true:=z5t (by decide +kernel)
 intro c d h
 have h2:=this c
 rw [h] at h2
 simpa using h2
theorem z97 {s:Z} {i n d:Nat} {c:UInt8} (hi:s[i]? = some c) (hl:s.length<1000000) (hd:z7g c=some d) (hn:n<4096) :
  M.zl (s,16) 16 1152921504606846976 16 false (n:Int) (i:Int)=M.zl (s,16) 16 1152921504606846976 16 false ((16*n+d:Nat):Int) ((i+1:Nat):Int):=by
 have hlt:i<s.length:=by
  rcases ybd i s.length with h|h
  ·exact h
  ·rw [yal h] at hi;cases hi
 have hd16:=z4c c d hd
 conv=>lhs;rw [M.zl.eq_1]
 have h1:((i:Int)<((unb s).length:Int)):=by rw [z1p];omega
 have h16:¬((16:Int)=0):=by decide
 have h95:(decide ((c.toNat:Int)=95)&&decide ((16:Int)=0))=false:=by simp
 simp only [h1,decide_true,if_true,z6k,zfi,hi,yf,ya,yc,h95,yn,if_false]
 have e0:M.q2x (c.toNat:Int)=some (orI .u8 (c.toNat:Int) 32):=rfl
 simp only [e0,yc]
 have hp:=zuk c d hd
 unfold pstep at hp
 have fin:∀ q:Option (Jn (Jn (Int × Bool) (Bool × Int)) Int),q=some (.go (d:Int))→(q.bind fun q_381=>match q_381 with
   | .done r=>some r
   | .go j_381=>if decide (ybk .u8 16≤j_381)=true then some (.done (0,false)) else if decide (1152921504606846976≤(n:Int))=true then some (.done ((ybk .u64 ((z5x .u64 1 (ybk .u64 16)) - 1)),false)) else
    if (decide ((ybk .u64 ((ybk .u64 ((n:Int)*(ybk .u64 16)))+(ybk .u64 j_381)))<(ybk .u64 ((n:Int)*(ybk .u64 16))))||decide ((ybk .u64 ((z5x .u64 1 (ybk .u64 16)) - 1))<(ybk .u64 ((ybk .u64 ((n:Int)*(ybk .u64 16)))+(ybk .u64 j_381)))))=true then
     some (.done ((ybk .u64 ((z5x .u64 1 (ybk .u64 16)) - 1)),false))
    else M.zl (s,16) 16 1152921504606846976 16 false (ybk .u64 ((ybk .u64 ((n:Int)*(ybk .u64 16)))+(ybk .u64 j_381))) (ybk .i64 ((i:Int)+1)))=M.zl (s,16) 16 1152921504606846976 16 false ((16*n+d:Nat):Int) ((i+1:Nat):Int):=by
  rintro q rfl
  simp only [yc]
  have u16:ybk .u8 16=16:=by decide
  have v16:ybk .u64 16=16:=by decide
  have m16:ybk .u64 ((z5x .u64 1 16) - 1)=65535:=by decide
  rw [u16,v16,m16,wu64 (x:=(n:Int)*16) (by omega) (by omega),wu64 (x:=(d:Int)) (by omega) (by omega),wu64 (x:=(n:Int)*16+(d:Int)) (by omega) (by omega),w1 (by omega)]
  rw [if_neg (by simp;omega),if_neg (by simp;omega),if_neg (by simp;omega)]
  congr 1
  omega
 refine fin _ ?_
 by_cases cd:((decide (48≤(c.toNat:Int)))&&(decide ((c.toNat:Int)≤57)))=true
 ·rw [if_pos cd] at hp ⊢
  simp only [Option.some.injEq] at hp
  rw [hp]
 ·rw [if_neg cd] at hp ⊢
  have ej:(if decide (97≤orI .u8 (c.toNat:Int) 32)=true then some (decide (orI .u8 (c.toNat:Int) 32≤122)) else some false)=some ((decide (97≤orI .u8 (c.toNat:Int) 32))&&(decide (orI .u8 (c.toNat:Int) 32≤122))):=by
   cases decide (97≤orI .u8 (c.toNat:Int) 32)<;>simp
  rw [ej]
  simp only [yc]
  by_cases cl:((decide (97≤orI .u8 (c.toNat:Int) 32))&&(decide (orI .u8 (c.toNat:Int) 32≤122)))=true
  ·rw [if_pos cl] at hp ⊢
   simp only [Option.some.injEq] at hp
   rw [hp]
  ·rw [if_neg cl] at hp;cases hp
theorem zqv {a b c d:UInt8} {ha hb hc hd:Nat} (h1:z7g a=some ha) (h2:z7g b=some hb) (h3:z7g c=some hc) (h4:z7g d=some hd) :
  M.q6y [a,b,c,d] 16 16=some ((((16*(16*(16*ha+hb)+hc)+hd:Nat)):Int),true):=by
 have l1:=z4c a ha h1
 have l2:=z4c b hb h2
 have l3:=z4c c hc h3
 have l4:=z4c d hd h4
 have s1:=z97 (s:=[a,b,c,d]) (i:=0) (n:=0) (d:=ha) (c:=a) rfl (by simp) h1 (by omega)
 have s2:=z97 (s:=[a,b,c,d]) (i:=1) (n:=16*0+ha) (d:=hb) (c:=b) rfl (by simp) h2 (by omega)
 have s3:=z97 (s:=[a,b,c,d]) (i:=2) (n:=16*(16*0+ha)+hb) (d:=hc) (c:=c) rfl (by simp) h3 (by omega)
 have s4:=z97 (s:=[a,b,c,d]) (i:=3) (n:=16*(16*(16*0+ha)+hb)+hc) (d:=hd) (c:=d) rfl (by simp) h4 (by omega)
 have s5:M.zl ([a,b,c,d],16) 16 1152921504606846976 16 false ((16*(16*(16*(16*0+ha)+hb)+hc)+hd:Nat):Int) ((3+1:Nat):Int)=some (.go (false,((16*(16*(16*(16*0+ha)+hb)+hc)+hd:Nat):Int))):=by
  rw [M.zl.eq_1]
  simp [unb]
 have s6:M.zl ([a,b,c,d],16) 16 1152921504606846976 16 false 0 0=_:=s1.trans (s2.trans (s3.trans (s4.trans s5)))
 unfold M.q6y M.q2w
 have e1:ybk .u64 16=16:=by decide
 simp [e1,z2s,s6]
def unit (s:Z):Option (Nat × Z) :=
 match s with
 | x::y::a::b::c::d::r=>if x=92∧y=117 then (z7g a).bind fun ha=>(z7g b).bind fun hb=>(z7g c).bind fun hc=>(z7g d).bind fun hd=>some (16*(16*(16*ha+hb)+hc)+hd,r) else none
 | _=>none
def oRs {α β:Type} (f:α→β):Option α→Rs β
 | some a => .ok (f a)
 | none => .pan 20
theorem zit {s r:Z} {n:Nat} (h:unit s=some (n,r)):n<65536∧r.length+6=s.length:=by
 unfold unit at h
 split at h
 ·rename_i x y a b c d r'
  split at h
  ·obtain ⟨ha,h1,h⟩:=yb.1 h
   obtain ⟨hb,h2,h⟩:=yb.1 h
   obtain ⟨hc,h3,h⟩:=yb.1 h
   obtain ⟨hd,h4,h⟩:=yb.1 h
   have l1:=z4c _ _ h1
   have l2:=z4c _ _ h2
   have l3:=z4c _ _ h3
   have l4:=z4c _ _ h4
   cases h
   exact ⟨by omega,by simp⟩
  ·cases h
 ·cases h
theorem zd0 (s:Z) (hs:s.length<1000000000):M.q3m ⟨s⟩=some (oRs (fun x=>(((x.1:Nat):Int),(⟨x.2⟩:q0c))) (unit s)):=by
 unfold M.q3m
 rw [z50]
 have shp:(∃ t,s=92::117::t)∨((([92,117]:Z).isPrefixOf s)=false∧unit s=none):=by
  match s with
  | []=>exact .inr ⟨rfl,rfl⟩
  | [x]=>exact .inr ⟨by simp [yao],rfl⟩
  | x::y::t =>
   by_cases hx:x=92∧y=117
   ·obtain ⟨rfl,rfl⟩:=hx;exact .inl ⟨t,rfl⟩
   ·refine .inr ⟨?_,?_⟩
    ·simp only [yao,Bool.and_true,yh,beq_eq_false_iff_ne]
     by_cases h1:x=92
     ·exact .inr fun e=>hx ⟨h1,e.symm⟩
     ·exact .inl fun e=>h1 e.symm
    ·unfold unit
     split
     ·rename_i h;injection h with e1 e2;injection e2 with e3 e4;subst e1 e3;rw [if_neg hx]
     ·rfl
 rcases shp with ⟨t,rfl⟩|⟨h1,h2⟩
 ·have hp:([92,117]:Z).isPrefixOf (92::117::t)=true:=by simp [yao]
  simp only [hp,if_true,yar,yat,yad,yaf,ya,yc,yt]
  match t with
  | a::b::c::d::r =>
   have hl:(4:Int)≤(((a::b::c::d::r).length:Nat):Int):=by simp only [yar];omega
   have hs4:sub (a::b::c::d::r) 0 4=some [a,b,c,d]:=zr5 (a:=4) (by simp)
   have hs5:sub (a::b::c::d::r) 4 (((a::b::c::d::r).length:Nat):Int)=some r:=zci (a:=4) (by simp)
   simp only [hl,decide_true,if_true,hs4,hs5,yc]
   unfold M.trim
   rw [z2s (by simp)]
   have ee:((decide (Lib.trimS [a,b,c,d] [48,49,50,51,52,53,54,55,56,57,97,98,99,100,101,102,65,66,67,68,69,70]=([]:Z))))=((z7g a).isSome&&((z7g b).isSome&&((z7g c).isSome&&(z7g d).isSome))):=by
    rw [ym,decide_eq_true_iff,zln]
    have ht:=zqg
    unfold zzs at ht
    simp only [ht,yay,List.not_mem_nil,or_false,forall_eq_or_imp,forall_eq,yi]
   simp only [ya,yc,ee,z38]
   unfold unit
   cases h1:z7g a with
   | none=>simp [oRs,h1]
   | some ha =>
    cases h2:z7g b with
    | none=>simp [oRs,h1,h2]
    | some hb =>
     cases h3:z7g c with
     | none=>simp [oRs,h1,h2,h3]
     | some hc =>
      cases h4:z7g d with
      | none=>simp [oRs,h1,h2,h3,h4]
      | some hd =>
       have l1:=z4c a ha h1
       have l2:=z4c b hb h2
       have l3:=z4c c hc h3
       have l4:=z4c d hd h4
       have hw:ybk .i32 ((16*(16*(16*ha+hb)+hc)+hd:Nat):Int)=((16*(16*(16*ha+hb)+hc)+hd:Nat):Int):=w32 (by omega) (by omega)
       have hq:=zqv h1 h2 h3 h4
       generalize hN:16*(16*(16*ha+hb)+hc)+hd=N at hw hq
       simp only [Option.isSome_some,yt,if_true,hq,yc,hw,h1,h2,h3,h4,and_self]
       simp [oRs]
       omega
  | []=>simp [unit,oRs,z38]
  | [_]=>simp [unit,oRs,z38]
  | [_,_]=>simp [unit,oRs,z38]
  | [_,_,_]=>simp [unit,oRs,z38]
 ·rw [h1,h2]
  simp [oRs,z38]
def esc1 (c:UInt8):Option UInt8:=if c=34 then some 34 else if c=92 then some 92 else if c=47 then some 47 else if c=98 then some 8 else if c=102 then some 12 else if c=110 then some 10 else if c=114 then some 13 else if c=116 then some 9 else none
def zvs (n:Nat):Bool:=decide (56320≤n)&&decide (n≤57343)
def zqh (n:Nat):Bool:=decide (55296≤n)&&decide (n≤57343)
def zzn (s:Z):Option (Z × Z) :=
 match s with
 | a::c::r=>match esc1 c with
  | some x=>some ([x],r)
  | none=>match unit (a::c::r) with
   | none=>none
   | some (n,r1)=>if zvs n=true then none else if zqh n=false then some (encS (n:Int),r1) else match unit r1 with
    | none=>none
    | some (m,r2)=>if zvs m=true then some (encS (65536+((n:Int) - 55296)*1024+(m:Int) - 56320),r2) else none
 | _=>none
theorem zwi:∀ c:UInt8,(match esc1 c with
  | some x=>decide (0≤Lib.indexByte [34,92,47,98,102,110,114,116] (c.toNat:Int).toNat.toUInt8∧sub ([34,92,47,8,12,10,13,9]:Z) (Lib.indexByte [34,92,47,98,102,110,114,116] (c.toNat:Int).toNat.toUInt8) (ybk .i64 (Lib.indexByte [34,92,47,98,102,110,114,116] (c.toNat:Int).toNat.toUInt8+1))=some [x])
  | none=>decide (¬0≤Lib.indexByte [34,92,47,98,102,110,114,116] (c.toNat:Int).toNat.toUInt8))=true:=z5t (by decide +kernel)
theorem zo8 (n:Int):(encS n).length≤4:=by
 unfold encS Utf8.encode
 repeat' split
 all_goals (try simp)
 all_goals (repeat' split)
 all_goals (simp [ByteArray.size])
theorem zhs {s t r:Z} (h:zzn s=some (t,r)):t.length≤4∧r.length+2≤s.length:=by
 unfold zzn at h
 split at h
 ·rename_i a c r'
  split at h
  ·cases h;simp
  ·split at h
   ·cases h
   ·rename_i n r1 hu
    have:=zit hu
    split at h
    ·cases h
    ·split at h
     ·simp only [Option.some.injEq,Prod.mk.injEq] at h
      obtain ⟨rfl,rfl⟩:=h
      have h9:=zo8 (n:Int)
      simp only [yar] at *
      exact ⟨h9,by omega⟩
     ·split at h
      ·cases h
      ·rename_i m r2 hu2
       have:=zit hu2
       split at h
       ·simp only [Option.some.injEq,Prod.mk.injEq] at h
        obtain ⟨rfl,rfl⟩:=h
        have h9:=zo8 (65536+((n:Int) - 55296)*1024+(m:Int) - 56320)
        simp only [yar] at *
        exact ⟨h9,by omega⟩
       ·cases h
 ·cases h
theorem zz03n {n m:Int} (h1:55296≤n) (h2:n≤57343) (h3:56320≤m) (h4:m≤57343) :
  ybk .i32 (ybk .i32 (ybk .i32 (65536+z5x .i32 (ybk .i32 (n - 55296)) 10)+m) - 56320)=65536+(n - 55296)*1024+m - 56320:=by
 have s2:z5x .i32 (n - 55296) 10=(n - 55296)*1024:=by
  unfold z5x
  have:min (10:Int).toNat IntKind.i32.bits=10:=by decide
  have h10:(2:Int) ^ 10=1024:=by decide
  rw [this,h10,w32 (by omega) (by omega)]
 rw [w32 (x:=n - 55296) (by omega) (by omega),s2,w32 (x:=65536+(n - 55296)*1024) (by omega) (by omega),w32 (x:=65536+(n - 55296)*1024+m) (by omega) (by omega),w32 (by omega) (by omega)]
theorem rng1 (n:Nat):(decide ((n:Int)<56320)||decide (57343<(n:Int))) = !zvs n:=by
 unfold zvs
 rw [ym,ys,yp,←yo,yi];simp only [decide_eq_true_eq];omega
theorem rng2 (n:Nat):(decide ((n:Int)<55296)||decide (57343<(n:Int))) = !zqh n:=by
 unfold zqh
 rw [ym,ys,yp,←yo,yi];simp only [decide_eq_true_eq];omega
theorem rng3 (m:Nat):(decide (56320≤(m:Int))&&decide ((m:Int)≤57343))=zvs m:=by
 unfold zvs
 rw [ym,yi,yi];simp only [decide_eq_true_eq];omega
theorem zz01m {n:Nat} (h:zqh n=true):55296≤(n:Int)∧(n:Int)≤57343:=by
 unfold zqh at h
 rw [yi] at h;simp only [decide_eq_true_eq] at h;omega
theorem zz05z {n:Nat} (h:zvs n=true):56320≤(n:Int)∧(n:Int)≤57343:=by
 unfold zvs at h
 rw [yi] at h;simp only [decide_eq_true_eq] at h;omega
theorem zem (s:Z) (hs:s.length<1000000000):M.q3i ⟨s⟩=some (oRs (fun x=>(x.1,(⟨x.2⟩:q0c))) (zzn s)):=by
 unfold M.q3i
 match s with
 | []=>simp [z38,zzn,oRs]
 | [_]=>simp [z38,zzn,oRs]
 | a::c::r =>
  have hl:(2:Int)≤(((a::c::r).length:Nat):Int):=by simp only [yar];omega
  have hsub:sub (a::c::r) 2 (((a::c::r).length:Nat):Int)=some r:=zci (a:=2) (by simp)
  simp only [hl,decide_true,zkn,if_true,ya,yc,ix_1,yai,yaj]
  unfold zzn
  have ht:=zwi c
  unfold M.indexByte
  simp only [yc]
  cases he:esc1 c with
  | some x =>
   rw [he] at ht
   simp only [decide_eq_true_eq] at ht
   rw [if_pos (by simpa using ht.1),hsub]
   simp only [yc]
   rw [ht.2]
   simp [oRs]
  | none =>
   rw [he] at ht
   simp only [decide_eq_true_eq] at ht
   rw [if_neg (by simpa using ht),zd0 _ hs]
   simp only [yc]
   cases hu:unit (a::c::r) with
   | none=>simp [oRs]
   | some p =>
    obtain ⟨n,r1⟩:=p
    obtain ⟨u1,u2⟩:=zit hu
    simp only [oRs]
    rw [rng1,z38,rng2]
    simp only [yc]
    cases c1:zvs n with
    | true=>simp
    | false =>
     simp only [yq,if_true,yn,if_false]
     cases c2:zqh n with
     | false=>simp
     | true =>
      simp only [yr,yn,if_false,yu]
      rw [zd0 _ (by omega)]
      simp only [yc]
      cases hu2:unit r1 with
      | none=>simp [oRs]
      | some p2 =>
       obtain ⟨m,r2⟩:=p2
       obtain ⟨u3,u4⟩:=zit hu2
       simp only [oRs]
       rw [rng3,z38]
       simp only [yc]
       cases c3:zvs m with
       | true =>
        obtain ⟨q1,q2⟩:=zz01m c2
        obtain ⟨q3,q4⟩:=zz05z c3
        simp only [if_true]
        rw [zz03n q1 q2 q3 q4]
       | false=>simp
def txt:Nat→Z→Z→Option (Z × Z)
 | 0,_,_=>none
 | _+1,[],_=>none
 | f+1,c::r,acc=>if c.toNat<32 then none else if c=34 then (if Lib.validD acc=true then some (acc,r) else none)
  else if c=92 then match zzn (c::r) with
   | none=>none
   | some (t,r2)=>txt f r2 (acc++t)
  else txt f r (acc++[c])
def text (s:Z):Option (Z × Z) :=
 match s with
 | c::r=>if c=34 then txt (r.length+1) r [] else none
 | []=>none
theorem znq:∀ (f:Nat) (s acc t r:Z),txt f s acc=some (t,r)→r.length+1≤s.length∧t.length≤acc.length+4*s.length
 | 0,_,_,_,_,h=>by simp [txt] at h
 | _+1,[],_,_,_,h=>by simp [txt] at h
 | f+1,c::s,acc,t,r,h=>by
  rw [txt] at h
  split at h
  ·cases h
  ·split at h
   ·split at h
    ·cases h;simp
    ·cases h
   ·split at h
    ·split at h
     ·cases h
     ·rename_i t1 r1 he
      have h1:=zhs he
      have h2:=znq f _ _ _ _ h
      simp only [yaq,yar] at *
      omega
    ·have h2:=znq f _ _ _ _ h
     simp only [yaq,yar,yat] at *
     omega
theorem zbr {s t r:Z} (h:text s=some (t,r)):r.length+2≤s.length∧t.length≤4*s.length:=by
 unfold text at h
 split at h
 ·split at h
  ·have:=znq _ _ _ _ _ h
   simp only [yar,yat] at *
   omega
  ·cases h
 ·cases h
theorem zkd:∀ (f:Nat) (s acc:Z),s.length<f→acc.length+4*s.length<4000000000→s.length<1000000000 →
  M.z1k s (unb acc)=some (oRs (fun x=>(x.1,(⟨z5d x.2⟩:q0c))) (txt f s acc)):=by
 intro f
 induction f with
 | zero=>intro s acc h;omega
 | succ f ih =>
  intro s acc hf ha hs
  rw [M.z1k.eq_1]
  cases s with
  | nil=>rfl
  | cons c r =>
   simp only [yar] at hf ha hs
   have e1:(decide ((c::r)=([]:Z)))=false:=by simp
   have e2:decide (32≤(c.toNat:Int))=decide (¬c.toNat<32):=decide_eq_decide.2 (by omega)
   have t34:((c.toNat:Int)=34)↔c=34:=toNat_eq (n:=34) (by omega)
   have t92:((c.toNat:Int)=92)↔c=92:=toNat_eq (n:=92) (by omega)
   simp only [e1,yq,if_true,zxc,yaj,ya,yc,e2,z38,t34,t92]
   rw [txt]
   by_cases c32:c.toNat<32
   ·simp [c32,oRs]
   ·simp only [c32,not_false_eq_true,decide_true,if_true,if_false]
    by_cases c34:c=34
    ·subst c34
     have hq:M.zw (unb acc)=some acc:=z1r acc
     simp only [decide_true,if_true,hq,yc]
     rw [z6j (by omega)]
     simp only [yc]
     by_cases hv:Lib.validD acc=true
     ·simp only [hv,if_true]
      rw [z22,take_one]
      simp [oRs]
     ·simp [hv,oRs]
    ·simp only [c34,decide_false,yn,if_false]
     by_cases c92:c=92
     ·simp only [c92,decide_true,if_true]
      rw [zem _ (by simp only [yar];omega)]
      simp only [yc]
      cases he:zzn (92::r) with
      | none=>rfl
      | some p =>
       obtain ⟨t,r2⟩:=p
       have hl:=zhs he
       simp only [yar] at hl
       simp only [oRs]
       rw [z2j (by simp [unb];omega)]
       simp only [yc]
       rw [←z2r,ih r2 (acc++t) (by omega) (by simp;omega) (by omega)]
       rfl
     ·simp only [c92,decide_false,yn,if_false]
      rw [z1e (by simp [unb];omega)]
      simp only [yc]
      have hsub:sub (c::r) 1 (((c::r).length:Nat):Int)=some r:=zci (a:=1) (by simp)
      rw [hsub]
      simp only [yc]
      have e:unb acc++[(c.toNat:Int)]=unb (acc++[c]):=by simp [unb]
      rw [e,ih r (acc++[c]) (by omega) (by simp;omega) (by omega)]
theorem zcz (s:Z) (hs:s.length<900000000):M.q3l ⟨s⟩=some (oRs (fun x=>(x.1,(⟨z5d x.2⟩:q0c))) (text s)):=by
 unfold M.q3l
 rw [z50,z6f]
 cases s with
 | nil=>rfl
 | cons c r =>
  by_cases h:c=34
  ·subst h
   simp only [yan,decide_true,if_true,yar,yat,yad,yaf,ya,yc,z38]
   simp only [yar] at hs
   exact zkd (r.length+1) r [] (by omega) (by simp;omega) (by omega)
  ·simp [h,z38,oRs,text]
end
section
open Go.Lk Go.Pe
theorem zx7 {ks:List Z} {k:Z} (hl:ks.length<1152921504606846976):∀ (n i:Nat),ks.length - i=n→i≤ks.length →
  M.zf ks k (i:Int)=some (match (ks.drop i).findIdx? (fun x=>decide (k=x)) with|some j => .done ((i+j:Nat):Int)|none => .go ()):=by
 intro n
 induction n with
 | zero =>
  intro i hn hi
  rw [M.zf.eq_1]
  have:¬((i:Int)<(ks.length:Int)):=by omega
  rw [if_neg (by simpa using this),yac (by omega)]
  rfl
 | succ n ih =>
  intro i hn hi
  have hlt:i<ks.length:=by omega
  rw [M.zf.eq_1]
  have h1:((i:Int)<(ks.length:Int)):=by omega
  simp only [h1,decide_true,if_true,z6k,yak hlt,ya,yc]
  rw [w1 (by omega),ih (i+1) (by omega) (by omega),yab hlt,yah]
  by_cases h:k=ks[i]
  ·simp [h]
  ·simp only [h,decide_false,yn,if_false]
   cases (ks.drop (i+1)).findIdx? (fun x=>decide (k=x)) with
   | none=>rfl
   | some j=>simp only [yf];congr 3;omega
theorem zon {ks:List Z} {k:Z} (hl:ks.length<1152921504606846976):M.q6x ks k=some (match ks.findIdx? (fun x=>decide (k=x)) with|some j=>(j:Int)|none => -1):=by
 unfold M.q6x
 have h:=zx7 (k:=k) hl _ 0 rfl (ybi _)
 have h:M.zf ks k 0=_:=h
 rw [h,yaf]
 cases ks.findIdx? (fun x=>decide (k=x)) with
 | none=>rfl
 | some j=>simp
theorem contains_eq {ks:List Z} {k:Z} (hl:ks.length<1152921504606846976):M.q6s ks k=some (decide (k∈ks)):=by
 unfold M.q6s
 rw [zon hl]
 simp only [ya,yc,Option.some.injEq]
 cases h:ks.findIdx? (fun x=>decide (k=x)) with
 | none =>
  rw [List.findIdx?_eq_none_iff] at h
  have:¬k∈ks:=fun hm=>by simpa using h k hm
  simp [this]
 | some j =>
  have h2:=List.findIdx?_eq_some_iff_getElem.1 h
  obtain ⟨hj,h3,_⟩:=h2
  have:k∈ks:=by simp at h3;rw [h3];exact yam hj
  simp [this]
abbrev J:=q04
abbrev Rd:=Rs (J × Z)
def zxe (s:Z) (ks:List Z):Rs (Z × List Z) :=
 match text s with
 | none => .pan 20
 | some (k,r)=>if k∈ks then .pan 20 else match take (z5d r) [58] with
  | none => .pan 20
  | some r2 => .ok (r2,ks++[k])
def items (vf:Z→Rd) (o:Bool) (e:UInt8):Nat→Z→List J→List Z→Rd
 | 0,_,_,_ => .pan 20
 | f+1,s,l,ks=>match (if o=true then zxe s ks else .ok (s,ks)) with
  | .pan c => .pan c
  | .ok (s1,ks1)=>match vf s1 with
   | .pan c => .pan c
   | .ok (x,s2)=>match take s2 [e] with
    | some r => .ok (⟨if o=true then 6 else 5,[],l++[x],ks1⟩,r)
    | none=>match take s2 [44] with
     | none => .pan 20
     | some r=>items vf o e f r (l++[x]) ks1
def nest (vf:Z→Rd) (o:Bool) (w:Nat) (s:Z):Rd :=
 if 16≤w then .pan 21 else match take s [if o=true then 125 else 93] with
  | some r => .ok (⟨if o=true then 6 else 5,[],[],[]⟩,r)
  | none=>items vf o (if o=true then 125 else 93) (s.length+1) s [] []
def word (s:Z):Rd :=
 match take s [110,117,108,108] with
 | some r => .ok (⟨0,[],[],[]⟩,r)
 | none=>match take s [102,97,108,115,101] with
  | some r => .ok (⟨1,[],[],[]⟩,r)
  | none=>match take s [116,114,117,101] with
   | some r => .ok (⟨2,[],[],[]⟩,r)
   | none=>if num s=0 then .pan 20 else .ok (⟨3,s.take (num s),[],[]⟩,z5d (s.drop (num s)))
def val:Nat→Z→Nat→Rd
 | 0,_,_ => .pan 20
 | f+1,s,w=>match text s with
  | some (t,r) => .ok (⟨4,t,[],[]⟩,z5d r)
  | none=>if s.head? = some 34 then .pan 20 else match take s [91] with
   | some r=>nest (fun s=>val f s (w+1)) false w r
   | none=>match take s [123] with
    | some r=>nest (fun s=>val f s (w+1)) true w r
    | none=>word s
def cv (x:J × Z):J × q0c:=(x.1,⟨x.2⟩)
def mRs {α β:Type} (f:α→β):Rs α→Rs β
 | .ok a => .ok (f a)
 | .pan c => .pan c
theorem zxf {s:Z} {ks:List Z} {r:Z} {ks2:List Z} (h:zxe s ks = .ok (r,ks2)):r.length+3≤s.length∧ks2.length=ks.length+1:=by
 unfold zxe at h
 split at h
 ·cases h
 ·rename_i k r1 ht
  have h1:=zbr ht
  split at h
  ·cases h
  ·split at h
   ·cases h
   ·rename_i r2 ht2
    have h2:=take_len ht2
    have h3:=z3k r1
    cases h
    simp only [yar,yat] at h2
    exact ⟨by omega,by simp⟩
theorem zt8 {vf:Z→Rd} {o:Bool} {e:UInt8} (hv:∀ s x r,vf s = .ok (x,r)→r.length+1≤s.length):∀ (f:Nat) (s:Z) (l:List J) (ks:List Z) (x:J) (r:Z),items vf o e f s l ks = .ok (x,r)→r.length+1≤s.length:=by
 intro f
 induction f with
 | zero=>intro s l ks x r h;simp [items] at h
 | succ f ih =>
  intro s l ks x r h
  rw [items] at h
  split at h
  ·cases h
  ·rename_i s1 ks1 hk
   have h1:s1.length≤s.length:=by
    split at hk
    ·have:=zxf hk;omega
    ·cases hk;omega
   split at h
   ·cases h
   ·rename_i x2 s2 hx
    have h2:=hv _ _ _ hx
    split at h
    ·rename_i r2 ht
     have h3:=take_len ht
     cases h
     omega
    ·split at h
     ·cases h
     ·rename_i r2 ht
      have h3:=take_len ht
      have h4:=ih _ _ _ _ _ h
      omega
theorem zoy {vf:Z→Rd} {o:Bool} {w:Nat} (hv:∀ s x r,vf s = .ok (x,r)→r.length+1≤s.length) {s r:Z} {x:J} (h:nest vf o w s = .ok (x,r)):r.length+1≤s.length:=by
 unfold nest at h
 split at h
 ·cases h
 ·split at h
  ·rename_i r2 ht
   have:=take_len ht
   cases h
   simp only [yar,yat] at this
   omega
  ·exact zt8 hv _ _ _ _ _ _ h
theorem zpl {s r:Z} {x:J} (h:word s = .ok (x,r)):r.length+1≤s.length:=by
 unfold word at h
 split at h
 ·rename_i r2 ht
  have:=take_len ht
  cases h
  simp only [yar,yat] at this
  omega
 ·split at h
  ·rename_i r2 ht
   have:=take_len ht
   cases h
   simp only [yar,yat] at this
   omega
  ·split at h
   ·rename_i r2 ht
    have:=take_len ht
    cases h
    simp only [yar,yat] at this
    omega
   ·split at h
    ·cases h
    ·rename_i hn
     cases h
     have h1:=z3k (s.drop (num s))
     have h2:=zp2 s
     rw [yas] at h1
     omega
theorem zz040:∀ (f:Nat) (s:Z) (w:Nat) (x:J) (r:Z),val f s w = .ok (x,r)→r.length+1≤s.length:=by
 intro f
 induction f with
 | zero=>intro s w x r h;simp [val] at h
 | succ f ih =>
  intro s w x r h
  rw [val] at h
  split at h
  ·rename_i t r2 ht
   have h1:=zbr ht
   have h2:=z3k r2
   cases h
   omega
  ·split at h
   ·cases h
   ·split at h
    ·rename_i r2 ht
     have h1:=take_len ht
     have h2:=zoy (fun s x r=>ih s (w+1) x r) h
     omega
    ·split at h
     ·rename_i r2 ht
      have h1:=take_len ht
      have h2:=zoy (fun s x r=>ih s (w+1) x r) h
      omega
     ·exact zpl h
theorem zz044 (s:Z):M.z0s 0 s=some (match take s [110,117,108,108] with
  | some r => .done (.ok (⟨0,[],[],[]⟩,⟨r⟩))
  | none=>match take s [102,97,108,115,101] with
   | some r => .done (.ok (⟨1,[],[],[]⟩,⟨r⟩))
   | none=>match take s [116,114,117,101] with
    | some r => .done (.ok (⟨2,[],[],[]⟩,⟨r⟩))
    | none => .go s):=by
 have e0:ybk .i64 (0+1)=1:=by decide
 have e1:ybk .i64 (1+1)=2:=by decide
 have e2:ybk .i64 (2+1)=3:=by decide
 have i2:∀ {α:Type} (l:List α),ix l 2=l[2]?:=fun l=>by simp [ix]
 rw [M.z0s.eq_1]
 have h0:(0:Int)<3:=by decide
 have h1:(1:Int)<3:=by decide
 have h2:(2:Int)<3:=by decide
 simp only [yar,yat,zxc,yaj,ya,yc,z22,e0]
 rw [if_pos (by decide)]
 cases take s [110,117,108,108] with
 | some r=>rfl
 | none =>
  simp only [yn,if_false]
  rw [M.z0s.eq_1]
  simp only [yar,yat,ix_1,yaj,yai,ya,yc,z22,e1]
  rw [if_pos (by decide)]
  cases take s [102,97,108,115,101] with
  | some r=>rfl
  | none =>
   simp only [yn,if_false]
   rw [M.z0s.eq_1]
   simp only [yar,yat,i2,yaj,yai,ya,yc,z22,e2]
   rw [if_pos (by decide)]
   cases take s [116,114,117,101] with
   | some r=>rfl
   | none =>
    simp only [yn,if_false]
    rw [M.z0s.eq_1]
    rw [if_neg (by decide)]
theorem zu2 {o:Bool} {w:Nat} (hw:w≤16) {self:q0c→Int→Option (Rs (J × q0c))} {vf:Z→Rd} {N:Nat} (hN:N<900000000)
  (hs:∀ s:Z,s.length≤N→self ⟨s⟩ ((w+1:Nat):Int)=some (mRs cv (vf s))) (hv:∀ s x r,vf s = .ok (x,r)→r.length+1≤s.length) :
  ∀ (f:Nat) (s:Z) (l:List J) (ks:List Z),s.length<f→s.length≤N→l.length+s.length≤N→ks.length+s.length≤N →
  M.z13 (if o=true then 6 else 5) self (w:Int) [if o=true then 125 else 93] s l ks=some (mRs cv (items vf o (if o=true then 125 else 93) f s l ks)):=by
 intro f
 induction f with
 | zero=>intro s l ks h;omega
 | succ f ih =>
  intro s l ks hf hn hl hk
  rw [M.z13.eq_1,items]
  have step:∀ (s1:Z) (ks1:List Z),s1.length≤s.length→ks1.length+s1.length≤N→(do
    let a_209←self (q0c.mk s1) (ybk .i64 ((w:Int)+1))
    match a_209 with
    | .pan e_212=>some (.pan e_212)
    | .ok a_211 =>
     let l_213←app 72 l [(q04.mk a_211.1.zh a_211.1.z06 a_211.1.zk a_211.1.z08)]
     let a_214←M.q3k a_211.2 [if o=true then 125 else 93]
     if a_214.1 then
      some (.ok ((q04.mk (if o=true then 6 else 5) ([]:Z) l_213 ks1),a_214.2))
     else
      let a_216←M.q3k a_214.2 ([44]:Z)
      let a_218←M.q3e a_216.1 20
      match a_218 with
      | .pan e_221=>some (.pan e_221)
      | .ok a_220=>M.z13 (if o=true then 6 else 5) self (w:Int) [if o=true then 125 else 93] a_216.2.gs l_213 ks1:Option (Rs (J × q0c)))=some (mRs cv (match vf s1 with
   | .pan c => .pan c
   | .ok (x,s2)=>match take s2 [if o=true then 125 else 93] with
    | some r => .ok (⟨if o=true then 6 else 5,[],l++[x],ks1⟩,r)
    | none=>match take s2 [44] with
     | none => .pan 20
     | some r=>items vf o (if o=true then 125 else 93) f r (l++[x]) ks1)):=by
   intro s1 ks1 h1 h2
   rw [w1 (by omega),hs s1 (by omega)]
   simp only [ya,yc]
   cases hx:vf s1 with
   | pan c=>rfl
   | ok p =>
    obtain ⟨x,s2⟩:=p
    have h3:=hv _ _ _ hx
    have je:∀ y:J,(q04.mk y.zh y.z06 y.zk y.z08)=y:=fun y=>by cases y;rfl
    simp only [mRs,cv,je]
    rw [z4f (by simp only [yar,yat];omega),z22]
    simp only [yc]
    cases ht:take s2 [if o=true then 125 else 93] with
    | some r=>simp
    | none =>
     simp only [yn,if_false]
     rw [z22]
     simp only [yc]
     cases ht2:take s2 [44] with
     | none=>simp [z38]
     | some r =>
      have h4:=take_len ht2
      simp only [yar,yat] at h4
      simp only [zkn,yc]
      rw [ih r _ ks1 (by omega) (by omega) (by simp;omega) (by omega)]
      rfl
  cases o with
  | false =>
   have st:=step s ks (ybb _) hk
   simp only [yn,if_false,ya] at st ⊢
   have e5:decide ((5:Int)=6)=false:=by decide
   simp only [e5,yn,if_false,yc]
   exact st
  | true =>
   simp only [if_true,ya] at step ⊢
   simp only [decide_true,if_true]
   rw [zcz _ (by omega)]
   simp only [yc]
   unfold zxe
   cases ht:text s with
   | none=>rfl
   | some p =>
    obtain ⟨k,r⟩:=p
    have h1:=zbr ht
    have h2:=z3k r
    simp only [oRs]
    rw [contains_eq (by omega)]
    simp only [yc]
    by_cases hm:k∈ks
    ·simp [hm,z38,mRs]
    ·simp only [hm,decide_false,yq,if_true,if_false]
     rw [z22]
     simp only [yc]
     cases ht2:take (z5d r) [58] with
     | none=>simp [z38,mRs]
     | some r2 =>
      have h3:=take_len ht2
      simp only [yar,yat] at h3
      simp only [zkn,yc]
      rw [z4f (by simp only [yar,yat];omega)]
      simp only [yc]
      exact step r2 (ks++[k]) (by omega) (by simp;omega)
theorem zi8 {N:Nat} (hN:N<900000000):∀ (f F:Nat) (s:Z) (w:Nat),w≤16→17≤f+w→2*f≤F→s.length≤N→M.q3n F ⟨s⟩ (w:Int)=some (mRs cv (val f s w)):=by
 intro f
 induction f with
 | zero=>intro F s w h1 h2;omega
 | succ f ih =>
  intro F s w hw hf hF hn
  obtain ⟨F',rfl⟩:∃ F',F=F'+2:=⟨F - 2,by omega⟩
  rw [M.q3n,val]
  rw [z52,z6f]
  simp only [ya,yc]
  by_cases h34:s.head? = some 34
  ·simp only [h34,decide_true,if_true]
   rw [zcz _ (by omega)]
   simp only [yc]
   cases text s with
   | none=>rfl
   | some p=>rfl
  ·have ht:text s=none:=by
    unfold text
    cases s with
    | nil=>rfl
    | cons c r=>simp at h34;simp [h34]
   simp only [h34,decide_false,yn,if_false,ht]
   have nes:∀ (o:Bool) (r:Z),r.length≤N→M.q3j (F'+1) ⟨r⟩ (if o=true then 6 else 5) (w:Int) [if o=true then 125 else 93]=some (mRs cv (nest (fun s=>val f s (w+1)) o w r)):=by
    intro o r hr
    rw [M.q3j]
    unfold nest
    by_cases h16:16≤w
    ·have:¬((w:Int)<16):=by omega
     simp [this,h16,z38,mRs]
    ·have:((w:Int)<16):=by omega
     simp only [this,decide_true,zkn,ya,yc,h16,if_false,z22]
     cases hk:take r [if o=true then 125 else 93] with
     | some r2=>rfl
     | none =>
      simp only [yn,if_false]
      exact zu2 (o:=o) (w:=w) hw hN (fun s hs=>ih F' s (w+1) (by omega) (by omega) (by omega) hs) (fun s x r=>zz040 f s (w+1) x r) (r.length+1) r [] [] (by omega) hr (by simp;omega) (by simp;omega)
   rw [z22]
   simp only [yc]
   cases h91:take s [91] with
   | some r =>
    have hl:=take_len h91
    have hq:=nes false r (by simp at hl;omega)
    simp only [yn,if_false] at hq
    simp only [if_true,hq,yc]
    cases nest (fun s=>val f s (w+1)) false w r with
    | ok p=>rfl
    | pan c=>rfl
   | none =>
    simp only [yn,if_false,z22,yc]
    cases h123:take s [123] with
    | some r =>
     have hl:=take_len h123
     have hq:=nes true r (by simp at hl;omega)
     simp only [if_true] at hq
     simp only [if_true,hq,yc]
     cases nest (fun s=>val f s (w+1)) true w r with
     | ok p=>rfl
     | pan c=>rfl
    | none =>
     simp only [yn,if_false,zz044,yc]
     unfold word
     cases take s [110,117,108,108] with
     | some r=>rfl
     | none =>
      simp only
      cases take s [102,97,108,115,101] with
      | some r=>rfl
      | none =>
       simp only
       cases take s [116,114,117,101] with
       | some r=>rfl
       | none =>
        simp only
        rw [z9n (by omega)]
        simp only [yc]
        by_cases hz:num s=0
        ·simp [hz,z38,mRs]
        ·have hp:(0:Int)<(num s:Int):=by omega
         have hl:=zp2 s
         have hd:take s (s.take (num s))=some (z5d (s.drop (num s))):=by
          unfold take
          have hpre:(s.take (num s)).isPrefixOf s=true:=by rw [List.isPrefixOf_iff_prefix];exact List.take_prefix _ _
          have hlen:(s.take (num s)).length=num s:=by rw [yau];omega
          rw [if_pos hpre,hlen]
         simp only [hp,decide_true,zkn,yc,zr5 hl,z22,hd,hz,if_false]
         rfl
def parse (s:Z):J × Int:=if 16384<s.length then (⟨0,[],[],[]⟩,22) else match val 17 (z5d s) 0 with
 | .pan c=>(⟨0,[],[],[]⟩,c)
 | .ok (x,r)=>if r=[] then (x,0) else (⟨0,[],[],[]⟩,20)
theorem zb9 (s:Z) {f:Nat} (hf:34≤f):M.q35 f s=some (parse s):=by
 unfold M.q35 parse
 by_cases hl:16384<s.length
 ·have:(16384:Int)<(s.length:Int):=by omega
  simp [hl,this]
 ·have:¬(16384:Int)<(s.length:Int):=by omega
  have hb:=z3k s
  have hq:=zi8 (N:=16384) (by omega) 17 f (z5d s) 0 (by omega) (by omega) (by omega) (by omega)
  have hq:M.q3n f ⟨z5d s⟩ 0=_:=hq
  simp only [this,decide_false,yn,if_false,hl,z9m,ya,yc,hq]
  cases val 17 (z5d s) 0 with
  | pan c=>rfl
  | ok p =>
   obtain ⟨x,r⟩:=p
   simp only [mRs,cv]
   by_cases hr:r=[]
   ·simp [hr,z38]
   ·simp [hr,z38]
end
section
open Go.Lk Go.Pe
def nch (c:UInt8):Bool:=isD c||decide (c=46)||decide (c=101)||decide (c=69)||decide (c=43)||decide (c=45)
def stop (r:Z):Prop := ∀ c,r.head? = some c→nch c=false
theorem zoj (s r:Z):(s++r).head? = if s=[] then r.head? else s.head?:=by cases s<;>simp
theorem zec (c:UInt8) (s:Z):zda (c::s)=if c=46 then (if 0<z6y s then 1+z6y s else 0) else 0:=by
 by_cases h:c=46
 ·subst h;simp [zda]
 ·rw [if_neg h]
  unfold zda
  split
  ·rename_i r hr;injection hr with e1 e2;exact absurd e1 h
  ·rfl
theorem frac_nil:zda []=0:=rfl
end
section
open Go.Lk Go.Pe
theorem z9w {α:Type} (p:α→Bool):∀ (l:List α) (m:Nat),((l.take m).takeWhile p).length=min m (l.takeWhile p).length
 | [],m=>by simp
 | a::l,0=>by simp
 | a::l,m+1=>by
  rw [ya7,ya5,ya5]
  cases p a with
  | false=>simp
  | true=>simp only [if_true,yar,z9w p l m];omega
theorem ze3 (s:Z) (m:Nat):z6y (s.take m)=min m (z6y s):=z9w isD s m
theorem head_take {s:Z} {m:Nat} (h:0<m):(s.take m).head? = s.head?:=by
 cases s with
 | nil=>simp
 | cons c r =>
  obtain ⟨m,rfl⟩:∃ k,m=k+1:=⟨m - 1,by omega⟩
  simp
theorem zt5 {s:Z} {m:Nat} (h:0<m) (h2:z9d s≤m):z9d (s.take m)=z9d s:=by
 unfold z9d at *
 rw [head_take h,ze3]
 split at h2
 ·rename_i hc;rw [if_pos hc,if_pos hc]
 ·rename_i hc;rw [if_neg hc,if_neg hc];omega
theorem zss {s:Z} {m:Nat} (h:zda s≤m):zda (s.take m)=zda s:=by
 cases s with
 | nil=>simp
 | cons c r =>
  cases m with
  | zero =>
   simp only [List.take_zero,frac_nil]
   omega
  | succ m =>
   rw [ya7,zec,zec,ze3]
   rw [zec] at h
   by_cases hc:c=46
   ·simp only [hc,if_true] at h ⊢
    by_cases hd:0<z6y r
    ·rw [if_pos hd] at h ⊢
     have:min m (z6y r)=z6y r:=by omega
     rw [this,if_pos hd]
    ·rw [if_neg hd,if_neg (by omega)]
   ·simp [hc]
theorem zv7 {s:Z} {m:Nat} (h:0<m):z9v (s.take m)=z9v s:=by unfold z9v;rw [head_take h]
theorem zys {s:Z} {m:Nat} (h:0<m):sgn (s.take m)=sgn s:=by unfold sgn;rw [head_take h]
theorem zsg (s:Z):zht (s.take (zht s))=zht s:=by
 cases s with
 | nil=>rfl
 | cons c r =>
  by_cases hc:c=101∨c=69
  ·by_cases hd:0<z6y (r.drop (z9v r))
   ·have e:zht (c::r)=1+z9v r+z6y (r.drop (z9v r)):=by simp [zht,hc,hd]
    rw [e]
    have e2:(c::r).take (1+z9v r+z6y (r.drop (z9v r)))=c::r.take (z9v r+z6y (r.drop (z9v r))):=by
     rw [show 1+z9v r+z6y (r.drop (z9v r))=(z9v r+z6y (r.drop (z9v r)))+1 by omega,ya7]
    rw [e2]
    have e3:z9v (r.take (z9v r+z6y (r.drop (z9v r))))=z9v r:=zv7 (by omega)
    have e4:z6y ((r.take (z9v r+z6y (r.drop (z9v r)))).drop (z9v r))=z6y (r.drop (z9v r)):=by
     rw [yae,ze3]
     omega
    unfold zht
    simp only [hc,if_true,e3,e4,hd]
   ·have e:zht (c::r)=0:=by simp [zht,hd]
    rw [e]
    rfl
  ·have e:zht (c::r)=0:=by simp [zht,hc]
   rw [e]
   rfl
theorem zxs (s:Z):num (s.take (num s))=num s:=by
 by_cases hz:z9d (s.drop (sgn s))=0
 ·have:num s=0:=by unfold num;simp [hz]
  rw [this]
  rfl
 have e:num s=sgn s+z9d (s.drop (sgn s))+zda (s.drop (sgn s+z9d (s.drop (sgn s))))+zht (s.drop (sgn s+z9d (s.drop (sgn s))+zda (s.drop (sgn s+z9d (s.drop (sgn s)))))):=by
  conv=>lhs;unfold num
  simp only [hz,if_false]
 generalize hn:num s=n at e ⊢
 have hs:sgn (s.take n)=sgn s:=zys (by omega)
 have h1:z9d ((s.take n).drop (sgn s))=z9d (s.drop (sgn s)):=by
  rw [yae,zt5 (by omega) (by omega)]
 have h2:zda ((s.take n).drop (sgn s+z9d (s.drop (sgn s))))=zda (s.drop (sgn s+z9d (s.drop (sgn s)))):=by
  rw [yae,zss (by omega)]
 have h3:zht ((s.take n).drop (sgn s+z9d (s.drop (sgn s))+zda (s.drop (sgn s+z9d (s.drop (sgn s))))))=zht (s.drop (sgn s+z9d (s.drop (sgn s))+zda (s.drop (sgn s+z9d (s.drop (sgn s)))))):=by
  rw [yae]
  have:n - (sgn s+z9d (s.drop (sgn s))+zda (s.drop (sgn s+z9d (s.drop (sgn s)))))=zht (s.drop (sgn s+z9d (s.drop (sgn s))+zda (s.drop (sgn s+z9d (s.drop (sgn s)))))):=by omega
  rw [this,zsg]
 unfold num
 simp only [hs,h1,hz,if_false,h2,h3]
 exact e.symm
theorem zfh:∀ (f:Nat) (s acc t r:Z),txt f s acc=some (t,r)→Lib.validD t=true
 | 0,_,_,_,_,h=>by simp [txt] at h
 | _+1,[],_,_,_,h=>by simp [txt] at h
 | f+1,c::s,acc,t,r,h=>by
  rw [txt] at h
  split at h
  ·cases h
  ·split at h
   ·split at h
    ·rename_i hv;cases h;exact hv
    ·cases h
   ·split at h
    ·split at h
     ·cases h
     ·exact zfh f _ _ _ _ h
    ·exact zfh f _ _ _ _ h
theorem zh8 {s t r:Z} (h:text s=some (t,r)):Lib.validD t=true:=by
 unfold text at h
 split at h
 ·split at h
  ·exact zfh _ _ _ _ _ h
  ·cases h
 ·cases h
theorem zz01u {s:Z} {ks:List Z} {r:Z} {ks2:List Z} (h:zxe s ks = .ok (r,ks2)):∃ k,ks2=ks++[k]∧¬k∈ks∧Lib.validD k=true:=by
 unfold zxe at h
 split at h
 ·cases h
 ·rename_i k r1 ht
  split at h
  ·cases h
  ·rename_i hk
   split at h
   ·cases h
   ·cases h;exact ⟨k,rfl,hk,zh8 ht⟩
theorem zo1:∀ {l:List J} {w:Nat},zfm l w=0↔∀ x∈l,za0 x w=0
 | [],w=>by simp [zfm]
 | x::l,w=>by
  rw [zdt]
  by_cases hc:za0 x w=0
  ·simp [hc,zo1 (l:=l)]
  ·simp [hc]
theorem zqa {n:Nat} {ks:List Z} (h1:ks.length=n) (h2:ks.Nodup) (h3:∀ k∈ks,Lib.validD k=true):frm 6 [] n ks=true:=by
 unfold frm
 simp [h1,h2]
 exact h3
theorem zt9 {vf:Z→Rd} {o:Bool} {e:UInt8} {w:Nat} (hw:w<16) (hv:∀ s x r,vf s = .ok (x,r)→za0 x (w+1)=0):∀ (f:Nat) (s:Z) (l:List J) (ks:List Z) (x:J) (r:Z),
  zfm l (w+1)=0→(o=true→ks.length=l.length)→(o=false→ks=[])→ks.Nodup→(∀ k∈ks,Lib.validD k=true)→items vf o e f s l ks = .ok (x,r)→za0 x w=0:=by
 intro f
 induction f with
 | zero=>intro s l ks x r _ _ _ _ _ h;simp [items] at h
 | succ f ih =>
  intro s l ks x r hl hk hk2 hnd hvk h
  rw [items] at h
  split at h
  ·cases h
  ·rename_i s1 ks1 hks
   have h1:(o=true→ks1.length=l.length+1)∧(o=false→ks1=[])∧ks1.Nodup∧∀ k∈ks1,Lib.validD k=true:=by
    split at hks
    ·rename_i ho
     obtain ⟨k,rfl,k1,k2⟩:=zz01u hks
     refine ⟨fun _=>by simp [hk ho],fun h=>absurd (ho.symm.trans h) (by decide),?_,?_⟩
     ·rw [List.nodup_append]
      exact ⟨hnd,by simp,fun a ha b hb=>by simp at hb;subst hb;intro e;subst e;exact k1 ha⟩
     ·intro z hz
      rcases yax.1 hz with hz|hz
      ·exact hvk z hz
      ·simp at hz;subst hz;exact k2
    ·rename_i ho
     cases hks
     exact ⟨fun h=>absurd h ho,hk2,hnd,hvk⟩
   obtain ⟨a1,a2,a3,a4⟩:=h1
   split at h
   ·cases h
   ·rename_i x2 s2 hx
    have hx2:=hv _ _ _ hx
    have hl2:zfm (l++[x2]) (w+1)=0:=by
     rw [zo1] at hl ⊢
     intro y hy
     rcases yax.1 hy with hy|hy
     ·exact hl y hy
     ·simp at hy;subst hy;exact hx2
    split at h
    ·cases h
     rw [z73]
     simp only
     have h16:¬(16≤w):=by omega
     cases o with
     | false =>
      have:=a2 rfl
      subst this
      have hf:frm 5 [] (l++[x2]).length []=true:=by simp [frm]
      simp only [yn,if_false]
      rw [if_neg (fun h=>h16 h.2),hf]
      simpa using hl2
     | true =>
      have hf:frm 6 [] (l++[x2]).length ks1=true:=zqa (by simpa using a1 rfl) a3 a4
      simp only [if_true]
      rw [if_neg (fun h=>h16 h.2),hf]
      simpa using hl2
    ·split at h
     ·cases h
     ·exact ih _ _ _ _ _ hl2 (fun h=>by simpa using a1 h) a2 a3 a4 h
theorem zoz {vf:Z→Rd} {o:Bool} {w:Nat} (hv:w<16→∀ s x r,vf s = .ok (x,r)→za0 x (w+1)=0) {s r:Z} {x:J} (h:nest vf o w s = .ok (x,r)):za0 x w=0:=by
 unfold nest at h
 split at h
 ·cases h
 ·rename_i h16
  split at h
  ·cases h
   rw [z73]
   cases o with
   | false=>simp [frm,h16,zfm]
   | true=>simp [frm,h16,zfm]
  ·exact zt9 (by omega) (hv (by omega)) _ _ _ _ _ _ rfl (fun _=>rfl) (fun _=>rfl) (by simp) (fun k hk=>by cases hk) h
theorem zz8 {s r:Z} {x:J} {w:Nat} (h:word s = .ok (x,r)):za0 x w=0:=by
 unfold word at h
 split at h
 ·cases h;rw [z73];simp [frm,zfm]
 ·split at h
  ·cases h;rw [z73];simp [frm,zfm]
  ·split at h
   ·cases h;rw [z73];simp [frm,zfm]
   ·split at h
    ·cases h
    ·rename_i hn
     cases h
     have h1:=zxs s
     have h2:=zp2 s
     have h3:(s.take (num s)).length=num s:=by rw [yau];omega
     have h4:¬s.take (num s)=[]:=fun e=>by rw [e] at h3;simp at h3;omega
     have hf:frm 3 (s.take (num s)) 0 []=true:=by
      unfold frm
      rw [if_neg (by decide),if_pos rfl,h1,h3]
      simp [h4]
     rw [z73]
     simp [hf,zfm]
theorem zz041:∀ (f:Nat) (s:Z) (w:Nat) (x:J) (r:Z),val f s w = .ok (x,r)→za0 x w=0:=by
 intro f
 induction f with
 | zero=>intro s w x r h;simp [val] at h
 | succ f ih =>
  intro s w x r h
  rw [val] at h
  split at h
  ·rename_i t r2 ht
   have hv:=zh8 ht
   cases h
   rw [z73]
   simp [frm,zfm,hv]
  ·split at h
   ·cases h
   ·split at h
    ·exact zoz (fun _ s x r=>ih s (w+1) x r) h
    ·split at h
     ·exact zoz (fun _ s x r=>ih s (w+1) x r) h
     ·exact zz8 h
theorem zxg {s:Z} {ks:List Z} {c:Int} (h:zxe s ks = .pan c):c=20:=by
 unfold zxe at h
 split at h
 ·injection h with h;exact h.symm
 ·split at h
  ·injection h with h;exact h.symm
  ·split at h
   ·injection h with h;exact h.symm
   ·cases h
theorem zta {vf:Z→Rd} {o:Bool} {e:UInt8} (hv:∀ s c,vf s = .pan c→c=20∨c=21):∀ (f:Nat) (s:Z) (l:List J) (ks:List Z) (c:Int),items vf o e f s l ks = .pan c→c=20∨c=21:=by
 intro f
 induction f with
 | zero=>intro s l ks c h;simp only [items] at h;injection h with h;exact .inl h.symm
 | succ f ih =>
  intro s l ks c h
  rw [items] at h
  split at h
  ·rename_i hk
   split at hk
   ·injection h with h;subst h;exact .inl (zxg hk)
   ·cases hk
  ·split at h
   ·rename_i hx;injection h with h;subst h;exact hv _ _ hx
   ·split at h
    ·cases h
    ·split at h
     ·injection h with h;exact .inl h.symm
     ·exact ih _ _ _ _ h
theorem zp0 {vf:Z→Rd} {o:Bool} {w:Nat} (hv:∀ s c,vf s = .pan c→c=20∨c=21) {s:Z} {c:Int} (h:nest vf o w s = .pan c):c=20∨c=21:=by
 unfold nest at h
 split at h
 ·injection h with h;exact .inr h.symm
 ·split at h
  ·cases h
  ·exact zta hv _ _ _ _ _ h
theorem zz042:∀ (f:Nat) (s:Z) (w:Nat) (c:Int),val f s w = .pan c→c=20∨c=21:=by
 intro f
 induction f with
 | zero=>intro s w c h;simp only [val] at h;injection h with h;exact .inl h.symm
 | succ f ih =>
  intro s w c h
  rw [val] at h
  split at h
  ·cases h
  ·split at h
   ·injection h with h;exact .inl h.symm
   ·split at h
    ·exact zp0 (fun s c=>ih s (w+1) c) h
    ·split at h
     ·exact zp0 (fun s c=>ih s (w+1) c) h
     ·unfold word at h
      split at h
      ·cases h
      ·split at h
       ·cases h
       ·split at h
        ·cases h
        ·split at h
         ·injection h with h;exact .inl h.symm
         ·cases h
theorem zn2 (s:Z):(∃ x,parse s=(x,0)∧za0 x 0=0)∨∃ c,parse s=(⟨0,[],[],[]⟩,c)∧(c=20∨c=21∨c=22):=by
 unfold parse
 split
 ·exact .inr ⟨22,rfl,by simp⟩
 ·split
  ·rename_i c hc
   rcases zz042 _ _ _ _ hc with h|h
   ·exact .inr ⟨c,rfl,.inl h⟩
   ·exact .inr ⟨c,rfl,.inr (.inl h)⟩
  ·rename_i y r hv
   split
   ·exact .inl ⟨y,rfl,zz041 _ _ _ _ _ hv⟩
   ·exact .inr ⟨20,rfl,.inl rfl⟩
end
section
open Go.Lk Go.Pe Go.RowKit
theorem zvy {v:J} (h:v.sz<1000000000):Small v:=h
theorem zvf {s t r:Z} (ht:text s=some (t,r)):t.length+4*r.length+4≤4*s.length:=by
 unfold text at ht
 split at ht
 ·split at ht
  ·have tl:∀ (f:Nat) (s acc t r:Z),txt f s acc=some (t,r)→t.length+4*r.length≤acc.length+4*s.length:=by
    intro f
    induction f with
    | zero=>intro s acc t r h;simp [txt] at h
    | succ f ih =>
     intro s acc t r h
     cases s with
     | nil=>simp [txt] at h
     | cons c s =>
      rw [txt] at h
      split at h
      ·cases h
      ·split at h
       ·split at h
        ·cases h;simp;omega
        ·cases h
       ·split at h
        ·split at h
         ·cases h
         ·rename_i t1 r1 he
          have h1:=zhs he
          have h2:=ih _ _ _ _ h
          simp only [yaq,yar] at *
          omega
        ·have h2:=ih _ _ _ _ h
         simp only [yaq,yar,yat] at *
         omega
   have:=tl _ _ _ _ _ ht
   simp only [yar,yat] at *
   omega
  ·cases ht
 ·cases ht
theorem zx9 {vf:Z→Rd} {o:Bool} {e:UInt8} (hv:∀ s x r,vf s = .ok (x,r)→x.sz+8*r.length≤8*s.length):∀ (f:Nat) (s:Z) (l:List J) (ks:List Z) (x:J) (r:Z),items vf o e f s l ks = .ok (x,r)→x.sz+8*r.length≤8*s.length+szs l+kys ks:=by
 intro f
 induction f with
 | zero=>intro s l ks x r h;simp [items] at h
 | succ f ih =>
  intro s l ks x r h
  rw [items] at h
  have app1:∀ (l:List J) (x:J),szs (l++[x])=szs l+x.sz+1:=fun l x=>by
   induction l with
   | nil=>simp [szs]
   | cons y l ih=>simp only [yz,szs,ih];omega
  have app2:∀ (l:List Z) (x:Z),kys (l++[x])=kys l+x.length+1:=fun l x=>by
   induction l with
   | nil=>simp [kys]
   | cons y l ih=>rw [yz,z5m,z5m,ih];omega
  split at h
  ·cases h
  ·rename_i s1 ks1 hk
   have h1:kys ks1+8*s1.length≤8*s.length+kys ks:=by
    split at hk
    ·unfold zxe at hk
     split at hk
     ·cases hk
     ·rename_i k r1 ht
      have g1:=zbr ht
      have g2:=z3k r1
      have g5:=zvf ht
      split at hk
      ·cases hk
      ·split at hk
       ·cases hk
       ·rename_i r2 ht2
        have g3:=take_len ht2
        simp only [yar,yat] at g3
        simp only [Rs.ok.injEq,Prod.mk.injEq] at hk
        obtain ⟨rfl,rfl⟩:=hk
        rw [app2]
        omega
    ·simp only [Rs.ok.injEq,Prod.mk.injEq] at hk
     obtain ⟨rfl,rfl⟩:=hk
     omega
   split at h
   ·cases h
   ·rename_i x2 s2 hx
    have h2:=hv _ _ _ hx
    split at h
    ·rename_i r2 ht
     have h3:=take_len ht
     simp only [yar,yat] at h3
     simp only [Rs.ok.injEq,Prod.mk.injEq] at h
     obtain ⟨rfl,rfl⟩:=h
     rw [q04.zfe]
     simp only [app1,yat]
     omega
    ·split at h
     ·cases h
     ·rename_i r2 ht
      have h3:=take_len ht
      simp only [yar,yat] at h3
      have h4:=ih _ _ _ _ _ h
      rw [app1] at h4
      omega
theorem zu1 {vf:Z→Rd} {o:Bool} {w:Nat} (hv:∀ s x r,vf s = .ok (x,r)→x.sz+8*r.length≤8*s.length) {s r:Z} {x:J} (h:nest vf o w s = .ok (x,r)):x.sz+8*r.length≤8*s.length:=by
 unfold nest at h
 split at h
 ·cases h
 ·split at h
  ·rename_i r2 ht
   have:=take_len ht
   simp only [Rs.ok.injEq,Prod.mk.injEq] at h
   obtain ⟨rfl,rfl⟩:=h
   simp only [yar,yat] at this
   simp only [q04.sz,szs,kys_nil,yat]
   omega
  ·exact zx9 hv _ _ _ _ _ _ h
theorem zz045 {s r:Z} {x:J} (h:word s = .ok (x,r)):x.sz+8*r.length≤8*s.length:=by
 have hl:=zpl h
 unfold word at h
 split at h
 ·simp only [Rs.ok.injEq,Prod.mk.injEq] at h
  obtain ⟨rfl,rfl⟩:=h
  simp only [q04.sz,szs,kys_nil,yat]
  omega
 ·split at h
  ·simp only [Rs.ok.injEq,Prod.mk.injEq] at h
   obtain ⟨rfl,rfl⟩:=h
   simp only [q04.sz,szs,kys_nil,yat]
   omega
  ·split at h
   ·simp only [Rs.ok.injEq,Prod.mk.injEq] at h
    obtain ⟨rfl,rfl⟩:=h
    simp only [q04.sz,szs,kys_nil,yat]
    omega
   ·split at h
    ·cases h
    ·simp only [Rs.ok.injEq,Prod.mk.injEq] at h
     obtain ⟨rfl,rfl⟩:=h
     have h1:=z3k (s.drop (num s))
     have h2:=zp2 s
     rw [yas] at h1
     simp only [q04.sz,szs,kys_nil,yat,yau]
     omega
theorem zz06y:∀ (f:Nat) (s:Z) (w:Nat) (x:J) (r:Z),val f s w = .ok (x,r)→x.sz+8*r.length≤8*s.length:=by
 intro f
 induction f with
 | zero=>intro s w x r h;simp [val] at h
 | succ f ih =>
  intro s w x r h
  rw [val] at h
  split at h
  ·rename_i t r2 ht
   have h1:=zbr ht
   have h2:=z3k r2
   have h3:=zvf ht
   simp only [Rs.ok.injEq,Prod.mk.injEq] at h
   obtain ⟨rfl,rfl⟩:=h
   simp only [q04.sz,szs,kys_nil]
   omega
  ·split at h
   ·cases h
   ·split at h
    ·rename_i r2 ht
     have h1:=take_len ht
     have h2:=zu1 (fun s x r=>ih s (w+1) x r) h
     omega
    ·split at h
     ·rename_i r2 ht
      have h1:=take_len ht
      have h2:=zu1 (fun s x r=>ih s (w+1) x r) h
      omega
     ·exact zz045 h
theorem zxy (s:Z):(parse s).1.sz≤131072:=by
 unfold parse
 have h0:(⟨0,[],[],[]⟩:J).sz≤131072:=by decide
 split
 ·exact h0
 ·rename_i hl
  split
  ·exact h0
  ·rename_i y r hv
   have h1:=zz06y _ _ _ _ _ hv
   have h2:=z3k s
   split
   ·simp only;omega
   ·exact h0
end
section
open Go.Lk Go.Pe
def zxr:J:=⟨0,[],[],[]⟩
def zca (v:J) (k:Z):J × Bool:=if v.zh=6 then (match v.z08.findIdx? (fun x=>decide (k=x)) with
 | some j=>(match v.zk[j]? with|some x=>(x,true)|none=>(zxr,false))
 | none=>(zxr,false)) else (zxr,false)
theorem z9l {v:J} {k:Z} (h:v.z08.length<1000000000):M.q34 v k=some (zca v k):=by
 unfold M.q34 zca
 rw [zon (by omega)]
 simp only [ya,yc]
 by_cases h6:v.zh=6
 ·simp only [h6,decide_true,yt,if_true]
  cases v.z08.findIdx? (fun x=>decide (k=x)) with
  | none=>rfl
  | some j =>
   simp only
   have h0:(0:Int)≤(j:Int):=by omega
   by_cases hj:j<v.zk.length
   ·have:(j:Int)<(v.zk.length:Int):=by omega
    simp [this,z6k,yak hj]
   ·have:¬(j:Int)<(v.zk.length:Int):=by omega
    simp [this,yal (yba hj),zxr]
 ·simp [h6,zxr]
theorem zz02c (v:J) (k:Z):(zca v k).1.sz≤v.sz:=by
 have h1:=q04.zfe v
 have h0:zxr.sz=1:=by decide
 unfold zca
 split
 ·split
  ·split
   ·rename_i x hx
    have:=zis (List.mem_of_getElem? hx)
    simp only
    omega
   ·simp only;omega
  ·simp only;omega
 ·simp only;omega
def texts:List J→Option (List Z)
 | []=>some []
 | x::l=>if x.zh=4 then (texts l).map (x.z06 :: ·) else none
theorem zka {v:J} (hl:v.zk.length<1000000000):∀ (n i:Nat) (acc:List Z),v.zk.length - i=n→i≤v.zk.length→acc.length+n<1000000000 →
  M.z2y v acc (i:Int)=some (match texts (v.zk.drop i) with|some l => .go (acc++l)|none => .done ([],false)):=by
 intro n
 induction n with
 | zero =>
  intro i acc hn hi ha
  rw [M.z2y.eq_1]
  have:¬((i:Int)<(v.zk.length:Int)):=by omega
  rw [if_neg (by simp [this]),yac (by omega)]
  simp [texts]
 | succ n ih =>
  intro i acc hn hi ha
  have hlt:i<v.zk.length:=by omega
  rw [M.z2y.eq_1]
  have h1:((i:Int)<(v.zk.length:Int)):=by omega
  simp only [h1,decide_true,if_true,z6k,yak hlt,ya,yc]
  rw [yab hlt,texts]
  by_cases h4:(v.zk[i]).zh=4
  ·simp only [h4,decide_true,yr,yn,if_false,if_true]
   rw [z4f (by simp only [yar,yat];omega),w1 (by omega)]
   simp only [yc]
   rw [ih (i+1) _ (by omega) (by omega) (by simp;omega)]
   cases texts (v.zk.drop (i+1)) with
   | none=>rfl
   | some l=>simp
  ·simp [h4]
def zff (v:J):List Z × Bool:=if v.zh=5 then (match texts v.zk with|some l=>(l,true)|none=>([],false)) else ([],false)
theorem zbb {v:J} (hl:v.zk.length<100000000):M.q37 v=some (zff v):=by
 unfold M.q37 zff
 by_cases h5:v.zh=5
 ·have hk:=zka (v:=v) (by omega) _ 0 [] rfl (ybi _) (by simp;omega)
  have hk:M.z2y v [] 0=_:=hk
  simp only [h5,decide_true,yr,yn,if_false,if_true,hk,yaf,ya0,ya,yc]
  cases texts v.zk<;>rfl
 ·simp [h5]
theorem zng (l:List Z) (hl:l.length<1000000000):∀ (n i:Nat),l.length - i=n→i≤l.length→M.z0x l l (i:Int)=some (.go ()):=by
 intro n
 induction n with
 | zero =>
  intro i hn hi
  rw [M.z0x.eq_1]
  have:¬((i:Int)<(l.length:Int)):=by omega
  rw [if_neg (by simp [this])]
 | succ n ih =>
  intro i hn hi
  have hlt:i<l.length:=by omega
  rw [M.z0x.eq_1]
  have h1:((i:Int)<(l.length:Int)):=by omega
  simp only [h1,decide_true,if_true,z6k,yak hlt,ya,yc,yr,yn,if_false]
  rw [w1 (by omega),ih (i+1) (by omega) (by omega)]
theorem zlb {l:List Z} (hl:l.length<1000000000):M.q4k l l=some true:=by
 unfold M.q4k
 have:M.z0x l l 0=some (.go ()):=zng l hl _ 0 rfl (ybi _)
 simp [this]
def zjh (a:Nat) (c:UInt8):Nat:=10*a+(c.toNat - 48)
def zas (a:Nat) (l:Z):Nat:=l.foldl zjh a
theorem z5i (a:Nat) (c:UInt8):zjh a c=10*a+(c.toNat - 48):=rfl
theorem zhr (a:Nat):zas a []=a:=rfl
theorem zat (a:Nat) (c:UInt8) (r:Z):zas a (c::r)=zas (zjh a c) r:=by unfold zas;rw [List.foldl_cons]
theorem zo4 (l:Z) (a:Nat) (c:UInt8):zas a (l++[c])=zjh (zas a l) c:=by
 unfold zas
 rw [List.foldl_append]
 rfl
theorem zi3 {c:UInt8} (h:isD c=true):48≤c.toNat∧c.toNat≤57:=by
 unfold isD at h
 simpa using h
theorem zs9:∀ (l:Z) (a k:Nat),(∀ c∈l,isD c=true)→a<10 ^ k→zas a l<10 ^ (k+l.length)
 | [],a,k,_,h=>by rw [zhr];exact h
 | c::l,a,k,hd,h=>by
  have h1:=zi3 (hd c (by simp))
  have h2:zjh a c<10 ^ (k+1):=by rw [z5i,ybg];omega
  have:=zs9 l _ (k+1) (fun x hx=>hd x (by simp [hx])) h2
  rw [zat,yar,show k+(l.length+1)=k+1+l.length by omega]
  exact this
theorem zz02s {a:Nat} {c:UInt8} {l:Z} (hd:isD c=true) (ha:a<1000000000000000):Lib.parseUint10 a (c::l)=Lib.parseUint10 (zjh a c) l:=by
 have h1:=zi3 hd
 have e:a*10+(c.toNat - 48)=zjh a c:=by rw [z5i];omega
 rw [Lib.parseUint10,e,if_pos h1,if_neg (by omega),if_neg (by rw [z5i];omega)]
@[reducible] def noN:Lib.NumEnd Nat:=Lib.parseMag []
theorem zz02t {a:Nat} {c:UInt8} {l:Z} (hd:isD c=false):Lib.parseUint10 a (c::l)=noN:=by
 have h1:¬(48≤c.toNat∧c.toNat≤57):=fun x=>by
  have:isD c=true:=by unfold isD;simpa using x
  rw [hd] at this;cases this
 rw [Lib.parseUint10,if_neg h1];rfl
theorem zz02p {N:Nat} (hN:N≤1000000000000000) (l:Z):∀ a:Nat,(a+1)*10 ^ l.length≤N→Lib.parseUint10 a l=if (l.all isD)=true then .ok (zas a l) else noN:=by
 induction l with
 | nil=>intro a _;rfl
 | cons c l ih =>
  intro a ha
  have hpos:0<10 ^ l.length:=Nat.pow_pos (by decide)
  rw [yar,ybg] at ha
  cases hd:isD c with
  | true =>
   have h1:=zi3 hd
   have h3:(a+1)*(10 ^ l.length*10)=(10*a+10)*10 ^ l.length:=by
    rw [Nat.mul_comm (10 ^ l.length) 10,←Nat.mul_assoc]
    congr 1
    omega
   rw [h3] at ha
   have h4:a+1≤(10*a+10)*10 ^ l.length:=by
    have:=Nat.le_mul_of_pos_right (10*a+10) hpos
    omega
   have h2:(zjh a c+1)*10 ^ l.length≤N:=by
    refine ybc (ybe _ ?_) ha
    rw [z5i]
    omega
   rw [zz02s hd (by omega),ih _ h2,yv,hd,zat,yt]
  | false=>rw [zz02t hd,yv,hd];rfl
theorem zn1 {l:Z} (hl:l.length≤15):Lib.parseMag l=if l=[] then noN else if (l.all isD)=true then .ok (zas 0 l) else noN:=by
 unfold Lib.parseMag
 rw [zz02p (N:=10 ^ 15) (by decide) l 0 (by rw [ybh,Nat.one_mul];exact ybf (by decide) hl)]
 by_cases h:l=[]
 ·subst h;rfl
 ·rw [if_neg h,if_neg h]
theorem zko {c:UInt8} (h:isD c=true):ybl (48+(c.toNat - 48))=c:=by
 have:=zi3 h
 rw [show 48+(c.toNat - 48)=c.toNat by omega]
 simp
theorem zm4 {n:Nat} (h:n<10):isD (ybl (48+n))=true∧(ybl (48+n)=48→n=0):=by
 have tab:∀ n:Fin 10,isD (ybl (48+n.val))=true∧(ybl (48+n.val)=48→n.val=0):=by decide
 exact tab ⟨n,h⟩
theorem z7a:∀ (n u:Nat),u≤n→(∀ c∈Lib.decDigits u,isD c=true)∧¬Lib.decDigits u=[]∧((Lib.decDigits u).head? = some 48→u=0)
 | n,u,hu=>by
  rw [Lib.decDigits]
  by_cases h:u<10
  ·rw [dif_pos h]
   refine ⟨fun c hc => ?_,List.cons_ne_nil _ _,fun he => ?_⟩
   ·rw [yaz.1 hc];exact (zm4 h).1
   ·exact (zm4 h).2 (Option.some.inj he)
  ·rw [dif_neg h]
   match n,hu with
   | n+1,hu =>
    obtain ⟨h1,h2,h3⟩:=z7a n (u / 10) (by omega)
    refine ⟨fun c hc => ?_,by simp,fun he => ?_⟩
    ·rcases yax.1 hc with hc|hc
     ·exact h1 c hc
     ·rw [yaz.1 hc];exact (zm4 (by omega)).1
    ·rw [zoj,if_neg h2] at he
     have:=h3 he
     omega
   | 0,hu=>omega
theorem zo5:∀ (l:Z) (a:Nat),0<a→0<zas a l
 | [],a,h=>h
 | c::l,a,h=>zo5 l _ (by rw [z5i];omega)
theorem zhq:∀ (n:Nat) (l:Z),l.length=n→(∀ c∈l,isD c=true)→¬l=[]→(l.head? = some 48→l.length=1)→Lib.decDigits (zas 0 l)=l:=by
 intro n
 induction n with
 | zero=>intro l hn _ h;exact absurd (yag hn) h
 | succ n ih =>
  intro l' hn hd hne hh
  obtain ⟨l,c,rfl⟩:∃ l c,l'=l++[c]:=⟨l'.dropLast,l'.getLast hne,(List.dropLast_concat_getLast hne).symm⟩
  have hln:l.length=n:=by simpa using hn
  rw [zo4,z5i]
  have hc:=hd c (by simp)
  have hn:=zi3 hc
  by_cases hl:l=[]
  ·subst hl
   rw [zhr,Lib.decDigits,dif_pos (by omega)]
   rw [show 48+(10*0+(c.toNat - 48))=48+(c.toNat - 48) by omega,zko hc]
   rfl
  ·have hh':¬l.head? = some 48:=fun e=>by
    have h2:=hh (by rw [zoj,if_neg hl];exact e)
    have:0<l.length:=List.length_pos_iff.2 hl
    simp at h2
    exact hl h2
   have ihl:=ih l hln (fun x hx=>hd x (by simp [hx])) hl (fun e=>absurd e hh')
   have hp:0<zas 0 l:=by
    cases l with
    | nil=>exact absurd rfl hl
    | cons d r =>
     have h1:=zi3 (hd d (by simp))
     have h2:¬d=48:=fun e=>hh' (by rw [e];rfl)
     have h3:¬d.toNat=48:=fun e=>h2 (by rw [show (48:UInt8)=ybl 48 from rfl,←e];simp)
     rw [zat]
     exact zo5 r _ (by rw [z5i];omega)
   rw [Lib.decDigits,dif_neg (by omega)]
   have e1:(10*zas 0 l+(c.toNat - 48)) / 10=zas 0 l:=by omega
   have e2:(10*zas 0 l+(c.toNat - 48)) % 10=c.toNat - 48:=by omega
   rw [e1,e2,ihl,zko hc]
def mag (t:Z):Z:=if t.head? = some 45 then t.drop 1 else t
def way (t:Z):Int:=if t.head? = some 45 then -1 else 1
def canon (t:Z):Bool := !decide (mag t=[])&&(mag t).all isD&&decide ((mag t).length≤15) && !(decide ((mag t).head? = some 48)&&(decide (1<(mag t).length)||decide (way t<0)))
def intOf (v:J):Int × Bool:=if v.zh=3∧canon v.z06=true then (way v.z06*(zas 0 (mag v.z06):Int),true) else (0,false)
end
section
open Go.Lk Go.Pe
theorem seek {α R X:Type} {l:List α} {p:α→Bool} {F:Int→Option (Jn R X)} (d:Nat→R) (x0:X) (hl:l.length<1152921504606846976)
  (hF:∀ (i:Nat) (h:i<l.length),F (i:Int)=if p l[i]=true then some (.done (d i)) else F (ybk .i64 ((i:Int)+1))) (hE:F (l.length:Int)=some (.go x0)) :
  F 0=some (match l.findIdx? p with|some i => .done (d i)|none => .go x0):=by
 have key:∀ (n i:Nat),l.length - i=n→i≤l.length→F (i:Int)=some (match (l.drop i).findIdx? p with|some k => .done (d (i+k))|none => .go x0):=by
  intro n
  induction n with
  | zero =>
   intro i h1 h2
   have:i=l.length:=by omega
   subst this
   simp [hE]
  | succ n ih =>
   intro i h1 h2
   have hi:i<l.length:=by omega
   rw [hF i hi,zwf hi,yah]
   cases hp:p l[i] with
   | true=>simp
   | false =>
    rw [w1 (by omega),ih (i+1) (by omega) (by omega)]
    simp only [yn,if_false]
    cases (l.drop (i+1)).findIdx? p with
    | none=>rfl
    | some k=>simp [ya8,Nat.add_comm 1 k]
 have:=key _ 0 rfl (ybi _)
 simpa using this
theorem zwq {α:Type} (l:List α) (p:α→Bool):(l.findIdx? (fun x => !p x)=none∧l.all p=true)∨∃ i,l.findIdx? (fun x => !p x)=some i∧l.all p=false:=by
 have e:l.all p = !(l.any fun x => !p x):=by rw [List.all_eq_not_any_not]
 have:=List.findIdx?_isSome (xs:=l) (p:=fun x => !p x)
 cases h:l.findIdx? (fun x => !p x) with
 | none=>rw [h] at this;exact .inl ⟨rfl,by rw [e,←this];rfl⟩
 | some i=>rw [h] at this;exact .inr ⟨i,rfl,by rw [e,←this];rfl⟩
theorem zfg {l cs:Z}:decide (Lib.trimS l cs=[])=l.all cs.contains:=by
 rw [ym,decide_eq_true_iff,zln,yw]
theorem zg8 {l cs:Z} (hl:l.length≤9223372036854775807) (hc:(decide (cs.length<4294967281)&&cs.all fun b=>decide (b.toNat<128))=true):M.trim l cs=some (Lib.trimS l cs):=by
 unfold M.trim
 rw [z2s]
 ·rfl
 ·simp only [yi] at hc ⊢
  exact ⟨by simpa using hl,hc⟩
def z7m (lo hi:Nat) (s:Z):Bool:=s.all fun b=>decide (lo≤b.toNat)&&decide (b.toNat≤hi)
theorem z65 {s:Z} (lo hi:Nat) (hs:s.length<1152921504606846976):M.q1x s (lo:Int) (hi:Int)=some (z7m lo hi s):=by
 unfold M.q1x
 have hk:M.z3x s (lo:Int) (hi:Int) 0=some (match s.findIdx? (fun b => !(decide (lo≤b.toNat)&&decide (b.toNat≤hi))) with|some i => .done false|none => .go ()):=by
  refine seek (fun _=>false) () hs (fun i h => ?_) ?_
  ·rw [M.z3x]
   have h1:((i:Int)<(s.length:Int)):=by omega
   simp only [h1,decide_true,if_true,z6k,yak h,ya,yc]
   by_cases a:lo≤(s[i]).toNat
   ·have a':¬(((s[i]).toNat:Int)<(lo:Int)):=by omega
    by_cases b:(s[i]).toNat≤hi
    ·have b':¬((hi:Int)<((s[i]).toNat:Int)):=by omega
     simp [a,a',b,b']
    ·have b':((hi:Int)<((s[i]).toNat:Int)):=by omega
     simp [a,a',b,b']
   ·have a':(((s[i]).toNat:Int)<(lo:Int)):=by omega
    simp [a,a']
  ·rw [M.z3x]
   simp
 simp only [ya,hk,yc]
 unfold z7m
 rcases zwq s (fun b=>decide (lo≤b.toNat)&&decide (b.toNat≤hi)) with ⟨h1,h2⟩|⟨i,h1,h2⟩
 ·rw [h1,h2]
 ·rw [h1,h2]
def isA (b:UInt8):Bool:=decide (65≤b.toNat)&&decide (b.toNat≤90)
def z7t (s:Z):Bool := !decide (s=[])&&decide (s.length≤8)&&s.all isA
def z6o:Z:=[65,66,67,68,69,70,71,72,73,74,75,76,77,78,79,80,81,82,83,84,85,86,87,88,89,90]
theorem zwa:∀ b:UInt8,z6o.contains b=isA b:=z5t (by decide +kernel)
theorem z9j (s:Z):M.q1o s=some (z7t s):=by
 unfold M.q1o z7t
 by_cases h:s=[]
 ·subst h;simp
 ·by_cases h8:s.length≤8
  ·have e:M.trim s z6o=some (Lib.trimS s z6o):=zg8 (by omega) (by decide)
   have e2:decide (Lib.trimS s z6o=[])=s.all isA:=by rw [zfg];congr 1;funext b;exact zwa b
   have h8':((s.length:Int)≤8):=by omega
   unfold z6o at e e2
   simp [h,h8',h8,e]
   simpa using e2
  ·have h8':¬((s.length:Int)≤8):=by omega
   simp [h8',h8]
def isN (b:UInt8):Bool:=decide (97≤b.toNat)&&decide (b.toNat≤122)||isD b||decide (b=45)
def zi4 (s:Z):Bool := !decide (s=[])&&decide (s.length≤32)&&s.all isN
def smls:Z:=[97,98,99,100,101,102,103,104,105,106,107,108,109,110,111,112,113,114,115,116,117,118,119,120,121,122,48,49,50,51,52,53,54,55,56,57,45]
theorem zyu:∀ b:UInt8,smls.contains b=isN b:=z5t (by decide +kernel)
theorem zcw (s:Z):M.q1q s=some (zi4 s):=by
 unfold M.q1q zi4
 by_cases h:s=[]
 ·subst h;simp
 ·by_cases h8:s.length≤32
  ·have e:M.trim s smls=some (Lib.trimS s smls):=zg8 (by omega) (by decide)
   have e2:decide (Lib.trimS s smls=[])=s.all isN:=by rw [zfg];congr 1;funext b;exact zyu b
   have h8':((s.length:Int)≤32):=by omega
   unfold smls at e e2
   simp [h,h8',h8,e]
   simpa using e2
  ·have h8':¬((s.length:Int)≤32):=by omega
   simp [h8',h8]
def bare (s:Z):Z:=Lib.trimS s [32]
def isVal (s:Z):Bool:=z7m 32 126 s&&decide (bare s=s)
theorem zb6 {s:Z} (hs:s.length<1152921504606846976):M.q2s s=some (isVal s):=by
 unfold M.q2s isVal
 have h1:M.q1x s 32 126=some (z7m 32 126 s):=z65 32 126 hs
 have h2:M.trim s [32]=some (Lib.trimS s [32]):=zg8 (by omega) (by decide)
 rw [h1]
 cases h:z7m 32 126 s
 ·simp
 ·simp only [ya,yc,if_true,h2,yt,bare]
  exact congrArg some (decide_eq_decide.2 Iff.rfl)
def isNum (k:Nat) (s:Z):Bool := !decide (s=[])&&s.all isD&&decide (s.length≤k)&&(!decide (s.head? = some 48)||decide (s.length=1))
def numV (s:Z):Int:=match Lib.atoiAll s with
 | .ok v=>v
 | .range=>Lib.atoiSat s
 | _=>0
theorem zoo (n:Nat):Lib.itoa (n:Int)=Lib.decDigits n:=by unfold Lib.itoa;rw [if_neg (by omega)];simp
theorem zzb {n:Nat} (h:n<1000000000000000000):M.itoa (n:Int)=some (Lib.decDigits n):=by
 unfold M.itoa
 rw [z2s (by simp;omega),zoo]
 rfl
theorem pow15 {n:Nat} (h:n≤15):10 ^ n≤1000000000000000:=by
 have:=ybf (n:=10) (by decide) h
 omega
theorem zt7 {k:Nat} {s:Z} (h:isNum k s=true) (hk:k≤15):Lib.atoiAll s = .ok ((zas 0 s:Nat):Int)∧zas 0 s<10 ^ s.length∧Lib.decDigits (zas 0 s)=s:=by
 unfold isNum at h
 simp only [yi,yp,decide_eq_false_iff_not,decide_eq_true_eq,ys] at h
 obtain ⟨⟨⟨h1,h2⟩,h3⟩,h4⟩:=h
 have hd:∀ c∈s,isD c=true:=yw.1 h2
 have hlt:=zs9 s 0 0 hd (by decide)
 rw [ybh] at hlt
 have hp:=pow15 (n:=s.length) (by omega)
 refine ⟨?_,hlt,zhq _ s rfl hd h1 (fun e => ?_)⟩
 ·cases s with
  | nil=>exact absurd rfl h1
  | cons c r =>
   have hc:=zi3 (hd c (by simp))
   unfold Lib.atoiAll
   simp only
   rw [if_neg (by omega),zn1 (by omega),if_neg h1,if_pos h2]
   simp only
   rw [if_neg (by omega),if_neg (by omega),if_neg (by omega)]
 ·rcases h4 with h4|h4
  ·exact absurd e h4
  ·exact h4
theorem zz02k {k:Nat} {s:Z} (h:isNum k s=false) (hk:k≤15) (hl:s.length≤k):∀ v,Lib.atoiAll s = .ok v→0≤v→Lib.itoa v≠s:=by
 intro v hv h0 he
 obtain ⟨n,rfl⟩:∃ n:Nat,v=n:=⟨v.toNat,by omega⟩
 rw [zoo] at he
 obtain ⟨d1,d2,d3⟩:=z7a n n (ybb _)
 rw [he] at d1 d2 d3
 have ha:s.all isD=true:=yw.2 d1
 unfold isNum at h
 have hh:¬(¬s.head? = some 48∨s.length=1):=fun hh=>by
  have:(!decide (s.head? = some 48)||decide (s.length=1))=true:=by simpa using hh
  rw [ha,this] at h
  simp [d2,hl] at h
 have hz:=d3 (Classical.byContradiction fun q=>hh (.inl q))
 subst hz
 have:Lib.decDigits 0=[48]:=Lib.decDigits_one (i:=0) (by decide)
 rw [this] at he
 exact hh (.inr (by rw [←he];rfl))
theorem z9k {s:Z} (k:Nat) (hk:k≤15) (hs:s.length≤281474976710656):∃ v,M.q1t s (k:Int)=some (v,isNum k s)∧(isNum k s=true→v=((zas 0 s:Nat):Int)):=by
 unfold M.q1t
 have ha:M.atoi s=(match Lib.atoiAll s with
  | .ok v=>some (v,true)
  | .range=>some (Lib.atoiSat s,false)
  | _=>some (0,false)):=by
  unfold M.atoi
  rw [z2s (by simpa using hs)]
  rfl
 rw [ha]
 cases hn:isNum k s with
 | true =>
  obtain ⟨h1,h2,h3⟩:=zt7 hn hk
  have hp:=pow15 (n:=s.length) (by unfold isNum at hn;simp at hn;omega)
  have hl:((s.length:Int)≤(k:Int)):=by unfold isNum at hn;simp at hn;omega
  refine ⟨((zas 0 s:Nat):Int),?_,fun _=>rfl⟩
  rw [h1]
  have h0:((0:Int)≤((zas 0 s:Nat):Int)):=by omega
  simp only [ya,yc,yt,hl,h0,decide_true,if_true,yl]
  rw [zzb (by omega)]
  simp [h3]
 | false =>
  have hno:=zz02k hn hk
  rcases hv:Lib.atoiAll s with v|_|_
  ·refine ⟨v,?_,fun q=>by cases q⟩
   simp only [ya,yc,yt]
   by_cases hl:((s.length:Int)≤(k:Int))
   ·by_cases h0:(0:Int)≤v
    ·have hne:=hno (by omega) v hv h0
     obtain ⟨n,rfl⟩:∃ n:Nat,v=n:=⟨v.toNat,by omega⟩
     have hb:=Lib.atoiAll_bounds hv
     simp only [hl,h0,decide_true,yl,if_true]
     unfold M.itoa
     rw [z2s (by simp;omega)]
     simp [hne]
    ·simp [h0]
   ·simp [hl]
  ·exact ⟨_,rfl,fun q=>by cases q⟩
  ·exact ⟨_,rfl,fun q=>by cases q⟩
end
section
open Go.Lk Go.Pe
def z1f:Z→Option Z
 | []=>some []
 | c::r=>if c=37 then (match r with
  | x::y::t=>match z7g x,z7g y with
   | some a,some b=>(z1f t).map (ybl (16*a+b) :: ·)
   | _,_=>none
  | _=>none) else (z1f r).map (c :: ·)
theorem z6s {c:UInt8} (h:¬c=37) (r:Z):z1f (c::r)=(z1f r).map (c :: ·):=by
 conv=>lhs;unfold z1f
 rw [if_neg h]
theorem z7e (x y:UInt8) (t:Z):z1f (37::x::y::t)=match z7g x,z7g y with
  | some a,some b=>(z1f t).map (ybl (16*a+b) :: ·)
  | _,_=>none:=by
 conv=>lhs;unfold z1f
 rw [if_pos rfl]
theorem zjv:z1f [37]=none:=by unfold z1f;rfl
theorem zjw (x:UInt8):z1f [37,x]=none:=by unfold z1f;rfl
theorem zee:∀ (n:Nat) (s t:Z),s.length≤n→z1f s=some t→t.length≤s.length:=by
 intro n
 induction n with
 | zero =>
  intro s t hn h
  have:s=[]:=yag (by omega)
  subst this
  cases h
  simp
 | succ n ih =>
  intro s t hn h
  cases s with
  | nil=>cases h;simp
  | cons c r =>
   simp only [yar] at hn
   by_cases hc:c=37
   ·subst hc
    match r,hn,h with
    | [],_,h=>rw [zjv] at h;cases h
    | [x],_,h=>rw [zjw] at h;cases h
    | x::y::q,hn,h =>
     rw [z7e] at h
     cases hx:z7g x with
     | none=>rw [hx] at h;simp at h
     | some a =>
      cases hy:z7g y with
      | none=>rw [hx,hy] at h;simp at h
      | some b =>
       rw [hx,hy] at h
       simp only [ye] at h
       obtain ⟨u,h1,rfl⟩:=h
       simp only [yar] at hn ⊢
       have:=ih q u (by omega) h1
       omega
   ·rw [z6s hc] at h
    simp only [ye] at h
    obtain ⟨u,h1,rfl⟩:=h
    have:=ih r u (by omega) h1
    simp
    omega
theorem zed:∀ s:Z,((z2f 37 s).2.2=false→z1f s=some s∧(z2f 37 s).1=s)∧((z2f 37 s).2.2=true→z1f s=(z1f (37::(z2f 37 s).2.1)).map ((z2f 37 s).1 ++ ·))
 | []=>by simp [z2f,z1f]
 | c::r=>by
  have ih:=zed r
  rw [z4h]
  by_cases hc:c=37
  ·subst hc
   simp
  ·rw [if_neg hc,z6s hc]
   refine ⟨fun h => ?_,fun h => ?_⟩
   ·obtain ⟨h1,h2⟩:=ih.1 h
    rw [h1]
    simp [h2]
   ·rw [ih.2 h,Option.map_map]
    rfl
def zai:Z:=[48,49,50,51,52,53,54,55,56,57,97,98,99,100,101,102,95,95,95,95,95,95,95,95,95,95,65,66,67,68,69,70]
def ixS (c:UInt8):Int:=Lib.idxFunc (fun r=>decide ((r:Int) % 256=(c.toNat:Int))) true ⟨zai.toArray⟩
theorem zte:∀ c:UInt8,(match z7g c with
  | some d=>decide (0≤ixS c)&&decide (ybj (ixS c) 16=(d:Int))&&decide (c.toNat<128) && !decide (c=95)
  | none=>decide (ixS c<0)||decide (c=95))=true:=z5t (by decide +kernel)
theorem zz03u:∀ a b:Fin 16,ybk .u8 (orI .i64 (z5x .i64 ((a.val:Nat):Int) 4) ((b.val:Nat):Int))=((16*a.val+b.val:Nat):Int):=by decide +kernel
theorem zb7 {c:UInt8} {d:Nat} (h:z7g c=some d):0≤ixS c∧ybj (ixS c) 16=(d:Int)∧c.toNat<128∧¬c=95:=by
 have:=zte c
 rw [h] at this
 simp only [yi,decide_eq_true_eq,yp,decide_eq_false_iff_not] at this
 exact ⟨this.1.1.1,this.1.1.2,this.1.2,this.2⟩
theorem zi6 {c:UInt8} (h:z7g c=none):ixS c<0∨c=95:=by
 have:=zte c
 rw [h] at this
 simpa using this
theorem ztd {c:UInt8} (h:0≤ixS c):c.toNat<128:=by
 cases hx:z7g c with
 | some d=>exact (zb7 hx).2.2.1
 | none =>
  rcases zi6 hx with h1|h1
  ·omega
  ·subst h1;decide
theorem M_ixS (c:UInt8):M.z0y zai (c.toNat:Int)=some (ixS c):=by unfold M.z0y ixS;rfl
theorem zvv (x y:UInt8) (t:Z):M.q0o (x::y::t) zai=some (ybk .u8 (orI .i64 (z5x .i64 (ybj (ixS x) 16) 4) (ybj (ixS y) 16)),decide (0≤ixS x)&&decide (0≤ixS y)):=by
 unfold M.q0o
 have h:¬(((x::y::t).length:Int)<2):=by simp;omega
 simp only [h,decide_false,yn,if_false,zxc,ix_1,yaj,yai,ya,yc,M_ixS]
theorem zdx (s cs:Z):Lib.containsAny s cs=s.any cs.contains:=by
 unfold Lib.containsAny
 induction s with
 | nil=>simp [Lib.indexAny]
 | cons b l ih =>
  have hge:=Lib.indexAny_ge cs l
  rw [Lib.indexAny,List.any_cons,←ih]
  cases h:cs.contains b with
  | true=>simp
  | false =>
   simp only [yn,if_false,Bool.false_or]
   by_cases hm:Lib.indexAny l cs = -1
   ·simp [hm]
   ·rw [if_neg (by simpa using hm),ym,decide_eq_true_iff,decide_eq_true_iff]
    omega
theorem M_two {x y:UInt8} (hx:x.toNat<128) (hy:y.toNat<128):M.containsAny [x,y] [95]=some (decide (x=95)||decide (y=95)):=by
 unfold M.containsAny
 rw [z2s (by simp [hx,hy]),zdx]
 simp [ym,eq_comm]
theorem z18 {a b:Z} (h:a.length+b.length<1000000000000):M.q71 (unb a) b=some ((b.length:Int),unb (a++b)):=by
 rw [z2j (by rw [z1p];omega),z2r]
theorem zfw:∀ (n:Nat) (s a:Z),s.length≤n→a.length+s.length<4294967281→M.z1a s (unb a)=some (match z1f s with|some t=>(a++t,0)|none=>([],12)):=by
 intro n
 induction n with
 | zero =>
  intro s a hn hl
  have:s=[]:=yag (by omega)
  subst this
  rw [M.z1a,zrh 37 (by simp)]
  simp only [cutb_nil,ya,yc]
  rw [z18 (by simp at hl ⊢;omega)]
  simp [z1r,z1f]
 | succ n ih =>
  intro s a hn hl
  have hcl:=z74 37 s
  have hf:=zed s
  rw [M.z1a,zrh 37 (by omega)]
  simp only [ya,yc]
  rw [z18 (by omega)]
  simp only [yc]
  cases hb:(z2f 37 s).2.2 with
  | false =>
   obtain ⟨h1,h2⟩:=hf.1 hb
   simp only [yq,if_true]
   rw [z1r,h1,h2]
   rfl
  | true =>
   have h1:=hf.2 hb
   have hl2:=hcl.2 hb
   simp only [yr,yn,if_false]
   obtain ⟨p,hp⟩:∃ p,(z2f 37 s).1=p:=⟨_,rfl⟩
   obtain ⟨r,hr⟩:∃ r,(z2f 37 s).2.1=r:=⟨_,rfl⟩
   rw [hp,hr] at h1 hl2
   rw [hp,hr,h1]
   have sx:([48,49,50,51,52,53,54,55,56,57,97,98,99,100,101,102,95,95,95,95,95,95,95,95,95,95,65,66,67,68,69,70]:Z)=zai:=rfl
   rw [sx]
   match r,hl2 with
   | [],_ =>
    have:M.q0o [] zai=some (0,false):=by simp [M.q0o]
    simp [this,zjv]
   | [x],_ =>
    have:M.q0o [x] zai=some (0,false):=by simp [M.q0o]
    simp [this,zjw]
   | x::y::t,hl2 =>
    simp only [yar] at hl2
    rw [zvv,z7e]
    simp only [yc]
    have hsub:sub (x::y::t) 0 2=some [x,y]:=by
     have:=zr5 (l:=x::y::t) (a:=2) (by simp)
     simpa using this
    have hsub2:sub (x::y::t) 2 ((x::y::t).length:Int)=some t:=by
     have:=zci (l:=x::y::t) (a:=2) (by simp)
     simpa using this
    by_cases h0:0≤ixS x∧0≤ixS y
    ·have e0:(decide (0≤ixS x)&&decide (0≤ixS y))=true:=by simp [h0]
     simp only [e0,yr,yn,if_false,hsub,yc]
     rw [M_two (ztd h0.1) (ztd h0.2)]
     simp only [yc]
     cases hx:z7g x with
     | none =>
      have:x=95:=(zi6 hx).resolve_left (by omega)
      simp [this]
     | some d1 =>
      cases hy:z7g y with
      | none =>
       have:y=95:=(zi6 hy).resolve_left (by omega)
       simp [this]
      | some d2 =>
       obtain ⟨_,q1,_,q2⟩:=zb7 hx
       obtain ⟨_,q3,_,q4⟩:=zb7 hy
       have l1:=z4c x d1 hx
       have l2:=z4c y d2 hy
       have q5:=zz03u ⟨d1,l1⟩ ⟨d2,l2⟩
       simp only [q2,q4,decide_false,Bool.or_self,yn,if_false,q1,q3]
       simp only at q5
       rw [q5]
       have q6:((16*d1+d2:Nat):Int)=((ybl (16*d1+d2)).toNat:Int):=by simp;omega
       rw [q6,z1e (by rw [z1p,yaq];omega)]
       simp only [yc,hsub2]
       rw [zfj,←z2r,ih t _ (by omega) (by simp;omega)]
       cases z1f t<;>simp
    ·have e0:(decide (0≤ixS x)&&decide (0≤ixS y))=false:=by
      rw [yh]
      simp only [decide_eq_false_iff_not]
      by_cases q:0≤ixS x
      ·exact .inr fun q2=>h0 ⟨q,q2⟩
      ·exact .inl q
     simp only [e0,yq,if_true,yc]
     cases hx:z7g x with
     | none=>simp
     | some d1 =>
      cases hy:z7g y with
      | none=>simp
      | some d2=>exact (h0 ⟨(zb7 hx).1,(zb7 hy).1⟩).elim
theorem z42 {s:Z} (h:s.length<4294967281):M.q0l s=some (match z1f s with|some t=>(t,0)|none=>([],12)):=by
 unfold M.q0l
 have:=zfw _ s [] (ybb _) (by simpa using h)
 simpa [unb] using this
def swp (s:Z):Z:=s.map fun b=>if b=43 then 32 else b
theorem zl5 (c d:UInt8):∀ (n:Nat) (s:Z),s.length≤n→Lib.replaceK [c] [d] (s.count c) s=s.map fun b=>if b=c then d else b:=by
 intro n
 induction n with
 | zero =>
  intro s hn
  have:s=[]:=yag (by omega)
  subst this
  rfl
 | succ n ih =>
  intro s hn
  cases s with
  | nil=>rfl
  | cons x r =>
   simp only [yar] at hn
   have hr:=ih r (by omega)
   by_cases hx:x=c
   ·subst hx
    rw [List.count_cons_self,Lib.replaceK_hit [x] [d] _ _ 0 (by rw [z3l];simp)]
    simp [hr]
   ·rw [List.count_cons_of_ne (by simpa using hx),yaw,if_neg hx,←hr]
    obtain ⟨k,hk⟩:∃ k,r.count c=k:=⟨_,rfl⟩
    rw [hk]
    cases k with
    | zero=>rfl
    | succ k =>
     have hge:=Lib.index_ge r [c]
     have hm:¬Lib.index r [c] = -1:=fun e=>by
      have h1:=Lib.count_one c r
      rw [Lib.count_miss e,hk] at h1
      omega
     obtain ⟨i,hi⟩:∃ i:Nat,Lib.index r [c]=i:=⟨(Lib.index r [c]).toNat,by omega⟩
     rw [Lib.replaceK_hit [c] [d] k r i hi,Lib.replaceK_hit [c] [d] k (x::r) (i+1) (by rw [z3l,if_neg hx,if_neg hm,hi];omega)]
     simp [ya9]
theorem M_swp {s:Z} (h:s.length<4294967281):M.replaceAll s [43] [32]=some (swp s):=by
 unfold M.replaceAll
 rw [z2s (by simpa using h)]
 have e:Lib.replaceAll s [43] [32]=swp s:=by
  unfold Lib.replaceAll Lib.replace Lib.replaceNum swp
  rw [if_neg (by decide),if_pos (.inl (by decide)),Lib.count_one,zl5 43 32 _ s (ybb _)]
 rw [←e]
 rfl
def zad:List Z→List q05→List q05 × Int
 | [],a=>(a,0)
 | p::r,a=>if p=[] then ([],13) else match z1f (z2f 61 (swp p)).1,z1f (z2f 61 (swp p)).2.1 with
  | some x,some y=>zad r (a++[⟨x,y⟩])
  | _,_=>([],12)
def z29 (s:Z):List q05 × Int:=if 8192<s.length∨64<(z15 38 s).length then ([],14) else if s=[] then ([],0) else zad (z15 38 s) []
theorem z4x (c:UInt8):∀ (s x:Z),x∈z15 c s→x.length≤s.length
 | [],x,h=>by simp [z15] at h;simp [h]
 | y::r,x,h=>by
  have ih:=z4x c r
  unfold z15 at h
  split at h
  ·rcases yay.1 h with rfl|h
   ·simp
   ·have:=ih x h;simp;omega
  ·obtain ⟨a,t,e⟩:=zli c r
   rw [e] at h ih
   simp only at h
   rcases yay.1 h with rfl|h
   ·have:=ih a (by simp);simp;omega
   ·have:=ih x (by simp [h]);simp;omega
theorem zch (c:UInt8):∀ s:Z,(z15 c s).length≤s.length+1
 | []=>by simp [z15]
 | y::r=>by
  have ih:=zch c r
  unfold z15
  split
  ·simp;omega
  ·obtain ⟨a,t,e⟩:=zli c r
   rw [e] at ih ⊢
   simp at ih ⊢
   omega
theorem znn (s:Z):(swp s).length=s.length:=by simp [swp]
theorem zmb {l:List Z} (hl:l.length<1000000) (hm:∀ x∈l,x.length<1000000):∀ (n i:Nat) (a:List q05),l.length - i=n→i≤l.length→a.length≤i →
  M.z1l l a (i:Int)=some (match zad (l.drop i) a with|(r,e)=>if e=0 then .go r else .done (r,e)):=by
 intro n
 induction n with
 | zero =>
  intro i a hn hi ha
  rw [M.z1l,yac (by omega)]
  have:¬((i:Int)<(l.length:Int)):=by omega
  simp [this,zad]
 | succ n ih =>
  intro i a hn hi ha
  have hlt:i<l.length:=by omega
  have h1:((i:Int)<(l.length:Int)):=by omega
  have hx:=hm l[i] (by simp)
  rw [M.z1l,yab hlt]
  simp only [h1,decide_true,if_true,z6k,yak hlt,ya,yc]
  unfold zad
  by_cases he:l[i]=[]
  ·simp [he]
  ·have hc:=z74 61 (swp l[i])
   rw [znn] at hc
   simp only [he,decide_false,yn,if_false]
   rw [M_swp (by omega)]
   simp only [yc]
   rw [zrh 61 (by rw [znn];omega)]
   simp only [yc]
   rw [z42 (by omega),z42 (by omega)]
   simp only [yc]
   cases h2:z1f (z2f 61 (swp l[i])).1 with
   | none=>simp
   | some x =>
    cases h3:z1f (z2f 61 (swp l[i])).2.1 with
    | none=>simp
    | some y =>
     simp only [decide_true,yr,Bool.or_self,yn,if_false]
     rw [z4f (by simp;omega),w1 (by omega)]
     simp only [yc]
     rw [ih (i+1) _ (by omega) (by omega) (by simp;omega)]
theorem z6p {s:Z} (h:s.length<1000000):M.q0k s=some (z29 s):=by
 unfold M.q0k z29
 rw [z9x 38 (by omega)]
 simp only [ya,yc]
 by_cases hb:8192<s.length∨64<(z15 38 s).length
 ·have:(decide (8192<(s.length:Int))||decide (64<((z15 38 s).length:Int)))=true:=by
   rw [ys,decide_eq_true_iff,decide_eq_true_iff]
   omega
  simp [this,hb]
 ·have:(decide (8192<(s.length:Int))||decide (64<((z15 38 s).length:Int)))=false:=by
   rw [Bool.or_eq_false_iff,decide_eq_false_iff_not,decide_eq_false_iff_not]
   omega
  simp only [this,yn,if_false,hb]
  by_cases he:s=[]
  ·simp [he]
  ·have hk:=zmb (l:=z15 38 s) (by omega) (fun x hx=>by have:=z4x 38 s x hx;omega) _ 0 [] rfl (ybi _) (by simp)
   have hk:M.z1l (z15 38 s) [] 0=_:=hk
   rw [hk,yaf]
   simp only [he,decide_false,yn,if_false,yc]
   rcases hp:zad (z15 38 s) [] with ⟨r,e⟩
   simp only
   by_cases h0:e=0
   ·subst h0;simp
   ·simp [h0]
def z5a (l:List q05) (k v:Z):Z:=match l.find? (fun p=>decide (p.zu=k)) with
 | some p=>p.z1t
 | none=>v
def zj1 (l:List q05) (k:Z):Nat:=l.countP fun p=>decide (p.zu=k)
theorem zk1 (p:q05) (l:List q05) (k v:Z):z5a (p::l) k v=if p.zu=k then p.z1t else z5a l k v:=by
 unfold z5a
 rw [List.find?_cons]
 by_cases h:p.zu=k<;>simp [h]
theorem zk0 (p:q05) (l:List q05) (k:Z):zj1 (l++[p]) k=zj1 l k+if p.zu=k then 1 else 0:=by
 unfold zj1
 rw [List.countP_append]
 by_cases h:p.zu=k<;>simp [h]
theorem zjc {l:List q05} {k:Z} (hl:l.length<1000000000):∀ (m:Nat) (v:Z) (n:Nat),m≤l.length→n+m≤l.length →
  M.z2t l k (z5a (l.drop m) k v) ((n:Nat):Int) ((m:Int) - 1)=some (z5a l k v,((n+zj1 (l.take m) k:Nat):Int)):=by
 intro m
 induction m with
 | zero =>
  intro v n hm hn
  rw [M.z2t]
  simp [zj1]
 | succ m ih =>
  intro v n hm hn
  have hlt:m<l.length:=by omega
  rw [M.z2t]
  have e0:(((m+1:Nat):Int) - 1)=(m:Int):=by omega
  have h0:(0:Int)≤(m:Int):=by omega
  rw [e0]
  simp only [h0,decide_true,if_true,z6k,yak hlt,ya,yc]
  have ew:ybk .i64 ((m:Int) - 1)=(m:Int) - 1:=w64 (by omega) (by omega)
  have hd:l.drop m=l[m]::l.drop (m+1):=yab hlt
  have ht:l.take (m+1)=l.take m++[l[m]]:=by rw [List.take_succ,yak hlt];rfl
  by_cases hk:l[m].zu=k
  ·have e1:z5a (l.drop m) k v=l[m].z1t:=by rw [hd,zk1,if_pos hk]
   have e2:zj1 (l.take (m+1)) k=zj1 (l.take m) k+1:=by rw [ht,zk0,if_pos hk]
   simp only [hk,decide_true,if_true,ew]
   rw [w1 (by omega),←e1,ih v (n+1) (by omega) (by omega),e2]
   congr 3
   omega
  ·have e1:z5a (l.drop m) k v=z5a (l.drop (m+1)) k v:=by rw [hd,zk1,if_neg hk]
   have e2:zj1 (l.take (m+1)) k=zj1 (l.take m) k:=by rw [ht,zk0,if_neg hk];rfl
   simp only [hk,decide_false,yn,if_false,ew]
   rw [←e1,ih v n (by omega) (by omega),e2]
theorem zco {l:List q05} (k:Z) (hl:l.length<1000000000):M.q0m l k=some (z5a l k [],((zj1 l k:Nat):Int)):=by
 unfold M.q0m
 have h:=zjc (k:=k) hl l.length [] 0 (ybb _) (by omega)
 rw [List.drop_length,ya6,ybh] at h
 rw [w64 (by omega) (by omega)]
 simp only [ya]
 have e:z5a [] k []=[]:=rfl
 rw [e] at h
 have h:M.z2t l k [] 0 ((l.length:Int) - 1)=_:=h
 rw [h]
 rfl
def zgs (l:List q05) (k:Z):Bool:=l.any fun p=>decide (p.zu=k)
theorem zwx (l:List q05) (k:Z):decide (0<zj1 l k)=zgs l k:=by
 unfold zj1 zgs
 rw [ym,decide_eq_true_iff,List.countP_pos_iff,List.any_eq_true]
theorem z5l {l:List q05} (k:Z) (hl:l.length<1000000000):M.q1h l k=some (z5a l k [],zgs l k):=by
 unfold M.q1h
 rw [zco k hl]
 simp only [ya,yc]
 have:decide (0<((zj1 l k:Nat):Int))=zgs l k:=by rw [←zwx];exact decide_eq_decide.2 (by omega)
 exact congrArg (fun b=>some (z5a l k [],b)) this
end
section
open Go.Lk Go.Pe
def z56:Z:=[13,10,13,10]
def zbt (s:Z):Nat:=if 0≤Lib.index (s.take 8192) z56 then (Lib.index (s.take 8192) z56).toNat+4 else 0
theorem zz017 (s:Z):zbt s≤s.length∧zbt s≤8192:=by
 unfold zbt
 split
 ·rename_i h
  have:=Lib.index_room (s.take 8192) z56 h
  have h2:(s.take 8192).length=min 8192 s.length:=yau
  simp only [z56,yar,yat] at this
  rw [h2] at this
  have e:((Lib.index (s.take 8192) [13,10,13,10]).toNat:Int)=Lib.index (s.take 8192) [13,10,13,10]:=by
   unfold z56 at h
   omega
  unfold z56
  omega
 ·omega
theorem zz05d {s:Z} (h:0<zbt s):4≤zbt s:=by
 unfold zbt at h ⊢
 split at h
 ·rw [if_pos ‹_›];omega
 ·omega
theorem zmf {s:Z} (h:s.length<1000000000):M.q1f s=some ((zbt s:Nat):Int):=by
 unfold M.q1f zbt
 have e:minI (s.length:Int) 8192=((min s.length 8192:Nat):Int):=by unfold minI;split<;>omega
 rw [e,zr5 (Nat.min_le_left _ _)]
 have e2:s.take (min s.length 8192)=s.take 8192:=by rw [List.take_eq_take_iff];omega
 have e3:M.z4p (s.take 8192) z56=some (Lib.index (s.take 8192) z56):=by
  unfold M.z4p
  rw [z2s (by simp;omega)]
  rfl
 rw [e2]
 unfold z56 at e3 ⊢
 simp only [ya,yc,e3]
 by_cases h0:0≤Lib.index (s.take 8192) [13,10,13,10]
 ·have hr:=Lib.index_room (s.take 8192) [13,10,13,10] h0
  have h2:(s.take 8192).length=min 8192 s.length:=yau
  rw [h2] at hr
  simp only [yar,yat] at hr
  simp only [h0,decide_true,if_true]
  rw [w64 (by omega) (by omega)]
  congr 1
  omega
 ·simp [h0]
def zy0:List Z→Option (List Z)
 | []=>some []
 | p::r=>match z1f p,zy0 r with
  | some x,some l=>some (x::l)
  | _,_=>none
theorem zkz (p:Z) (r:List Z):zy0 (p::r)=match z1f p,zy0 r with
  | some x,some l=>some (x::l)
  | _,_=>none:=rfl
def z9i:Z:=[72,84,84,80,47,49,46,49]
def znp (a b c:Z):Bool:=z7t a&&decide (c=z9i)&&decide (b.head? = some 47)&&z7m 33 126 b
def topH (s:Z):Option q03:=match z15 32 s with
 | [a,b,c]=>if znp a b c=true then (match zy0 (z15 47 ((z2f 63 b).1.drop 1)) with
  | some l=>if (z29 (z2f 63 b).2.1).2=0∧l.length≤64 then some ⟨a,l,(z29 (z2f 63 b).2.1).1,[],[]⟩ else none
  | none=>none) else none
 | _=>none
theorem z0g (e:Int):M.q1p true e=some (.ok ()):=by simp [M.q1p]
theorem zy (e:Int):M.q1p false e=some (.pan e):=by simp [M.q1p]
theorem z30 {l:List Z} (hl:l.length<2000000) (hm:∀ x∈l,x.length<1000000):∀ (n i:Nat) (a:List Z),l.length - i=n→i≤l.length→a.length≤i →
  M.z30 l (i:Int) a=some (match zy0 (l.drop i) with|some r => .go (a++r)|none => .done (.pan 220)):=by
 intro n
 induction n with
 | zero =>
  intro i a hn hi ha
  rw [M.z30,yac (by omega)]
  have:¬((i:Int)<(l.length:Int)):=by omega
  simp [this,zy0]
 | succ n ih =>
  intro i a hn hi ha
  have hlt:i<l.length:=by omega
  have h1:((i:Int)<(l.length:Int)):=by omega
  have hx:=hm l[i] (by simp)
  rw [M.z30,yab hlt]
  simp only [h1,decide_true,if_true,z6k,yak hlt,ya,yc]
  rw [z42 (by omega)]
  simp only [yc]
  rw [zkz]
  cases h2:z1f l[i] with
  | none =>
   have:(decide ((12:Int)=0))=false:=by decide
   simp only [this,zy,yc]
  | some x =>
   have:(decide ((0:Int)=0))=true:=by decide
   rw [this,z0g]
   simp only [yc]
   rw [z4f (by simp;omega),w1 (by omega)]
   simp only [yc]
   rw [ih (i+1) _ (by omega) (by omega) (by simp;omega)]
   cases zy0 (l.drop (i+1))<;>simp
theorem headH (b:Z):M.q73 b [47]=some (decide (b.head? = some 47)):=by
 rw [z52,z6f]
theorem zmg {s:Z} (h:s.length<1000000):M.q2q s=some (match topH s with|some q => .ok q|none => .pan 220):=by
 unfold M.q2q topH
 rw [z9x 32 (by omega)]
 have hmem:=z4x 32 s
 obtain ⟨l,hl⟩:∃ l,z15 32 s=l:=⟨_,rfl⟩
 rw [hl] at hmem ⊢
 simp only [ya,yc]
 match l,hmem with
 | [],_=>simp [zy]
 | [a],_=>simp [zy]
 | [a,b],_=>simp [zy]
 | a::b::c::d::t,_ =>
  have:¬(((a::b::c::d::t).length:Int)=3):=by simp;omega
  simp only [this,decide_false,yn,if_false,yc,zy]
 | [a,b,c],hmem =>
  have hb:=hmem b (by simp)
  have hon:M.q1x b 33 126=some (z7m 33 126 b):=z65 33 126 (by omega)
  have e3:((([a,b,c]:List Z).length:Int)=3):=by simp
  have i0:ix [a,b,c] 0=some a:=by simp [zxc]
  have i1:ix [a,b,c] 1=some b:=by simp [ix_1]
  have i2:ix [a,b,c] 2=some c:=by simp [ix]
  simp only [e3,decide_true,if_true,i0,i1,i2,yc,z9j,headH,hon]
  have key:∀ k:Bool→Option (Rs q03),k (znp a b c)=((if z7t a=true then some (decide (c=z9i)) else some false).bind fun j13=>(if j13=true then some (decide (b.head? = some 47)) else some false).bind fun j19=>(if j19=true then some (z7m 33 126 b) else some false).bind k):=by
   intro k
   unfold znp
   cases z7t a<;>cases decide (c=z9i)<;>cases decide (b.head? = some 47)<;>simp
  unfold z9i at key
  rw [←key fun j27=>_]
  cases ht:znp a b c with
  | false=>simp [zy]
  | true =>
   have hhd:b.head? = some 47:=by unfold znp at ht;simp at ht;exact ht.1.2
   have hcl:=z74 63 b
   have hc1:1≤(z2f 63 b).1.length:=by
    cases b with
    | nil=>cases hhd
    | cons x r =>
     cases hhd
     rw [z4h,if_neg (by decide)]
     simp
   simp only [z0g,yc,if_true]
   rw [zrh 63 (by omega)]
   simp only [yc]
   have hs:=zci (l:=(z2f 63 b).1) (a:=1) hc1
   have hs:sub (z2f 63 b).1 1 ((z2f 63 b).1.length:Int)=some ((z2f 63 b).1.drop 1):=hs
   rw [hs]
   simp only [yc]
   rw [z9x 47 (by simp;omega)]
   simp only [yc]
   have hk:=z30 (l:=z15 47 ((z2f 63 b).1.drop 1)) (by have:=zch 47 ((z2f 63 b).1.drop 1);rw [yas] at this;omega) (fun x hx=>by have:=z4x 47 _ x hx;rw [yas] at this;omega) _ 0 [] rfl (ybi _) (by simp)
   have hk:M.z30 (z15 47 ((z2f 63 b).1.drop 1)) 0 []=_:=hk
   rw [hk,yaf]
   cases zy0 (z15 47 ((z2f 63 b).1.drop 1)) with
   | none=>simp
   | some l =>
    simp only [yc,ya0]
    rw [z6p (by omega)]
    simp only [yc]
    by_cases hz:(z29 (z2f 63 b).2.1).2=0∧l.length≤64
    ·have:(decide ((z29 (z2f 63 b).2.1).2=0)&&decide ((l.length:Int)≤64))=true:=by
      rw [yi,decide_eq_true_iff,decide_eq_true_iff]
      omega
     rw [this,z0g]
     simp [hz]
    ·have:(decide ((z29 (z2f 63 b).2.1).2=0)&&decide ((l.length:Int)≤64))=false:=by
      rw [yh,decide_eq_false_iff_not,decide_eq_false_iff_not]
      by_cases q:(z29 (z2f 63 b).2.1).2=0
      ·exact .inr fun q2=>hz ⟨q,by omega⟩
      ·exact .inl q
     rw [this,zy]
     simp only [yc]
     rw [if_neg hz]
def lowB (b:UInt8):UInt8:=if isA b=true then b+32 else b
def low (s:Z):Z:=s.map lowB
theorem zz02a:∀ b:UInt8,(!decide (b.toNat<128)||decide (Lib.encodeRune (zmv (b.toNat:Int))=[lowB b]))=true:=z5t (by decide +kernel)
theorem zz05y (x:Nat):0≤zmv (x:Int):=by unfold zmv;split<;>omega
theorem zh2:∀ s:Z,(∀ b∈s,b.toNat<128)→Lib.mapD zmv s=low s
 | [],_=>rfl
 | b::r,h=>by
  have hb:=h b (by simp)
  rw [Lib.mapD_step _ _ (by simp),Lib.decodeL_ascii b r hb]
  simp only [List.drop_one,ya4]
  rw [if_pos (zz05y _),zh2 r fun x hx=>h x (by simp [hx])]
  have:=zz02a b
  simp only [hb,decide_true,yr,Bool.false_or,decide_eq_true_eq] at this
  rw [this]
  rfl
theorem zm6 {x:Int} (h:128≤x):∃ b∈Lib.encodeRune x,128≤b.toNat:=by
 unfold Lib.encodeRune Lib.encodeRuneZ
 rw [if_neg (by omega)]
 split
 ·refine ⟨(192+x / 64).toNat.toUInt8,by simp,?_⟩
  simp
  omega
 ·split
  ·refine ⟨(224+x / 4096).toNat.toUInt8,by simp,?_⟩
   simp
   omega
  ·split
   ·refine ⟨(240+x / 262144).toNat.toUInt8,by simp,?_⟩
    simp
    omega
   ·exact ⟨239,by simp,by decide⟩
theorem decode_high (b:UInt8) (r:Z) (h:¬b.toNat<128):128≤(Lib.decodeL (b::r)).1:=by
 have e:(⟨(b::r).toArray⟩:ByteArray).get! 0=b:=by simp [ByteArray.get!]
 unfold Lib.decodeL Utf8.decode
 simp only [Nat.add_zero,e,ybh]
 rw [if_neg (by omega)]
 split
 ·split
  ·rename_i h1;simpa using h1
  ·simp [Utf8.runeError]
 ·split
  ·split
   ·rename_i h1
    simp only [yi,decide_eq_true_eq] at h1
    simp only
    omega
   ·simp [Utf8.runeError]
  ·split
   ·split
    ·rename_i h1
     simp only [yi,decide_eq_true_eq] at h1
     simp only
     omega
    ·simp [Utf8.runeError]
   ·simp [Utf8.runeError]
theorem ztx:∀ (n:Nat) (s:Z),s.length≤n→(∃ b∈s,¬b.toNat<128)→∃ b∈Lib.mapD zmv s,¬b.toNat<128:=by
 intro n
 induction n with
 | zero =>
  intro s hn h
  have:s=[]:=yag (by omega)
  subst this
  obtain ⟨b,hb,_⟩:=h
  cases hb
 | succ n ih =>
  intro s hn h
  cases s with
  | nil=>obtain ⟨b,hb,_⟩:=h;cases hb
  | cons c r =>
   rw [Lib.mapD_step _ _ (by simp)]
   by_cases hc:c.toNat<128
   ·rw [Lib.decodeL_ascii c r hc]
    simp only [List.drop_one,ya4]
    obtain ⟨b,hb,h2⟩:=ih r (by simp at hn;omega) (by
     obtain ⟨b,hb,h2⟩:=h
     rcases yay.1 hb with rfl|hb
     ·exact (h2 hc).elim
     ·exact ⟨b,hb,h2⟩)
    exact ⟨b,yax.2 (.inr hb),h2⟩
   ·have h1:=decode_high c r hc
    have e:zmv ((Lib.decodeL (c::r)).1:Int)=((Lib.decodeL (c::r)).1:Int):=by unfold zmv;rw [if_neg (by omega)]
    rw [e,if_pos (by omega)]
    obtain ⟨b,hb,h2⟩:=zm6 (x:=((Lib.decodeL (c::r)).1:Int)) (by omega)
    exact ⟨b,yax.2 (.inl hb),by omega⟩
theorem zz01p {b:UInt8} (h:isN b=true):b.toNat<128:=by
 unfold isN isD at h
 simp at h
 rcases h with (h|h)|h
 ·omega
 ·omega
 ·subst h;decide
theorem ztz (s:Z):zi4 (Lib.mapD zmv s)=zi4 (low s)∧(zi4 (low s)=true→Lib.mapD zmv s=low s):=by
 by_cases h:∀ b∈s,b.toNat<128
 ·rw [zh2 s h]
  exact ⟨rfl,fun _=>rfl⟩
 ·have h:∃ b∈s,¬b.toNat<128:=by
   simpa using h
  have no:∀ t:Z,(∃ b∈t,¬b.toNat<128)→zi4 t=false:=fun t ⟨b,hb,h2⟩=>by
   have:t.all isN=false:=by
    rw [List.all_eq_false]
    exact ⟨b,hb,fun q=>h2 (zz01p q)⟩
   unfold zi4
   rw [this,yj]
  have h1:=no _ (ztx _ s (ybb _) h)
  have h2:zi4 (low s)=false:=no _ (by
   obtain ⟨b,hb,h2⟩:=h
   refine ⟨lowB b,List.mem_map.2 ⟨b,hb,rfl⟩,?_⟩
   unfold lowB
   rw [if_neg (by unfold isA;simp;omega)]
   exact h2)
  rw [h1,h2]
  exact ⟨rfl,fun q=>by cases q⟩
theorem zpn {s:Z} (h:s.length<1000000000):M.z4m s=some (Lib.mapD zmv s):=by
 unfold M.z4m
 rw [z2s (by simp;omega)]
 rfl
end
section
open Go.Lk Go.Pe
theorem zov {K:Type} [DecidableEq K] (k k':K):∀ l:List (K × Bool),z62 (z36 l k true) k' false=if k'=k then true else z62 l k' false
 | []=>by unfold z36 z62 z62;rfl
 | (a,b)::r=>by
  have ih:=zov k k' r
  unfold z36
  by_cases h:k=a
  ·subst h
   rw [if_pos rfl]
   unfold z62
   by_cases h2:k'=k<;>simp [h2]
  ·rw [if_neg h]
   unfold z62
   by_cases h2:k'=a
   ·subst h2
    rw [if_pos rfl,if_pos rfl,if_neg (Ne.symm h)]
   ·rw [if_neg h2,if_neg h2,ih]
def z4t:Z:=[116,114,97,110,115,102,101,114,45,101,110,99,111,100,105,110,103]
def z4b:Z:=[99,111,110,116,101,110,116,45,108,101,110,103,116,104]
def z4y:Z:=[104,111,115,116]
def rowF (row:Z) (sn:List Z):Option (Z × Z) :=
 if ((z2f 58 row).2.2&&zi4 (low (z2f 58 row).1)&&isVal (bare (z2f 58 row).2.1) && !sn.contains (low (z2f 58 row).1))=true then some (low (z2f 58 row).1,bare (z2f 58 row).2.1) else none
def zbo:List Z→Nat→Nat→List q05→List Z→Except Int (Nat × List q05 × List Z)
 | [],_,b,hd,sn => .ok (b,hd,sn)
 | row::r,i,b,hd,sn=>if 32≤i then .error 222 else match rowF row sn with
  | none => .error 220
  | some (k,v)=>if k=z4b then (if isNum 9 v=true then zbo r (i+1) (zas 0 v) hd (k::sn) else .error 220) else zbo r (i+1) b (hd++[⟨k,v⟩]) (k::sn)
def zH:q03:=⟨[],[],[],[],[]⟩
def SN (m:List (Z × Bool)) (sn:List Z):Prop := ∀ k,z62 m k false=sn.contains k
theorem SN.put {m:List (Z × Bool)} {sn:List Z} (h:SN m sn) (k:Z):SN (z36 m k true) (k::sn):=fun k'=>by
 rw [zov,List.contains_cons,h k']
 by_cases e:k'=k<;>simp [e]
def zz04s (z:Option (Jn (q03 × Int × Int) (Int × (List q05) × (List (Z × Bool))))):Except Int (Nat × List q05 × List Z)→Prop
 | .error e=>z=some (.done (zH,0,e))
 | .ok (b,hd,sn)=>∃ m,z=some (.go ((b:Int),hd,m))∧SN m sn
theorem zhg (s:Z):(bare s).length≤s.length:=by
 unfold bare Lib.trimS Lib.trimLeftS Lib.trimRightS
 refine ybc (yaa _).length_le ?_
 rw [List.length_reverse]
 exact ybc (yaa _).length_le (by simp)
theorem zxw {l:List Z} (hl:l.length<1000000) (hm:∀ x∈l,x.length<1000000):∀ (n i b:Nat) (hd:List q05) (m:List (Z × Bool)) (sn:List Z),l.length - i=n→i≤l.length→hd.length≤i→SN m sn →
  zz04s (M.z1u l (b:Int) (i:Int) hd m) (zbo (l.drop i) i b hd sn):=by
 intro n
 induction n with
 | zero =>
  intro i b hd m sn hn hi ha hs
  rw [M.z1u,yac (by omega)]
  have:¬((i:Int)<(l.length:Int)):=by omega
  simp only [this,decide_false,yn,if_false]
  exact ⟨m,rfl,hs⟩
 | succ n ih =>
  intro i b hd m sn hn hi ha hs
  have hlt:i<l.length:=by omega
  have h1:((i:Int)<(l.length:Int)):=by omega
  have hx:=hm l[i] (by simp)
  have hc:=(z74 58 l[i]).1
  rw [M.z1u,yab hlt]
  simp only [h1,decide_true,if_true,z6k,yak hlt,ya,yc]
  unfold zbo
  by_cases h32:32≤i
  ·have:¬((i:Int)<32):=by omega
   rw [if_pos h32]
   simp only [this,decide_false,zy,yc]
   rfl
  ·have:((i:Int)<32):=by omega
   rw [if_neg h32]
   simp only [this,decide_true,z0g,yc]
   rw [zrh 58 (by omega)]
   simp only [yc]
   rw [zpn (by omega)]
   simp only [yc]
   rw [zg8 (by omega) (by decide)]
   simp only [yc,zcw]
   obtain ⟨e1,e2⟩:=ztz (z2f 58 l[i]).1
   have hv:M.q2s (Lib.trimS (z2f 58 l[i]).2.1 [32])=some (isVal (bare (z2f 58 l[i]).2.1)):=zb6 (by have:=zhg (z2f 58 l[i]).2.1;unfold bare at this;omega)
   rw [hv,e1]
   -- what must hold,as_ one
   have key:∀ (a b c d:Bool) (k:Bool→Option (Jn (q03 × Int × Int) (Int × (List q05) × (List (Z × Bool))))),((if a=true then some b else some false).bind fun j=>(if j=true then some c else some false).bind fun j=>(if j=true then some d else some false).bind k)=k (a&&b&&c&&d):=by
    intro a b c d k
    cases a<;>cases b<;>cases c<;>cases d<;>rfl
   simp only [yc]
   rw [key]
   unfold rowF
   by_cases hn:zi4 (low (z2f 58 l[i]).1)=true
   ·rw [e2 hn,hs]
    cases hall:((z2f 58 l[i]).2.2&&zi4 (low (z2f 58 l[i]).1)&&isVal (bare (z2f 58 l[i]).2.1) && !sn.contains (low (z2f 58 l[i]).1)) with
    | false =>
     simp only [zy,yc,yn,if_false]
     rfl
    | true =>
     simp only [z0g,yc,if_true]
     have hb:Lib.trimS (z2f 58 l[i]).2.1 [32]=bare (z2f 58 l[i]).2.1:=rfl
     rw [hb]
     by_cases hk:low (z2f 58 l[i]).1=z4b
     ·have hk':low (z2f 58 l[i]).1=[99,111,110,116,101,110,116,45,108,101,110,103,116,104]:=hk
      rw [if_pos hk]
      obtain ⟨v,h2,h3⟩:=z9k (s:=bare (z2f 58 l[i]).2.1) 9 (by decide) (by have:=zhg (z2f 58 l[i]).2.1;omega)
      have h2:M.q1t (bare (z2f 58 l[i]).2.1) 9=some (v,isNum 9 (bare (z2f 58 l[i]).2.1)):=h2
      simp only [hk',decide_true,yr,yn,if_false,h2,yc]
      cases hnum:isNum 9 (bare (z2f 58 l[i]).2.1) with
      | false =>
       simp only [zy,yc,yn,if_false]
       rfl
      | true =>
       simp only [z0g,yc,if_true]
       rw [h3 hnum,w1 (by omega)]
       have:=ih (i+1) (zas 0 (bare (z2f 58 l[i]).2.1)) hd _ _ (by omega) (by omega) (by omega) (hs.put (low (z2f 58 l[i]).1))
       rw [hk'] at this
       exact this
     ·have hk':¬low (z2f 58 l[i]).1=[99,111,110,116,101,110,116,45,108,101,110,103,116,104]:=hk
      rw [if_neg hk]
      simp only [hk',decide_false,yq,if_true]
      rw [z4f (by simp;omega),w1 (by omega)]
      simp only [yc]
      exact ih (i+1) b _ _ _ (by omega) (by omega) (by simp;omega) (hs.put (low (z2f 58 l[i]).1))
   ·have hn:zi4 (low (z2f 58 l[i]).1)=false:=by simpa using hn
    simp only [hn,yj,Bool.false_and,zy,yc,yn,if_false]
    rfl
def zug (s:Z) (n:Nat) (q:q03):Except Int (Nat × List q05 × List Z)→q03 × Nat × Int
 | .error e=>(zH,0,e)
 | .ok (b,hd,sn)=>if sn.contains z4y=false then (zH,0,220) else if 16384<b then (zH,0,221) else if s.length<n+b then (zH,0,223) else (⟨q.zx,q.z05,q.z0p,hd,(s.drop n).take b⟩,n+b,0)
def zuh (s:Z) (n:Nat) (l:List Z):q03 × Nat × Int:=match topH (l.head?.getD []) with
 | none=>(zH,0,220)
 | some q=>zug s n q (zbo (l.drop 1) 0 0 [] [z4t])
def zbj (s:Z):q03 × Nat × Int:=if zbt s=0 then (zH,0,if s.length<8192 then 223 else 222) else zuh s (zbt s) (z3u (s.take (zbt s - 4)))
theorem zr4:∀ (n:Nat) (s:Z),s.length≤n→(z3u s).length≤s.length+1∧∀ x∈z3u s,x.length≤s.length:=by
 intro n
 induction n with
 | zero =>
  intro s hn
  have:s=[]:=yag (by omega)
  subst this
  unfold z3u
  simp
 | succ n ih =>
  intro s hn
  cases s with
  | nil=>unfold z3u;simp
  | cons x r =>
   simp only [yar] at hn
   unfold z3u
   split
   ·obtain ⟨h1,h2⟩:=ih (r.drop 1) (by rw [yas];omega)
    rw [yas] at h1 h2
    refine ⟨by rw [yar,yar];omega,fun y hy => ?_⟩
    rcases yay.1 hy with rfl|hy
    ·simp
    ·have:=h2 y hy;rw [yar];omega
   ·obtain ⟨h1,h2⟩:=ih r (by omega)
    obtain ⟨a,t,e⟩:=zlk r
    rw [e] at h1 h2
    rw [e]
    simp only [yar] at h1 ⊢
    refine ⟨by omega,fun y hy => ?_⟩
    rcases yay.1 hy with rfl|hy
    ·have:=h2 a (by simp);rw [yar];omega
    ·have:=h2 y (by simp [hy]);omega
theorem zr9 {s:Z} {q:q03} (h:topH s=some q):q.z0j=[]∧q.zt=[]:=by
 unfold topH at h
 split at h
 ·split at h
  ·split at h
   ·split at h
    ·cases h;exact ⟨rfl,rfl⟩
    ·cases h
   ·cases h
  ·cases h
 ·cases h
theorem zb5 {s:Z} (h:s.length<1000000000):M.q0s s=some ((zbj s).1,(((zbj s).2.1:Nat):Int),(zbj s).2.2):=by
 unfold M.q0s zbj
 rw [zmf h]
 have hz:∀ e:Int,(q03.mk ([]:Z) [] [] [] ([]:Z),(0:Int),e)=(zH,((0:Nat):Int),e):=fun e=>rfl
 simp only [ya,yc]
 by_cases h0:zbt s=0
 ·rw [if_pos h0,h0]
  by_cases h1:s.length<8192
  ·have:((s.length:Int)<8192):=by omega
   simp [this,h1,z0g,zy,zH]
  ·have:¬((s.length:Int)<8192):=by omega
   simp [this,h1,zy,zH]
 ·rw [if_neg h0]
  have hp:(0:Int)<((zbt s:Nat):Int):=by omega
  have h4:=zz05d (s:=s) (by omega)
  have hle:=zz017 s
  simp only [hp,decide_true,Bool.true_or,z0g,yc]
  have ew:ybk .i64 (((zbt s:Nat):Int) - 4)=((zbt s - 4:Nat):Int):=by rw [w64 (by omega) (by omega)];omega
  rw [ew,zr5 (by omega)]
  simp only [yc]
  have hlt:(s.take (zbt s - 4)).length≤8192:=by rw [yau];omega
  rw [zvw (by omega)]
  obtain ⟨hs1,hs2⟩:=zr4 _ (s.take (zbt s - 4)) (ybb _)
  obtain ⟨a,t,e⟩:=zlk (s.take (zbt s - 4))
  rw [e] at hs1 hs2 ⊢
  have i0:ix (a::t) 0=some a:=by simp [zxc]
  simp only [yc,i0]
  have ha:=hs2 a (by simp)
  rw [zmg (by omega)]
  unfold zuh
  simp only [yan,yd,yc]
  cases hq:topH a with
  | none=>simp [zH]
  | some q =>
   obtain ⟨q1,q2⟩:=zr9 hq
   have hsub:sub (a::t) 1 ((a::t).length:Int)=some t:=by
    have:=zci (l:=a::t) (a:=1) (by simp)
    simpa using this
   simp only [yar] at hs1
   have hk:=zxw (l:=t) (by omega) (fun x hx=>by have:=hs2 x (by simp [hx]);omega) _ 0 0 [] (z36 [] z4t true) [z4t] rfl (ybi _) (by simp) (fun k=>by
    unfold z36 z62 z62
    by_cases q:k=z4t<;>simp [q])
   rw [yaf] at hk
   have e2:(a::t).drop 1=t:=rfl
   rw [e2]
   simp only [yc,hsub,q1]
   have em:z36 ([]:List (Z × Bool)) ([116,114,97,110,115,102,101,114,45,101,110,99,111,100,105,110,103]:Z) true=z36 [] z4t true:=rfl
   rw [em]
   unfold zug
   cases hr:zbo t 0 0 [] [z4t] with
   | error er =>
    rw [hr] at hk
    have hk:M.z1u t 0 0 [] (z36 [] z4t true)=some (.done (zH,0,er)):=hk
    rw [hk]
    rfl
   | ok x =>
    obtain ⟨b,hd,sn⟩:=x
    rw [hr] at hk
    obtain ⟨m,hk,hsn⟩:=hk
    have hk:M.z1u t 0 0 [] (z36 [] z4t true)=some (.go ((b:Int),hd,m)):=hk
    rw [hk]
    simp only [yc]
    have hh:z62 m [104,111,115,116] false=sn.contains z4y:=hsn _
    rw [hh]
    cases sn.contains z4y with
    | false=>simp [zy,zH]
    | true =>
     simp only [z0g,yc,yu,if_false]
     by_cases hb:16384<b
     ·have:¬((b:Int)≤16384):=by omega
      simp [this,hb,zy,zH]
     ·have:((b:Int)≤16384):=by omega
      simp only [this,decide_true,z0g,yc,hb,if_false]
      have ew2:ybk .i64 ((s.length:Int) - ((zbt s:Nat):Int))=((s.length - zbt s:Nat):Int):=by rw [w64 (by omega) (by omega)];omega
      rw [ew2]
      by_cases hb2:s.length<zbt s+b
      ·have:¬((b:Int)≤((s.length - zbt s:Nat):Int)):=by omega
       simp [this,hb2,zy,zH]
      ·have:((b:Int)≤((s.length - zbt s:Nat):Int)):=by omega
       simp only [this,decide_true,z0g,yc,hb2,if_false]
       rw [wadd (by omega),zyy (by omega) (by omega)]
       simp only [yc]
       rw [yae]
       have:zbt s+b - zbt s=b:=by omega
       rw [this]
end
section
open Go.Lk Go.Pe
theorem zr2 {l:List q05} (hl:l.length<1000000000):∀ (n i:Nat),l.length - i=n→i≤l.length→M.z3z l l (i:Int)=some (.go ()):=by
 intro n
 induction n with
 | zero =>
  intro i hn hi
  rw [M.z3z]
  have:¬((i:Int)<(l.length:Int)):=by omega
  simp [this]
 | succ n ih =>
  intro i hn hi
  have hlt:i<l.length:=by omega
  rw [M.z3z]
  have h1:((i:Int)<(l.length:Int)):=by omega
  simp only [h1,decide_true,if_true,z6k,yak hlt,ya,yc,yl,yr,yn,if_false]
  rw [w1 (by omega),ih (i+1) (by omega) (by omega)]
theorem zf7 {l:List q05} (hl:l.length<1000000000):M.q47 l l=some true:=by
 unfold M.q47
 have:M.z3z l l 0=some (.go ()):=zr2 hl _ 0 rfl (ybi _)
 simp [this]
def zzd (q:q03):Prop:=q.z05.length<1000000000∧q.z0p.length<1000000000∧q.z0j.length<1000000000
theorem znf {q:q03} (h:zzd q):M.q5i q q=some true:=by
 unfold M.q5i
 simp only [decide_true,if_true,zlb h.1,zf7 h.2.1,zf7 h.2.2,ya,yc,yl]
theorem zkv:∀ (l:List Z) (a:List q05),(zad l a).1.length≤a.length+l.length
 | [],a=>by simp [zad]
 | p::r,a=>by
  unfold zad
  split
  ·simp
  ·split
   ·rename_i x y _ _
    have:=zkv r (a++[⟨x,y⟩])
    simp at this ⊢
    omega
   ·simp
theorem zju (s:Z):(z29 s).1.length≤64:=by
 unfold z29
 split
 ·simp
 ·rename_i h
  split
  ·simp
  ·have:=zkv (z15 38 s) []
   simp only [yat,ybh] at this
   omega
end
section
open Go.Lk Go.Pe
def isAl (b:UInt8):Bool:=isA b||(decide (97≤b.toNat)&&decide (b.toNat≤122))||isD b
def z4s (b:UInt8):Bool:=isAl b||decide (b=45)||decide (b=46)||decide (b=95)||decide (b=126)
def hxU (n:Nat):UInt8:=ybl (if n<10 then 48+n else 55+n)
def zqw (bl:Z) (c:UInt8):Z:=if z4s c=true then [c] else if c=32 then bl else [37,hxU (c.toNat / 16),hxU (c.toNat % 16)]
def pct (bl s:Z):Z:=s.flatMap (zqw bl)
theorem zdj (bl:Z) (c:UInt8) (s:Z):pct bl (c::s)=zqw bl c++pct bl s:=by simp [pct]
theorem zp6 {bl:Z} (h:bl.length≤3) (c:UInt8):(zqw bl c).length≤3:=by
 unfold zqw
 split
 ·simp
 ·split
  ·exact h
  ·simp
theorem zcg {bl:Z} (h:bl.length≤3):∀ s:Z,(pct bl s).length≤3*s.length
 | []=>by simp [pct]
 | c::s=>by
  have h1:=zp6 h c
  have h2:=zcg h s
  rw [zdj,yaq,yar]
  omega
def ixP (c:UInt8):Int:=Lib.idxFunc (fun r=>decide ((r:Int) % 256=(c.toNat:Int))) true ⟨([45,46,95,126]:Z).toArray⟩
theorem M_ixP (c:UInt8):M.z0y ([45,46,95,126]:Z) (c.toNat:Int)=some (ixP c):=by unfold M.z0y ixP;rfl
def alI (x:Int):Bool:=(((decide (65≤x))&&(decide (x≤90)))||((decide (97≤x))&&(decide (x≤122))))||((decide (48≤x))&&(decide (x≤57)))
theorem zz00s:∀ c:UInt8,(alI (c.toNat:Int)||decide (0≤ixP c))=z4s c:=z5t (by decide +kernel)
def hex2 (x:Int):Option Z:=do
 let s151←sub ([48,49,50,51,52,53,54,55,56,57,65,66,67,68,69,70]:Z) (zg5 .u8 x 4) (ybk .u8 ((zg5 .u8 x 4)+1))
 let s152←cat ([37]:Z) s151
 let s153←sub ([48,49,50,51,52,53,54,55,56,57,65,66,67,68,69,70]:Z) (z7w .u8 x 15) (ybk .u8 ((z7w .u8 x 15)+1))
 cat s152 s153
theorem zx2:∀ c:UInt8,hex2 (c.toNat:Int)=some [37,hxU (c.toNat / 16),hxU (c.toNat % 16)]:=z5t (by decide +kernel)
theorem zqx {s bl:Z} (hb:bl.length≤3) (hs:s.length<100000000000):∀ (n i:Nat) (acc:Z),s.length - i=n→i≤s.length→acc.length+3*n<900000000000 →
  M.zq s bl (i:Int) (unb acc)=some (unb (acc++pct bl (s.drop i))):=by
 intro n
 induction n with
 | zero =>
  intro i acc hn hi ha
  rw [M.zq,yac (by omega)]
  have:¬((i:Int)<((unb s).length:Int)):=by rw [z1p];omega
  simp [this,pct]
 | succ n ih =>
  intro i acc hn hi ha
  have hlt:i<s.length:=by omega
  have h1:((i:Int)<((unb s).length:Int)):=by rw [z1p];omega
  rw [M.zq,yab hlt,zdj]
  simp only [h1,decide_true,if_true,z6k,zfi,yak hlt,yf,ya,yc,M_ixP]
  rw [w1 (by omega)]
  have next:∀ t:Z,t=zqw bl s[i]→M.zq s bl ((i+1:Nat):Int) (unb (acc++t))=some (unb (acc++(zqw bl s[i]++pct bl (s.drop (i+1))))):=by
   rintro t rfl
   have:=zp6 hb s[i]
   rw [ih (i+1) _ (by omega) (by omega) (by rw [yaq];omega),yx]
  have hal:((((decide (65≤((s[i]).toNat:Int)))&&(decide (((s[i]).toNat:Int)≤90)))||((decide (97≤((s[i]).toNat:Int)))&&(decide (((s[i]).toNat:Int)≤122))))||((decide (48≤((s[i]).toNat:Int)))&&(decide (((s[i]).toNat:Int)≤57))))=alI ((s[i]).toNat:Int):=rfl
  rw [hal]
  have hj:(if alI ((s[i]).toNat:Int)=true then some true else some (decide (0≤ixP s[i])))=some (z4s s[i]):=by
   rw [←zz00s s[i]]
   cases alI ((s[i]).toNat:Int)<;>simp
  rw [hj]
  simp only [yc]
  cases hp:z4s s[i] with
  | true =>
   rw [if_pos rfl,z1e (by rw [z1p];omega)]
   simp only [yc]
   rw [zfj,←z2r]
   exact next _ (by unfold zqw;rw [if_pos hp])
  | false =>
   rw [if_neg (by decide)]
   by_cases h32:s[i]=32
   ·have:(((s[i]).toNat:Int)=32):=by rw [h32];rfl
    rw [if_pos (by simpa using this),z18 (by omega)]
    simp only [yc]
    exact next _ (by unfold zqw;rw [if_neg (by rw [hp];decide),if_pos h32])
   ·have:¬(((s[i]).toNat:Int)=32):=fun e=>h32 (by
     have e:(s[i]).toNat=32:=by omega
     rw [show (32:UInt8)=ybl 32 from rfl,←e]
     simp)
    have hx:=zx2 s[i]
    unfold hex2 at hx
    simp only [ya] at hx
    rw [if_neg (by simpa using this)]
    cases e1:sub ([48,49,50,51,52,53,54,55,56,57,65,66,67,68,69,70]:Z) (zg5 .u8 ((s[i]).toNat:Int) 4) (ybk .u8 ((zg5 .u8 ((s[i]).toNat:Int) 4)+1)) with
    | none=>rw [e1] at hx;cases hx
    | some y1 =>
     rw [e1] at hx
     simp only [yc] at hx ⊢
     cases e2:cat ([37]:Z) y1 with
     | none=>rw [e2] at hx;cases hx
     | some y2 =>
      rw [e2] at hx
      simp only [yc] at hx ⊢
      cases e3:sub ([48,49,50,51,52,53,54,55,56,57,65,66,67,68,69,70]:Z) (z7w .u8 ((s[i]).toNat:Int) 15) (ybk .u8 ((z7w .u8 ((s[i]).toNat:Int) 15)+1)) with
      | none=>rw [e3] at hx;cases hx
      | some y3 =>
       rw [e3] at hx
       simp only [yc] at hx ⊢
       rw [hx]
       simp only [yc]
       rw [z18 (by simp;omega)]
       simp only [yc]
       exact next _ (by unfold zqw;rw [if_neg (by rw [hp];decide),if_neg h32])
theorem z55 {s bl:Z} (hb:bl.length≤3) (hs:s.length<100000000000):M.q0p s bl=some (pct bl s):=by
 unfold M.q0p
 rw [z2s (by simp;omega)]
 have h:=zqx hb hs _ 0 [] rfl (ybi _) (by simp;omega)
 have h:M.zq s bl 0 ([]:List Int)=_:=h
 simp only [ya,yc]
 rw [h]
 simp [z1r]
def z7n (s:Z):Z:=pct [37,50,48] s
def zg2 (s:Z):Z:=pct [43] s
theorem zd8 {s:Z} (hs:s.length<100000000000):M.q0n s=some (z7n s):=by
 unfold M.q0n
 rw [z55 (by simp) hs]
 rfl
def fld (p:q05):Z:=zg2 p.zu++[61]++zg2 p.z1t
def z3m (l:List q05):Z:=Lib.join (l.map fld) [38]
def form (l:List q05):Z × Int:=if 64<l.length then ([],14) else if 8192<(z3m l).length then ([],14) else (z3m l,0)
def zha (l:List q05):Prop := ∀ p∈l,p.zu.length<100000000∧p.z1t.length<100000000
theorem zcy (sep:Z):∀ l:List Z,(Lib.joinTail sep l).length=(l.map fun x=>x.length+sep.length).sum
 | []=>rfl
 | x::r=>by
  have h:=zcy sep r
  have e:Lib.joinTail sep (x::r)=sep++x++Lib.joinTail sep r:=rfl
  rw [e,yaq,yaq,h,yaw,ya3]
  omega
theorem zmj (l:List Z) (sep:Z):(Lib.join l sep).length≤(l.map fun x=>x.length+sep.length).sum:=by
 cases l with
 | nil=>exact ybi _
 | cons x r =>
  have e:Lib.join (x::r) sep=x++Lib.joinTail sep r:=Lib.join_cons x r sep
  rw [e,yaq,zcy,yaw,ya3]
  omega
theorem zz00h {α:Type} (f:α→Nat) (B:Nat):∀ l:List α,(∀ x∈l,f x≤B)→(l.map f).sum≤l.length*B
 | [],_=>by simp
 | x::r,h=>by
  have h1:=h x (by simp)
  have h2:=zz00h f B r fun y hy=>h y (by simp [hy])
  rw [yaw,ya3,yar,Nat.succ_mul]
  omega
theorem zz01d {p:q05} (h:p.zu.length<100000000∧p.z1t.length<100000000):(fld p).length≤600000000:=by
 have h1:=zcg (bl:=[43]) (by simp) p.zu
 have h2:=zcg (bl:=[43]) (by simp) p.z1t
 unfold fld zg2
 simp only [yaq,yar,yat]
 omega
theorem zwt {l:List q05} (hl:l.length<100000000) (hf:zha l):∀ (n i:Nat) (a:List Z),l.length - i=n→i≤l.length→a.length≤i →
  M.z0b l a (i:Int)=some (a++(l.drop i).map fld):=by
 intro n
 induction n with
 | zero =>
  intro i a hn hi ha
  rw [M.z0b,yac (by omega)]
  have:¬((i:Int)<(l.length:Int)):=by omega
  simp [this]
 | succ n ih =>
  intro i a hn hi ha
  have hlt:i<l.length:=by omega
  have h1:((i:Int)<(l.length:Int)):=by omega
  have hx:=hf l[i] (by simp)
  have hp1:=zcg (bl:=[43]) (by simp) l[i].zu
  have hp2:=zcg (bl:=[43]) (by simp) l[i].z1t
  rw [M.z0b,yab hlt]
  simp only [h1,decide_true,if_true,z6k,yak hlt,ya,yc]
  rw [z55 (by simp) (by omega)]
  simp only [yc]
  rw [z5e (by simp;omega),z55 (by simp) (by omega)]
  simp only [yc]
  rw [z5e (by simp;omega)]
  simp only [yc]
  rw [z4f (by simp;omega),w1 (by omega)]
  simp only [yc]
  rw [ih (i+1) _ (by omega) (by omega) (by simp;omega)]
  rw [yaw]
  simp only [fld,zg2,yx,yz,ya0]
theorem zap {l:List q05} (hl:l.length<100000000) (hf:zha l):M.q0i l=some (form l):=by
 unfold M.q0i form
 by_cases h64:64<l.length
 ·have:(64:Int)<(l.length:Int):=by omega
  simp [this,h64]
 ·have:¬(64:Int)<(l.length:Int):=by omega
  have hk:=zwt hl hf _ 0 [] rfl (ybi _) (by simp)
  have hk:M.z0b l [] 0=some ((l.drop 0).map fld):=hk
  rw [yaf] at hk
  simp only [this,decide_false,yn,if_false,h64,ya,hk,yc]
  have hj:(z3m l).length≤140737488355328:=by
   unfold z3m
   refine ybc (zmj _ _) ?_
   rw [List.map_map]
   refine ybc (zz00h _ 600000001 l fun p hp => ?_) ?_
   ·have:=zz01d (hf p hp)
    simp only [Function.comp,yar,yat]
    omega
   ·have:l.length*600000001≤64*600000001:=ybe _ (by omega)
    omega
  have hm:M.join (l.map fld) [38]=some (z3m l):=by
   unfold M.join
   rw [z2s]
   ·rfl
   ·rw [yi,decide_eq_true_iff,decide_eq_true_iff]
    exact ⟨by simp;omega,hj⟩
  rw [hm]
  simp only [yc]
  by_cases h8:8192<(z3m l).length
  ·have:(8192:Int)<((z3m l).length:Int):=by omega
   simp [this,h8]
  ·have:¬(8192:Int)<((z3m l).length:Int):=by omega
   simp [this,h8]
def z9h:List q05→List Z→Option (List Z)
 | [],sn=>some sn
 | p::r,sn=>if (zi4 p.zu&&isVal p.z1t && !sn.contains p.zu)=true then z9h r (p.zu::sn) else none
def za8 (l:List q05):Bool:=match z9h l [z4t,z4b] with
 | some sn=>decide (l.length≤32)&&sn.contains z4y
 | none=>false
def zz00n (z:Option (Jn Bool (List (Z × Bool)))):Option (List Z)→Prop
 | none=>z=some (.done false)
 | some sn=>∃ m,z=some (.go m)∧SN m sn
theorem zx1 {l:List q05} (hl:l.length<1000000000) (hf:zha l):∀ (n i:Nat) (m:List (Z × Bool)) (sn:List Z),l.length - i=n→i≤l.length→SN m sn →
  zz00n (M.z1v l (i:Int) m) (z9h (l.drop i) sn):=by
 intro n
 induction n with
 | zero =>
  intro i m sn hn hi hs
  rw [M.z1v,yac (by omega)]
  have:¬((i:Int)<(l.length:Int)):=by omega
  simp only [this,decide_false,yn,if_false]
  exact ⟨m,rfl,hs⟩
 | succ n ih =>
  intro i m sn hn hi hs
  have hlt:i<l.length:=by omega
  have h1:((i:Int)<(l.length:Int)):=by omega
  have hx:=hf l[i] (by simp)
  rw [M.z1v,yab hlt]
  simp only [h1,decide_true,if_true,z6k,yak hlt,ya,yc,zcw]
  rw [zb6 (by omega),hs]
  unfold z9h
  simp only [yc]
  have:=ih (i+1) (z36 m l[i].zu true) (l[i].zu::sn) (by omega) (by omega) (hs.put _)
  rw [w1 (by omega)]
  cases zi4 l[i].zu<;>cases isVal l[i].z1t<;>cases sn.contains l[i].zu<;>first|exact this|rfl
theorem zi1 {l:List q05} (hl:l.length<1000000000) (hf:zha l):M.q1k l=some (za8 l):=by
 unfold M.q1k za8
 have hs:SN (z36 (z36 ([]:List (Z × Bool)) z4b true) z4t true) [z4t,z4b]:=by
  have h0:SN [] []:=fun k=>rfl
  exact (h0.put z4b).put z4t
 have hk:=zx1 hl hf _ 0 _ _ rfl (ybi _) hs
 rw [yaf] at hk
 simp only [ya,yc]
 have e:M.z1v l 0 (z36 (z36 ([]:List (Z × Bool)) ([99,111,110,116,101,110,116,45,108,101,110,103,116,104]:Z) true) ([116,114,97,110,115,102,101,114,45,101,110,99,111,100,105,110,103]:Z) true)=M.z1v l ((0:Nat):Int) (z36 (z36 ([]:List (Z × Bool)) z4b true) z4t true):=rfl
 rw [e]
 cases hr:z9h l [z4t,z4b] with
 | none =>
  rw [hr] at hk
  have hk:M.z1v l ((0:Nat):Int) _=some (.done false):=hk
  rw [hk]
  rfl
 | some sn =>
  rw [hr] at hk
  obtain ⟨m,hk,hsn⟩:=hk
  rw [hk]
  simp only [yc]
  have hh:z62 m [104,111,115,116] false=sn.contains z4y:=hsn _
  rw [hh]
  by_cases h32:l.length≤32
  ·have:((l.length:Int)≤32):=by omega
   simp [this,h32]
  ·have:¬((l.length:Int)≤32):=by omega
   simp [this,h32]
def fit (q:q03):Prop:=q.zx.length<100000000∧q.z05.length<100000000∧(∀ p∈q.z05,p.length<100000000)∧q.z0p.length<100000000∧zha q.z0p∧q.z0j.length<100000000∧zha q.z0j∧q.zt.length<100000000
def z6i (l:List Z):Z:=l.flatMap fun p=>47::z7n p
theorem zky:z6i []=[]:=rfl
theorem z98 (p:Z) (r:List Z):z6i (p::r)=47::z7n p++z6i r:=rfl
def zqd (p:q05):Z:=p.zu++[58,32]++p.z1t++[13,10]
def zdb (l:List q05):Z:=l.flatMap zqd
theorem zsz:zdb []=[]:=rfl
theorem zqe (p:q05) (r:List q05):zdb (p::r)=zqd p++zdb r:=rfl
def clS (n:Nat):Z:=[99,111,110,116,101,110,116,45,108,101,110,103,116,104,58,32]++Lib.decDigits n++[13,10]
def z25 (q:q03):Z:=q.zx++[32]++z6i q.z05++(if z3m q.z0p=[] then [] else 63::z3m q.z0p)++[32,72,84,84,80,47,49,46,49,13,10]++zdb q.z0j++(if q.zt=[] then [] else clS q.zt.length)++[13,10]
def zl6 (q:q03):Bool:=decide ((form q.z0p).2=0)&&z7t q.zx&&decide (1≤q.z05.length)&&decide (q.z05.length≤64)&&za8 q.z0j && !(decide (q.z0j.length=32) && !decide (q.zt=[]))&&decide (q.zt.length≤16384)
def z9r (q:q03):Z × Int:=if zl6 q=true then (if 8192<(z25 q).length then ([],224) else (z25 q++q.zt,0)) else ([],224)
theorem zy2 {q:q03} (hl:q.z05.length≤64) (hm:∀ p∈q.z05,p.length<100000000):∀ (n i:Nat) (a:Z),q.z05.length - i=n→i≤q.z05.length→a.length≤500000000+i*400000000 →
  M.z2w q (i:Int) (unb a)=some (unb (a++z6i (q.z05.drop i)))∧(a++z6i (q.z05.drop i)).length≤500000000+q.z05.length*400000000:=by
 intro n
 induction n with
 | zero =>
  intro i a hn hi ha
  rw [M.z2w,yac (by omega)]
  have:¬((i:Int)<(q.z05.length:Int)):=by omega
  have e:i=q.z05.length:=by omega
  subst e
  rw [zky,yy]
  simp only [this,decide_false,yn,if_false]
  exact ⟨trivial,ha⟩
 | succ n ih =>
  intro i a hn hi ha
  have hlt:i<q.z05.length:=by omega
  have h1:((i:Int)<(q.z05.length:Int)):=by omega
  have hx:=hm q.z05[i] (by simp)
  have hp:=zcg (bl:=[37,50,48]) (by simp) q.z05[i]
  rw [M.z2w,yab hlt]
  simp only [h1,decide_true,if_true,z6k,yak hlt,ya,yc]
  rw [zd8 (by omega)]
  simp only [yc]
  have hpl:(z7n q.z05[i]).length≤300000000:=by unfold z7n;omega
  rw [z5e (by simp;omega)]
  simp only [yc]
  rw [z18 (by simp;omega),w1 (by omega)]
  simp only [yc]
  have:=ih (i+1) (a++([47]++z7n q.z05[i])) (by omega) (by omega) (by simp;omega)
  have e:a++z6i (q.z05[i]::q.z05.drop (i+1))=a++([47]++z7n q.z05[i])++z6i (q.z05.drop (i+1)):=by rw [z98,yx,yz,List.singleton_append,yz]
  rw [e]
  exact this
theorem zy3 {q:q03} (hl:q.z0j.length≤32) (hm:zha q.z0j):∀ (n i:Nat) (a:Z),q.z0j.length - i=n→i≤q.z0j.length→a.length≤60000000000+i*400000000 →
  M.z2x q (i:Int) (unb a)=some (unb (a++zdb (q.z0j.drop i)))∧(a++zdb (q.z0j.drop i)).length≤60000000000+q.z0j.length*400000000:=by
 intro n
 induction n with
 | zero =>
  intro i a hn hi ha
  rw [M.z2x,yac (by omega)]
  have:¬((i:Int)<(q.z0j.length:Int)):=by omega
  have e:i=q.z0j.length:=by omega
  subst e
  rw [zsz,yy]
  simp only [this,decide_false,yn,if_false]
  exact ⟨trivial,ha⟩
 | succ n ih =>
  intro i a hn hi ha
  have hlt:i<q.z0j.length:=by omega
  have h1:((i:Int)<(q.z0j.length:Int)):=by omega
  have hx:=hm q.z0j[i] (by simp)
  rw [M.z2x,yab hlt]
  simp only [h1,decide_true,if_true,z6k,yak hlt,ya,yc]
  rw [z5e (by simp;omega)]
  simp only [yc]
  rw [z5e (by simp;omega)]
  simp only [yc]
  rw [z5e (by simp;omega)]
  simp only [yc]
  rw [z18 (by simp;omega),w1 (by omega)]
  simp only [yc]
  have:=ih (i+1) (a++zqd q.z0j[i]) (by omega) (by omega) (by unfold zqd;simp;omega)
  have e:a++zdb (q.z0j[i]::q.z0j.drop (i+1))=a++zqd q.z0j[i]++zdb (q.z0j.drop (i+1)):=by rw [zqe,yx]
  rw [e]
  exact this
theorem z5h {n k:Nat} (h:n<10 ^ k) (hk:1≤k):(Lib.decDigits n).length≤k:=by
 induction k generalizing n with
 | zero=>omega
 | succ k ih =>
  rw [Lib.decDigits]
  split
  ·simp
  ·rename_i h10
   have h2:n / 10<10 ^ k:=by rw [ybg] at h;omega
   have h1:1≤k:=by
    cases k with
    | zero=>simp at h;omega
    | succ k=>omega
   have:=ih h2 h1
   simp
   omega
end
section
open Go.Lk Go.Pe
def I64 (n:Int):Prop := -9223372036854775808≤n∧n≤9223372036854775807
def q02.sz (f:q02):Nat:=f.zu.length+kys f.z2d+1
def zfn (l:List q02):Nat:=(l.map (·.sz)).sum
theorem zef (f:q02) (l:List q02):zfn (f::l)=f.sz+zfn l:=by simp [zfn]
theorem zb4:∀ l:List q02,l.length≤zfn l
 | []=>by simp
 | f::l=>by have:=zb4 l;rw [zef,yar];unfold q02.sz;omega
theorem ziq:∀ {l:List Nat} {x:Nat},x∈l→x≤l.sum
 | a::l,x,h=>by
  rw [ya3]
  rcases yay.1 h with rfl|h
  ·omega
  ·have:=ziq h;omega
theorem J_eta (v:J):q04.mk v.zh v.z06 v.zk v.z08=v:=by cases v;rfl
def jT (s:Z):J:=⟨4,s,[],[]⟩
def jTs (l:List Z):J:=⟨5,[],l.map jT,[]⟩
def jFs (l:List q02):J:=⟨6,[],l.map fun f=>jTs f.z2d,l.map (·.zu)⟩
abbrev Mb:=Z × J
def obj (l:List Mb):J:=⟨6,[],l.map (·.2),l.map (·.1)⟩
def opt (b:Bool) (k:Z) (v:J):List Mb:=if b=true then [(k,v)] else []
theorem zz02o (b:Bool) (k:Z) (v:J):(opt b k v).length≤1:=by unfold opt;split<;>simp
theorem objects_eq:M.q1v=some ⟨obj []⟩:=rfl
theorem put_eq {l:List Mb} {b:Bool} {k:Z} {v:J} (h:l.length<1000000):M.q1n ⟨obj l⟩ b k v=some ⟨obj (l++opt b k v)⟩:=by
 unfold M.q1n
 cases b with
 | false=>simp [opt]
 | true =>
  simp only [if_true,J_eta,ya]
  have e1:(obj l).z08=l.map (·.1):=rfl
  have e2:(obj l).zk=l.map (·.2):=rfl
  rw [e1,e2,z4f (by simp;omega)]
  simp only [yc]
  rw [z4f (by simp;omega)]
  simp [opt,obj]
theorem zri {n:Int} (h:I64 n):M.itoa n=some (Lib.itoa n):=by
 unfold M.itoa
 rw [z2s (by unfold I64 at h;simp;omega)]
 rfl
theorem text_jT (s:Z):M.q2m s=some (jT s):=rfl
theorem zz0 {l:List Z} (hl:l.length<10000000):∀ (n i:Nat) (a:List J),l.length - i=n→i≤l.length→a.length≤i→M.z0c l (i:Int) a=some (a++(l.drop i).map jT):=by
 intro n
 induction n with
 | zero =>
  intro i a hn hi ha
  rw [M.z0c,yac (by omega)]
  have:¬((i:Int)<(l.length:Int)):=by omega
  simp [this]
 | succ n ih =>
  intro i a hn hi ha
  have hlt:i<l.length:=by omega
  have h1:((i:Int)<(l.length:Int)):=by omega
  rw [M.z0c,yab hlt]
  simp only [h1,decide_true,if_true,z6k,yak hlt,ya,yc,text_jT,J_eta]
  rw [z4f (by simp;omega),w1 (by omega)]
  simp only [yc]
  rw [ih (i+1) _ (by omega) (by omega) (by simp;omega),yaw,yx]
  rfl
theorem zvg {l:List Z} (hl:l.length<10000000):M.q2n l=some (jTs l):=by
 unfold M.q2n
 have h:M.z0c l 0 []=some ([]++(l.drop 0).map jT):=zz0 hl _ 0 [] rfl (ybi _) (by simp)
 rw [h]
 simp [jTs]
theorem zu5 {l:List q02} (hl:zfn l<10000000):∀ (n i:Nat) (a:List J) (b:List Z),l.length - i=n→i≤l.length→a.length≤i→b.length≤i →
  M.z2h l (i:Int) a b=some (a++(l.drop i).map (fun f=>jTs f.z2d),b++(l.drop i).map (·.zu)):=by
 have hlen:=zb4 l
 have hmem:∀ f∈l,f.z2d.length<10000000:=fun f hf=>by
  have h1:f.sz≤zfn l:=by
   unfold zfn
   exact ziq (List.mem_map.2 ⟨f,hf,rfl⟩)
  have h2:=zc7 f.z2d
  unfold q02.sz at h1
  omega
 intro n
 induction n with
 | zero =>
  intro i a b hn hi ha hb
  rw [M.z2h,yac (by omega)]
  have:¬((i:Int)<(l.length:Int)):=by omega
  simp [this]
 | succ n ih =>
  intro i a b hn hi ha hb
  have hlt:i<l.length:=by omega
  have h1:((i:Int)<(l.length:Int)):=by omega
  rw [M.z2h,yab hlt]
  simp only [h1,decide_true,if_true,z6k,yak hlt,ya,yc]
  rw [z4f (by simp;omega),zvg (hmem _ (by simp))]
  simp only [yc,J_eta]
  rw [z4f (by simp;omega),w1 (by omega)]
  simp only [yc]
  rw [ih (i+1) _ _ (by omega) (by omega) (by simp;omega) (by simp;omega),yaw,yaw,yx,yx]
  rfl
theorem zqq {l:List q02} (hl:zfn l<10000000):M.q1u l=some (jFs l):=by
 unfold M.q1u
 have h:M.z2h l 0 [] []=some ([]++(l.drop 0).map (fun f=>jTs f.z2d),[]++(l.drop 0).map (·.zu)):=zu5 hl _ 0 [] [] rfl (ybi _) (by simp) (by simp)
 rw [h]
 simp [jFs]
def kId:Z:=[105,100]
def z3n:Z:=[102,105,101,108,100,115]
end
section
open Go.Lk Go.Pe
def badW (b:UInt8):Bool:=decide (b.toNat<33)||decide (126<b.toNat)||decide (b=34)||decide (b=92)
def textS (s:Z):Bool:=decide (s.length≤128)&&Lib.validD s
def wordS (s:Z):Bool := !decide (s=[])&&decide (s.length≤32) && !s.any badW
def tickS (n:Int):Bool:=decide (0≤n)&&decide (n≤1099511627776)
def scp:Option Z→List Z→Bool
 | _,[]=>true
 | p,a::r=>wordS a&&(match p with
  | none=>true
  | some q=>slt q a)&&scp (some a) r
def okC (c:q01):Bool:=[c.zfp,c.zfr,c.zfo,c.z00,c.zfq,c.z0f].all textS&&c.zhy.all textS&&tickS c.zqc&&tickS c.zqb&&decide (0≤c.z1n)&&decide (c.z1n≤9)&&decide (c.z07.length≤16)&&decide (c.zhy.length≤4) && !decide (([]:Z)∈c.zhy)&&scp none c.z07
theorem zvd:∀ l m:List J,szs (l++m)=szs l+szs m
 | [],m=>by simp [szs]
 | x::l,m=>by
  have:=zvd l m
  simp only [yz,szs]
  omega
theorem zz01w (l m:List Z):kys (l++m)=kys l+kys m:=by simp [kys]
def msz (l:List Mb):Nat:=szs (l.map (·.2))+kys (l.map (·.1))
theorem zz02h (l m:List Mb):msz (l++m)=msz l+msz m:=by
 unfold msz
 rw [yav,yav,zvd,zz01w]
 omega
theorem zz068 (l:List Mb):(obj l).sz=msz l+1:=by
 rw [q04.zfe]
 simp [obj,msz]
theorem zz006 (b:Bool) (k:Z) (v:J):msz (opt b k v)≤v.sz+k.length+2:=by
 unfold opt msz
 split
 ·simp [szs,kys]
  omega
 ·simp [szs,kys]
theorem jT_sz (s:Z):(jT s).sz=s.length+1:=by rw [q04.zfe];simp [jT,szs,kys]
theorem zti:∀ l:List Z,szs (l.map jT)≤2*kys l
 | []=>by simp [szs]
 | s::l=>by
  have:=zti l
  rw [yaw,szs,jT_sz,z5m]
  omega
theorem zz05t (l:List Z):(jTs l).sz≤2*kys l+1:=by
 have:=zti l
 rw [q04.zfe]
 simp [jTs]
 have e:kys []=0:=rfl
 omega
theorem zth:∀ l:List q02,szs (l.map fun f=>jTs f.z2d)+kys (l.map (·.zu))≤3*zfn l
 | []=>by simp [szs,kys]
 | f::l=>by
  have h1:=zth l
  have h2:=zz05t f.z2d
  rw [yaw,yaw,szs,z5m,zef]
  unfold q02.sz
  omega
theorem zz05r (l:List q02):(jFs l).sz≤3*zfn l+1:=by
 have:=zth l
 rw [q04.zfe]
 simp [jFs]
 omega
def sesB:Z:=[65,66,67,68,69,70,71,72,73,74,75,76,77,78,79,80,81,82,83,84,85,86,87,88,89,90,97,98,99,100,101,102,103,104,105,106,107,108,109,110,111,112,113,114,115,116,117,118,119,120,121,122,48,49,50,51,52,53,54,55,56,57,45,95]
def sesC (b:UInt8):Bool:=isAl b||decide (b=45)||decide (b=95)
theorem zz03i:∀ b:UInt8,sesB.contains b=sesC b:=z5t (by decide +kernel)
def zp7 (s:Z):Bool:=s.all sesC
theorem M_ses {s:Z} (h:s.length<1000000000):∃ t,M.trim s sesB=some t∧decide (t=[])=zp7 s:=by
 refine ⟨_,zg8 (by omega) (by decide),?_⟩
 rw [zfg]
 unfold zp7
 congr 1
 funext b
 exact zz03i b
theorem zuj (v:J):(print v).1.length≤16384:=by
 unfold print
 split
 ·split
  ·simp
  ·rename_i h;simp;omega
 ·simp
end
section
open Go.Lk Go.Pe
theorem zq9 (l:List q05) (h:(form l).2=0):form l=(z3m l,0)∧(z3m l).length≤8192:=by
 unfold form at h ⊢
 split at h
 ·simp at h
 ·split at h
  ·simp at h
  ·rename_i h1 h2
   rw [if_neg h1,if_neg h2]
   exact ⟨rfl,by omega⟩
theorem z4k {q:q03} (h:fit q):M.q0u q=some (z9r q):=by
 obtain ⟨f1,f2,f3,f4,f5,f6,f7,f8⟩:=h
 unfold M.q0u
 rw [zap f4 f5]
 simp only [ya,yc,z9j]
 have hh:=zi1 (l:=q.z0j) (by omega) f7
 rw [hh]
 have cond:∀ t:Option (Z × Int),((if (!decide ((form q.z0p).2=0))=true then some true else some (!z7t q.zx)).bind fun j27=>(if ((j27||decide ((q.z05.length:Int)=0))||decide (64<(q.z05.length:Int)))=true then some true else (some (za8 q.z0j)).bind fun a38=>some (!a38)).bind fun j37=>if ((j37||(decide ((q.z0j.length:Int)=32) && !decide (q.zt=([]:Z))))||decide (16384<(q.zt.length:Int)))=true then some (([]:Z),(224:Int)) else t)=if (!zl6 q)=true then some ([],224) else t:=by
  intro t
  have e1:decide ((q.z05.length:Int)=0) = !decide (1≤q.z05.length):=by
   by_cases c:1≤q.z05.length
   ·have:¬((q.z05.length:Int)=0):=by omega
    rw [decide_eq_false this,decide_eq_true c];rfl
   ·have:((q.z05.length:Int)=0):=by omega
    rw [decide_eq_true this,decide_eq_false c];rfl
  have e2:decide (64<(q.z05.length:Int)) = !decide (q.z05.length≤64):=by
   by_cases c:q.z05.length≤64
   ·have:¬(64<(q.z05.length:Int)):=by omega
    simp [c,this]
   ·have:(64<(q.z05.length:Int)):=by omega
    simp [c,this]
  have e3:decide ((q.z0j.length:Int)=32)=decide (q.z0j.length=32):=decide_eq_decide.2 (by omega)
  have e4:decide (16384<(q.zt.length:Int)) = !decide (q.zt.length≤16384):=by
   by_cases c:q.zt.length≤16384
   ·have:¬(16384<(q.zt.length:Int)):=by omega
    simp [c,this]
   ·have:(16384<(q.zt.length:Int)):=by omega
    simp [c,this]
  unfold zl6
  rw [e1,e2,e3,e4]
  cases decide ((form q.z0p).2=0)<;>cases z7t q.zx<;>cases decide (1≤q.z05.length)<;>cases decide (q.z05.length≤64)<;>cases za8 q.z0j<;>cases decide (q.z0j.length=32)<;>cases decide (q.zt=([]:Z))<;>cases decide (q.zt.length≤16384)<;>rfl
 rw [cond]
 unfold z9r
 cases hk:zl6 q with
 | false=>rfl
 | true =>
  simp only [yr,yn,if_false,if_true]
  have hk2:=hk
  unfold zl6 at hk2
  simp only [yi,decide_eq_true_eq] at hk2
  obtain ⟨⟨⟨⟨⟨⟨k1,k2⟩,k3⟩,k4⟩,k5⟩,k6⟩,k7⟩:=hk2
  obtain ⟨g1,g2⟩:=zq9 _ k1
  have hm8:q.zx.length≤8:=by unfold z7t at k2;simp at k2;omega
  have hl32:q.z0j.length≤32:=by
   unfold za8 at k5
   split at k5
   ·simp at k5;omega
   ·cases k5
  rw [z5e (by simp;omega)]
  simp only [yc]
  have w0:=z18 (a:=[]) (b:=q.zx++[32]) (by simp;omega)
  have w0:M.q71 [] (q.zx++[32])=_:=w0
  rw [w0]
  simp only [yc,ya0]
  have p1:=zy2 k4 f3 _ 0 (q.zx++[32]) rfl (ybi _) (by simp;omega)
  rw [yaf] at p1
  have p1a:M.z2w q 0 (unb (q.zx++[32]))=_:=p1.1
  rw [p1a]
  simp only [yc,g1]
  have hb1:(z6i q.z05).length≤26100000000:=by
   have:=p1.2
   simp only [yaq] at this
   have:q.z05.length*400000000≤64*400000000:=ybe _ k4
   omega
  have hq:(if (!decide (z3m q.z0p=([]:Z)))=true then (cat [63] (z3m q.z0p)).bind fun s98=>(M.q71 (unb (q.zx++[32]++z6i q.z05)) s98).bind fun a99=>some a99.2 else some (unb (q.zx++[32]++z6i q.z05)))=some (unb (q.zx++[32]++z6i q.z05++(if z3m q.z0p=[] then [] else 63::z3m q.z0p))):=by
   by_cases c:z3m q.z0p=[]
   ·simp [c]
   ·have e1:cat [63] (z3m q.z0p)=some (63::z3m q.z0p):=z5e (a:=[63]) (by simp;omega)
    rw [if_pos (by simp [c]),e1,if_neg c]
    simp only [yc]
    rw [z18 (by simp;omega)]
    rfl
  rw [hq]
  simp only [yc]
  have hb2:(if z3m q.z0p=[] then ([]:Z) else 63::z3m q.z0p).length≤8193:=by
   split
   ·simp
   ·simp;omega
  obtain ⟨u,hu⟩:∃ u,q.zx++[32]++z6i q.z05++(if z3m q.z0p=[] then [] else 63::z3m q.z0p)=u:=⟨_,rfl⟩
  have hul:u.length≤26200000000:=by rw [←hu];simp only [yaq,List.length_singleton];omega
  rw [hu,z18 (by simp;omega)]
  simp only [yc]
  have p2:=zy3 hl32 f7 _ 0 (u++[32,72,84,84,80,47,49,46,49,13,10]) rfl (ybi _) (by simp;omega)
  rw [yaf] at p2
  have p2a:M.z2x q 0 (unb (u++[32,72,84,84,80,47,49,46,49,13,10]))=_:=p2.1
  rw [p2a]
  simp only [yc]
  obtain ⟨v,hv⟩:∃ v,u++[32,72,84,84,80,47,49,46,49,13,10]++zdb q.z0j=v:=⟨_,rfl⟩
  have hvl:v.length≤73000000000:=by
   have h1:=p2.2
   rw [hv] at h1
   have:q.z0j.length*400000000≤32*400000000:=ybe _ hl32
   omega
  rw [hv]
  have hd5:=z5h (n:=q.zt.length) (k:=5) (by omega) (by decide)
  have hc:(if (!decide (q.zt=([]:Z)))=true then (M.itoa (q.zt.length:Int)).bind fun a159=>(cat [99,111,110,116,101,110,116,45,108,101,110,103,116,104,58,32] a159).bind fun s161=>(cat s161 [13,10]).bind fun s162=>(M.q71 (unb v) s162).bind fun a163=>some a163.2 else some (unb v))=some (unb (v++(if q.zt=[] then [] else clS q.zt.length))):=by
   by_cases c:q.zt=[]
   ·simp [c]
   ·rw [if_pos (by simp [c]),if_neg c,zzb (by omega)]
    simp only [yc]
    rw [z5e (by simp;omega)]
    simp only [yc]
    rw [z5e (by simp;omega)]
    simp only [yc]
    rw [z18 (by simp;omega)]
    rfl
  rw [hc]
  simp only [yc]
  have hb3:(if q.zt=[] then ([]:Z) else clS q.zt.length).length≤100:=by
   split
   ·simp
   ·unfold clS;simp;omega
  rw [z18 (by simp;omega)]
  simp only [yc]
  have hr:v++(if q.zt=[] then [] else clS q.zt.length)++[13,10]=z25 q:=by rw [←hv,←hu];rfl
  rw [hr]
  have hlen:M.q6z (unb (z25 q))=some ((z25 q).length:Int):=by
   unfold M.q6z
   simp [z1p]
  rw [hlen]
  simp only [yc]
  by_cases h8:8192<(z25 q).length
  ·have:(8192:Int)<((z25 q).length:Int):=by omega
   simp [h8,this]
  ·have:¬(8192:Int)<((z25 q).length:Int):=by omega
   simp only [this,h8,decide_false,yn,if_false,z1r,yc]
   rw [z5e (by omega)]
   rfl
end
section
set_option maxRecDepth 1000000
open Go.Lk Go.Pe
noncomputable section
end
end
section
open Go.Lk Go.Pe
def At (s r:Z) (i:Nat):Prop:=s.drop i=r∧i≤s.length
section
variable {s r:Z} {c:UInt8} {i:Nat}
def hd:Z→Int
 | []=>0
 | c::_=>(c.toNat:Int)
end
end
section
open Go.Lk Go.Pe
section
variable {s r:Z} {c:UInt8} {i:Nat}
end
end
end Go.Sen
