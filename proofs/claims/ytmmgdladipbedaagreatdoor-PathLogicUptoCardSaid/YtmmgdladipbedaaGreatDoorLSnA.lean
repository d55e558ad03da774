import Derived.Test.YtmmgdladipbedaaGreatDoorLPeE
import Derived.Test.YtmmgdladipbedaaGreatDoorLPaM
set_option linter.all false
section
namespace Go.Sen
open _root_.List renaming isPrefixOf_iff_prefix → ya
open IntKind renaming bits → yb, signed → yc, wrap → yd
open Go.Lk Go.Pe
theorem w64 {x:Int} (h1 : -9223372036854775808≤x) (h2:x<9223372036854775808):yd .i64 x=x:=by
 have h:yd .i64 x=if x % 18446744073709551616≥9223372036854775808 then x % 18446744073709551616 - 18446744073709551616 else x % 18446744073709551616:=by
  simp [yd,yb,yc]
 rw [h]
 split<;>omega
theorem w32 {x:Int} (h1 : -2147483648≤x) (h2:x<2147483648):yd .i32 x=x:=by
 have h:yd .i32 x=if x % 4294967296≥2147483648 then x % 4294967296 - 4294967296 else x % 4294967296:=by
  simp [yd,yb,yc]
 rw [h]
 split<;>omega
theorem zw6 {x:Int} (h1:0≤x) (h2:x<18446744073709551616):yd .u64 x=x:=by
 unfold yd
 simp only [yb,yc]
 simp
 omega
theorem w1 {n:Nat} (h:n<4611686018427387904):yd .i64 ((n:Int)+1)=((n+1:Nat):Int):=by rw [w64]<;>omega
theorem zw5 {n m:Nat} (h:n+m<4611686018427387904):yd .i64 ((n:Int)+(m:Int))=((n+m:Nat):Int):=by rw [w64]<;>omega
theorem z3l {α:Type} {k:Nat} {l l2:List α} (h:(l.length+l2.length)*k≤140737488355328):app k l l2=some (l++l2):=by
 unfold app
 rw [if_pos h]
theorem z1q {a b:List UInt8} (h:a.length+b.length≤9223372036854775807):cat a b=some (a++b):=by
 unfold cat
 rw [if_pos h]
theorem z2g {b:Bool} (h:b=true):chk b=some ():=by subst h;rfl
theorem z48 {α:Type} (l:List α) (n:Nat):ix l (n:Int)=l[n]?:=by simp [ix]
theorem zkj {α:Type} (l:List α):ix l 0=l[0]?:=by simp [ix]
theorem zun {α:Type} (l:List α):ix l 1=l[1]?:=by simp [ix]
theorem zu6 {α:Type} {l:List α} {a b:Nat} (h1:a≤b) (h2:b≤l.length):sub l (a:Int) (b:Int)=some ((l.take b).drop a):=by
 unfold sub
 rw [if_pos (by omega)]
 simp
theorem z9c {α:Type} {l:List α} {a:Nat} (h:a≤l.length):sub l (a:Int) (l.length:Int)=some (l.drop a):=by
 rw [zu6 h (Nat.le_refl _)]
 simp
theorem zkd {α:Type} {l:List α} {a:Nat} (h:a≤l.length):sub l 0 (a:Int)=some (l.take a):=by
 have:=zu6 (l:=l) (Nat.zero_le a) h
 simpa using this
theorem z5y (s:List UInt8):(unb s).length=s.length:=by simp [unb]
theorem zna (s:List UInt8) (i:Nat):(unb s)[i]? = (s[i]?).map fun b=>(b.toNat:Int):=by simp [unb]
theorem z2r (a b:List UInt8):unb (a++b)=unb a++unb b:=by simp [unb]
theorem zg1 (s:List UInt8):byt (unb s)=s:=by simp [unb,byt,Function.comp_def]
theorem z2s {α:Type} {l:List α} {i:Nat} (h:i<l.length):l.drop i=l[i]::l.drop (i+1):=by simp
theorem zoa {α:Type} {l r:List α} {i:Nat} {c:α} (h:l.drop i=c::r):l[i]? = some c∧l.drop (i+1)=r∧i<l.length:=by
 have hi:i<l.length:=by
  rcases Nat.lt_or_ge i l.length with h1|h1
  ·exact h1
  ·rw [List.drop_eq_nil_of_le h1] at h;cases h
 rw [List.drop_eq_getElem_cons hi] at h
 injection h with h1 h2
 exact ⟨by rw [List.getElem?_eq_getElem hi,h1],h2,hi⟩
theorem toNat_eq {b:UInt8} {n:Nat} (hn:n<256):((b.toNat:Int)=(n:Int))↔b=UInt8.ofNat n:=by
 constructor
 ·intro h
  have:b.toNat=n:=by omega
  rw [←this]
  simp
 ·rintro rfl
  simp [UInt8.toNat_ofNat']
  omega
theorem zmd {b:UInt8}:b.toNat<256:=UInt8.toNat_lt b
theorem zam {p s:List UInt8} (h:p.isPrefixOf s=true):p.length≤s.length:=(ya.1 h).length_le
theorem zoy (p s:List UInt8):decide (s.take p.length=p)=p.isPrefixOf s:=by
 rw [Bool.eq_iff_iff,decide_eq_true_iff,ya,List.prefix_iff_eq_take]
 exact ⟨fun h=>h.symm,fun h=>h.symm⟩
end Go.Sen
end
section
namespace Go.Sen
open _root_.Option renaming bind_eq_bind → ya, bind_some → yb
open _root_.List renaming drop_eq_nil_of_le → yc, getElem?_eq_getElem → yd, length_drop → ye
open _root_.Nat renaming le_of_not_lt → yf
open IntKind renaming wrap → yg
open Go.Lk Go.Pe
theorem z1s (s p:List UInt8):M.q5q s p=some (p.isPrefixOf s):=by
 unfold M.q5q M.q0g
 by_cases h:p.length≤s.length
 ·have h':((p.length:Int)≤(s.length:Int)):=by omega
  simp only [h',decide_true,if_true,zkd h,ya,yb,zoy]
 ·have h':¬((p.length:Int)≤(s.length:Int)):=by omega
  have:p.isPrefixOf s=false:=by
   cases hp:p.isPrefixOf s with
   | false=>rfl
   | true=>exact absurd (zam hp) h
  simp [h',this]
theorem z4y (s p:List UInt8):M.q5o s p=some (if p.isPrefixOf s then (s.drop p.length,true) else (s,false)):=by
 have h:=z1s s p
 unfold M.q5q at h
 simp only [ya] at h
 unfold M.q5o M.q0e
 cases h1:M.q0g s p with
 | none=>rw [h1] at h;cases h
 | some b =>
  rw [h1] at h
  simp only [yb,Option.some.injEq] at h
  subst h
  cases hb:p.isPrefixOf s with
  | false=>simp
  | true=>simp [z9c (zam hb)]
def isD (b:UInt8):Bool:=decide (48≤b.toNat)&&decide (b.toNat≤57)
theorem zqz:∀ b:UInt8,([48,49,50,51,52,53,54,55,56,57]:List UInt8).contains b=isD b:=by
 intro b
 have h:∀ n:Fin 256,([48,49,50,51,52,53,54,55,56,57]:List UInt8).contains (UInt8.ofNat n.val)=isD (UInt8.ofNat n.val):=by decide +kernel
 have:=h ⟨b.toNat,zmd⟩
 simpa using this
def z47 (s:List UInt8):Nat:=(s.takeWhile isD).length
theorem z9u (s:List UInt8):z47 s≤s.length:=by
 unfold z47
 exact (List.takeWhile_sublist _).length_le
theorem zle (c:UInt8) (s:List UInt8):z47 (c::s)=if isD c then z47 s+1 else 0:=by
 unfold z47
 rw [List.takeWhile_cons]
 split<;>simp
theorem z3t {s:List UInt8} (h:s.length<4611686018427387904):M.q0p s=some (z47 s:Int):=by
 unfold M.q0p M.trimLeft
 have e:(decide ((([48,49,50,51,52,53,54,55,56,57]:List UInt8)).length<4294967281)&&([48,49,50,51,52,53,54,55,56,57]:List UInt8).all fun b=>decide (b.toNat<128))=true:=by decide
 rw [z2g e]
 simp only [ya,yb]
 have e2:Lib.trimLeftS s [48,49,50,51,52,53,54,55,56,57]=s.dropWhile isD:=by
  unfold Lib.trimLeftS
  congr 1
  funext b
  exact zqz b
 rw [e2]
 have e3:z47 s+(s.dropWhile isD).length=s.length:=by
  unfold z47
  rw [←List.length_append,List.takeWhile_append_dropWhile]
 rw [w64 (by omega) (by omega)]
 congr 1
 omega
def sgn (s:List UInt8):Nat:=if s.head? = some 45 then 1 else 0
def z61 (s:List UInt8):Nat:=if s.head? = some 48 then 1 else z47 s
def z98:List UInt8→Nat
 | 46::r=>if 0<z47 r then 1+z47 r else 0
 | _=>0
def z6d (s:List UInt8):Nat:=if s.head? = some 43∨s.head? = some 45 then 1 else 0
def zcx:List UInt8→Nat
 | c::r=>if c=101∨c=69 then (if 0<z47 (r.drop (z6d r)) then 1+z6d r+z47 (r.drop (z6d r)) else 0) else 0
 | []=>0
def num (s:List UInt8):Nat :=
 let i:=sgn s
 if z61 (s.drop i)=0 then 0 else
 let i:=i+z61 (s.drop i)
 let i:=i+z98 (s.drop i)
 i+zcx (s.drop i)
theorem zq7 (s:List UInt8):sgn s≤s.length:=by
 unfold sgn
 cases s<;>simp
 split<;>omega
theorem zn2 (s:List UInt8):z6d s≤s.length:=by
 unfold z6d
 cases s<;>simp
 split<;>omega
theorem zlr (s:List UInt8):z61 s≤s.length:=by
 unfold z61
 have:=z9u s
 cases s with
 | nil=>simp [z47]
 | cons c r=>split<;>simp_all
theorem zlm (s:List UInt8):z98 s≤s.length:=by
 unfold z98
 split
 ·rename_i r
  have:=z9u r
  split<;>simp<;>omega
 ·simp
theorem zqs (s:List UInt8):zcx s≤s.length:=by
 unfold zcx
 split
 ·rename_i c r
  have h1:=zn2 r
  have h2:=z9u (r.drop (z6d r))
  rw [ye] at h2
  repeat' split
  all_goals simp only [List.length_cons]
  all_goals omega
 ·simp
theorem zij (s:List UInt8):num s≤s.length:=by
 unfold num
 simp only
 split
 ·simp
 ·have h1:=zq7 s
  have h2:=zlr (s.drop (sgn s))
  have h3:=zlm (s.drop (sgn s+z61 (s.drop (sgn s))))
  have h4:=zqs (s.drop (sgn s+z61 (s.drop (sgn s))+z98 (s.drop (sgn s+z61 (s.drop (sgn s))))))
  simp only [ye] at h2 h3 h4
  omega
theorem z65 (s:List UInt8):z47 s=0↔z61 s=0:=by
 unfold z61
 cases s with
 | nil=>simp [z47]
 | cons c r =>
  by_cases h:c=48
  ·subst h
   simp [zle,isD]
  ·simp [h]
theorem zob (s:List UInt8):s.head? = s[0]?:=by cases s<;>rfl
theorem getD {s:List UInt8} {i:Nat}:(s.drop i).head? = s[i]?:=by rw [zob];simp
theorem z6a {s:List UInt8} (h:s.length<1152921504606846976):M.q0s s=some (num s:Int):=by
 unfold M.q0s
 have a1:(do
   let a_7←M.q5q s ([45]:List UInt8)
   if a_7 then
    some 1
   else
    some 0:Option Int)=some ((sgn s:Nat):Int):=by
  rw [z1s]
  unfold sgn
  cases s with
  | nil=>rfl
  | cons c r =>
   by_cases hc:c=45
   ·subst hc;simp
   ·have:¬(45:UInt8)=c:=fun e=>hc e.symm
    simp [hc,this]
 rw [a1]
 simp only [ya,yb]
 have l1:=zq7 s
 rw [z9c l1]
 simp only [yb]
 rw [z3t (by simp;omega)]
 simp only [yb]
 unfold num
 simp only
 by_cases hz:z47 (s.drop (sgn s))=0
 ·rw [if_pos (by simpa using hz),if_pos ((z65 _).1 hz)]
  rfl
 rw [if_neg (by simpa using hz),if_neg (fun e=>hz ((z65 _).2 e))]
 generalize hi:sgn s=i at *
 have hlt:i<s.length:=by
  rcases Nat.lt_or_ge i s.length with h1|h1
  ·exact h1
  ·rw [yc h1] at hz;exact absurd rfl hz
 rw [z48,yd hlt]
 simp only [yb]
 have a2:(if (decide (((s[i]).toNat:Int)=48))=true then some 1 else some ((z47 (s.drop i):Nat):Int))=some ((z61 (s.drop i):Nat):Int):=by
  unfold z61
  rw [getD,yd hlt]
  by_cases hc:s[i]=48
  ·have:((s[i]).toNat:Int)=48:=by rw [hc];rfl
   simp [hc]
  ·have:¬((s[i]).toNat:Int)=48:=fun e=>hc ((toNat_eq (n:=48) (by omega)).1 e)
   simp [hc,this]
 rw [a2]
 simp only [yb]
 have l2:=zlr (s.drop i)
 generalize hn:z61 (s.drop i)=n at *
 rw [ye] at l2
 have e1:yg .i64 ((i:Int)+(n:Int))=((i+n:Nat):Int):=zw5 (by omega)
 rw [e1]
 have hk:i+n≤s.length:=by omega
 generalize hj:i+n=j at *
 have a3:(do
   let s_31←sub s (j:Int) (s.length:Int)
   let a_32←M.q5q s_31 ([46]:List UInt8)
   if a_32 then
    let s_34←sub s (yg .i64 ((j:Int)+1)) (s.length:Int)
    let a_35←M.q0p s_34
    if (decide (0<a_35)) then
     some (yg .i64 ((j:Int)+(yg .i64 (1+a_35))))
    else
     some (j:Int)
   else
    some (j:Int):Option Int)=some ((j+z98 (s.drop j):Nat):Int):=by
  rw [z9c hk]
  simp only [ya,yb,z1s]
  have ex:(∃ r,s.drop j=46::r)∨(([46]:List UInt8).isPrefixOf (s.drop j)=false∧z98 (s.drop j)=0):=by
   cases hd:s.drop j with
   | nil=>exact .inr ⟨rfl,rfl⟩
   | cons c r =>
    by_cases hc:c=46
    ·subst hc;exact .inl ⟨r,rfl⟩
    ·have h46:¬(46:UInt8)=c:=fun e=>hc e.symm
     refine .inr ⟨by simp [List.isPrefixOf,h46],?_⟩
     unfold z98
     split
     ·rename_i r' hr
      injection hr with e1 e2
      exact absurd e1 hc
     ·rfl
  rcases ex with ⟨r,hr⟩|⟨e1,e2⟩
  ·obtain ⟨g1,g2,g3⟩:=zoa hr
   have:([46]:List UInt8).isPrefixOf (s.drop j)=true:=by rw [hr];rfl
   rw [this,if_pos rfl,w1 (by omega),z9c (by omega),hr]
   simp only [yb,z98]
   rw [g2,z3t (by rw [←g2];simp;omega)]
   simp only [yb]
   have:=z9u r
   have hr2:r.length+(j+1)=s.length:=by rw [←g2];simp;omega
   by_cases hd:0<z47 r
   ·rw [if_pos (by simpa using hd),if_pos hd]
    rw [show (1:Int)+(z47 r:Int)=((1+z47 r:Nat):Int) by omega,w64 (x:=((1+z47 r:Nat):Int)) (by omega) (by omega),zw5 (by omega)]
   ·rw [if_neg (by simpa using hd),if_neg hd]
    rfl
  ·rw [e1,e2]
   simp
 simp only [ya] at a3
 rw [a3]
 simp only [yb]
 have l3:=zlm (s.drop j)
 rw [ye] at l3
 have hk2:j+z98 (s.drop j)≤s.length:=by omega
 generalize j+z98 (s.drop j)=k at *
 clear a1 a2 a3
 by_cases hks:k<s.length
 ·have hks':((k:Int)<(s.length:Int)):=by omega
  have hdr:s.drop k=s[k]::s.drop (k+1):=by simp
  simp only [hks',decide_true,if_true,z48,yd hks,yb]
  have ec:(if (decide (((s[k]).toNat:Int)=101))=true then some true else some (decide (((s[k]).toNat:Int)=69)))=some (decide (s[k]=101∨s[k]=69)):=by
   have t1:(((s[k]).toNat:Int)=101)↔s[k]=101:=toNat_eq (n:=101) (by omega)
   have t2:(((s[k]).toNat:Int)=69)↔s[k]=69:=toNat_eq (n:=69) (by omega)
   simp only [t1,t2]
   by_cases q:s[k]=101<;>simp [q]
  rw [ec]
  simp only [yb]
  rw [hdr]
  unfold zcx
  simp only
  by_cases hc:s[k]=101∨s[k]=69
  ·rw [if_pos (by simpa using hc),if_pos hc,w1 (by omega)]
   have es:(do
     let j_60 ← (if decide (((k + 1 : Nat) : Int) < (s.length : Int)) = true then do
        let c_61←ix s ((k+1:Nat):Int)
        if decide ((c_61.toNat:Int)=43)=true then some true
        else do
         let c_62←ix s ((k+1:Nat):Int)
         some (decide ((c_62.toNat:Int)=45))
       else some false)
     if j_60=true then some (yg .i64 (((k+1:Nat):Int)+1)) else some ((k+1:Nat):Int))=some ((k+1+z6d (s.drop (k+1)):Nat):Int):=by
    unfold z6d
    rw [getD]
    by_cases hk1:k+1<s.length
    ·have:(((k+1:Nat):Int)<(s.length:Int)):=by omega
     simp only [this,decide_true,if_true,z48,yd hk1,ya,yb]
     have t1:(((s[k+1]).toNat:Int)=43)↔s[k+1]=43:=toNat_eq (n:=43) (by omega)
     have t2:(((s[k+1]).toNat:Int)=45)↔s[k+1]=45:=toNat_eq (n:=45) (by omega)
     simp only [t1,t2,Option.some.injEq]
     have ww:yg .i64 (((k+1:Nat):Int)+1)=((k+1+1:Nat):Int):=w1 (by omega)
     rw [ww]
     by_cases q:s[k+1]=43
     ·simp [q]
     ·by_cases q2:s[k+1]=45
      ·simp [q2]
      ·simp [q,q2]
    ·have:¬((k:Int)+1<(s.length:Int)):=by omega
     simp [this,List.getElem?_eq_none (yf hk1)]
   simp only [ya] at es
   rw [es]
   simp only [yb]
   have l4:=zn2 (s.drop (k+1))
   rw [ye] at l4
   rw [z9c (by omega)]
   simp only [yb]
   rw [z3t (by simp;omega),←List.drop_drop]
   simp only [yb]
   have l5:=z9u ((s.drop (k+1)).drop (z6d (s.drop (k+1))))
   rw [ye,ye] at l5
   by_cases hd:0<z47 ((s.drop (k+1)).drop (z6d (s.drop (k+1))))
   ·rw [if_pos (by simpa using hd),if_pos hd,zw5 (by omega)]
    congr 2
    omega
   ·rw [if_neg (by simpa using hd),if_neg hd]
    rfl
  ·rw [if_neg (by simpa using hc),if_neg hc]
   rfl
 ·have hks':¬((k:Int)<(s.length:Int)):=by omega
  rw [yc (yf hks)]
  simp [hks',zcx]
end Go.Sen
end
section
namespace Go.Sen
open Go.Lk Go.Pe
end Go.Sen
end
section
namespace Go.Sen
open _root_.Option renaming bind_eq_bind → ya, bind_some → yb
open _root_.Bool renaming and_comm → yc, and_left_comm → yd
open _root_.List renaming drop_zero → ye, isPrefixOf → yf, le_antisymm → yg, length_cons → yh, nodup_iff_pairwise_ne → yi, pairwise_iff_getElem → yj
open Go.Lk Go.Pe
theorem za1 {P:UInt8→Prop} (h:∀ n:Fin 256,P (UInt8.ofNat n.val)) (b:UInt8):P b:=by
 have:=h ⟨b.toNat,zmd⟩
 simpa using this
theorem z3r (c:UInt8) (s:List UInt8):[c].isPrefixOf s=decide (s.head? = some c):=by
 cases s with
 | nil=>rfl
 | cons d r =>
  by_cases h:c=d
  ·simp [yf,h]
  ·have:¬d=c:=fun e=>h e.symm
   simp [yf,h,this]
def kys (ks:List (List UInt8)):Nat:=(ks.map fun k=>k.length+1).sum
mutual
def q03.sz:q03→Nat
 | ⟨_,t,l,ks⟩=>szs l+t.length+kys ks+1
def szs:List q03→Nat
 | []=>0
 | x::xs=>x.sz+szs xs+1
end
theorem q03.z1k (v:q03):v.sz=szs v.zc+v.z0p.length+kys v.z0l+1:=by cases v;simp [q03.sz]
theorem z6s:kys []=0:=rfl
theorem z34 (k:List UInt8) (ks:List (List UInt8)):kys (k::ks)=k.length+1+kys ks:=by simp [kys]
theorem z4l:∀ ks:List (List UInt8),ks.length≤kys ks
 | []=>by simp
 | k::ks=>by have:=z4l ks;rw [z34,yh];omega
theorem zd9:∀ {ks:List (List UInt8)} {k:List UInt8},k∈ks→k.length<kys ks
 | a::ks,k,h=>by
  rw [z34]
  rcases List.mem_cons.1 h with rfl|h
  ·omega
  ·have:=zd9 h;omega
theorem zdt:∀ {l:List q03} {x:q03},x∈l→x.sz<szs l
 | y::l,x,hx=>by
  simp only [szs]
  rcases List.mem_cons.1 hx with rfl|hx
  ·omega
  ·have:=zdt hx;omega
theorem zaz:∀ l:List q03,l.length≤szs l
 | []=>by simp
 | y::l=>by have:=zaz l;simp only [szs,yh];omega
def frm (k:Int) (t:List UInt8) (n:Nat) (ks:List (List UInt8)):Bool :=
 ks.all Lib.validD &&
 if k=0∨k=1∨k=2 then decide (t=[])&&decide (n=0)&&decide (ks=[])
 else if k=3 then !decide (t=[])&&decide (num t=t.length)&&decide (n=0)&&decide (ks=[])
 else if k=4 then Lib.validD t&&decide (n=0)&&decide (ks=[])
 else if k=5 then decide (t=[])&&decide (ks=[])
 else if k=6 then decide (t=[])&&decide (ks.length=n)&&decide ks.Nodup
 else false
mutual
def z73:q03→Nat→Int
 | ⟨k,t,l,ks⟩,w=>if (k=5∨k=6)∧16≤w then 21 else if frm k t l.length ks=false then 23 else zb2 l (w+1)
def zb2:List q03→Nat→Int
 | [],_=>0
 | x::xs,w=>if z73 x w=0 then zb2 xs w else z73 x w
end
theorem z4d (v:q03) (w:Nat):z73 v w=if (v.zb=5∨v.zb=6)∧16≤w then 21 else if frm v.zb v.z0p v.zc.length v.z0l=false then 23 else zb2 v.zc (w+1):=by cases v;simp only [z73]
def zmv (e:Int):Rs Unit:=if e=0 then .ok () else .pan e
theorem zf5 (e:Int):M.q0r true e=some (.ok ()):=by simp [M.q0r]
instance:Std.Antisymm (α:=List UInt8) (· ≤ ·):=⟨fun _ _ h1 h2=>yg h1 h2⟩
theorem zn5 (l:List (List UInt8)):(l.mergeSort fun x y=>decide (x≤y)).Pairwise (· ≤ ·):=by
 have:=List.pairwise_mergeSort (le:=fun x y:List UInt8=>decide (x≤y)) (by intro a b c h1 h2;simp only [decide_eq_true_eq] at *;exact List.le_trans h1 h2) (by intro a b;simp only [Bool.or_eq_true,decide_eq_true_eq];exact List.le_total a b) l
 exact this.imp fun h=>by simpa using h
theorem zfq {m:List (List UInt8)} (hs:m.Pairwise (· ≤ ·)):(∀ j,j<m.length→Lib.keeps m.toArray j=true)↔m.Nodup:=by
 have get:∀ i (h:i<m.length),m.toArray[i]! = m[i]:=fun i h=>by simp [h]
 rw [yj] at hs
 constructor
 ·intro hk
  rw [yi,yj]
  intro i j hi hj hij he
  have h1:=hk j hj
  unfold Lib.keeps at h1
  simp only [decide_eq_true_eq] at h1
  rcases h1 with h1|h1
  ·omega
  ·rw [get j hj,get (j - 1) (by omega)] at h1
   apply h1
   have h3:m[j - 1]≤m[j]:=hs (j - 1) j (by omega) hj (by omega)
   rcases Nat.lt_or_ge i (j - 1) with h|h
   ·have h2:m[i]≤m[j - 1]:=hs i (j - 1) hi (by omega) h
    rw [he] at h2
    exact yg h2 h3
   ·have:i=j - 1:=by omega
    subst this
    exact he.symm
 ·intro hn j hj
  unfold Lib.keeps
  simp only [decide_eq_true_eq]
  rcases Nat.eq_zero_or_pos j with h|h
  ·exact .inl h
  ·refine .inr ?_
   rw [get j hj,get (j - 1) (by omega)]
   rw [yi,yj] at hn
   exact fun e=>hn (j - 1) j (by omega) hj (by omega) e.symm
theorem zg6 (m:List (List UInt8)):(Lib.compact m).length=m.length↔∀ j,j<m.length→Lib.keeps m.toArray j=true:=by
 unfold Lib.compact Lib.compactUpTo
 rw [List.length_map]
 conv=>lhs;rhs;rw [←List.length_range (n:=m.length)]
 rw [List.length_filter_eq_length_iff]
 simp
theorem zfo {l:List (List UInt8)} (h:l.length*16≤140737488355328):M.single l=some (decide l.Nodup):=by
 unfold M.single
 rw [z2g (by simpa using h)]
 simp only [ya,yb,Option.some.injEq]
 apply decide_eq_decide.2
 rw [←List.Perm.nodup_iff (List.mergeSort_perm l fun x y=>decide (x≤y)),←zfq (zn5 l),←zg6,List.length_mergeSort]
 omega
theorem z1z {s:List UInt8} (h:s.length≤9223372036854775807):M.z0b s=some (Lib.validD s):=by
 unfold M.z0b
 rw [z2g (by simpa using h)]
 rfl
theorem zeq {ks:List (List UInt8)} (hs:∀ k∈ks,k.length<1152921504606846976) (hl:ks.length<1152921504606846976):∀ (n i:Nat),ks.length - i=n→i≤ks.length →
  ∃ r,M.zp ks (i:Int)=some r∧(((ks.drop i).all Lib.validD=true∧r = .go ())∨((ks.drop i).all Lib.validD=false∧∃ j:Nat,r = .done (j:Int))):=by
 intro n
 induction n with
 | zero =>
  intro i hn hi
  rw [M.zp.eq_1]
  have:¬((i:Int)<(ks.length:Int)):=by omega
  exact ⟨_,by rw [if_neg (by simpa using this)],.inl ⟨by rw [List.drop_eq_nil_of_le (by omega)];rfl,rfl⟩⟩
 | succ n ih =>
  intro i hn hi
  have hlt:i<ks.length:=by omega
  rw [M.zp.eq_1]
  have h1:((i:Int)<(ks.length:Int)):=by omega
  have h2:=hs ks[i] (List.getElem_mem hlt)
  unfold M.q0o
  simp only [h1,decide_true,if_true,z48,List.getElem?_eq_getElem hlt,ya,yb]
  rw [z1z (by omega),List.drop_eq_getElem_cons hlt]
  simp only [yb,List.all_cons]
  cases hv:Lib.validD ks[i] with
  | false=>exact ⟨_,by simp,.inr ⟨by simp,i,rfl⟩⟩
  | true =>
   rw [w1 (by omega)]
   obtain ⟨r,h3,h4⟩:=ih (i+1) (by omega) (by omega)
   exact ⟨r,by simpa using h3,by simpa using h4⟩
theorem z9s {ks:List (List UInt8)} (hs:∀ k∈ks,k.length<1152921504606846976) (hl:ks.length<1152921504606846976):M.q4w ks=some (!ks.all Lib.validD):=by
 unfold M.q4w M.q5d
 obtain ⟨r,h1,h2⟩:=zeq hs hl _ 0 rfl (Nat.zero_le _)
 have h1:M.zp ks 0=some r:=h1
 rw [h1]
 rcases h2 with ⟨h3,rfl⟩|⟨h3,j,rfl⟩
 ·simp only [ye] at h3
  rw [h3]
  simp
 ·simp only [ye] at h3
  rw [h3]
  simp
theorem zev {k:Int} {t:List UInt8} {n:Nat} {ks:List (List UInt8)} (hw:¬(k=5∨k=6)∨True) :
  frm k t n ks=(((decide (0≤k))&&(decide (k<7)))&&((((decide (k=5))||(decide (k=6)))||(decide ((n:Int)=0)))&&((((decide (k=6))&&(decide ((ks.length:Int)=(n:Int))))||((decide ((ks.length:Int)=0))&&(!decide (k=6)))) &&
   ((ks.all Lib.validD&&decide ks.Nodup)&&(if k=3 then !decide (t=[])&&decide (num t=t.length) else if k=4 then Lib.validD t else decide (t=[])))))):=by
 have k0:((ks.length:Int)=0)↔ks=[]:=by rw [←List.length_eq_zero_iff];omega
 have n0:((n:Int)=0)↔n=0:=by omega
 simp only [k0,n0]
 unfold frm
 by_cases h0:k=0
 ·subst h0;cases ks<;>simp [and_comm,yc]
 by_cases h1:k=1
 ·subst h1;cases ks<;>simp [and_comm,yc]
 by_cases h2:k=2
 ·subst h2;cases ks<;>simp [and_comm,yc]
 by_cases h3:k=3
 ·subst h3;cases ks<;>simp [yc,yd]
 by_cases h4:k=4
 ·subst h4;cases ks<;>simp [yc,yd]
 by_cases h5:k=5
 ·subst h5;cases ks<;>simp
 by_cases h6:k=6
 ·subst h6
  have:(((ks.length:Int)=(n:Int)))↔ks.length=n:=by omega
  simp [this,yc,yd,Bool.and_assoc]
 have:((decide (0≤k))&&(decide (k<7)))=false:=by
  rw [←Bool.not_eq_true,Bool.and_eq_true,decide_eq_true_iff,decide_eq_true_iff]
  omega
 rw [this]
 simp [h0,h1,h2,h3,h4,h5,h6]
end Go.Sen
end
section
namespace Go.Sen
open _root_.Option renaming bind_eq_bind → ya, bind_some → yb
open _root_.Bool renaming not_eq_true → yc, not_eq_true' → yd, or_eq_true → ye
open Go.Lk Go.Pe
theorem z1b (b:Bool) (e:Int):M.q0r b e=some (if b=true then .ok () else .pan e):=by cases b<;>simp [M.q0r]
theorem z9p (x:q03) (xs:List q03) (w:Nat):zb2 (x::xs) w=if z73 x w=0 then zb2 xs w else z73 x w:=by simp only [zb2]
theorem zje {v:q03} {self:q03→Int→Option (Rs Unit)} {w:Nat} (hw:w≤16) (hl:v.zc.length<1152921504606846976) (hs:∀ x∈v.zc,self x ((w+1:Nat):Int)=some (zmv (z73 x (w+1)))) :
  ∀ (n i:Nat),v.zc.length - i=n→i≤v.zc.length→M.z0t v self (w:Int) (i:Int)=some (zmv (zb2 (v.zc.drop i) (w+1))):=by
 intro n
 induction n with
 | zero =>
  intro i hn hi
  rw [M.z0t.eq_1]
  have:¬((i:Int)<(v.zc.length:Int)):=by omega
  rw [if_neg (by simpa using this),List.drop_eq_nil_of_le (by omega)]
  rfl
 | succ n ih =>
  intro i hn hi
  have hlt:i<v.zc.length:=by omega
  rw [M.z0t.eq_1]
  have h1:((i:Int)<(v.zc.length:Int)):=by omega
  simp only [h1,decide_true,if_true,z48,List.getElem?_eq_getElem hlt,ya,yb]
  rw [w1 (n:=w) (by omega),hs _ (List.getElem_mem hlt),w1 (by omega),ih (i+1) (by omega) (by omega),List.drop_eq_getElem_cons hlt,z9p]
  simp only [yb]
  unfold zmv
  by_cases hc:z73 v.zc[i] (w+1)=0
  ·simp [hc]
  ·simp [hc]
def Small (v:q03):Prop:=v.sz<1000000000
theorem Small.mem {v x:q03} (h:Small v) (hx:x∈v.zc):Small x:=by
 unfold Small at *
 have:=zdt hx
 rw [q03.z1k v] at h
 omega
theorem Small.parts {v:q03} (h:Small v):v.z0p.length<1000000000∧v.zc.length<1000000000∧v.z0l.length<1000000000∧∀ k∈v.z0l,k.length<1000000000:=by
 unfold Small at h
 rw [q03.z1k] at h
 have h1:=zaz v.zc
 have h2:=z4l v.z0l
 exact ⟨by omega,by omega,by omega,fun k hk=>by have:=zd9 hk;omega⟩
theorem za8:∀ (f:Nat) (v:q03) (w:Nat),w≤16→17≤f+w→Small v→M.q0n f v (w:Int)=some (zmv (z73 v w)):=by
 intro f
 induction f with
 | zero=>intro v w h1 h2;omega
 | succ f ih =>
  intro v w hw hf hsm
  obtain ⟨s1,s2,s3,s4⟩:=hsm.parts
  have hk1:(v.zc=[]∨w<16)→M.z0t v (M.q0n f) (w:Int) 0=some (zmv (zb2 v.zc (w+1))):=by
   intro h
   refine zje hw (by omega) (fun x hx => ?_) _ 0 rfl (Nat.zero_le _)
   rcases h with h|h
   ·rw [h] at hx;cases hx
   ·exact ih x (w+1) (by omega) (by omega) (hsm.mem hx)
  rw [M.q0n,z4d,zev (.inr trivial)]
  simp only [z1b,z9s (fun k hk=>by have:=s4 k hk;omega) (show v.z0l.length<1152921504606846976 by omega),zfo (show v.z0l.length*16≤140737488355328 by omega),ya,yb]
  have hj:(if (!(!v.z0l.all Lib.validD))=true then some (decide v.z0l.Nodup) else some false)=some (v.z0l.all Lib.validD&&decide v.z0l.Nodup):=by
   cases v.z0l.all Lib.validD<;>simp
  rw [hj]
  simp only [yb]
  have hn1:=z6a (s:=v.z0p) (by omega)
  have hn2:=z1z (s:=v.z0p) (by omega)
  generalize hb5:(v.z0l.all Lib.validD&&decide v.z0l.Nodup)=b5
  generalize hb4:(decide (v.zb=6)&&decide ((v.z0l.length:Int)=(v.zc.length:Int))||decide ((v.z0l.length:Int)=0) && !decide (v.zb=6))=b4
  generalize hb2:(decide (0≤v.zb)&&decide (v.zb<7))=b2
  by_cases hd:(v.zb=5∨v.zb=6)∧16≤w
  ·have:(!(decide (v.zb=5)||decide (v.zb=6))||decide ((w:Int)<16))=false:=by
    rw [←yc,ye,yd,←yc,ye]
    simp only [decide_eq_true_eq]
    omega
   rw [this,if_pos hd]
   rfl
  ·have h1:(!(decide (v.zb=5)||decide (v.zb=6))||decide ((w:Int)<16))=true:=by
    rw [ye,yd,←yc,ye]
    simp only [decide_eq_true_eq]
    omega
   rw [h1,if_neg hd]
   have h3:(decide (v.zb=5)||decide (v.zb=6)||decide ((v.zc.length:Int)=0))=true→(v.zc=[]∨w<16):=by
    rw [ye,ye]
    simp only [decide_eq_true_eq]
    intro h
    rcases h with h|h
    ·exact .inr (by omega)
    ·exact .inl (List.eq_nil_of_length_eq_zero (by omega))
   generalize (decide (v.zb=5)||decide (v.zb=6)||decide ((v.zc.length:Int)=0))=b3 at *
   cases b2 with
   | false=>rfl
   | true =>
    cases b3 with
    | false=>rfl
    | true =>
     cases b4 with
     | false=>rfl
     | true =>
      cases b5 with
      | false=>rfl
      | true =>
       have hk:=hk1 (h3 rfl)
       have e:((num v.z0p:Nat):Int)=(v.z0p.length:Int)↔num v.z0p=v.z0p.length:=by omega
       simp only [if_true,Bool.true_and]
       by_cases k3:v.zb=3
       ·by_cases ht:v.z0p=[]
        ·simp [k3,ht,zmv]
        ·by_cases hn:num v.z0p=v.z0p.length
         ·simp [k3,ht,hn,hn1,hk]
         ·have:¬((num v.z0p:Nat):Int)=(v.z0p.length:Int):=fun x=>hn (e.1 x)
          simp [k3,ht,hn,hn1,this,zmv]
       ·by_cases k4:v.zb=4
        ·cases hv:Lib.validD v.z0p<;>simp [k4,hv,hn2,hk,zmv]
        ·by_cases ht:v.z0p=[]<;>simp [k3,k4,ht,hk,zmv]
theorem zd3 {v:q03} {f:Nat} (hf:17≤f) (h:Small v):M.q0i f v=some (z73 v 0):=by
 unfold M.q0i
 have h1:=za8 f v 0 (by omega) (by omega) h
 have h1:M.q0n f v 0=some (zmv (z73 v 0)):=h1
 rw [h1]
 simp only [ya,yb]
 unfold zmv
 by_cases hc:z73 v 0=0<;>simp [hc]
end Go.Sen
end
