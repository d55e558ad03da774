import Derived.Test.YtfdoofnmjehecaaGreatDoorRPfE
import Derived.Test.YtfdoofnmjehecaaGreatDoorRHtM
import Derived.Lib.SplitLaws
set_option linter.all false
section
namespace Go.Sen
open _root_.List renaming isPrefixOf_iff_prefix → ya
open IntKind renaming wrap → yb
open Go.Lk Go.Pe
theorem w64 {x:Int} (h1 : -9223372036854775808≤x) (h2:x<9223372036854775808):yb .i64 x=x:=by
 have h:yb .i64 x=if x % 18446744073709551616≥9223372036854775808 then x % 18446744073709551616 - 18446744073709551616 else x % 18446744073709551616:=by
  simp [yb,IntKind.bits,IntKind.signed]
 rw [h]
 split<;>omega
theorem w1 {n:Nat} (h:n<4611686018427387904):yb .i64 ((n:Int)+1)=((n+1:Nat):Int):=by rw [w64]<;>omega
theorem zzm {n m:Nat} (h:n+m<4611686018427387904):yb .i64 ((n:Int)+(m:Int))=((n+m:Nat):Int):=by rw [w64]<;>omega
theorem z2p {α:Type} {k:Nat} {l l2:List α} (h:(l.length+l2.length)*k≤140737488355328):app k l l2=some (l++l2):=by
 unfold app
 rw [if_pos h]
theorem z2z {a b:Z} (h:a.length+b.length≤9223372036854775807):cat a b=some (a++b):=by
 unfold cat
 rw [if_pos h]
theorem zap {b:Bool} (h:b=true):chk b=some ():=by subst h;rfl
theorem z6m {α:Type} (l:List α) (n:Nat):ix l (n:Int)=l[n]?:=by simp [ix]
theorem zz2 {α:Type} (l:List α):ix l 0=l[0]?:=by simp [ix]
theorem zzy {α:Type} (l:List α):ix l 1=l[1]?:=by simp [ix]
theorem zxr {α:Type} {l:List α} {a b:Nat} (h1:a≤b) (h2:b≤l.length):sub l (a:Int) (b:Int)=some ((l.take b).drop a):=by
 unfold sub
 rw [if_pos (by omega)]
 simp
theorem zrk {α:Type} {l:List α} {a:Nat} (h:a≤l.length):sub l (a:Int) (l.length:Int)=some (l.drop a):=by
 rw [zxr h (Nat.le_refl _)]
 simp
theorem zzl {α:Type} {l:List α} {a:Nat} (h:a≤l.length):sub l 0 (a:Int)=some (l.take a):=by
 have:=zxr (l:=l) (Nat.zero_le a) h
 simpa using this
theorem zaj (s:Z):(unb s).length=s.length:=by simp [unb]
theorem zv8 (s:Z) (i:Nat):(unb s)[i]? = (s[i]?).map fun b=>(b.toNat:Int):=by simp [unb]
theorem z3o (a b:Z):unb (a++b)=unb a++unb b:=by simp [unb]
theorem zhi (s:Z):byt (unb s)=s:=by simp [unb,byt,Function.comp_def]
theorem zpn {α:Type} {l:List α} {i:Nat} (h:i<l.length):l.drop i=l[i]::l.drop (i+1):=by simp
theorem zjm {α:Type} {l r:List α} {i:Nat} {c:α} (h:l.drop i=c::r):l[i]? = some c∧l.drop (i+1)=r∧i<l.length:=by
 have hi:i<l.length:=by
  rcases Nat.lt_or_ge i l.length with h1|h1
  ·exact h1
  ·rw [List.drop_eq_nil_of_le h1] at h;cases h
 rw [List.drop_eq_getElem_cons hi] at h
 injection h with h1 h2
 exact ⟨by rw [List.getElem?_eq_getElem hi,h1],h2,hi⟩
theorem toNat_eq {b:UInt8} {n:Nat} (hn:n<256):((b.toNat:Int)=(n:Int))↔b=UInt8.ofNat n:=by
 constructor
 ·intro h
  have:b.toNat=n:=by omega
  rw [←this]
  simp
 ·rintro rfl
  simp [UInt8.toNat_ofNat']
  omega
theorem zse {b:UInt8}:b.toNat<256:=UInt8.toNat_lt b
theorem zu9 {p s:Z} (h:p.isPrefixOf s=true):p.length≤s.length:=(ya.1 h).length_le
theorem zqf (p s:Z):decide (s.take p.length=p)=p.isPrefixOf s:=by
 rw [Bool.eq_iff_iff,decide_eq_true_iff,ya,List.prefix_iff_eq_take]
 exact ⟨fun h=>h.symm,fun h=>h.symm⟩
end Go.Sen
end
section
namespace Go.Sen
open _root_.Option renaming bind_eq_bind → ya, bind_some → yb
open _root_.List renaming drop_eq_nil_of_le → yc, getElem?_eq_getElem → yd, length_drop → ye
open _root_.Nat renaming le_of_not_lt → yf
open IntKind renaming wrap → yg
open Go.Lk Go.Pe
theorem zat (s p:Z):M.q74 s p=some (p.isPrefixOf s):=by
 unfold M.q74 M.q30
 by_cases h:p.length≤s.length
 ·have h':((p.length:Int)≤(s.length:Int)):=by omega
  simp only [h',decide_true,if_true,zzl h,ya,yb,zqf]
 ·have h':¬((p.length:Int)≤(s.length:Int)):=by omega
  have:p.isPrefixOf s=false:=by
   cases hp:p.isPrefixOf s with
   | false=>rfl
   | true=>exact absurd (zu9 hp) h
  simp [h',this]
def isD (b:UInt8):Bool:=decide (48≤b.toNat)&&decide (b.toNat≤57)
theorem ztf:∀ b:UInt8,([48,49,50,51,52,53,54,55,56,57]:Z).contains b=isD b:=by
 intro b
 have h:∀ n:Fin 256,([48,49,50,51,52,53,54,55,56,57]:Z).contains (UInt8.ofNat n.val)=isD (UInt8.ofNat n.val):=by decide +kernel
 have:=h ⟨b.toNat,zse⟩
 simpa using this
def z8w (s:Z):Nat:=(s.takeWhile isD).length
theorem ze6 (s:Z):z8w s≤s.length:=by
 unfold z8w
 exact (List.takeWhile_sublist _).length_le
theorem zfq (c:UInt8) (s:Z):z8w (c::s)=if isD c then z8w s+1 else 0:=by
 unfold z8w
 rw [List.takeWhile_cons]
 split<;>simp
theorem z5w {s:Z} (h:s.length<4611686018427387904):M.q3c s=some (z8w s:Int):=by
 unfold M.q3c M.trimLeft
 have e:(decide ((([48,49,50,51,52,53,54,55,56,57]:Z)).length<4294967281)&&([48,49,50,51,52,53,54,55,56,57]:Z).all fun b=>decide (b.toNat<128))=true:=by decide
 rw [zap e]
 simp only [ya,yb]
 have e2:Lib.trimLeftS s [48,49,50,51,52,53,54,55,56,57]=s.dropWhile isD:=by
  unfold Lib.trimLeftS
  congr 1
  funext b
  exact ztf b
 rw [e2]
 have e3:z8w s+(s.dropWhile isD).length=s.length:=by
  unfold z8w
  rw [←List.length_append,List.takeWhile_append_dropWhile]
 rw [w64 (by omega) (by omega)]
 congr 1
 omega
def sgn (s:Z):Nat:=if s.head? = some 45 then 1 else 0
def zfc (s:Z):Nat:=if s.head? = some 48 then 1 else z8w s
def zg1:Z→Nat
 | 46::r=>if 0<z8w r then 1+z8w r else 0
 | _=>0
def ziw (s:Z):Nat:=if s.head? = some 43∨s.head? = some 45 then 1 else 0
def zw8:Z→Nat
 | c::r=>if c=101∨c=69 then (if 0<z8w (r.drop (ziw r)) then 1+ziw r+z8w (r.drop (ziw r)) else 0) else 0
 | []=>0
def num (s:Z):Nat :=
 let i:=sgn s
 if zfc (s.drop i)=0 then 0 else
 let i:=i+zfc (s.drop i)
 let i:=i+zg1 (s.drop i)
 i+zw8 (s.drop i)
theorem zsl (s:Z):sgn s≤s.length:=by
 unfold sgn
 cases s<;>simp
 split<;>omega
theorem zoo (s:Z):ziw s≤s.length:=by
 unfold ziw
 cases s<;>simp
 split<;>omega
theorem zmo (s:Z):zfc s≤s.length:=by
 unfold zfc
 have:=ze6 s
 cases s with
 | nil=>simp [z8w]
 | cons c r=>split<;>simp_all
theorem zmh (s:Z):zg1 s≤s.length:=by
 unfold zg1
 split
 ·rename_i r
  have:=ze6 r
  split<;>simp<;>omega
 ·simp
theorem z8o (s:Z):z8w s=0↔zfc s=0:=by
 unfold zfc
 cases s with
 | nil=>simp [z8w]
 | cons c r =>
  by_cases h:c=48
  ·subst h
   simp [zfq,isD]
  ·simp [h]
theorem zpu (s:Z):s.head? = s[0]?:=by cases s<;>rfl
theorem getD {s:Z} {i:Nat}:(s.drop i).head? = s[i]?:=by rw [zpu];simp
theorem zcx {s:Z} (h:s.length<1152921504606846976):M.q3f s=some (num s:Int):=by
 unfold M.q3f
 have a1:(do
   let a_7←M.q74 s ([45]:Z)
   if a_7 then
    some 1
   else
    some 0:Option Int)=some ((sgn s:Nat):Int):=by
  rw [zat]
  unfold sgn
  cases s with
  | nil=>rfl
  | cons c r =>
   by_cases hc:c=45
   ·subst hc;simp
   ·have:¬(45:UInt8)=c:=fun e=>hc e.symm
    simp [hc,this]
 rw [a1]
 simp only [ya,yb]
 have l1:=zsl s
 rw [zrk l1]
 simp only [yb]
 rw [z5w (by simp;omega)]
 simp only [yb]
 unfold num
 simp only
 by_cases hz:z8w (s.drop (sgn s))=0
 ·rw [if_pos (by simpa using hz),if_pos ((z8o _).1 hz)]
  rfl
 rw [if_neg (by simpa using hz),if_neg (fun e=>hz ((z8o _).2 e))]
 generalize hi:sgn s=i at *
 have hlt:i<s.length:=by
  rcases Nat.lt_or_ge i s.length with h1|h1
  ·exact h1
  ·rw [yc h1] at hz;exact absurd rfl hz
 rw [z6m,yd hlt]
 simp only [yb]
 have a2:(if (decide (((s[i]).toNat:Int)=48))=true then some 1 else some ((z8w (s.drop i):Nat):Int))=some ((zfc (s.drop i):Nat):Int):=by
  unfold zfc
  rw [getD,yd hlt]
  by_cases hc:s[i]=48
  ·have:((s[i]).toNat:Int)=48:=by rw [hc];rfl
   simp [hc]
  ·have:¬((s[i]).toNat:Int)=48:=fun e=>hc ((toNat_eq (n:=48) (by omega)).1 e)
   simp [hc,this]
 rw [a2]
 simp only [yb]
 have l2:=zmo (s.drop i)
 generalize hn:zfc (s.drop i)=n at *
 rw [ye] at l2
 have e1:yg .i64 ((i:Int)+(n:Int))=((i+n:Nat):Int):=zzm (by omega)
 rw [e1]
 have hk:i+n≤s.length:=by omega
 generalize hj:i+n=j at *
 have a3:(do
   let s_31←sub s (j:Int) (s.length:Int)
   let a_32←M.q74 s_31 ([46]:Z)
   if a_32 then
    let s_34←sub s (yg .i64 ((j:Int)+1)) (s.length:Int)
    let a_35←M.q3c s_34
    if (decide (0<a_35)) then
     some (yg .i64 ((j:Int)+(yg .i64 (1+a_35))))
    else
     some (j:Int)
   else
    some (j:Int):Option Int)=some ((j+zg1 (s.drop j):Nat):Int):=by
  rw [zrk hk]
  simp only [ya,yb,zat]
  have ex:(∃ r,s.drop j=46::r)∨(([46]:Z).isPrefixOf (s.drop j)=false∧zg1 (s.drop j)=0):=by
   cases hd:s.drop j with
   | nil=>exact .inr ⟨rfl,rfl⟩
   | cons c r =>
    by_cases hc:c=46
    ·subst hc;exact .inl ⟨r,rfl⟩
    ·have h46:¬(46:UInt8)=c:=fun e=>hc e.symm
     refine .inr ⟨by simp [List.isPrefixOf,h46],?_⟩
     unfold zg1
     split
     ·rename_i r' hr
      injection hr with e1 e2
      exact absurd e1 hc
     ·rfl
  rcases ex with ⟨r,hr⟩|⟨e1,e2⟩
  ·obtain ⟨g1,g2,g3⟩:=zjm hr
   have:([46]:Z).isPrefixOf (s.drop j)=true:=by rw [hr];rfl
   rw [this,if_pos rfl,w1 (by omega),zrk (by omega),hr]
   simp only [yb,zg1]
   rw [g2,z5w (by rw [←g2];simp;omega)]
   simp only [yb]
   have:=ze6 r
   have hr2:r.length+(j+1)=s.length:=by rw [←g2];simp;omega
   by_cases hd:0<z8w r
   ·rw [if_pos (by simpa using hd),if_pos hd]
    rw [show (1:Int)+(z8w r:Int)=((1+z8w r:Nat):Int) by omega,w64 (x:=((1+z8w r:Nat):Int)) (by omega) (by omega),zzm (by omega)]
   ·rw [if_neg (by simpa using hd),if_neg hd]
    rfl
  ·rw [e1,e2]
   simp
 simp only [ya] at a3
 rw [a3]
 simp only [yb]
 have l3:=zmh (s.drop j)
 rw [ye] at l3
 have hk2:j+zg1 (s.drop j)≤s.length:=by omega
 generalize j+zg1 (s.drop j)=k at *
 clear a1 a2 a3
 by_cases hks:k<s.length
 ·have hks':((k:Int)<(s.length:Int)):=by omega
  have hdr:s.drop k=s[k]::s.drop (k+1):=by simp
  simp only [hks',decide_true,if_true,z6m,yd hks,yb]
  have ec:(if (decide (((s[k]).toNat:Int)=101))=true then some true else some (decide (((s[k]).toNat:Int)=69)))=some (decide (s[k]=101∨s[k]=69)):=by
   have t1:(((s[k]).toNat:Int)=101)↔s[k]=101:=toNat_eq (n:=101) (by omega)
   have t2:(((s[k]).toNat:Int)=69)↔s[k]=69:=toNat_eq (n:=69) (by omega)
   simp only [t1,t2]
   by_cases q:s[k]=101<;>simp [q]
  rw [ec]
  simp only [yb]
  rw [hdr]
  unfold zw8
  simp only
  by_cases hc:s[k]=101∨s[k]=69
  ·rw [if_pos (by simpa using hc),if_pos hc,w1 (by omega)]
   have es:(do
     let j_60 ← (if decide (((k + 1 : Nat) : Int) < (s.length : Int)) = true then do
        let c_61←ix s ((k+1:Nat):Int)
        if decide ((c_61.toNat:Int)=43)=true then some true
        else do
         let c_62←ix s ((k+1:Nat):Int)
         some (decide ((c_62.toNat:Int)=45))
       else some false)
     if j_60=true then some (yg .i64 (((k+1:Nat):Int)+1)) else some ((k+1:Nat):Int))=some ((k+1+ziw (s.drop (k+1)):Nat):Int):=by
    unfold ziw
    rw [getD]
    by_cases hk1:k+1<s.length
    ·have:(((k+1:Nat):Int)<(s.length:Int)):=by omega
     simp only [this,decide_true,if_true,z6m,yd hk1,ya,yb]
     have t1:(((s[k+1]).toNat:Int)=43)↔s[k+1]=43:=toNat_eq (n:=43) (by omega)
     have t2:(((s[k+1]).toNat:Int)=45)↔s[k+1]=45:=toNat_eq (n:=45) (by omega)
     simp only [t1,t2,Option.some.injEq]
     have ww:yg .i64 (((k+1:Nat):Int)+1)=((k+1+1:Nat):Int):=w1 (by omega)
     rw [ww]
     by_cases q:s[k+1]=43
     ·simp [q]
     ·by_cases q2:s[k+1]=45
      ·simp [q2]
      ·simp [q,q2]
    ·have:¬((k:Int)+1<(s.length:Int)):=by omega
     simp [this,List.getElem?_eq_none (yf hk1)]
   simp only [ya] at es
   rw [es]
   simp only [yb]
   have l4:=zoo (s.drop (k+1))
   rw [ye] at l4
   rw [zrk (by omega)]
   simp only [yb]
   rw [z5w (by simp;omega),←List.drop_drop]
   simp only [yb]
   have l5:=ze6 ((s.drop (k+1)).drop (ziw (s.drop (k+1))))
   rw [ye,ye] at l5
   by_cases hd:0<z8w ((s.drop (k+1)).drop (ziw (s.drop (k+1))))
   ·rw [if_pos (by simpa using hd),if_pos hd,zzm (by omega)]
    congr 2
    omega
   ·rw [if_neg (by simpa using hd),if_neg hd]
    rfl
  ·rw [if_neg (by simpa using hc),if_neg hc]
   rfl
 ·have hks':¬((k:Int)<(s.length:Int)):=by omega
  rw [yc (yf hks)]
  simp [hks',zw8]
end Go.Sen
end
section
namespace Go.Sen
open _root_.Option renaming bind_eq_bind → ya, bind_some → yb
open _root_.List renaming drop_eq_getElem_cons → yc, drop_eq_nil_of_le → yd, getElem?_eq_getElem → ye, length_drop → yf
open _root_.Nat renaming le_of_not_lt → yg
open IntKind renaming wrap → yh
open Go.Lk Go.Pe
theorem z4h (b:UInt8):M.q4p (b.toNat:Int)=some (isD b):=by
 unfold M.q4p isD
 congr 2
 ·exact decide_eq_decide.2 (by omega)
 ·exact decide_eq_decide.2 (by omega)
theorem z5q {s:Z} {i:Nat} (h:i<s.length):z8w (s.drop i)=if isD s[i] then z8w (s.drop (i+1))+1 else 0:=by
 rw [yc h,zfq]
theorem z6g {s:Z} {i:Nat} (h:s.length≤i):z8w (s.drop i)=0:=by
 rw [yd h]
 rfl
theorem zxf {s:Z} (hs:s.length<1152921504606846976):∀ (n i:Nat),s.length - i=n→i≤s.length→M.z2r s (i:Int)=some ((i+z8w (s.drop i):Nat):Int):=by
 intro n
 induction n with
 | zero =>
  intro i hn hi
  rw [M.z2r.eq_1]
  have:¬((i:Int)<(s.length:Int)):=by omega
  simp [this,z6g (show s.length≤i by omega)]
 | succ n ih =>
  intro i hn hi
  have hlt:i<s.length:=by omega
  rw [M.z2r.eq_1]
  have:((i:Int)<(s.length:Int)):=by omega
  simp only [this,decide_true,if_true,z6m,ye hlt,ya,yb,z4h]
  rw [z5q hlt]
  cases hd:isD s[i] with
  | false=>simp
  | true =>
   simp only [if_true]
   rw [w1 (by omega),ih (i+1) (by omega) (by omega)]
   congr 2
   omega
theorem zxg {s:Z} (hs:s.length<1152921504606846976):∀ (n i:Nat),s.length - i=n→i≤s.length→M.z3l s (i:Int)=some ((i+z8w (s.drop i):Nat):Int):=by
 intro n
 induction n with
 | zero =>
  intro i hn hi
  rw [M.z3l.eq_1]
  have:¬((i:Int)<(s.length:Int)):=by omega
  simp [this,z6g (show s.length≤i by omega)]
 | succ n ih =>
  intro i hn hi
  have hlt:i<s.length:=by omega
  rw [M.z3l.eq_1]
  have:((i:Int)<(s.length:Int)):=by omega
  simp only [this,decide_true,if_true,z6m,ye hlt,ya,yb,z4h]
  rw [z5q hlt]
  cases hd:isD s[i] with
  | false=>simp
  | true =>
   simp only [if_true]
   rw [w1 (by omega),ih (i+1) (by omega) (by omega)]
   congr 2
   omega
theorem zxe {s:Z} (hs:s.length<1152921504606846976) {b:Nat} (hb:b<s.length) (hz:¬s[b]=48):∀ (n i:Nat),s.length - i=n→i≤s.length→M.z1v s (b:Int) (i:Int)=some ((i+z8w (s.drop i):Nat):Int):=by
 intro n
 induction n with
 | zero =>
  intro i hn hi
  rw [M.z1v.eq_1]
  have:¬((i:Int)<(s.length:Int)):=by omega
  simp [this,z6g (show s.length≤i by omega)]
 | succ n ih =>
  intro i hn hi
  have hlt:i<s.length:=by omega
  rw [M.z1v.eq_1]
  have:((i:Int)<(s.length:Int)):=by omega
  have t:¬(((s[b]).toNat:Int)=48):=fun e=>hz ((toNat_eq (n:=48) (by omega)).1 e)
  simp only [this,decide_true,if_true,z6m,ye hlt,ye hb,ya,yb,z4h,t,decide_false,Bool.not_false]
  rw [z5q hlt]
  cases hd:isD s[i] with
  | false=>simp
  | true =>
   have:(if decide ((i:Int)=(b:Int))=true then some true else some true)=some true:=by split<;>rfl
   simp only [if_true,this,yb]
   rw [w1 (by omega),ih (i+1) (by omega) (by omega)]
   congr 2
   omega
theorem zqg {s:Z} (hs:s.length<1152921504606846976) {b:Nat} (hb:b≤s.length):M.z1v s (b:Int) (b:Int)=some ((b+zfc (s.drop b):Nat):Int):=by
 rcases Nat.lt_or_ge b s.length with h|h
 ·by_cases hz:s[b]=48
  ·rw [M.z1v.eq_1]
   have h1:((b:Int)<(s.length:Int)):=by omega
   have h2:isD 48=true:=by decide
   simp only [h1,decide_true,if_true,z6m,ye h,ya,yb,z4h,hz,h2]
   rw [w1 (by omega),M.z1v.eq_1]
   have e1:zfc (s.drop b)=1:=by unfold zfc;rw [getD,ye h,hz];rfl
   rw [e1]
   by_cases h3:b+1<s.length
   ·have h4:(((b+1:Nat):Int)<(s.length:Int)):=by omega
    have h5:¬(((b+1:Nat):Int)=(b:Int)):=by omega
    simp only [h4,decide_true,if_true,z6m,ye h3,ye h,ya,yb,z4h,h5,decide_false,hz]
    cases isD s[b+1]<;>simp
   ·have h4:¬((b:Int)+1<(s.length:Int)):=by omega
    simp [h4]
  ·rw [zxe hs h hz _ b rfl hb]
   have e1:zfc (s.drop b)=z8w (s.drop b):=by unfold zfc;rw [getD,ye h];simp [hz]
   rw [e1]
 ·rw [M.z1v.eq_1]
  have:¬((b:Int)<(s.length:Int)):=by omega
  have e1:zfc (s.drop b)=0:=by rw [yd h];rfl
  simp [this,e1]
theorem zep {s:Z} (h:s.length<1152921504606846976):M.q4r s=some (num s:Int):=by
 unfold M.q4r
 have a1:(do
   let j_13←(do
     if (decide (0<(s.length:Int))) then
      let c_14←ix s 0
      some (decide ((c_14.toNat:Int)=45))
     else
      some false:Option Bool)
   if j_13 then
    some (yh .i64 (0+1))
   else
    some 0:Option Int)=some ((sgn s:Nat):Int):=by
  unfold sgn
  cases s with
  | nil=>rfl
  | cons c r =>
   have h1:(0:Int)<((c::r).length:Int):=by simp only [List.length_cons];omega
   have t1:((c.toNat:Int)=45)↔c=45:=toNat_eq (n:=45) (by omega)
   simp only [h1,decide_true,if_true,zz2,List.getElem?_cons_zero,ya,yb,t1,List.head?_cons,Option.some.injEq]
   by_cases hc:c=45<;>simp [hc]
   rfl
 rw [a1]
 simp only [ya,yb]
 have l1:=zsl s
 rw [zqg h l1]
 simp only [yb]
 unfold num
 simp only
 generalize hi:sgn s=i at *
 have l2:=zmo (s.drop i)
 rw [yf] at l2
 by_cases hz:zfc (s.drop i)=0
 ·rw [if_pos (by simp [hz]),if_pos hz];rfl
 rw [if_neg (by simp;omega),if_neg hz]
 have hk:i+zfc (s.drop i)≤s.length:=by omega
 generalize i+zfc (s.drop i)=j at *
 clear a1
 have a3 : (do
    let j_132←(do
      if (decide ((yh .i64 ((j:Int)+1))<(s.length:Int))) then
       let c_133←ix s (j:Int)
       some (decide ((c_133.toNat:Int)=46))
      else
       some false:Option Bool)
    let j_138←(do
      if j_132 then
       let c_139←ix s (yh .i64 ((j:Int)+1))
       let a_140←M.q4p (c_139.toNat:Int)
       some a_140
      else
       some false:Option Bool)
    if j_138 then
     M.z2r s (yh .i64 ((j:Int)+1))
    else
     some (j:Int):Option Int)=some ((j+zg1 (s.drop j):Nat):Int):=by
  rw [w1 (by omega)]
  by_cases h1:j+1<s.length
  ·have h1':(((j+1:Nat):Int)<(s.length:Int)):=by omega
   have h2:j<s.length:=by omega
   have t1:(((s[j]).toNat:Int)=46)↔s[j]=46:=toNat_eq (n:=46) (by omega)
   simp only [h1',decide_true,if_true,z6m,ye h1,ye h2,ya,yb,t1,z4h]
   rw [yc h2]
   by_cases hc:s[j]=46
   ·rw [hc]
    unfold zg1
    simp only [decide_true,if_true,yb]
    have hd:=z5q h1
    cases hq:isD s[j+1] with
    | false=>rw [hq] at hd;simp at hd;simp [hd]
    | true =>
     rw [hq] at hd
     simp only [if_true] at hd ⊢
     rw [zxf h _ (j+1) rfl (by omega),if_pos (by omega)]
     congr 2
     omega
   ·have:zg1 (s[j]::s.drop (j+1))=0:=by
     unfold zg1
     split
     ·rename_i r hr
      injection hr with e1 e2
      exact absurd e1 hc
     ·rfl
    rw [this]
    simp [hc]
  ·have h1':¬((j:Int)+1<(s.length:Int)):=by omega
   have:zg1 (s.drop j)=0:=by
    unfold zg1
    split
    ·rename_i r hr
     obtain ⟨_,g2,g3⟩:=zjm hr
     have:r=[]:=by rw [←g2];exact yd (by omega)
     rw [this]
     rfl
    ·rfl
   rw [this]
   simp [h1']
 simp only [ya] at a3
 rw [a3]
 simp only [yb]
 have l3:=zmh (s.drop j)
 rw [yf] at l3
 have hk2:j+zg1 (s.drop j)≤s.length:=by omega
 generalize j+zg1 (s.drop j)=k at *
 clear a3
 by_cases hks:k<s.length
 ·have hks':((k:Int)<(s.length:Int)):=by omega
  have hdr:s.drop k=s[k]::s.drop (k+1):=by simp
  simp only [hks',decide_true,if_true,z6m,ye hks,yb]
  have ec:(if (decide (((s[k]).toNat:Int)=101))=true then some true else some (decide (((s[k]).toNat:Int)=69)))=some (decide (s[k]=101∨s[k]=69)):=by
   have t1:(((s[k]).toNat:Int)=101)↔s[k]=101:=toNat_eq (n:=101) (by omega)
   have t2:(((s[k]).toNat:Int)=69)↔s[k]=69:=toNat_eq (n:=69) (by omega)
   simp only [t1,t2]
   by_cases q:s[k]=101<;>simp [q]
  rw [ec]
  simp only [yb]
  rw [hdr]
  unfold zw8
  simp only
  by_cases hc:s[k]=101∨s[k]=69
  ·rw [if_pos (by simpa using hc),if_pos hc,w1 (by omega)]
   have es:(do
     let j_60 ← (if decide (((k + 1 : Nat) : Int) < (s.length : Int)) = true then do
        let c_61←ix s ((k+1:Nat):Int)
        if decide ((c_61.toNat:Int)=43)=true then some true
        else do
         let c_62←ix s ((k+1:Nat):Int)
         some (decide ((c_62.toNat:Int)=45))
       else some false)
     if j_60=true then some (yh .i64 (((k+1:Nat):Int)+1)) else some ((k+1:Nat):Int))=some ((k+1+ziw (s.drop (k+1)):Nat):Int):=by
    unfold ziw
    rw [getD]
    by_cases hk1:k+1<s.length
    ·have:(((k+1:Nat):Int)<(s.length:Int)):=by omega
     simp only [this,decide_true,if_true,z6m,ye hk1,ya,yb]
     have t1:(((s[k+1]).toNat:Int)=43)↔s[k+1]=43:=toNat_eq (n:=43) (by omega)
     have t2:(((s[k+1]).toNat:Int)=45)↔s[k+1]=45:=toNat_eq (n:=45) (by omega)
     simp only [t1,t2,Option.some.injEq]
     have ww:yh .i64 (((k+1:Nat):Int)+1)=((k+1+1:Nat):Int):=w1 (by omega)
     rw [ww]
     by_cases q:s[k+1]=43
     ·simp [q]
     ·by_cases q2:s[k+1]=45
      ·simp [q2]
      ·simp [q,q2]
    ·have:¬((k:Int)+1<(s.length:Int)):=by omega
     simp [this,List.getElem?_eq_none (yg hk1)]
   simp only [ya] at es
   rw [es]
   simp only [yb]
   have l4:=zoo (s.drop (k+1))
   rw [yf] at l4
   have edd:s.drop (k+1+ziw (s.drop (k+1)))=(s.drop (k+1)).drop (ziw (s.drop (k+1))):=by rw [List.drop_drop]
   rw [zxg h _ _ rfl (by omega),edd]
   simp only [yb]
   generalize z8w ((s.drop (k+1)).drop (ziw (s.drop (k+1))))=y at *
   generalize ziw (s.drop (k+1))=z at *
   by_cases hd:0<y
   ·rw [if_pos (by simp only [decide_eq_true_eq];omega),if_pos hd]
    simp only [yb]
    congr 2
    omega
   ·rw [if_neg (by simp only [decide_eq_true_eq];omega),if_neg hd]
    rfl
  ·rw [if_neg (by simpa using hc),if_neg hc]
   rfl
 ·have hks':¬((k:Int)<(s.length:Int)):=by omega
  rw [yd (yg hks)]
  simp [hks',zw8]
end Go.Sen
end
section
namespace Go.Sen
open _root_.Option renaming bind_eq_bind → ya, bind_some → yb
open _root_.Bool renaming and_comm → yc, and_left_comm → yd
open _root_.List renaming drop_zero → ye, le_antisymm → yf, length_cons → yg, nodup_iff_pairwise_ne → yh, pairwise_iff_getElem → yi
open Go.Lk Go.Pe
theorem zg0 {P:UInt8→Prop} (h:∀ n:Fin 256,P (UInt8.ofNat n.val)) (b:UInt8):P b:=by
 have:=h ⟨b.toNat,zse⟩
 simpa using this
def kys (ks:List Z):Nat:=(ks.map fun k=>k.length+1).sum
mutual
def q04.sz:q04→Nat
 | ⟨_,t,l,ks⟩=>szs l+t.length+kys ks+1
def szs:List q04→Nat
 | []=>0
 | x::xs=>x.sz+szs xs+1
end
theorem q04.zd1 (v:q04):v.sz=szs v.zk+v.zq.length+kys v.zn+1:=by cases v;simp [q04.sz]
theorem z5r (k:Z) (ks:List Z):kys (k::ks)=k.length+1+kys ks:=by simp [kys]
theorem z3y:∀ ks:List Z,ks.length≤kys ks
 | []=>by simp
 | k::ks=>by have:=z3y ks;rw [z5r,yg];omega
theorem zc1:∀ {ks:List Z} {k:Z},k∈ks→k.length<kys ks
 | a::ks,k,h=>by
  rw [z5r]
  rcases List.mem_cons.1 h with rfl|h
  ·omega
  ·have:=zc1 h;omega
theorem zix:∀ {l:List q04} {x:q04},x∈l→x.sz<szs l
 | y::l,x,hx=>by
  simp only [szs]
  rcases List.mem_cons.1 hx with rfl|hx
  ·omega
  ·have:=zix hx;omega
theorem zez:∀ l:List q04,l.length≤szs l
 | []=>by simp
 | y::l=>by have:=zez l;simp only [szs,yg];omega
def frm (k:Int) (t:Z) (n:Nat) (ks:List Z):Bool :=
 ks.all Lib.validD &&
 if k=0∨k=1∨k=2 then decide (t=[])&&decide (n=0)&&decide (ks=[])
 else if k=3 then !decide (t=[])&&decide (num t=t.length)&&decide (n=0)&&decide (ks=[])
 else if k=4 then Lib.validD t&&decide (n=0)&&decide (ks=[])
 else if k=5 then decide (t=[])&&decide (ks=[])
 else if k=6 then decide (t=[])&&decide (ks.length=n)&&decide ks.Nodup
 else false
mutual
def zao:q04→Nat→Int
 | ⟨k,t,l,ks⟩,w=>if (k=5∨k=6)∧16≤w then 21 else if frm k t l.length ks=false then 23 else zkp l (w+1)
def zkp:List q04→Nat→Int
 | [],_=>0
 | x::xs,w=>if zao x w=0 then zkp xs w else zao x w
end
theorem zhl (v:q04) (w:Nat):zao v w=if (v.zh=5∨v.zh=6)∧16≤w then 21 else if frm v.zh v.zq v.zk.length v.zn=false then 23 else zkp v.zk (w+1):=by cases v;simp only [zao]
def znt (e:Int):Rs Unit:=if e=0 then .ok () else .pan e
instance:Std.Antisymm (α:=Z) (· ≤ ·):=⟨fun _ _ h1 h2=>yf h1 h2⟩
theorem zos (l:List Z):(l.mergeSort fun x y=>decide (x≤y)).Pairwise (· ≤ ·):=by
 have:=List.pairwise_mergeSort (le:=fun x y:Z=>decide (x≤y)) (by intro a b c h1 h2;simp only [decide_eq_true_eq] at *;exact List.le_trans h1 h2) (by intro a b;simp only [Bool.or_eq_true,decide_eq_true_eq];exact List.le_total a b) l
 exact this.imp fun h=>by simpa using h
theorem zh5 {m:List Z} (hs:m.Pairwise (· ≤ ·)):(∀ j,j<m.length→Lib.keeps m.toArray j=true)↔m.Nodup:=by
 have get:∀ i (h:i<m.length),m.toArray[i]! = m[i]:=fun i h=>by simp [h]
 rw [yi] at hs
 constructor
 ·intro hk
  rw [yh,yi]
  intro i j hi hj hij he
  have h1:=hk j hj
  unfold Lib.keeps at h1
  simp only [decide_eq_true_eq] at h1
  rcases h1 with h1|h1
  ·omega
  ·rw [get j hj,get (j - 1) (by omega)] at h1
   apply h1
   have h3:m[j - 1]≤m[j]:=hs (j - 1) j (by omega) hj (by omega)
   rcases Nat.lt_or_ge i (j - 1) with h|h
   ·have h2:m[i]≤m[j - 1]:=hs i (j - 1) hi (by omega) h
    rw [he] at h2
    exact yf h2 h3
   ·have:i=j - 1:=by omega
    subst this
    exact he.symm
 ·intro hn j hj
  unfold Lib.keeps
  simp only [decide_eq_true_eq]
  rcases Nat.eq_zero_or_pos j with h|h
  ·exact .inl h
  ·refine .inr ?_
   rw [get j hj,get (j - 1) (by omega)]
   rw [yh,yi] at hn
   exact fun e=>hn (j - 1) j (by omega) hj (by omega) e.symm
theorem zhn (m:List Z):(Lib.compact m).length=m.length↔∀ j,j<m.length→Lib.keeps m.toArray j=true:=by
 unfold Lib.compact Lib.compactUpTo
 rw [List.length_map]
 conv=>lhs;rhs;rw [←List.length_range (n:=m.length)]
 rw [List.length_filter_eq_length_iff]
 simp
theorem zoq {l:List Z} (h:l.length*16≤140737488355328):M.single l=some (decide l.Nodup):=by
 unfold M.single
 rw [zap (by simpa using h)]
 simp only [ya,yb,Option.some.injEq]
 apply decide_eq_decide.2
 rw [←List.Perm.nodup_iff (List.mergeSort_perm l fun x y=>decide (x≤y)),←zh5 (zos l),←zhn,List.length_mergeSort]
 omega
theorem z3p {s:Z} (h:s.length≤9223372036854775807):M.z0r s=some (Lib.validD s):=by
 unfold M.z0r
 rw [zap (by simpa using h)]
 rfl
theorem zg9 {ks:List Z} (hs:∀ k∈ks,k.length<1152921504606846976) (hl:ks.length<1152921504606846976):∀ (n i:Nat),ks.length - i=n→i≤ks.length →
  ∃ r,M.zc ks (i:Int)=some r∧(((ks.drop i).all Lib.validD=true∧r = .go ())∨((ks.drop i).all Lib.validD=false∧∃ j:Nat,r = .done (j:Int))):=by
 intro n
 induction n with
 | zero =>
  intro i hn hi
  rw [M.zc.eq_1]
  have:¬((i:Int)<(ks.length:Int)):=by omega
  exact ⟨_,by rw [if_neg (by simpa using this)],.inl ⟨by rw [List.drop_eq_nil_of_le (by omega)];rfl,rfl⟩⟩
 | succ n ih =>
  intro i hn hi
  have hlt:i<ks.length:=by omega
  rw [M.zc.eq_1]
  have h1:((i:Int)<(ks.length:Int)):=by omega
  have h2:=hs ks[i] (List.getElem_mem hlt)
  unfold M.q3b
  simp only [h1,decide_true,if_true,z6m,List.getElem?_eq_getElem hlt,ya,yb]
  rw [z3p (by omega),List.drop_eq_getElem_cons hlt]
  simp only [yb,List.all_cons]
  cases hv:Lib.validD ks[i] with
  | false=>exact ⟨_,by simp,.inr ⟨by simp,i,rfl⟩⟩
  | true =>
   rw [w1 (by omega)]
   obtain ⟨r,h3,h4⟩:=ih (i+1) (by omega) (by omega)
   exact ⟨r,by simpa using h3,by simpa using h4⟩
theorem zbh {ks:List Z} (hs:∀ k∈ks,k.length<1152921504606846976) (hl:ks.length<1152921504606846976):M.q6s ks=some (!ks.all Lib.validD):=by
 unfold M.q6s M.q6x
 obtain ⟨r,h1,h2⟩:=zg9 hs hl _ 0 rfl (Nat.zero_le _)
 have h1:M.zc ks 0=some r:=h1
 rw [h1]
 rcases h2 with ⟨h3,rfl⟩|⟨h3,j,rfl⟩
 ·simp only [ye] at h3
  rw [h3]
  simp
 ·simp only [ye] at h3
  rw [h3]
  simp
theorem zbw {k:Int} {t:Z} {n:Nat} {ks:List Z} (hw:¬(k=5∨k=6)∨True) :
  frm k t n ks=(((decide (0≤k))&&(decide (k<7)))&&((((decide (k=5))||(decide (k=6)))||(decide ((n:Int)=0)))&&((((decide (k=6))&&(decide ((ks.length:Int)=(n:Int))))||((decide ((ks.length:Int)=0))&&(!decide (k=6)))) &&
   ((ks.all Lib.validD&&decide ks.Nodup)&&(if k=3 then !decide (t=[])&&decide (num t=t.length) else if k=4 then Lib.validD t else decide (t=[])))))):=by
 have k0:((ks.length:Int)=0)↔ks=[]:=by rw [←List.length_eq_zero_iff];omega
 have n0:((n:Int)=0)↔n=0:=by omega
 simp only [k0,n0]
 unfold frm
 by_cases h0:k=0
 ·subst h0;cases ks<;>simp [and_comm,yc]
 by_cases h1:k=1
 ·subst h1;cases ks<;>simp [and_comm,yc]
 by_cases h2:k=2
 ·subst h2;cases ks<;>simp [and_comm,yc]
 by_cases h3:k=3
 ·subst h3;cases ks<;>simp [yc,yd]
 by_cases h4:k=4
 ·subst h4;cases ks<;>simp [yc,yd]
 by_cases h5:k=5
 ·subst h5;cases ks<;>simp
 by_cases h6:k=6
 ·subst h6
  have:(((ks.length:Int)=(n:Int)))↔ks.length=n:=by omega
  simp [this,yc,yd,Bool.and_assoc]
 have:((decide (0≤k))&&(decide (k<7)))=false:=by
  rw [←Bool.not_eq_true,Bool.and_eq_true,decide_eq_true_iff,decide_eq_true_iff]
  omega
 rw [this]
 simp [h0,h1,h2,h3,h4,h5,h6]
end Go.Sen
end
section
namespace Go.Sen
open Go.Lk Go.Pe
end Go.Sen
end
