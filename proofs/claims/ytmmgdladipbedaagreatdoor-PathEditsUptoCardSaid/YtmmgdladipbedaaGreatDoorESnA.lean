import Derived.Test.YtmmgdladipbedaaGreatDoorEPeE
import Derived.Test.YtmmgdladipbedaaGreatDoorEPaM
set_option linter.all false
section
namespace Go.Sen
open _root_.List renaming isPrefixOf_iff_prefix → ya
open IntKind renaming bits → yb, signed → yc, wrap → yd
open Go.Lk Go.Pe
theorem w64 {x:Int} (h1 : -9223372036854775808≤x) (h2:x<9223372036854775808):yd .i64 x=x:=by
 have h:yd .i64 x=if x % 18446744073709551616≥9223372036854775808 then x % 18446744073709551616 - 18446744073709551616 else x % 18446744073709551616:=by
  simp [yd,yb,yc]
 rw [h]
 split<;>omega
theorem w32 {x:Int} (h1 : -2147483648≤x) (h2:x<2147483648):yd .i32 x=x:=by
 have h:yd .i32 x=if x % 4294967296≥2147483648 then x % 4294967296 - 4294967296 else x % 4294967296:=by
  simp [yd,yb,yc]
 rw [h]
 split<;>omega
theorem zx7 {x:Int} (h1:0≤x) (h2:x<18446744073709551616):yd .u64 x=x:=by
 unfold yd
 simp only [yb,yc]
 simp
 omega
theorem wu8 (x:Int):yd .u8 x=x % 256:=by
 unfold yd
 simp [yb,yc]
theorem w1 {n:Nat} (h:n<4611686018427387904):yd .i64 ((n:Int)+1)=((n+1:Nat):Int):=by rw [w64]<;>omega
theorem zze {n m:Nat} (h:n+m<4611686018427387904):yd .i64 ((n:Int)+(m:Int))=((n+m:Nat):Int):=by rw [w64]<;>omega
theorem z0w {α:Type} {k:Nat} {l l2:List α} (h:(l.length+l2.length)*k≤140737488355328):app k l l2=some (l++l2):=by
 unfold app
 rw [if_pos h]
theorem z2h {a b:List UInt8} (h:a.length+b.length≤9223372036854775807):cat a b=some (a++b):=by
 unfold cat
 rw [if_pos h]
theorem z48 {b:Bool} (h:b=true):chk b=some ():=by subst h;rfl
theorem z2u {α:Type} (l:List α) (n:Nat):ix l (n:Int)=l[n]?:=by simp [ix]
theorem zni {α:Type} (l:List α):ix l 0=l[0]?:=by simp [ix]
theorem zzv {α:Type} (l:List α):ix l 1=l[1]?:=by simp [ix]
theorem zkq {α:Type} {l:List α} {a b:Nat} (h1:a≤b) (h2:b≤l.length):sub l (a:Int) (b:Int)=some ((l.take b).drop a):=by
 unfold sub
 rw [if_pos (by omega)]
 simp
theorem z9o {α:Type} {l:List α} {a:Nat} (h:a≤l.length):sub l (a:Int) (l.length:Int)=some (l.drop a):=by
 rw [zkq h (Nat.le_refl _)]
 simp
theorem zkp {α:Type} {l:List α} {a:Nat} (h:a≤l.length):sub l 0 (a:Int)=some (l.take a):=by
 have:=zkq (l:=l) (Nat.zero_le a) h
 simpa using this
theorem sub_1 {α:Type} {l:List α} {a:Nat} (h:a<l.length) (h2:l.length<4611686018427387904):sub l (a:Int) (yd .i64 ((a:Int)+1))=some [l[a]]:=by
 rw [w1 (by omega),zkq (by omega) (by omega)]
 congr 1
 rw [List.drop_take]
 simp [List.take_one,h]
theorem z1t (s:List UInt8):(unb s).length=s.length:=by simp [unb]
theorem zku (s:List UInt8) (i:Nat):(unb s)[i]? = (s[i]?).map fun b=>(b.toNat:Int):=by simp [unb]
theorem z2g (a b:List UInt8):unb (a++b)=unb a++unb b:=by simp [unb]
theorem zap (s:List UInt8):byt (unb s)=s:=by simp [unb,byt,Function.comp_def]
theorem z1x {α:Type} {l:List α} {i:Nat} (h:i<l.length):l.drop i=l[i]::l.drop (i+1):=by simp
theorem zfv {α:Type} {l r:List α} {i:Nat} {c:α} (h:l.drop i=c::r):l[i]? = some c∧l.drop (i+1)=r∧i<l.length:=by
 have hi:i<l.length:=by
  rcases Nat.lt_or_ge i l.length with h1|h1
  ·exact h1
  ·rw [List.drop_eq_nil_of_le h1] at h;cases h
 rw [List.drop_eq_getElem_cons hi] at h
 injection h with h1 h2
 exact ⟨by rw [List.getElem?_eq_getElem hi,h1],h2,hi⟩
theorem toNat_eq {b:UInt8} {n:Nat} (hn:n<256):((b.toNat:Int)=(n:Int))↔b=UInt8.ofNat n:=by
 constructor
 ·intro h
  have:b.toNat=n:=by omega
  rw [←this]
  simp
 ·rintro rfl
  simp [UInt8.toNat_ofNat']
  omega
theorem za8 {b:UInt8}:b.toNat<256:=UInt8.toNat_lt b
theorem z6z {p s:List UInt8} (h:p.isPrefixOf s=true):p.length≤s.length:=(ya.1 h).length_le
theorem zma (p s:List UInt8):decide (s.take p.length=p)=p.isPrefixOf s:=by
 rw [Bool.eq_iff_iff,decide_eq_true_iff,ya,List.prefix_iff_eq_take]
 exact ⟨fun h=>h.symm,fun h=>h.symm⟩
end Go.Sen
end
section
namespace Go.Sen
open _root_.Option renaming bind_eq_bind → ya, bind_some → yb
open _root_.List renaming drop_eq_nil_of_le → yc, getElem?_eq_getElem → yd, length_drop → ye
open _root_.Nat renaming le_of_not_lt → yf
open IntKind renaming wrap → yg
open Go.Lk Go.Pe
theorem z3k (s p:List UInt8):M.q67 s p=some (p.isPrefixOf s):=by
 unfold M.q67 M.q0g
 by_cases h:p.length≤s.length
 ·have h':((p.length:Int)≤(s.length:Int)):=by omega
  simp only [h',decide_true,if_true,zkp h,ya,yb,zma]
 ·have h':¬((p.length:Int)≤(s.length:Int)):=by omega
  have:p.isPrefixOf s=false:=by
   cases hp:p.isPrefixOf s with
   | false=>rfl
   | true=>exact absurd (z6z hp) h
  simp [h',this]
theorem z7n (s p:List UInt8):M.q63 s p=some (if p.isPrefixOf s then (s.drop p.length,true) else (s,false)):=by
 have h:=z3k s p
 unfold M.q67 at h
 simp only [ya] at h
 unfold M.q63 M.q0e
 cases h1:M.q0g s p with
 | none=>rw [h1] at h;cases h
 | some b =>
  rw [h1] at h
  simp only [yb,Option.some.injEq] at h
  subst h
  cases hb:p.isPrefixOf s with
  | false=>simp
  | true=>simp [z9o (z6z hb)]
def isD (b:UInt8):Bool:=decide (48≤b.toNat)&&decide (b.toNat≤57)
theorem zvn:∀ b:UInt8,([48,49,50,51,52,53,54,55,56,57]:List UInt8).contains b=isD b:=by
 intro b
 have h:∀ n:Fin 256,([48,49,50,51,52,53,54,55,56,57]:List UInt8).contains (UInt8.ofNat n.val)=isD (UInt8.ofNat n.val):=by decide +kernel
 have:=h ⟨b.toNat,za8⟩
 simpa using this
def z5a (s:List UInt8):Nat:=(s.takeWhile isD).length
theorem zcr (s:List UInt8):z5a s≤s.length:=by
 unfold z5a
 exact (List.takeWhile_sublist _).length_le
theorem zhj (c:UInt8) (s:List UInt8):z5a (c::s)=if isD c then z5a s+1 else 0:=by
 unfold z5a
 rw [List.takeWhile_cons]
 split<;>simp
theorem z62 {s:List UInt8} (h:s.length<4611686018427387904):M.q0p s=some (z5a s:Int):=by
 unfold M.q0p M.trimLeft
 have e:(decide ((([48,49,50,51,52,53,54,55,56,57]:List UInt8)).length<4294967281)&&([48,49,50,51,52,53,54,55,56,57]:List UInt8).all fun b=>decide (b.toNat<128))=true:=by decide
 rw [z48 e]
 simp only [ya,yb]
 have e2:Lib.trimLeftS s [48,49,50,51,52,53,54,55,56,57]=s.dropWhile isD:=by
  unfold Lib.trimLeftS
  congr 1
  funext b
  exact zvn b
 rw [e2]
 have e3:z5a s+(s.dropWhile isD).length=s.length:=by
  unfold z5a
  rw [←List.length_append,List.takeWhile_append_dropWhile]
 rw [w64 (by omega) (by omega)]
 congr 1
 omega
def sgn (s:List UInt8):Nat:=if s.head? = some 45 then 1 else 0
def z63 (s:List UInt8):Nat:=if s.head? = some 48 then 1 else z5a s
def z8l:List UInt8→Nat
 | 46::r=>if 0<z5a r then 1+z5a r else 0
 | _=>0
def z7g (s:List UInt8):Nat:=if s.head? = some 43∨s.head? = some 45 then 1 else 0
def ze7:List UInt8→Nat
 | c::r=>if c=101∨c=69 then (if 0<z5a (r.drop (z7g r)) then 1+z7g r+z5a (r.drop (z7g r)) else 0) else 0
 | []=>0
def num (s:List UInt8):Nat :=
 let i:=sgn s
 if z63 (s.drop i)=0 then 0 else
 let i:=i+z63 (s.drop i)
 let i:=i+z8l (s.drop i)
 i+ze7 (s.drop i)
theorem zr4 (s:List UInt8):sgn s≤s.length:=by
 unfold sgn
 cases s<;>simp
 split<;>omega
theorem zkm (s:List UInt8):z7g s≤s.length:=by
 unfold z7g
 cases s<;>simp
 split<;>omega
theorem zjp (s:List UInt8):z63 s≤s.length:=by
 unfold z63
 have:=zcr s
 cases s with
 | nil=>simp [z5a]
 | cons c r=>split<;>simp_all
theorem zjm (s:List UInt8):z8l s≤s.length:=by
 unfold z8l
 split
 ·rename_i r
  have:=zcr r
  split<;>simp<;>omega
 ·simp
theorem zve (s:List UInt8):ze7 s≤s.length:=by
 unfold ze7
 split
 ·rename_i c r
  have h1:=zkm r
  have h2:=zcr (r.drop (z7g r))
  rw [ye] at h2
  repeat' split
  all_goals simp only [List.length_cons]
  all_goals omega
 ·simp
theorem zia (s:List UInt8):num s≤s.length:=by
 unfold num
 simp only
 split
 ·simp
 ·have h1:=zr4 s
  have h2:=zjp (s.drop (sgn s))
  have h3:=zjm (s.drop (sgn s+z63 (s.drop (sgn s))))
  have h4:=zve (s.drop (sgn s+z63 (s.drop (sgn s))+z8l (s.drop (sgn s+z63 (s.drop (sgn s))))))
  simp only [ye] at h2 h3 h4
  omega
theorem z8q (s:List UInt8):z5a s=0↔z63 s=0:=by
 unfold z63
 cases s with
 | nil=>simp [z5a]
 | cons c r =>
  by_cases h:c=48
  ·subst h
   simp [zhj,isD]
  ·simp [h]
theorem zsk (s:List UInt8):s.head? = s[0]?:=by cases s<;>rfl
theorem getD {s:List UInt8} {i:Nat}:(s.drop i).head? = s[i]?:=by rw [zsk];simp
theorem z8t {s:List UInt8} (h:s.length<1152921504606846976):M.q0s s=some (num s:Int):=by
 unfold M.q0s
 have a1:(do
   let a_7←M.q67 s ([45]:List UInt8)
   if a_7 then
    some 1
   else
    some 0:Option Int)=some ((sgn s:Nat):Int):=by
  rw [z3k]
  unfold sgn
  cases s with
  | nil=>rfl
  | cons c r =>
   by_cases hc:c=45
   ·subst hc;simp
   ·have:¬(45:UInt8)=c:=fun e=>hc e.symm
    simp [hc,this]
 rw [a1]
 simp only [ya,yb]
 have l1:=zr4 s
 rw [z9o l1]
 simp only [yb]
 rw [z62 (by simp;omega)]
 simp only [yb]
 unfold num
 simp only
 by_cases hz:z5a (s.drop (sgn s))=0
 ·rw [if_pos (by simpa using hz),if_pos ((z8q _).1 hz)]
  rfl
 rw [if_neg (by simpa using hz),if_neg (fun e=>hz ((z8q _).2 e))]
 generalize hi:sgn s=i at *
 have hlt:i<s.length:=by
  rcases Nat.lt_or_ge i s.length with h1|h1
  ·exact h1
  ·rw [yc h1] at hz;exact absurd rfl hz
 rw [z2u,yd hlt]
 simp only [yb]
 have a2:(if (decide (((s[i]).toNat:Int)=48))=true then some 1 else some ((z5a (s.drop i):Nat):Int))=some ((z63 (s.drop i):Nat):Int):=by
  unfold z63
  rw [getD,yd hlt]
  by_cases hc:s[i]=48
  ·have:((s[i]).toNat:Int)=48:=by rw [hc];rfl
   simp [hc]
  ·have:¬((s[i]).toNat:Int)=48:=fun e=>hc ((toNat_eq (n:=48) (by omega)).1 e)
   simp [hc,this]
 rw [a2]
 simp only [yb]
 have l2:=zjp (s.drop i)
 generalize hn:z63 (s.drop i)=n at *
 rw [ye] at l2
 have e1:yg .i64 ((i:Int)+(n:Int))=((i+n:Nat):Int):=zze (by omega)
 rw [e1]
 have hk:i+n≤s.length:=by omega
 generalize hj:i+n=j at *
 have a3:(do
   let s_31←sub s (j:Int) (s.length:Int)
   let a_32←M.q67 s_31 ([46]:List UInt8)
   if a_32 then
    let s_34←sub s (yg .i64 ((j:Int)+1)) (s.length:Int)
    let a_35←M.q0p s_34
    if (decide (0<a_35)) then
     some (yg .i64 ((j:Int)+(yg .i64 (1+a_35))))
    else
     some (j:Int)
   else
    some (j:Int):Option Int)=some ((j+z8l (s.drop j):Nat):Int):=by
  rw [z9o hk]
  simp only [ya,yb,z3k]
  have ex:(∃ r,s.drop j=46::r)∨(([46]:List UInt8).isPrefixOf (s.drop j)=false∧z8l (s.drop j)=0):=by
   cases hd:s.drop j with
   | nil=>exact .inr ⟨rfl,rfl⟩
   | cons c r =>
    by_cases hc:c=46
    ·subst hc;exact .inl ⟨r,rfl⟩
    ·have h46:¬(46:UInt8)=c:=fun e=>hc e.symm
     refine .inr ⟨by simp [List.isPrefixOf,h46],?_⟩
     unfold z8l
     split
     ·rename_i r' hr
      injection hr with e1 e2
      exact absurd e1 hc
     ·rfl
  rcases ex with ⟨r,hr⟩|⟨e1,e2⟩
  ·obtain ⟨g1,g2,g3⟩:=zfv hr
   have:([46]:List UInt8).isPrefixOf (s.drop j)=true:=by rw [hr];rfl
   rw [this,if_pos rfl,w1 (by omega),z9o (by omega),hr]
   simp only [yb,z8l]
   rw [g2,z62 (by rw [←g2];simp;omega)]
   simp only [yb]
   have:=zcr r
   have hr2:r.length+(j+1)=s.length:=by rw [←g2];simp;omega
   by_cases hd:0<z5a r
   ·rw [if_pos (by simpa using hd),if_pos hd]
    rw [show (1:Int)+(z5a r:Int)=((1+z5a r:Nat):Int) by omega,w64 (x:=((1+z5a r:Nat):Int)) (by omega) (by omega),zze (by omega)]
   ·rw [if_neg (by simpa using hd),if_neg hd]
    rfl
  ·rw [e1,e2]
   simp
 simp only [ya] at a3
 rw [a3]
 simp only [yb]
 have l3:=zjm (s.drop j)
 rw [ye] at l3
 have hk2:j+z8l (s.drop j)≤s.length:=by omega
 generalize j+z8l (s.drop j)=k at *
 clear a1 a2 a3
 by_cases hks:k<s.length
 ·have hks':((k:Int)<(s.length:Int)):=by omega
  have hdr:s.drop k=s[k]::s.drop (k+1):=by simp
  simp only [hks',decide_true,if_true,z2u,yd hks,yb]
  have ec:(if (decide (((s[k]).toNat:Int)=101))=true then some true else some (decide (((s[k]).toNat:Int)=69)))=some (decide (s[k]=101∨s[k]=69)):=by
   have t1:(((s[k]).toNat:Int)=101)↔s[k]=101:=toNat_eq (n:=101) (by omega)
   have t2:(((s[k]).toNat:Int)=69)↔s[k]=69:=toNat_eq (n:=69) (by omega)
   simp only [t1,t2]
   by_cases q:s[k]=101<;>simp [q]
  rw [ec]
  simp only [yb]
  rw [hdr]
  unfold ze7
  simp only
  by_cases hc:s[k]=101∨s[k]=69
  ·rw [if_pos (by simpa using hc),if_pos hc,w1 (by omega)]
   have es:(do
     let j_60 ← (if decide (((k + 1 : Nat) : Int) < (s.length : Int)) = true then do
        let c_61←ix s ((k+1:Nat):Int)
        if decide ((c_61.toNat:Int)=43)=true then some true
        else do
         let c_62←ix s ((k+1:Nat):Int)
         some (decide ((c_62.toNat:Int)=45))
       else some false)
     if j_60=true then some (yg .i64 (((k+1:Nat):Int)+1)) else some ((k+1:Nat):Int))=some ((k+1+z7g (s.drop (k+1)):Nat):Int):=by
    unfold z7g
    rw [getD]
    by_cases hk1:k+1<s.length
    ·have:(((k+1:Nat):Int)<(s.length:Int)):=by omega
     simp only [this,decide_true,if_true,z2u,yd hk1,ya,yb]
     have t1:(((s[k+1]).toNat:Int)=43)↔s[k+1]=43:=toNat_eq (n:=43) (by omega)
     have t2:(((s[k+1]).toNat:Int)=45)↔s[k+1]=45:=toNat_eq (n:=45) (by omega)
     simp only [t1,t2,Option.some.injEq]
     have ww:yg .i64 (((k+1:Nat):Int)+1)=((k+1+1:Nat):Int):=w1 (by omega)
     rw [ww]
     by_cases q:s[k+1]=43
     ·simp [q]
     ·by_cases q2:s[k+1]=45
      ·simp [q2]
      ·simp [q,q2]
    ·have:¬((k:Int)+1<(s.length:Int)):=by omega
     simp [this,List.getElem?_eq_none (yf hk1)]
   simp only [ya] at es
   rw [es]
   simp only [yb]
   have l4:=zkm (s.drop (k+1))
   rw [ye] at l4
   rw [z9o (by omega)]
   simp only [yb]
   rw [z62 (by simp;omega),←List.drop_drop]
   simp only [yb]
   have l5:=zcr ((s.drop (k+1)).drop (z7g (s.drop (k+1))))
   rw [ye,ye] at l5
   by_cases hd:0<z5a ((s.drop (k+1)).drop (z7g (s.drop (k+1))))
   ·rw [if_pos (by simpa using hd),if_pos hd,zze (by omega)]
    congr 2
    omega
   ·rw [if_neg (by simpa using hd),if_neg hd]
    rfl
  ·rw [if_neg (by simpa using hc),if_neg hc]
   rfl
 ·have hks':¬((k:Int)<(s.length:Int)):=by omega
  rw [yc (yf hks)]
  simp [hks',ze7]
end Go.Sen
end
section
namespace Go.Sen
open _root_.Option renaming bind_eq_bind → ya, bind_some → yb
open _root_.List renaming drop_eq_getElem_cons → yc, drop_eq_nil_of_le → yd, getElem?_eq_getElem → ye, length_drop → yf
open _root_.Nat renaming le_of_not_lt → yg
open IntKind renaming wrap → yh
open Go.Lk Go.Pe
theorem z3m (b:UInt8):M.q3g (b.toNat:Int)=some (isD b):=by
 unfold M.q3g isD
 congr 2
 ·exact decide_eq_decide.2 (by omega)
 ·exact decide_eq_decide.2 (by omega)
theorem z5r {s:List UInt8} {i:Nat} (h:i<s.length):z5a (s.drop i)=if isD s[i] then z5a (s.drop (i+1))+1 else 0:=by
 rw [yc h,zhj]
theorem z6o {s:List UInt8} {i:Nat} (h:s.length≤i):z5a (s.drop i)=0:=by
 rw [yd h]
 rfl
theorem zyy {s:List UInt8} (hs:s.length<1152921504606846976):∀ (n i:Nat),s.length - i=n→i≤s.length→M.z2o s (i:Int)=some ((i+z5a (s.drop i):Nat):Int):=by
 intro n
 induction n with
 | zero =>
  intro i hn hi
  rw [M.z2o.eq_1]
  have:¬((i:Int)<(s.length:Int)):=by omega
  simp [this,z6o (show s.length≤i by omega)]
 | succ n ih =>
  intro i hn hi
  have hlt:i<s.length:=by omega
  rw [M.z2o.eq_1]
  have:((i:Int)<(s.length:Int)):=by omega
  simp only [this,decide_true,if_true,z2u,ye hlt,ya,yb,z3m]
  rw [z5r hlt]
  cases hd:isD s[i] with
  | false=>simp
  | true =>
   simp only [if_true]
   rw [w1 (by omega),ih (i+1) (by omega) (by omega)]
   congr 2
   omega
theorem zyz {s:List UInt8} (hs:s.length<1152921504606846976):∀ (n i:Nat),s.length - i=n→i≤s.length→M.z3b s (i:Int)=some ((i+z5a (s.drop i):Nat):Int):=by
 intro n
 induction n with
 | zero =>
  intro i hn hi
  rw [M.z3b.eq_1]
  have:¬((i:Int)<(s.length:Int)):=by omega
  simp [this,z6o (show s.length≤i by omega)]
 | succ n ih =>
  intro i hn hi
  have hlt:i<s.length:=by omega
  rw [M.z3b.eq_1]
  have:((i:Int)<(s.length:Int)):=by omega
  simp only [this,decide_true,if_true,z2u,ye hlt,ya,yb,z3m]
  rw [z5r hlt]
  cases hd:isD s[i] with
  | false=>simp
  | true =>
   simp only [if_true]
   rw [w1 (by omega),ih (i+1) (by omega) (by omega)]
   congr 2
   omega
theorem zyx {s:List UInt8} (hs:s.length<1152921504606846976) {b:Nat} (hb:b<s.length) (hz:¬s[b]=48):∀ (n i:Nat),s.length - i=n→i≤s.length→M.z1g s (b:Int) (i:Int)=some ((i+z5a (s.drop i):Nat):Int):=by
 intro n
 induction n with
 | zero =>
  intro i hn hi
  rw [M.z1g.eq_1]
  have:¬((i:Int)<(s.length:Int)):=by omega
  simp [this,z6o (show s.length≤i by omega)]
 | succ n ih =>
  intro i hn hi
  have hlt:i<s.length:=by omega
  rw [M.z1g.eq_1]
  have:((i:Int)<(s.length:Int)):=by omega
  have t:¬(((s[b]).toNat:Int)=48):=fun e=>hz ((toNat_eq (n:=48) (by omega)).1 e)
  simp only [this,decide_true,if_true,z2u,ye hlt,ye hb,ya,yb,z3m,t,decide_false,Bool.not_false]
  rw [z5r hlt]
  cases hd:isD s[i] with
  | false=>simp
  | true =>
   have:(if decide ((i:Int)=(b:Int))=true then some true else some true)=some true:=by split<;>rfl
   simp only [if_true,this,yb]
   rw [w1 (by omega),ih (i+1) (by omega) (by omega)]
   congr 2
   omega
theorem ztb {s:List UInt8} (hs:s.length<1152921504606846976) {b:Nat} (hb:b≤s.length):M.z1g s (b:Int) (b:Int)=some ((b+z63 (s.drop b):Nat):Int):=by
 rcases Nat.lt_or_ge b s.length with h|h
 ·by_cases hz:s[b]=48
  ·rw [M.z1g.eq_1]
   have h1:((b:Int)<(s.length:Int)):=by omega
   have h2:isD 48=true:=by decide
   simp only [h1,decide_true,if_true,z2u,ye h,ya,yb,z3m,hz,h2]
   rw [w1 (by omega),M.z1g.eq_1]
   have e1:z63 (s.drop b)=1:=by unfold z63;rw [getD,ye h,hz];rfl
   rw [e1]
   by_cases h3:b+1<s.length
   ·have h4:(((b+1:Nat):Int)<(s.length:Int)):=by omega
    have h5:¬(((b+1:Nat):Int)=(b:Int)):=by omega
    simp only [h4,decide_true,if_true,z2u,ye h3,ye h,ya,yb,z3m,h5,decide_false,hz]
    cases isD s[b+1]<;>simp
   ·have h4:¬((b:Int)+1<(s.length:Int)):=by omega
    simp [h4]
  ·rw [zyx hs h hz _ b rfl hb]
   have e1:z63 (s.drop b)=z5a (s.drop b):=by unfold z63;rw [getD,ye h];simp [hz]
   rw [e1]
 ·rw [M.z1g.eq_1]
  have:¬((b:Int)<(s.length:Int)):=by omega
  have e1:z63 (s.drop b)=0:=by rw [yd h];rfl
  simp [this,e1]
theorem zaf {s:List UInt8} (h:s.length<1152921504606846976):M.q3j s=some (num s:Int):=by
 unfold M.q3j
 have a1:(do
   let j_13←(do
     if (decide (0<(s.length:Int))) then
      let c_14←ix s 0
      some (decide ((c_14.toNat:Int)=45))
     else
      some false:Option Bool)
   if j_13 then
    some (yh .i64 (0+1))
   else
    some 0:Option Int)=some ((sgn s:Nat):Int):=by
  unfold sgn
  cases s with
  | nil=>rfl
  | cons c r =>
   have h1:(0:Int)<((c::r).length:Int):=by simp only [List.length_cons];omega
   have t1:((c.toNat:Int)=45)↔c=45:=toNat_eq (n:=45) (by omega)
   simp only [h1,decide_true,if_true,zni,List.getElem?_cons_zero,ya,yb,t1,List.head?_cons,Option.some.injEq]
   by_cases hc:c=45<;>simp [hc]
   rfl
 rw [a1]
 simp only [ya,yb]
 have l1:=zr4 s
 rw [ztb h l1]
 simp only [yb]
 unfold num
 simp only
 generalize hi:sgn s=i at *
 have l2:=zjp (s.drop i)
 rw [yf] at l2
 by_cases hz:z63 (s.drop i)=0
 ·rw [if_pos (by simp [hz]),if_pos hz];rfl
 rw [if_neg (by simp;omega),if_neg hz]
 have hk:i+z63 (s.drop i)≤s.length:=by omega
 generalize i+z63 (s.drop i)=j at *
 clear a1
 have a3 : (do
    let j_132←(do
      if (decide ((yh .i64 ((j:Int)+1))<(s.length:Int))) then
       let c_133←ix s (j:Int)
       some (decide ((c_133.toNat:Int)=46))
      else
       some false:Option Bool)
    let j_138←(do
      if j_132 then
       let c_139←ix s (yh .i64 ((j:Int)+1))
       let a_140←M.q3g (c_139.toNat:Int)
       some a_140
      else
       some false:Option Bool)
    if j_138 then
     M.z2o s (yh .i64 ((j:Int)+1))
    else
     some (j:Int):Option Int)=some ((j+z8l (s.drop j):Nat):Int):=by
  rw [w1 (by omega)]
  by_cases h1:j+1<s.length
  ·have h1':(((j+1:Nat):Int)<(s.length:Int)):=by omega
   have h2:j<s.length:=by omega
   have t1:(((s[j]).toNat:Int)=46)↔s[j]=46:=toNat_eq (n:=46) (by omega)
   simp only [h1',decide_true,if_true,z2u,ye h1,ye h2,ya,yb,t1,z3m]
   rw [yc h2]
   by_cases hc:s[j]=46
   ·rw [hc]
    unfold z8l
    simp only [decide_true,if_true,yb]
    have hd:=z5r h1
    cases hq:isD s[j+1] with
    | false=>rw [hq] at hd;simp at hd;simp [hd]
    | true =>
     rw [hq] at hd
     simp only [if_true] at hd ⊢
     rw [zyy h _ (j+1) rfl (by omega),if_pos (by omega)]
     congr 2
     omega
   ·have:z8l (s[j]::s.drop (j+1))=0:=by
     unfold z8l
     split
     ·rename_i r hr
      injection hr with e1 e2
      exact absurd e1 hc
     ·rfl
    rw [this]
    simp [hc]
  ·have h1':¬((j:Int)+1<(s.length:Int)):=by omega
   have:z8l (s.drop j)=0:=by
    unfold z8l
    split
    ·rename_i r hr
     obtain ⟨_,g2,g3⟩:=zfv hr
     have:r=[]:=by rw [←g2];exact yd (by omega)
     rw [this]
     rfl
    ·rfl
   rw [this]
   simp [h1']
 simp only [ya] at a3
 rw [a3]
 simp only [yb]
 have l3:=zjm (s.drop j)
 rw [yf] at l3
 have hk2:j+z8l (s.drop j)≤s.length:=by omega
 generalize j+z8l (s.drop j)=k at *
 clear a3
 by_cases hks:k<s.length
 ·have hks':((k:Int)<(s.length:Int)):=by omega
  have hdr:s.drop k=s[k]::s.drop (k+1):=by simp
  simp only [hks',decide_true,if_true,z2u,ye hks,yb]
  have ec:(if (decide (((s[k]).toNat:Int)=101))=true then some true else some (decide (((s[k]).toNat:Int)=69)))=some (decide (s[k]=101∨s[k]=69)):=by
   have t1:(((s[k]).toNat:Int)=101)↔s[k]=101:=toNat_eq (n:=101) (by omega)
   have t2:(((s[k]).toNat:Int)=69)↔s[k]=69:=toNat_eq (n:=69) (by omega)
   simp only [t1,t2]
   by_cases q:s[k]=101<;>simp [q]
  rw [ec]
  simp only [yb]
  rw [hdr]
  unfold ze7
  simp only
  by_cases hc:s[k]=101∨s[k]=69
  ·rw [if_pos (by simpa using hc),if_pos hc,w1 (by omega)]
   have es:(do
     let j_60 ← (if decide (((k + 1 : Nat) : Int) < (s.length : Int)) = true then do
        let c_61←ix s ((k+1:Nat):Int)
        if decide ((c_61.toNat:Int)=43)=true then some true
        else do
         let c_62←ix s ((k+1:Nat):Int)
         some (decide ((c_62.toNat:Int)=45))
       else some false)
     if j_60=true then some (yh .i64 (((k+1:Nat):Int)+1)) else some ((k+1:Nat):Int))=some ((k+1+z7g (s.drop (k+1)):Nat):Int):=by
    unfold z7g
    rw [getD]
    by_cases hk1:k+1<s.length
    ·have:(((k+1:Nat):Int)<(s.length:Int)):=by omega
     simp only [this,decide_true,if_true,z2u,ye hk1,ya,yb]
     have t1:(((s[k+1]).toNat:Int)=43)↔s[k+1]=43:=toNat_eq (n:=43) (by omega)
     have t2:(((s[k+1]).toNat:Int)=45)↔s[k+1]=45:=toNat_eq (n:=45) (by omega)
     simp only [t1,t2,Option.some.injEq]
     have ww:yh .i64 (((k+1:Nat):Int)+1)=((k+1+1:Nat):Int):=w1 (by omega)
     rw [ww]
     by_cases q:s[k+1]=43
     ·simp [q]
     ·by_cases q2:s[k+1]=45
      ·simp [q2]
      ·simp [q,q2]
    ·have:¬((k:Int)+1<(s.length:Int)):=by omega
     simp [this,List.getElem?_eq_none (yg hk1)]
   simp only [ya] at es
   rw [es]
   simp only [yb]
   have l4:=zkm (s.drop (k+1))
   rw [yf] at l4
   have edd:s.drop (k+1+z7g (s.drop (k+1)))=(s.drop (k+1)).drop (z7g (s.drop (k+1))):=by rw [List.drop_drop]
   rw [zyz h _ _ rfl (by omega),edd]
   simp only [yb]
   generalize z5a ((s.drop (k+1)).drop (z7g (s.drop (k+1))))=y at *
   generalize z7g (s.drop (k+1))=z at *
   by_cases hd:0<y
   ·rw [if_pos (by simp only [decide_eq_true_eq];omega),if_pos hd]
    simp only [yb]
    congr 2
    omega
   ·rw [if_neg (by simp only [decide_eq_true_eq];omega),if_neg hd]
    rfl
  ·rw [if_neg (by simpa using hc),if_neg hc]
   rfl
 ·have hks':¬((k:Int)<(s.length:Int)):=by omega
  rw [yd (yg hks)]
  simp [hks',ze7]
end Go.Sen
end
section
namespace Go.Sen
open _root_.Option renaming bind_eq_bind → ya, bind_some → yb
open _root_.Bool renaming and_comm → yc, and_left_comm → yd
open _root_.List renaming drop_zero → ye, isPrefixOf → yf, le_antisymm → yg, length_cons → yh, nodup_iff_pairwise_ne → yi, pairwise_iff_getElem → yj
open Go.Lk Go.Pe
theorem zbg {P:UInt8→Prop} (h:∀ n:Fin 256,P (UInt8.ofNat n.val)) (b:UInt8):P b:=by
 have:=h ⟨b.toNat,za8⟩
 simpa using this
theorem z4p (c:UInt8) (s:List UInt8):[c].isPrefixOf s=decide (s.head? = some c):=by
 cases s with
 | nil=>rfl
 | cons d r =>
  by_cases h:c=d
  ·simp [yf,h]
  ·have:¬d=c:=fun e=>h e.symm
   simp [yf,h,this]
def kys (ks:List (List UInt8)):Nat:=(ks.map fun k=>k.length+1).sum
mutual
def q03.sz:q03→Nat
 | ⟨_,t,l,ks⟩=>szs l+t.length+kys ks+1
def szs:List q03→Nat
 | []=>0
 | x::xs=>x.sz+szs xs+1
end
theorem q03.z1n (v:q03):v.sz=szs v.zc+v.z03.length+kys v.z05+1:=by cases v;simp [q03.sz]
theorem z5h:kys []=0:=rfl
theorem z3y (k:List UInt8) (ks:List (List UInt8)):kys (k::ks)=k.length+1+kys ks:=by simp [kys]
theorem z4m:∀ ks:List (List UInt8),ks.length≤kys ks
 | []=>by simp
 | k::ks=>by have:=z4m ks;rw [z3y,yh];omega
theorem zg3:∀ {ks:List (List UInt8)} {k:List UInt8},k∈ks→k.length<kys ks
 | a::ks,k,h=>by
  rw [z3y]
  rcases List.mem_cons.1 h with rfl|h
  ·omega
  ·have:=zg3 h;omega
theorem zb5:∀ {l:List q03} {x:q03},x∈l→x.sz<szs l
 | y::l,x,hx=>by
  simp only [szs]
  rcases List.mem_cons.1 hx with rfl|hx
  ·omega
  ·have:=zb5 hx;omega
theorem z83:∀ l:List q03,l.length≤szs l
 | []=>by simp
 | y::l=>by have:=z83 l;simp only [szs,yh];omega
def frm (k:Int) (t:List UInt8) (n:Nat) (ks:List (List UInt8)):Bool :=
 ks.all Lib.validD &&
 if k=0∨k=1∨k=2 then decide (t=[])&&decide (n=0)&&decide (ks=[])
 else if k=3 then !decide (t=[])&&decide (num t=t.length)&&decide (n=0)&&decide (ks=[])
 else if k=4 then Lib.validD t&&decide (n=0)&&decide (ks=[])
 else if k=5 then decide (t=[])&&decide (ks=[])
 else if k=6 then decide (t=[])&&decide (ks.length=n)&&decide ks.Nodup
 else false
mutual
def z7h:q03→Nat→Int
 | ⟨k,t,l,ks⟩,w=>if (k=5∨k=6)∧16≤w then 21 else if frm k t l.length ks=false then 23 else zc3 l (w+1)
def zc3:List q03→Nat→Int
 | [],_=>0
 | x::xs,w=>if z7h x w=0 then zc3 xs w else z7h x w
end
theorem z5x (v:q03) (w:Nat):z7h v w=if (v.zb=5∨v.zb=6)∧16≤w then 21 else if frm v.zb v.z03 v.zc.length v.z05=false then 23 else zc3 v.zc (w+1):=by cases v;simp only [z7h]
def zqu (e:Int):Rs Unit:=if e=0 then .ok () else .pan e
theorem zi8 (e:Int):M.q0r true e=some (.ok ()):=by simp [M.q0r]
instance:Std.Antisymm (α:=List UInt8) (· ≤ ·):=⟨fun _ _ h1 h2=>yg h1 h2⟩
theorem zr9 (l:List (List UInt8)):(l.mergeSort fun x y=>decide (x≤y)).Pairwise (· ≤ ·):=by
 have:=List.pairwise_mergeSort (le:=fun x y:List UInt8=>decide (x≤y)) (by intro a b c h1 h2;simp only [decide_eq_true_eq] at *;exact List.le_trans h1 h2) (by intro a b;simp only [Bool.or_eq_true,decide_eq_true_eq];exact List.le_total a b) l
 exact this.imp fun h=>by simpa using h
theorem ziz {m:List (List UInt8)} (hs:m.Pairwise (· ≤ ·)):(∀ j,j<m.length→Lib.keeps m.toArray j=true)↔m.Nodup:=by
 have get:∀ i (h:i<m.length),m.toArray[i]! = m[i]:=fun i h=>by simp [h]
 rw [yj] at hs
 constructor
 ·intro hk
  rw [yi,yj]
  intro i j hi hj hij he
  have h1:=hk j hj
  unfold Lib.keeps at h1
  simp only [decide_eq_true_eq] at h1
  rcases h1 with h1|h1
  ·omega
  ·rw [get j hj,get (j - 1) (by omega)] at h1
   apply h1
   have h3:m[j - 1]≤m[j]:=hs (j - 1) j (by omega) hj (by omega)
   rcases Nat.lt_or_ge i (j - 1) with h|h
   ·have h2:m[i]≤m[j - 1]:=hs i (j - 1) hi (by omega) h
    rw [he] at h2
    exact yg h2 h3
   ·have:i=j - 1:=by omega
    subst this
    exact he.symm
 ·intro hn j hj
  unfold Lib.keeps
  simp only [decide_eq_true_eq]
  rcases Nat.eq_zero_or_pos j with h|h
  ·exact .inl h
  ·refine .inr ?_
   rw [get j hj,get (j - 1) (by omega)]
   rw [yi,yj] at hn
   exact fun e=>hn (j - 1) j (by omega) hj (by omega) e.symm
theorem zjf (m:List (List UInt8)):(Lib.compact m).length=m.length↔∀ j,j<m.length→Lib.keeps m.toArray j=true:=by
 unfold Lib.compact Lib.compactUpTo
 rw [List.length_map]
 conv=>lhs;rhs;rw [←List.length_range (n:=m.length)]
 rw [List.length_filter_eq_length_iff]
 simp
theorem zix {l:List (List UInt8)} (h:l.length*16≤140737488355328):M.single l=some (decide l.Nodup):=by
 unfold M.single
 rw [z48 (by simpa using h)]
 simp only [ya,yb,Option.some.injEq]
 apply decide_eq_decide.2
 rw [←List.Perm.nodup_iff (List.mergeSort_perm l fun x y=>decide (x≤y)),←ziz (zr9 l),←zjf,List.length_mergeSort]
 omega
theorem z2s {s:List UInt8} (h:s.length≤9223372036854775807):M.z0e s=some (Lib.validD s):=by
 unfold M.z0e
 rw [z48 (by simpa using h)]
 rfl
theorem zhv {ks:List (List UInt8)} (hs:∀ k∈ks,k.length<1152921504606846976) (hl:ks.length<1152921504606846976):∀ (n i:Nat),ks.length - i=n→i≤ks.length →
  ∃ r,M.zq ks (i:Int)=some r∧(((ks.drop i).all Lib.validD=true∧r = .go ())∨((ks.drop i).all Lib.validD=false∧∃ j:Nat,r = .done (j:Int))):=by
 intro n
 induction n with
 | zero =>
  intro i hn hi
  rw [M.zq.eq_1]
  have:¬((i:Int)<(ks.length:Int)):=by omega
  exact ⟨_,by rw [if_neg (by simpa using this)],.inl ⟨by rw [List.drop_eq_nil_of_le (by omega)];rfl,rfl⟩⟩
 | succ n ih =>
  intro i hn hi
  have hlt:i<ks.length:=by omega
  rw [M.zq.eq_1]
  have h1:((i:Int)<(ks.length:Int)):=by omega
  have h2:=hs ks[i] (List.getElem_mem hlt)
  unfold M.q0o
  simp only [h1,decide_true,if_true,z2u,List.getElem?_eq_getElem hlt,ya,yb]
  rw [z2s (by omega),List.drop_eq_getElem_cons hlt]
  simp only [yb,List.all_cons]
  cases hv:Lib.validD ks[i] with
  | false=>exact ⟨_,by simp,.inr ⟨by simp,i,rfl⟩⟩
  | true =>
   rw [w1 (by omega)]
   obtain ⟨r,h3,h4⟩:=ih (i+1) (by omega) (by omega)
   exact ⟨r,by simpa using h3,by simpa using h4⟩
theorem zcq {ks:List (List UInt8)} (hs:∀ k∈ks,k.length<1152921504606846976) (hl:ks.length<1152921504606846976):M.q5d ks=some (!ks.all Lib.validD):=by
 unfold M.q5d M.q5s
 obtain ⟨r,h1,h2⟩:=zhv hs hl _ 0 rfl (Nat.zero_le _)
 have h1:M.zq ks 0=some r:=h1
 rw [h1]
 rcases h2 with ⟨h3,rfl⟩|⟨h3,j,rfl⟩
 ·simp only [ye] at h3
  rw [h3]
  simp
 ·simp only [ye] at h3
  rw [h3]
  simp
theorem zdc {k:Int} {t:List UInt8} {n:Nat} {ks:List (List UInt8)} (hw:¬(k=5∨k=6)∨True) :
  frm k t n ks=(((decide (0≤k))&&(decide (k<7)))&&((((decide (k=5))||(decide (k=6)))||(decide ((n:Int)=0)))&&((((decide (k=6))&&(decide ((ks.length:Int)=(n:Int))))||((decide ((ks.length:Int)=0))&&(!decide (k=6)))) &&
   ((ks.all Lib.validD&&decide ks.Nodup)&&(if k=3 then !decide (t=[])&&decide (num t=t.length) else if k=4 then Lib.validD t else decide (t=[])))))):=by
 have k0:((ks.length:Int)=0)↔ks=[]:=by rw [←List.length_eq_zero_iff];omega
 have n0:((n:Int)=0)↔n=0:=by omega
 simp only [k0,n0]
 unfold frm
 by_cases h0:k=0
 ·subst h0;cases ks<;>simp [and_comm,yc]
 by_cases h1:k=1
 ·subst h1;cases ks<;>simp [and_comm,yc]
 by_cases h2:k=2
 ·subst h2;cases ks<;>simp [and_comm,yc]
 by_cases h3:k=3
 ·subst h3;cases ks<;>simp [yc,yd]
 by_cases h4:k=4
 ·subst h4;cases ks<;>simp [yc,yd]
 by_cases h5:k=5
 ·subst h5;cases ks<;>simp
 by_cases h6:k=6
 ·subst h6
  have:(((ks.length:Int)=(n:Int)))↔ks.length=n:=by omega
  simp [this,yc,yd,Bool.and_assoc]
 have:((decide (0≤k))&&(decide (k<7)))=false:=by
  rw [←Bool.not_eq_true,Bool.and_eq_true,decide_eq_true_iff,decide_eq_true_iff]
  omega
 rw [this]
 simp [h0,h1,h2,h3,h4,h5,h6]
end Go.Sen
end
