import Derived.Test.YtmmgdladipbedaaGreatDoorRSnK
import Derived.Test.YtmmgdladipbedaaGreatDoorRSnQ
set_option linter.all false
namespace Go.Sen
open _root_.Option renaming bind_eq_bind → ya, bind_some → yb
open _root_.Bool renaming and_eq_false_iff → yc, false_eq_true → yd, not_true → ye, or_eq_true → yf
open _root_.List renaming drop_take → yg, getElem?_eq_getElem → yh, length_cons → yi, length_nil → yj
open IntKind renaming wrap → yk
open Go.Lk Go.Pe
abbrev RR:=q08
def At (s r:List UInt8) (i:Nat):Prop:=s.drop i=r∧i≤s.length
section
variable {s r:List UInt8} {c:UInt8} {i:Nat}
theorem At.len (h:At s r i):i+r.length=s.length:=by
 obtain ⟨h1,h2⟩:=h
 rw [←h1,List.length_drop]
 omega
theorem At.nil (h:At s [] i):i=s.length:=by simpa using h.len
theorem At.cons (h:At s (c::r) i):s[i]? = some c∧At s r (i+1)∧i<s.length:=by
 obtain ⟨h1,h2,h3⟩:=ze5 h.1
 exact ⟨h1,⟨h2,h3⟩,h3⟩
theorem At.drop (h:At s r i) {k:Nat} (hk:k≤r.length):At s (r.drop k) (i+k):=by
 have:=h.len
 exact ⟨by rw [←h.1,List.drop_drop],by omega⟩
theorem At.start:At s s 0:=⟨rfl,Nat.zero_le _⟩
theorem zpk {n:Nat} (h:n<4611686018427387904):yk .i64 ((n:Nat):Int)=(n:Int):=w64 (by omega) (by omega)
theorem zwv {n m:Nat} (h:n+m<4611686018427387904):yk .i64 ((n:Int)+(m:Int))=((n+m:Nat):Int):=zwt h
theorem zet (hs:s.length<1000000) (g e:Int):∀ (r:List UInt8) (i:Nat),At s r i→∃ j,At s (z0b r) j∧M.z0k ⟨s,g,e⟩ (i:Int)=some ⟨s,(j:Int),e⟩:=by
 intro r
 induction r with
 | nil =>
  intro i h
  have:=h.nil
  refine ⟨i,h,?_⟩
  rw [M.z0k.eq_1]
  have h1:¬((i:Int)<(s.length:Int)):=by omega
  simp [h1]
 | cons c r ih =>
  intro i h
  obtain ⟨h1,h2,h3⟩:=h.cons
  have h4:((i:Int)<(s.length:Int)):=by omega
  have t1:((c.toNat:Int)=32)↔c=32:=toNat_eq (n:=32) (by omega)
  have t2:((c.toNat:Int)=9)↔c=9:=toNat_eq (n:=9) (by omega)
  have t3:((c.toNat:Int)=10)↔c=10:=toNat_eq (n:=10) (by omega)
  have t4:((c.toNat:Int)=13)↔c=13:=toNat_eq (n:=13) (by omega)
  rw [M.z0k.eq_1]
  simp only [h4,decide_true,if_true,z2r,h1,ya,yb,t1,t2,t3,t4]
  have hb:=zv7 c
  cases hc:bl c with
  | true =>
   obtain ⟨j,j1,j2⟩:=ih (i+1) h2
   refine ⟨j,by rw [show z0b (c::r)=z0b r by simp [z0b,hc]];exact j1,?_⟩
   rw [hc] at hb
   simp only [Bool.true_eq,yf,decide_eq_true_eq] at hb
   rw [w1 (by omega)]
   rcases hb with ((hb|hb)|hb)|hb<;>subst hb<;>simpa using j2
  | false =>
   refine ⟨i,by rw [z5g hc];exact h,?_⟩
   rw [hc] at hb
   simp only [Bool.false_eq,Bool.or_eq_false_iff,decide_eq_false_iff_not] at hb
   obtain ⟨⟨⟨b1,b2⟩,b3⟩,b4⟩:=hb
   simp [b1,b2,b3,b4]
theorem z2m (hs:s.length<1000000) (e:Int) (h:At s r i):∃ j,At s (z0b r) j∧M.q3g ⟨s,(i:Int),e⟩=some ⟨s,(j:Int),e⟩:=zet hs _ e r i h
theorem zct (hs:s.length<1000000) (e:Int) (i:Nat):∃ j:Nat,j≤max i s.length∧M.q3g ⟨s,(i:Int),e⟩=some ⟨s,(j:Int),e⟩:=by
 by_cases h:i≤s.length
 ·obtain ⟨j,h1,h2⟩:=z2m hs e (r:=s.drop i) ⟨rfl,h⟩
  exact ⟨j,by have:=h1.2;omega,h2⟩
 ·refine ⟨i,by omega,?_⟩
  unfold M.q3g
  rw [M.z0k.eq_1]
  have h1:¬((i:Int)<(s.length:Int)):=by omega
  simp [h1]
def hd:List UInt8→Int
 | []=>0
 | c::_=>(c.toNat:Int)
theorem z3e (e:Int) (h:At s r i):M.q3f ⟨s,(i:Int),e⟩=some (hd r):=by
 unfold M.q3f
 cases r with
 | nil =>
  have:=h.nil
  have h1:¬((i:Int)<(s.length:Int)):=by omega
  simp [h1,hd]
 | cons c r =>
  obtain ⟨h1,h2,h3⟩:=h.cons
  have h4:((i:Int)<(s.length:Int)):=by omega
  simp [h4,hd,z2r,h1]
theorem z71 (e:Int) (i:Nat):∃ c:Int,M.q3f ⟨s,(i:Int),e⟩=some c:=by
 by_cases h:i≤s.length
 ·exact ⟨_,z3e e (r:=s.drop i) ⟨rfl,h⟩⟩
 ·refine ⟨0,?_⟩
  unfold M.q3f
  have h1:¬((i:Int)<(s.length:Int)):=by omega
  simp [h1]
theorem z0o (i c:Int):M.q3n ⟨s,i,0⟩ c=some ⟨s,i,c⟩:=by simp [M.q3n]
theorem z88 {i c e:Int} (h:¬e=0):M.q3n ⟨s,i,e⟩ c=some ⟨s,i,e⟩:=by simp [M.q3n,h]
def zs0:List UInt8→Nat→Option Nat
 | [],a=>some a
 | c::r,a=>match z57 c with
  | none=>none
  | some d=>zs0 r (16*a+d)
theorem znl (c:UInt8):(isD c=true∧48≤c.toNat∧c.toNat≤57∧z57 c=some (c.toNat - 48))∨(isD c=false∧97≤c.toNat∧c.toNat≤102∧z57 c=some (c.toNat - 87)) ∨
  (isD c=false∧65≤c.toNat∧c.toNat≤70∧z57 c=some (c.toNat - 55))∨(isD c=false∧¬(97≤c.toNat∧c.toNat≤102)∧¬(65≤c.toNat∧c.toNat≤70)∧z57 c=none):=by
 unfold z57
 cases h:isD c with
 | true =>
  left
  simp only [isD,Bool.and_eq_true,decide_eq_true_eq] at h
  exact ⟨rfl,h.1,h.2,by simp⟩
 | false =>
  right
  by_cases h1:97≤c.toNat∧c.toNat≤102
  ·exact .inl ⟨rfl,h1.1,h1.2,by simp [h1]⟩
  ·by_cases h2:65≤c.toNat∧c.toNat≤70
   ·exact .inr (.inl ⟨rfl,h2.1,h2.2,by simp [h1,h2]⟩)
   ·exact .inr (.inr ⟨rfl,h1,h2,by simp [h1,h2]⟩)
theorem zik (g e:Int) (b:Nat) (hb:b+6≤s.length) (hs:s.length<1000000):∀ (n k acc m:Nat),b+6 - k=n→k≤b+6→m+n≤4→acc<16 ^ m →
  M.z0c (b:Int) ⟨s,g,e⟩ (acc:Int) (k:Int)=some (match zs0 ((s.drop k).take n) acc with|some v => .go (v:Int)|none => .done (-1)):=by
 intro n
 induction n with
 | zero =>
  intro k acc m hn hk hm ha
  rw [M.z0c.eq_1,show ((b:Int)+6)=((b+6:Nat):Int) by omega,zpk (by omega)]
  have h1:¬((k:Int)<((b+6:Nat):Int)):=by omega
  rw [if_neg (by rw [decide_eq_true_eq];exact h1)]
  simp [zs0]
 | succ n ih =>
  intro k acc m hn hk hm ha
  have hk2:k<s.length:=by omega
  have hacc:acc<65536:=Nat.lt_of_lt_of_le ha (show 16 ^ m≤16 ^ 4 from Nat.pow_le_pow_right (by decide) (by omega))
  rw [M.z0c.eq_1,show ((b:Int)+6)=((b+6:Nat):Int) by omega,zpk (by omega)]
  have h1:((k:Int)<((b+6:Nat):Int)):=by omega
  rw [z2k hk2,List.take_succ_cons]
  simp only [h1,decide_true,if_true,z2r,yh hk2,ya,yb,z2j]
  generalize s[k]=c
  have hc:=z8v (b:=c)
  have step:∀ d:Nat,d<16→z57 c=some d→M.z0c (b:Int) ⟨s,g,e⟩ ((16*acc+d:Nat):Int) ((k+1:Nat):Int)=some (match zs0 (c::(s.drop (k+1)).take n) acc with|some v => .go (v:Int)|none => .done (-1)):=fun d hd hx=>by
   rw [ih (k+1) (16*acc+d) (m+1) (by omega) (by omega) (by omega) (by rw [Nat.pow_succ];omega)]
   rw [zs0,hx]
  have e16:yk .i64 (16*(acc:Int))=((16*acc:Nat):Int):=by rw [w64]<;>omega
  rw [w1 (by omega),e16]
  rcases znl c with ⟨k1,k2,k3,k4⟩|⟨k1,k2,k3,k4⟩|⟨k1,k2,k3,k4⟩|⟨k1,k2,k3,k4⟩
  ·have e2:yk .u8 ((c.toNat:Int) - 48)=((c.toNat - 48:Nat):Int):=by rw [wu8];omega
   simp only [k1,if_true]
   rw [e2,zpk (by omega),zwv (by omega)]
   exact step _ (by omega) k4
  ·have e2:yk .u8 ((c.toNat:Int) - 97)=((c.toNat - 97:Nat):Int):=by rw [wu8];omega
   have q1:(97:Int)≤(c.toNat:Int):=by omega
   have q2:(c.toNat:Int)≤102:=by omega
   simp only [k1,yd,if_false,q1,q2,decide_true,Bool.and_true,if_true]
   rw [e2,zpk (by omega),zwv (by omega),show ((16*acc+(c.toNat - 97):Nat):Int)+10=((16*acc+(c.toNat - 87):Nat):Int) by omega,zpk (by omega)]
   exact step _ (by omega) k4
  ·have e2:yk .u8 ((c.toNat:Int) - 65)=((c.toNat - 65:Nat):Int):=by rw [wu8];omega
   have q0:¬(97:Int)≤(c.toNat:Int):=by omega
   have q1:(65:Int)≤(c.toNat:Int):=by omega
   have q2:(c.toNat:Int)≤70:=by omega
   simp only [k1,yd,if_false,q0,q1,q2,decide_true,decide_false,Bool.false_and,Bool.and_true,if_true]
   rw [e2,zpk (by omega),zwv (by omega),show ((16*acc+(c.toNat - 65):Nat):Int)+10=((16*acc+(c.toNat - 55):Nat):Int) by omega,zpk (by omega)]
   exact step _ (by omega) k4
  ·have q1:(decide ((97:Int)≤(c.toNat:Int))&&decide ((c.toNat:Int)≤102))=false:=by
    rw [yc,decide_eq_false_iff_not,decide_eq_false_iff_not];omega
   have q2:(decide ((65:Int)≤(c.toNat:Int))&&decide ((c.toNat:Int)≤70))=false:=by
    rw [yc,decide_eq_false_iff_not,decide_eq_false_iff_not];omega
   simp only [k1,yd,if_false,q1,q2]
   rw [zs0,k4]
theorem zy9 (a b c d:UInt8):zs0 [a,b,c,d] 0=(z57 a).bind fun ha=>(z57 b).bind fun hb=>(z57 c).bind fun hc=>(z57 d).bind fun hd=>some (16*(16*(16*ha+hb)+hc)+hd):=by
 simp only [zs0]
 cases z57 a with
 | none=>rfl
 | some ha =>
  cases z57 b with
  | none=>rfl
  | some hb =>
   cases z57 c with
   | none=>rfl
   | some hc =>
    cases z57 d with
    | none=>rfl
    | some hd=>simp
def zpc (r:List UInt8):Int:=match unit r with
 | some (n,_)=>(n:Int)
 | none => -1
theorem zmh {r:List UInt8} (h:r.length<6):unit r=none:=by
 cases hu:unit r with
 | none=>rfl
 | some p =>
  obtain ⟨n,r1⟩:=p
  have:=(z6p hu).2
  omega
theorem zhd {r r1:List UInt8} {n:Nat} (h:unit r=some (n,r1)):r1=r.drop 6∧6≤r.length:=by
 have hl:=(z6p h).2
 refine ⟨?_,by omega⟩
 unfold unit at h
 split at h
 ·split at h
  ·simp only [Option.bind_eq_some_iff] at h
   obtain ⟨_,_,_,_,_,_,_,_,h⟩:=h
   cases h
   rfl
  ·cases h
 ·cases h
theorem zbx (hs:s.length<1000000) (g e:Int) (h:At s r i):M.q3j ⟨s,g,e⟩ (i:Int)=some (zpc r):=by
 have hl:=h.len
 unfold M.q3j zpc
 rw [show ((i:Int)+6)=((i+6:Nat):Int) by omega,zpk (by omega)]
 by_cases h6:r.length<6
 ·have h1:((s.length:Int)<((i+6:Nat):Int)):=by omega
  simp only [h1,decide_true,if_true,ya,yb,zmh h6]
 ·have h1:¬((s.length:Int)<((i+6:Nat):Int)):=by omega
  obtain ⟨x,y,a,b,c,d,t,rfl⟩:∃ x y a b c d t,r=x::y::a::b::c::d::t:=by
   match r with
   | x::y::a::b::c::d::t=>exact ⟨x,y,a,b,c,d,t,rfl⟩
   | []=>simp at h6
   | [_]=>simp at h6
   | [_,_]=>simp at h6
   | [_,_,_]=>simp at h6
   | [_,_,_,_]=>simp at h6
   | [_,_,_,_,_]=>simp at h6
  obtain ⟨g1,g2,_⟩:=h.cons
  obtain ⟨g3,g4,_⟩:=g2.cons
  have t1:((x.toNat:Int)=92)↔x=92:=toNat_eq (n:=92) (by omega)
  have t2:((y.toNat:Int)=117)↔y=117:=toNat_eq (n:=117) (by omega)
  rw [w1 (by omega),show ((i:Int)+2)=((i+2:Nat):Int) by omega,zpk (by omega)]
  simp only [yi] at hl
  have hk:=zik g e i (by omega) hs 4 (i+2) 0 0 (by omega) (by omega) (by omega) (by decide)
  rw [g4.1] at hk
  have e4:(a::b::c::d::t).take 4=[a,b,c,d]:=rfl
  rw [e4,zy9] at hk
  have hk:M.z0c (i:Int) ⟨s,g,e⟩ 0 ((i+2:Nat):Int)=_:=hk
  simp only [h1,decide_false,yd,if_false,z2r,g1,g3,ya,yb,t1,t2,hk]
  unfold unit
  by_cases hx:x=92
  ·by_cases hy:y=117
   ·simp only [hx,hy,decide_true,ye,yd,if_false,and_self,if_true]
    cases z57 a with
    | none=>rfl
    | some ha =>
     cases z57 b with
     | none=>rfl
     | some hb =>
      cases z57 c with
      | none=>rfl
      | some hc =>
       cases z57 d with
       | none=>rfl
       | some hd=>rfl
   ·simp [hx,hy]
  ·simp [hx]
theorem zm3 (hs:s.length<1000000) (e:Int) {c:UInt8} (hi:s[i+1]? = some c) :
  M.z08 ⟨s,(i:Int),e⟩ 0=some (match zus c with|some y => .done ([y],⟨s,((i+2:Nat):Int),e⟩)|none => .go ()):=by
 have hlt:i+1<s.length:=(List.getElem?_eq_some_iff.1 hi).1
 have st:∀ (k:Nat) (x y:UInt8),k<8→([34,92,47,98,102,110,114,116]:List UInt8)[k]? = some x→([34,92,47,8,12,10,13,9]:List UInt8)[k]? = some y →
   M.z08 ⟨s,(i:Int),e⟩ (k:Int)=if c=x then some (.done ([y],⟨s,((i+2:Nat):Int),e⟩)) else M.z08 ⟨s,(i:Int),e⟩ ((k+1:Nat):Int):=by
  intro k x y hk h1 h2
  rw [M.z08.eq_1]
  have hk2:((k:Int)<(([34,92,47,98,102,110,114,116]:List UInt8).length:Int)):=by simp only [yi,yj];omega
  have hy:k<([34,92,47,8,12,10,13,9]:List UInt8).length:=by simp only [yi,yj];omega
  have hy2:([34,92,47,8,12,10,13,9]:List UInt8)[k]=y:=by
   have:=yh hy
   rw [h2] at this
   exact (Option.some.inj this).symm
  have tx:((c.toNat:Int)=(x.toNat:Int))↔c=x:=by
   constructor
   ·intro h;exact UInt8.toNat_inj.1 (by omega)
   ·rintro rfl;rfl
  rw [w1 (by omega),zyv hy (by simp),hy2,w1 (by omega),show ((i:Int)+2)=((i+2:Nat):Int) by omega,zpk (by omega)]
  simp only [hk2,decide_true,if_true,z2r,hi,h1,ya,yb,tx]
  by_cases hcx:c=x
  ·simp [hcx]
  ·simp [hcx]
 have en:M.z08 ⟨s,(i:Int),e⟩ ((8:Nat):Int)=some (.go ()):=by
  rw [M.z08.eq_1]
  simp
 have s0:=st 0 34 34 (by omega) rfl rfl
 have s0:M.z08 ⟨s,(i:Int),e⟩ 0=_:=s0
 rw [s0,st 1 92 92 (by omega) rfl rfl,st 2 47 47 (by omega) rfl rfl,st 3 98 8 (by omega) rfl rfl,st 4 102 12 (by omega) rfl rfl,st 5 110 10 (by omega) rfl rfl,st 6 114 13 (by omega) rfl rfl,st 7 116 9 (by omega) rfl rfl,en]
 unfold zus
 by_cases h1:c=34
 ·rw [if_pos h1,if_pos h1]
 rw [if_neg h1,if_neg h1]
 by_cases h2:c=92
 ·rw [if_pos h2,if_pos h2]
 rw [if_neg h2,if_neg h2]
 by_cases h3:c=47
 ·rw [if_pos h3,if_pos h3]
 rw [if_neg h3,if_neg h3]
 by_cases h4:c=98
 ·rw [if_pos h4,if_pos h4]
 rw [if_neg h4,if_neg h4]
 by_cases h5:c=102
 ·rw [if_pos h5,if_pos h5]
 rw [if_neg h5,if_neg h5]
 by_cases h6:c=110
 ·rw [if_pos h6,if_pos h6]
 rw [if_neg h6,if_neg h6]
 by_cases h7:c=114
 ·rw [if_pos h7,if_pos h7]
 rw [if_neg h7,if_neg h7]
 by_cases h8:c=116
 ·rw [if_pos h8,if_pos h8]
 rw [if_neg h8,if_neg h8]
theorem zt1 {n:Nat} (h:zkb n=false):(decide ((n:Int)<55296)||decide (56319<(n:Int))) = !ze6 n:=by
 unfold zkb at h
 unfold ze6
 rw [yc,decide_eq_false_iff_not,decide_eq_false_iff_not] at h
 rw [Bool.eq_iff_iff]
 simp only [yf,decide_eq_true_eq,Bool.not_eq_true',yc,decide_eq_false_iff_not]
 omega
def zxo (s:List UInt8) (z:Option (List UInt8 × RR)):Option (List UInt8 × List UInt8)→Prop
 | some (t,r2)=>∃ j,At s r2 j∧z=some (t,⟨s,(j:Int),0⟩)
 | none=>∃ j:Nat,j≤s.length∧z=some ([],⟨s,(j:Int),20⟩)
theorem zcu (hs:s.length<1000000) (h:At s (92::r) i):zxo s (M.q3h ⟨s,(i:Int),0⟩) (zai (92::r)):=by
 obtain ⟨g1,g2,g3⟩:=h.cons
 have hl:=h.len
 simp only [yi] at hl
 have four:=zbx hs (i:Int) 0 h
 unfold M.q3h
 rw [w1 (by omega)]
 cases r with
 | nil =>
  have hn:¬(((i+1:Nat):Int)<(s.length:Int)):=by simp only [yj] at hl;omega
  have e1:zai [92]=none:=rfl
  rw [e1]
  refine ⟨i,by omega,?_⟩
  have hu:zpc [92] = -1:=rfl
  simp only [hn,decide_false,yd,if_false,ya,yb,four,hu,z0o]
  rfl
 | cons c r =>
  obtain ⟨g4,g5,g6⟩:=g2.cons
  have hy:(((i+1:Nat):Int)<(s.length:Int)):=by omega
  simp only [hy,decide_true,if_true,zm3 hs 0 g4,ya,yb]
  cases hc:zus c with
  | some y =>
   rw [show zai (92::c::r)=some ([y],r) by simp [zai,hc]]
   exact ⟨i+2,g5,rfl⟩
  | none =>
   simp only [four,yb]
   unfold zpc
   cases hu:unit (92::c::r) with
   | none =>
    rw [show zai (92::c::r)=none by simp [zai,hc,hu]]
    exact ⟨i,by omega,by simp [z0o]⟩
   | some p =>
    obtain ⟨n,r1⟩:=p
    obtain ⟨u1,u2⟩:=z6p hu
    obtain ⟨u3,u4⟩:=zhd hu
    have a6:At s r1 (i+6):=by rw [u3];exact h.drop u4
    have hn0:¬((n:Int)<0):=by omega
    have e6:yk .i64 ((i:Int)+6)=((i+6:Nat):Int):=by rw [w64]<;>omega
    have e32:yk .i32 (n:Int)=(n:Int):=w32 (by omega) (by omega)
    simp only [hn0,decide_false,Bool.false_or,zza,e6,e32]
    cases c1:zkb n with
    | true =>
     rw [show zai (92::c::r)=none by simp [zai,hc,hu,c1]]
     exact ⟨i,by omega,by simp [z0o]⟩
    | false =>
     simp only [yd,if_false,zt1 c1]
     cases c2:ze6 n with
     | false =>
      rw [show zai (92::c::r)=some (encS (n:Int),r1) by simp [zai,hc,hu,c1,c2]]
      exact ⟨i+6,a6,by simp⟩
     | true =>
      have four2:=zbx hs ((i+6:Nat):Int) 0 a6
      simp only [ye,yd,if_false,Bool.true_eq_false,four2,yb]
      unfold zpc
      have a6l:=a6.2
      cases hu2:unit r1 with
      | none =>
       rw [show zai (92::c::r)=none by simp [zai,hc,hu,c1,c2,hu2]]
       exact ⟨i+6,a6l,by simp [z0o]⟩
      | some p2 =>
       obtain ⟨m,r2⟩:=p2
       obtain ⟨u5,u6⟩:=z6p hu2
       obtain ⟨u7,u8⟩:=zhd hu2
       have a12:At s r2 (i+6+6):=by rw [u7];exact a6.drop u8
       simp only [zz9]
       cases c3:zkb m with
       | false =>
        rw [show zai (92::c::r)=none by simp [zai,hc,hu,c1,c2,hu2,c3]]
        exact ⟨i+6,a6l,by simp [z0o]⟩
       | true =>
        obtain ⟨q1,q2⟩:=znm c2
        obtain ⟨q3,q4⟩:=zs8 c3
        have e12:yk .i64 (((i+6:Nat):Int)+6)=((i+6+6:Nat):Int):=by rw [w64]<;>omega
        have n1:yk .i64 ((n:Int) - 55296)=(n:Int) - 55296:=w64 (by omega) (by omega)
        have n2:yk .i64 (1024*((n:Int) - 55296))=1024*((n:Int) - 55296):=w64 (by omega) (by omega)
        have n3:yk .i64 (65536+1024*((n:Int) - 55296))=65536+1024*((n:Int) - 55296):=w64 (by omega) (by omega)
        have n4:yk .i64 (65536+1024*((n:Int) - 55296)+(m:Int))=65536+1024*((n:Int) - 55296)+(m:Int):=w64 (by omega) (by omega)
        have n5:yk .i64 (65536+1024*((n:Int) - 55296)+(m:Int) - 56320)=65536+1024*((n:Int) - 55296)+(m:Int) - 56320:=w64 (by omega) (by omega)
        have n6:yk .i32 (65536+1024*((n:Int) - 55296)+(m:Int) - 56320)=65536+1024*((n:Int) - 55296)+(m:Int) - 56320:=w32 (by omega) (by omega)
        have n7:65536+1024*((n:Int) - 55296)+(m:Int) - 56320=65536+((n:Int) - 55296)*1024+(m:Int) - 56320:=by omega
        rw [show zai (92::c::r)=some (encS (65536+((n:Int) - 55296)*1024+(m:Int) - 56320),r2) by simp [zai,hc,hu,c1,c2,hu2,c3]]
        simp only [if_true,e12,n1,n2,n3,n4,n5,n6]
        rw [n7]
        exact ⟨i+6+6,a12,by simp⟩
theorem z5u {acc:List Int} {j:Int}:M.z0g acc s j 20=some (.go (s,j,20)):=by
 rw [M.z0g.eq_1]
 simp
def zxr (s:List UInt8) (z:Option (Jn (List UInt8 × RR) (List UInt8 × Int × Int))):Option (List UInt8 × List UInt8)→Prop
 | some (t,r2)=>∃ j,At s r2 j∧z=some (.done (t,⟨s,(j:Int),0⟩))
 | none=>∃ j:Nat,j≤s.length+1∧((∃ t,z=some (.done (t,⟨s,(j:Int),20⟩)))∨z=some (.go (s,(j:Int),20)))
def zuz (s:List UInt8) (z:Option (List UInt8 × RR)):Option (List UInt8 × List UInt8)→Prop
 | some (t,r2)=>∃ j,At s r2 j∧z=some (t,⟨s,(j:Int),0⟩)
 | none=>∃ t,∃ j:Nat,j≤s.length+1∧z=some (t,⟨s,(j:Int),20⟩)
theorem zil (hs:s.length<1000000):∀ (f:Nat) (r acc:List UInt8) (i:Nat),r.length<f→At s r i→acc.length+4*r.length<1000000000→zxr s (M.z0g (unb acc) s (i:Int) 0) (txt f r acc):=by
 intro f
 induction f with
 | zero=>intro r acc i hf;omega
 | succ f ih =>
  intro r acc i hf h ha
  have hl:=h.len
  rw [M.z0g.eq_1]
  simp only [decide_true,if_true,z3e 0 h,ya,yb]
  cases r with
  | nil =>
   rw [txt]
   refine ⟨i,by omega,.inr ?_⟩
   simp [hd,z0o,z5u]
  | cons c r =>
   obtain ⟨g1,g2,g3⟩:=h.cons
   simp only [yi] at hf hl ha
   have t34:((c.toNat:Int)=34)↔c=34:=toNat_eq (n:=34) (by omega)
   have t92:((c.toNat:Int)=92)↔c=92:=toNat_eq (n:=92) (by omega)
   have t32:((c.toNat:Int)<32)↔c.toNat<32:=by omega
   simp only [hd,t34,t92,t32]
   rw [txt]
   by_cases c34:c=34
   ·subst c34
    have n32:¬(34:UInt8).toNat<32:=by decide
    simp only [n32,if_false,if_true,decide_true,zrn acc,yb]
    rw [w1 (by omega)]
    cases hv:Lib.validD acc with
    | true=>exact ⟨i+1,g2,by simp [zaw]⟩
    | false=>exact ⟨i+1,by omega,.inl ⟨acc,by simp [zaw,z0o]⟩⟩
   ·by_cases c32:c.toNat<32
    ·simp only [c32,c34,if_true,decide_true,decide_false,yd,if_false,z0o,yb]
     exact ⟨i,by omega,.inr z5u⟩
    ·by_cases c92:c=92
     ·subst c92
      have he:=zcu hs h
      simp only [c32,c34,if_true,decide_true,decide_false,yd,if_false]
      cases hx:zai (92::r) with
      | none =>
       rw [hx] at he
       obtain ⟨j,j1,j2⟩:=he
       simp only [j2,yb]
       have ea:app 1 (unb acc) (unb [])=some (unb acc++unb []):=z1v (by simp [unb];omega)
       simp only [ea,yb]
       exact ⟨j,by omega,.inr z5u⟩
      | some p =>
       obtain ⟨t,r2⟩:=p
       rw [hx] at he
       obtain ⟨j,j1,j2⟩:=he
       have hle:=zan hx
       simp only [yi] at hle
       have ea:app 1 (unb acc) (unb t)=some (unb acc++unb t):=z1v (by simp [unb];omega)
       simp only [j2,yb,ea]
       rw [←z34]
       exact ih r2 (acc++t) j (by omega) j1 (by simp;omega)
     ·simp only [c32,c34,c92,if_true,decide_true,decide_false,yd,if_false]
      have ea:app 1 (unb acc) [(c.toNat:Int)]=some (unb acc++[(c.toNat:Int)]):=z1v (by simp [unb];omega)
      simp only [ea,yb]
      rw [w1 (by omega),show unb acc++[(c.toNat:Int)]=unb (acc++[c]) by simp [unb]]
      exact ih r (acc++[c]) (i+1) (by omega) g2 (by simp;omega)
theorem zby (hs:s.length<1000000) (h:At s r i):zuz s (M.q3k ⟨s,(i:Int),0⟩) (text r):=by
 have hl:=h.len
 unfold M.q3k
 simp only [z3e 0 h,ya,yb]
 cases r with
 | nil=>exact ⟨[],i,by omega,by simp [hd,z0o]⟩
 | cons c r =>
  obtain ⟨_,g2,_⟩:=h.cons
  have t34:((c.toNat:Int)=34)↔c=34:=toNat_eq (n:=34) (by omega)
  simp only [hd,t34]
  by_cases c34:c=34
  ·rw [show text (c::r)=txt (r.length+1) r [] by simp [text,c34]]
   simp only [c34,decide_true,ye,yd,if_false,if_true]
   rw [w1 (by omega)]
   have hk:=zil hs (r.length+1) r [] (i+1) (by omega) g2 (by simp only [yi] at hl;simp;omega)
   have e0:unb ([]:List UInt8)=[]:=rfl
   rw [e0] at hk
   cases hx:txt (r.length+1) r [] with
   | none =>
    rw [hx] at hk
    obtain ⟨j,j1,j2⟩:=hk
    rcases j2 with ⟨t,j2⟩|j2
    ·exact ⟨t,j,j1,by simp only [j2,yb]⟩
    ·exact ⟨[],j,j1,by simp only [j2,yb]⟩
   | some p =>
    obtain ⟨t,r2⟩:=p
    rw [hx] at hk
    obtain ⟨j,j1,j2⟩:=hk
    exact ⟨j,j1,by simp only [j2,yb]⟩
  ·rw [zp8 c34]
   exact ⟨[],i,by omega,by simp [c34,z0o]⟩
theorem zin (hs:s.length<1000000) (e:Int) (h:At s r i):M.z0d ⟨s,(i:Int),e⟩ 0=some (
  if ([110,117,108,108]:List UInt8).isPrefixOf r=true then .done (⟨0,[],[],[]⟩,⟨s,((i+4:Nat):Int),e⟩)
  else if ([102,97,108,115,101]:List UInt8).isPrefixOf r=true then .done (⟨1,[],[],[]⟩,⟨s,((i+5:Nat):Int),e⟩)
  else if ([116,114,117,101]:List UInt8).isPrefixOf r=true then .done (⟨2,[],[],[]⟩,⟨s,((i+4:Nat):Int),e⟩)
  else .go ()):=by
 have hl:=h.len
 have st:∀ (k:Nat) (p:List UInt8),k<3→p.length<10→([([110,117,108,108]:List UInt8),([102,97,108,115,101]:List UInt8),([116,114,117,101]:List UInt8)])[k]? = some p →
   M.z0d ⟨s,(i:Int),e⟩ (k:Int)=if p.isPrefixOf r=true then some (.done (⟨(k:Int),[],[],[]⟩,⟨s,((i+p.length:Nat):Int),e⟩)) else M.z0d ⟨s,(i:Int),e⟩ ((k+1:Nat):Int):=by
  intro k p hk hp hx
  rw [M.z0d.eq_1]
  have hk2:((k:Int)<3):=by omega
  have e1:yk .i64 ((s.length:Int) - (i:Int))=(r.length:Int):=by rw [w64]<;>omega
  rw [e1,w1 (by omega)]
  have e5:yk .i64 ((i:Int)+(p.length:Int))=((i+p.length:Nat):Int):=zwv (by omega)
  simp only [hk2,decide_true,if_true,z2r,hx,ya,yb,e5]
  by_cases hle:p.length≤r.length
  ·have e2:sub s (i:Int) ((i+p.length:Nat):Int)=some (r.take p.length):=by
    rw [zj1 (by omega) (by omega),yg,h.1]
    congr 2
    omega
   have e3:((p.length:Int)≤(r.length:Int)):=by omega
   simp only [e3,decide_true,if_true,e2,yb,zkm]
  ·have e3:¬((p.length:Int)≤(r.length:Int)):=by omega
   have e4:p.isPrefixOf r=false:=by
    cases hq:p.isPrefixOf r with
    | false=>rfl
    | true=>exact (hle (z5t hq)).elim
   simp only [e3,e4,decide_false,yd,if_false,yb]
 have en:M.z0d ⟨s,(i:Int),e⟩ ((3:Nat):Int)=some (.go ()):=by
  rw [M.z0d.eq_1]
  simp
 have s0:M.z0d ⟨s,(i:Int),e⟩ 0=_:=st 0 [110,117,108,108] (by omega) (by decide) rfl
 rw [s0,st 1 [102,97,108,115,101] (by omega) (by decide) rfl,st 2 [116,114,117,101] (by omega) (by decide) rfl,en]
 simp only [yi,yj]
 split
 ·rfl
 ·split
  ·rfl
  ·split<;>rfl
def zv1 (s:List UInt8) (z:Option (q03 × RR)):Rd→Prop
 | .ok (x,r2)=>∃ r1 j,At s r1 j∧z0b r1=r2∧z=some (x,⟨s,(j:Int),0⟩)
 | .pan c=>c=20∧∃ x,∃ j:Nat,j≤s.length∧z=some (x,⟨s,(j:Int),20⟩)
theorem zim (hs:s.length<1000000) (h:At s r i):zv1 s (M.q3m ⟨s,(i:Int),0⟩) (word r):=by
 have hl:=h.len
 unfold M.q3m word take
 rw [zin hs 0 h]
 by_cases p1:([110,117,108,108]:List UInt8).isPrefixOf r=true
 ·have:=z5t p1
  simp only [p1,if_true,ya,yb]
  exact ⟨_,i+4,h.drop this,rfl,rfl⟩
 ·by_cases p2:([102,97,108,115,101]:List UInt8).isPrefixOf r=true
  ·have:=z5t p2
   simp only [p1,p2,if_true,ya,yb,if_false,yd]
   exact ⟨_,i+5,h.drop this,rfl,rfl⟩
  ·by_cases p3:([116,114,117,101]:List UInt8).isPrefixOf r=true
   ·have:=z5t p3
    simp only [p1,p2,p3,if_true,ya,yb,if_false,yd]
    exact ⟨_,i+4,h.drop this,rfl,rfl⟩
   ·have e1:sub s (i:Int) (s.length:Int)=some r:=by rw [z8b (by omega),h.1]
    simp only [p1,p2,p3,ya,yb,if_false,yd,e1]
    rw [zeu (by omega)]
    simp only [yb]
    have hn:=zgl r
    by_cases hz:num r=0
    ·have hz2:((num r:Nat):Int)=0:=by omega
     simp only [hz,if_true]
     exact ⟨rfl,⟨0,[],[],[]⟩,i,by omega,by simp [z0o]⟩
    ·have hz2:¬((num r:Nat):Int)=0:=by omega
     have e2:yk .i64 ((i:Int)+((num r:Nat):Int))=((i+num r:Nat):Int):=zwv (by omega)
     have e3:yk .i64 (((i+num r:Nat):Int) - ((num r:Nat):Int))=(i:Int):=by rw [w64]<;>omega
     have e4:sub s (i:Int) ((i+num r:Nat):Int)=some (r.take (num r)):=by
      rw [zj1 (by omega) (by omega),yg,h.1]
      congr 2
      omega
     simp only [hz,hz2,if_false,decide_false,yd,e2,e3,e4,yb]
     exact ⟨_,i+num r,h.drop hn,rfl,rfl⟩
end
end Go.Sen
