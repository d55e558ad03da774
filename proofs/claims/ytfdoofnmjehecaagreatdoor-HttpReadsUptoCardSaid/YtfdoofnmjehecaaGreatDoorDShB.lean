import Derived.Test.YtfdoofnmjehecaaGreatDoorDHtP7
import Derived.Lib.AtoiAllCases
set_option linter.all false
section
namespace Go.Sen
open _root_.Option renaming bind_eq_bind → ya, bind_some → yb
open _root_.Bool renaming and_eq_true → yc, true_and → yd
open _root_.List renaming all_eq_true → ye
open Go.Lk Go.Pe
theorem zx7 {α R X:Type} {l:List α} {p:α→Bool} {F:Int→Option (Jn R X)} (d:Nat→R) (x0:X) (hl:l.length<1152921504606846976)
  (hF:∀ (i:Nat) (h:i<l.length),F (i:Int)=if p l[i]=true then some (.done (d i)) else F (IntKind.wrap .i64 ((i:Int)+1))) (hE:F (l.length:Int)=some (.go x0)) :
  F 0=some (match l.findIdx? p with|some i => .done (d i)|none => .go x0):=by
 have key:∀ (n i:Nat),l.length - i=n→i≤l.length→F (i:Int)=some (match (l.drop i).findIdx? p with|some k => .done (d (i+k))|none => .go x0):=by
  intro n
  induction n with
  | zero =>
   intro i h1 h2
   have:i=l.length:=by omega
   subst this
   simp [hE]
  | succ n ih =>
   intro i h1 h2
   have hi:i<l.length:=by omega
   rw [hF i hi,zo3 hi,List.findIdx?_cons]
   cases hp:p l[i] with
   | true=>simp
   | false =>
    rw [w1 (by omega),ih (i+1) (by omega) (by omega)]
    simp only [Bool.false_eq_true,if_false]
    cases (l.drop (i+1)).findIdx? p with
    | none=>rfl
    | some k=>simp [Nat.add_assoc,Nat.add_comm 1 k]
 have:=key _ 0 rfl (Nat.zero_le _)
 simpa using this
theorem zds {α:Type} (l:List α) (p:α→Bool):(l.findIdx? (fun x => !p x)=none∧l.all p=true)∨∃ i,l.findIdx? (fun x => !p x)=some i∧l.all p=false:=by
 have e:l.all p = !(l.any fun x => !p x):=by rw [List.all_eq_not_any_not]
 have:=List.findIdx?_isSome (xs:=l) (p:=fun x => !p x)
 cases h:l.findIdx? (fun x => !p x) with
 | none=>rw [h] at this;exact .inl ⟨rfl,by rw [e,←this];rfl⟩
 | some i=>rw [h] at this;exact .inr ⟨i,rfl,by rw [e,←this];rfl⟩
theorem zcw {α:Type} (p:α→Bool) (l:List α):l.dropWhile p=[]↔l.all p=true:=by
 induction l with
 | nil=>simp
 | cons a l ih =>
  rw [List.dropWhile_cons]
  cases h:p a<;>simp [h,ih]
theorem zgn {l cs:Z}:decide (Lib.trimS l cs=[])=l.all cs.contains:=by
 rw [Bool.eq_iff_iff,decide_eq_true_iff,znf,ye]
theorem zif {l cs:Z} (hl:l.length≤9223372036854775807) (hc:(decide (cs.length<4294967281)&&cs.all fun b=>decide (b.toNat<128))=true):M.trim l cs=some (Lib.trimS l cs):=by
 unfold M.trim
 rw [z5t]
 ·rfl
 ·simp only [yc] at hc ⊢
  exact ⟨by simpa using hl,hc⟩
def z86 (lo hi:Nat) (s:Z):Bool:=s.all fun b=>decide (lo≤b.toNat)&&decide (b.toNat≤hi)
theorem zaa {s:Z} (lo hi:Nat) (hs:s.length<1152921504606846976):M.q1x s (lo:Int) (hi:Int)=some (z86 lo hi s):=by
 unfold M.q1x
 have hk:M.z0n s (lo:Int) (hi:Int) 0=some (match s.findIdx? (fun b => !(decide (lo≤b.toNat)&&decide (b.toNat≤hi))) with|some i => .done false|none => .go ()):=by
  refine zx7 (fun _=>false) () hs (fun i h => ?_) ?_
  ·rw [M.z0n]
   have h1:((i:Int)<(s.length:Int)):=by omega
   simp only [h1,decide_true,if_true,zak,List.getElem?_eq_getElem h,ya,yb]
   by_cases a:lo≤(s[i]).toNat
   ·have a':¬(((s[i]).toNat:Int)<(lo:Int)):=by omega
    by_cases b:(s[i]).toNat≤hi
    ·have b':¬((hi:Int)<((s[i]).toNat:Int)):=by omega
     simp [a,a',b,b']
    ·have b':((hi:Int)<((s[i]).toNat:Int)):=by omega
     simp [a,a',b,b']
   ·have a':(((s[i]).toNat:Int)<(lo:Int)):=by omega
    simp [a,a']
  ·rw [M.z0n]
   simp
 simp only [ya,hk,yb]
 unfold z86
 rcases zds s (fun b=>decide (lo≤b.toNat)&&decide (b.toNat≤hi)) with ⟨h1,h2⟩|⟨i,h1,h2⟩
 ·rw [h1,h2]
 ·rw [h1,h2]
def isA (b:UInt8):Bool:=decide (65≤b.toNat)&&decide (b.toNat≤90)
def z96 (s:Z):Bool := !decide (s=[])&&decide (s.length≤8)&&s.all isA
def z5s:Z:=[65,66,67,68,69,70,71,72,73,74,75,76,77,78,79,80,81,82,83,84,85,86,87,88,89,90]
theorem zny:∀ b:UInt8,z5s.contains b=isA b:=zb4 (by decide +kernel)
theorem zcf (s:Z):M.q1o s=some (z96 s):=by
 unfold M.q1o z96
 by_cases h:s=[]
 ·subst h;simp
 ·by_cases h8:s.length≤8
  ·have e:M.trim s z5s=some (Lib.trimS s z5s):=zif (by omega) (by decide)
   have e2:decide (Lib.trimS s z5s=[])=s.all isA:=by rw [zgn];congr 1;funext b;exact zny b
   have h8':((s.length:Int)≤8):=by omega
   unfold z5s at e e2
   simp [h,h8',h8,e]
   simpa using e2
  ·have h8':¬((s.length:Int)≤8):=by omega
   simp [h8',h8]
def isN (b:UInt8):Bool:=decide (97≤b.toNat)&&decide (b.toNat≤122)||isD b||decide (b=45)
def zep (s:Z):Bool := !decide (s=[])&&decide (s.length≤32)&&s.all isN
def zvb:Z:=[97,98,99,100,101,102,103,104,105,106,107,108,109,110,111,112,113,114,115,116,117,118,119,120,121,122,48,49,50,51,52,53,54,55,56,57,45]
theorem zpq:∀ b:UInt8,zvb.contains b=isN b:=zb4 (by decide +kernel)
theorem zfm (s:Z):M.q1q s=some (zep s):=by
 unfold M.q1q zep
 by_cases h:s=[]
 ·subst h;simp
 ·by_cases h8:s.length≤32
  ·have e:M.trim s zvb=some (Lib.trimS s zvb):=zif (by omega) (by decide)
   have e2:decide (Lib.trimS s zvb=[])=s.all isN:=by rw [zgn];congr 1;funext b;exact zpq b
   have h8':((s.length:Int)≤32):=by omega
   unfold zvb at e e2
   simp [h,h8',h8,e]
   simpa using e2
  ·have h8':¬((s.length:Int)≤32):=by omega
   simp [h8',h8]
def bare (s:Z):Z:=Lib.trimS s [32]
def isVal (s:Z):Bool:=z86 32 126 s&&decide (bare s=s)
theorem zdy {s:Z} (hs:s.length<1152921504606846976):M.q2t s=some (isVal s):=by
 unfold M.q2t isVal
 have h1:M.q1x s 32 126=some (z86 32 126 s):=zaa 32 126 hs
 have h2:M.trim s [32]=some (Lib.trimS s [32]):=zif (by omega) (by decide)
 rw [h1]
 cases h:z86 32 126 s
 ·simp
 ·simp only [ya,yb,if_true,h2,yd,bare]
  exact congrArg some (decide_eq_decide.2 Iff.rfl)
def isNum (k:Nat) (s:Z):Bool := !decide (s=[])&&s.all isD&&decide (s.length≤k)&&(!decide (s.head? = some 48)||decide (s.length=1))
def numV (s:Z):Int:=match Lib.atoiAll s with
 | .ok v=>v
 | .range=>Lib.atoiSat s
 | _=>0
theorem zj8 (n:Nat):Lib.itoa (n:Int)=Lib.decDigits n:=by unfold Lib.itoa;rw [if_neg (by omega)];simp
theorem ztw {n:Nat} (h:n<1000000000000000000):M.itoa (n:Int)=some (Lib.decDigits n):=by
 unfold M.itoa
 rw [z5t (by simp;omega),zj8]
 rfl
theorem zsb {n:Nat} (h:n≤15):10 ^ n≤1000000000000000:=by
 have:=Nat.pow_le_pow_right (n:=10) (by decide) h
 omega
theorem zm6 {k:Nat} {s:Z} (h:isNum k s=true) (hk:k≤15):Lib.atoiAll s = .ok ((z8w 0 s:Nat):Int)∧z8w 0 s<10 ^ s.length∧Lib.decDigits (z8w 0 s)=s:=by
 unfold isNum at h
 simp only [yc,Bool.not_eq_true',decide_eq_false_iff_not,decide_eq_true_eq,Bool.or_eq_true] at h
 obtain ⟨⟨⟨h1,h2⟩,h3⟩,h4⟩:=h
 have hd:∀ c∈s,isD c=true:=ye.1 h2
 have hlt:=zlr s 0 0 hd (by decide)
 rw [Nat.zero_add] at hlt
 have hp:=zsb (n:=s.length) (by omega)
 refine ⟨?_,hlt,zdq _ s rfl hd h1 (fun e => ?_)⟩
 ·cases s with
  | nil=>exact absurd rfl h1
  | cons c r =>
   have hc:=zfn (hd c (by simp))
   unfold Lib.atoiAll
   simp only
   rw [if_neg (by omega),zhw (by omega),if_neg h1,if_pos h2]
   simp only
   rw [if_neg (by omega),if_neg (by omega),if_neg (by omega)]
 ·rcases h4 with h4|h4
  ·exact absurd e h4
  ·exact h4
theorem zs7 {k:Nat} {s:Z} (h:isNum k s=false) (hk:k≤15) (hl:s.length≤k):∀ v,Lib.atoiAll s = .ok v→0≤v→Lib.itoa v≠s:=by
 intro v hv h0 he
 obtain ⟨n,rfl⟩:∃ n:Nat,v=n:=⟨v.toNat,by omega⟩
 rw [zj8] at he
 obtain ⟨d1,d2,d3⟩:=zay n n (Nat.le_refl _)
 rw [he] at d1 d2 d3
 have ha:s.all isD=true:=ye.2 d1
 unfold isNum at h
 have hh:¬(¬s.head? = some 48∨s.length=1):=fun hh=>by
  have:(!decide (s.head? = some 48)||decide (s.length=1))=true:=by simpa using hh
  rw [ha,this] at h
  simp [d2,hl] at h
 have hz:=d3 (Classical.byContradiction fun q=>hh (.inl q))
 subst hz
 have:Lib.decDigits 0=[48]:=Lib.decDigits_one (i:=0) (by decide)
 rw [this] at he
 exact hh (.inr (by rw [←he];rfl))
theorem zcg {s:Z} (k:Nat) (hk:k≤15) (hs:s.length≤281474976710656):∃ v,M.q1t s (k:Int)=some (v,isNum k s)∧(isNum k s=true→v=((z8w 0 s:Nat):Int)):=by
 unfold M.q1t
 have ha:M.atoi s=(match Lib.atoiAll s with
  | .ok v=>some (v,true)
  | .range=>some (Lib.atoiSat s,false)
  | _=>some (0,false)):=by
  unfold M.atoi
  rw [z5t (by simpa using hs)]
  rfl
 rw [ha]
 cases hn:isNum k s with
 | true =>
  obtain ⟨h1,h2,h3⟩:=zm6 hn hk
  have hp:=zsb (n:=s.length) (by unfold isNum at hn;simp at hn;omega)
  have hl:((s.length:Int)≤(k:Int)):=by unfold isNum at hn;simp at hn;omega
  refine ⟨((z8w 0 s:Nat):Int),?_,fun _=>rfl⟩
  rw [h1]
  have h0:((0:Int)≤((z8w 0 s:Nat):Int)):=by omega
  simp only [ya,yb,yd,hl,h0,decide_true,if_true,Bool.and_self]
  rw [ztw (by omega)]
  simp [h3]
 | false =>
  have hno:=zs7 hn hk
  rcases hv:Lib.atoiAll s with v|_|_
  ·refine ⟨v,?_,fun q=>by cases q⟩
   simp only [ya,yb,yd]
   by_cases hl:((s.length:Int)≤(k:Int))
   ·by_cases h0:(0:Int)≤v
    ·have hne:=hno (by omega) v hv h0
     obtain ⟨n,rfl⟩:∃ n:Nat,v=n:=⟨v.toNat,by omega⟩
     have hb:=Lib.atoiAll_bounds hv
     simp only [hl,h0,decide_true,Bool.and_self,if_true]
     unfold M.itoa
     rw [z5t (by simp;omega)]
     simp [hne]
    ·simp [h0]
   ·simp [hl]
  ·exact ⟨_,rfl,fun q=>by cases q⟩
  ·exact ⟨_,rfl,fun q=>by cases q⟩
end Go.Sen
end
section
namespace Go.Sen
open _root_.Option renaming bind_eq_bind → ya, bind_some → yb
open _root_.Bool renaming eq_iff_iff → yc, false_eq_true → yd, not_false → ye, not_true → yf
open _root_.List renaming eq_nil_of_length_eq_zero → yg, length_cons → yh
open _root_.Int renaming tmod → yi
open IntKind renaming wrap → yj
open _root_.UInt8 renaming ofNat → yk
open Go.Lk Go.Pe
def z1d:Z→Option Z
 | []=>some []
 | c::r=>if c=37 then (match r with
  | x::y::t=>match zc7 x,zc7 y with
   | some a,some b=>(z1d t).map (yk (16*a+b) :: ·)
   | _,_=>none
  | _=>none) else (z1d r).map (c :: ·)
theorem zd3 {c:UInt8} (h:¬c=37) (r:Z):z1d (c::r)=(z1d r).map (c :: ·):=by
 conv=>lhs;unfold z1d
 rw [if_neg h]
theorem zb7 (x y:UInt8) (t:Z):z1d (37::x::y::t)=match zc7 x,zc7 y with
  | some a,some b=>(z1d t).map (yk (16*a+b) :: ·)
  | _,_=>none:=by
 conv=>lhs;unfold z1d
 rw [if_pos rfl]
theorem zfc:z1d [37]=none:=by unfold z1d;rfl
theorem zfd (x:UInt8):z1d [37,x]=none:=by unfold z1d;rfl
theorem zb6:∀ s:Z,((z18 37 s).2.2=false→z1d s=some s∧(z18 37 s).1=s)∧((z18 37 s).2.2=true→z1d s=(z1d (37::(z18 37 s).2.1)).map ((z18 37 s).1 ++ ·))
 | []=>by simp [z18,z1d]
 | c::r=>by
  have ih:=zb6 r
  rw [z2q]
  by_cases hc:c=37
  ·subst hc
   simp
  ·rw [if_neg hc,zd3 hc]
   refine ⟨fun h => ?_,fun h => ?_⟩
   ·obtain ⟨h1,h2⟩:=ih.1 h
    rw [h1]
    simp [h2]
   ·rw [ih.2 h,Option.map_map]
    rfl
def z8r:Z:=[48,49,50,51,52,53,54,55,56,57,97,98,99,100,101,102,95,95,95,95,95,95,95,95,95,95,65,66,67,68,69,70]
def ixS (c:UInt8):Int:=Lib.idxFunc (fun r=>decide ((r:Int) % 256=(c.toNat:Int))) true ⟨z8r.toArray⟩
theorem zm8:∀ c:UInt8,(match zc7 c with
  | some d=>decide (0≤ixS c)&&decide (yi (ixS c) 16=(d:Int))&&decide (c.toNat<128) && !decide (c=95)
  | none=>decide (ixS c<0)||decide (c=95))=true:=zb4 (by decide +kernel)
theorem ztc:∀ a b:Fin 16,yj .u8 (orI .i64 (z8q .i64 ((a.val:Nat):Int) 4) ((b.val:Nat):Int))=((16*a.val+b.val:Nat):Int):=by decide +kernel
theorem z97 {c:UInt8} {d:Nat} (h:zc7 c=some d):0≤ixS c∧yi (ixS c) 16=(d:Int)∧c.toNat<128∧¬c=95:=by
 have:=zm8 c
 rw [h] at this
 simp only [Bool.and_eq_true,decide_eq_true_eq,Bool.not_eq_true',decide_eq_false_iff_not] at this
 exact ⟨this.1.1.1,this.1.1.2,this.1.2,this.2⟩
theorem ze0 {c:UInt8} (h:zc7 c=none):ixS c<0∨c=95:=by
 have:=zm8 c
 rw [h] at this
 simpa using this
theorem zm7 {c:UInt8} (h:0≤ixS c):c.toNat<128:=by
 cases hx:zc7 c with
 | some d=>exact (z97 hx).2.2.1
 | none =>
  rcases ze0 hx with h1|h1
  ·omega
  ·subst h1;decide
theorem zw5 (c:UInt8):M.z1m z8r (c.toNat:Int)=some (ixS c):=by unfold M.z1m ixS;rfl
theorem znp (x y:UInt8) (t:Z):M.q0o (x::y::t) z8r=some (yj .u8 (orI .i64 (z8q .i64 (yi (ixS x) 16) 4) (yi (ixS y) 16)),decide (0≤ixS x)&&decide (0≤ixS y)):=by
 unfold M.q0o
 have h:¬(((x::y::t).length:Int)<2):=by simp;omega
 simp only [h,decide_false,yd,if_false,zoh,zwq,List.getElem?_cons_zero,List.getElem?_cons_succ,ya,yb,zw5]
theorem zaw (s cs:Z):Lib.containsAny s cs=s.any cs.contains:=by
 unfold Lib.containsAny
 induction s with
 | nil=>simp [Lib.indexAny]
 | cons b l ih =>
  have hge:=Lib.indexAny_ge cs l
  rw [Lib.indexAny,List.any_cons,←ih]
  cases h:cs.contains b with
  | true=>simp
  | false =>
   simp only [yd,if_false,Bool.false_or]
   by_cases hm:Lib.indexAny l cs = -1
   ·simp [hm]
   ·rw [if_neg (by simpa using hm),yc,decide_eq_true_iff,decide_eq_true_iff]
    omega
theorem zw7 {x y:UInt8} (hx:x.toNat<128) (hy:y.toNat<128):M.containsAny [x,y] [95]=some (decide (x=95)||decide (y=95)):=by
 unfold M.containsAny
 rw [z5t (by simp [hx,hy]),zaw]
 simp [yc,eq_comm]
theorem z7o {a b:Z} (h:a.length+b.length<1000000000000):M.q71 (unb a) b=some ((b.length:Int),unb (a++b)):=by
 rw [zcl (by rw [z3m];omega),za2]
theorem zcc:∀ (n:Nat) (s a:Z),s.length≤n→a.length+s.length<4294967281→M.zk s (unb a)=some (match z1d s with|some t=>(a++t,0)|none=>([],12)):=by
 intro n
 induction n with
 | zero =>
  intro s a hn hl
  have:s=[]:=yg (by omega)
  subst this
  rw [M.zk,zl6 37 (by simp)]
  simp only [cutb_nil,ya,yb]
  rw [z7o (by simp at hl ⊢;omega)]
  simp [z6j,z1d]
 | succ n ih =>
  intro s a hn hl
  have hcl:=z5i 37 s
  have hf:=zb6 s
  rw [M.zk,zl6 37 (by omega)]
  simp only [ya,yb]
  rw [z7o (by omega)]
  simp only [yb]
  cases hb:(z18 37 s).2.2 with
  | false =>
   obtain ⟨h1,h2⟩:=hf.1 hb
   simp only [ye,if_true]
   rw [z6j,h1,h2]
   rfl
  | true =>
   have h1:=hf.2 hb
   have hl2:=hcl.2 hb
   simp only [yf,yd,if_false]
   obtain ⟨p,hp⟩:∃ p,(z18 37 s).1=p:=⟨_,rfl⟩
   obtain ⟨r,hr⟩:∃ r,(z18 37 s).2.1=r:=⟨_,rfl⟩
   rw [hp,hr] at h1 hl2
   rw [hp,hr,h1]
   have sx:([48,49,50,51,52,53,54,55,56,57,97,98,99,100,101,102,95,95,95,95,95,95,95,95,95,95,65,66,67,68,69,70]:Z)=z8r:=rfl
   rw [sx]
   match r,hl2 with
   | [],_ =>
    have:M.q0o [] z8r=some (0,false):=by simp [M.q0o]
    simp [this,zfc]
   | [x],_ =>
    have:M.q0o [x] z8r=some (0,false):=by simp [M.q0o]
    simp [this,zfd]
   | x::y::t,hl2 =>
    simp only [yh] at hl2
    rw [znp,zb7]
    simp only [yb]
    have hsub:sub (x::y::t) 0 2=some [x,y]:=by
     have:=zib (l:=x::y::t) (a:=2) (by simp)
     simpa using this
    have hsub2:sub (x::y::t) 2 ((x::y::t).length:Int)=some t:=by
     have:=zpu (l:=x::y::t) (a:=2) (by simp)
     simpa using this
    by_cases h0:0≤ixS x∧0≤ixS y
    ·have e0:(decide (0≤ixS x)&&decide (0≤ixS y))=true:=by simp [h0]
     simp only [e0,yf,yd,if_false,hsub,yb]
     rw [zw7 (zm7 h0.1) (zm7 h0.2)]
     simp only [yb]
     cases hx:zc7 x with
     | none =>
      have:x=95:=(ze0 hx).resolve_left (by omega)
      simp [this]
     | some d1 =>
      cases hy:zc7 y with
      | none =>
       have:y=95:=(ze0 hy).resolve_left (by omega)
       simp [this]
      | some d2 =>
       obtain ⟨_,q1,_,q2⟩:=z97 hx
       obtain ⟨_,q3,_,q4⟩:=z97 hy
       have l1:=zdw x d1 hx
       have l2:=zdw y d2 hy
       have q5:=ztc ⟨d1,l1⟩ ⟨d2,l2⟩
       simp only [q2,q4,decide_false,Bool.or_self,yd,if_false,q1,q3]
       simp only at q5
       rw [q5]
       have q6:((16*d1+d2:Nat):Int)=((yk (16*d1+d2)).toNat:Int):=by simp;omega
       rw [q6,zgr (by rw [z3m,List.length_append];omega)]
       simp only [yb,hsub2]
       rw [ztf,←za2,ih t _ (by omega) (by simp;omega)]
       cases z1d t<;>simp
    ·have e0:(decide (0≤ixS x)&&decide (0≤ixS y))=false:=by
      rw [Bool.and_eq_false_iff]
      simp only [decide_eq_false_iff_not]
      by_cases q:0≤ixS x
      ·exact .inr fun q2=>h0 ⟨q,q2⟩
      ·exact .inl q
     simp only [e0,ye,if_true,yb]
     cases hx:zc7 x with
     | none=>simp
     | some d1 =>
      cases hy:zc7 y with
      | none=>simp
      | some d2=>exact (h0 ⟨(z97 hx).1,(z97 hy).1⟩).elim
theorem z3n {s:Z} (h:s.length<4294967281):M.q0l s=some (match z1d s with|some t=>(t,0)|none=>([],12)):=by
 unfold M.q0l
 have:=zcc _ s [] (Nat.le_refl _) (by simpa using h)
 simpa [unb] using this
def swp (s:Z):Z:=s.map fun b=>if b=43 then 32 else b
theorem zgb (c d:UInt8):∀ (n:Nat) (s:Z),s.length≤n→Lib.replaceK [c] [d] (s.count c) s=s.map fun b=>if b=c then d else b:=by
 intro n
 induction n with
 | zero =>
  intro s hn
  have:s=[]:=yg (by omega)
  subst this
  rfl
 | succ n ih =>
  intro s hn
  cases s with
  | nil=>rfl
  | cons x r =>
   simp only [yh] at hn
   have hr:=ih r (by omega)
   by_cases hx:x=c
   ·subst hx
    rw [List.count_cons_self,Lib.replaceK_hit [x] [d] _ _ 0 (by rw [z3u];simp)]
    simp [hr]
   ·rw [List.count_cons_of_ne (by simpa using hx),List.map_cons,if_neg hx,←hr]
    obtain ⟨k,hk⟩:∃ k,r.count c=k:=⟨_,rfl⟩
    rw [hk]
    cases k with
    | zero=>rfl
    | succ k =>
     have hge:=Lib.index_ge r [c]
     have hm:¬Lib.index r [c] = -1:=fun e=>by
      have h1:=Lib.count_one c r
      rw [Lib.count_miss e,hk] at h1
      omega
     obtain ⟨i,hi⟩:∃ i:Nat,Lib.index r [c]=i:=⟨(Lib.index r [c]).toNat,by omega⟩
     rw [Lib.replaceK_hit [c] [d] k r i hi,Lib.replaceK_hit [c] [d] k (x::r) (i+1) (by rw [z3u,if_neg hx,if_neg hm,hi];omega)]
     simp [Nat.add_right_comm]
theorem zw6 {s:Z} (h:s.length<4294967281):M.replaceAll s [43] [32]=some (swp s):=by
 unfold M.replaceAll
 rw [z5t (by simpa using h)]
 have e:Lib.replaceAll s [43] [32]=swp s:=by
  unfold Lib.replaceAll Lib.replace Lib.replaceNum swp
  rw [if_neg (by decide),if_pos (.inl (by decide)),Lib.count_one,zgb 43 32 _ s (Nat.le_refl _)]
 rw [←e]
 rfl
def z88:List Z→List q05→List q05 × Int
 | [],a=>(a,0)
 | p::r,a=>if p=[] then ([],13) else match z1d (z18 61 (swp p)).1,z1d (z18 61 (swp p)).2.1 with
  | some x,some y=>z88 r (a++[⟨x,y⟩])
  | _,_=>([],12)
def z3l (s:Z):List q05 × Int:=if 8192<s.length∨64<(z16 38 s).length then ([],14) else if s=[] then ([],0) else z88 (z16 38 s) []
theorem z4l (c:UInt8):∀ (s x:Z),x∈z16 c s→x.length≤s.length
 | [],x,h=>by simp [z16] at h;simp [h]
 | y::r,x,h=>by
  have ih:=z4l c r
  unfold z16 at h
  split at h
  ·rcases List.mem_cons.1 h with rfl|h
   ·simp
   ·have:=ih x h;simp;omega
  ·obtain ⟨a,t,e⟩:=zgl c r
   rw [e] at h ih
   simp only at h
   rcases List.mem_cons.1 h with rfl|h
   ·have:=ih a (by simp);simp;omega
   ·have:=ih x (by simp [h]);simp;omega
theorem za0 (c:UInt8):∀ s:Z,(z16 c s).length≤s.length+1
 | []=>by simp [z16]
 | y::r=>by
  have ih:=za0 c r
  unfold z16
  split
  ·simp;omega
  ·obtain ⟨a,t,e⟩:=zgl c r
   rw [e] at ih ⊢
   simp at ih ⊢
   omega
theorem zee (s:Z):(swp s).length=s.length:=by simp [swp]
theorem zh9 {l:List Z} (hl:l.length<1000000) (hm:∀ x∈l,x.length<1000000):∀ (n i:Nat) (a:List q05),l.length - i=n→i≤l.length→a.length≤i →
  M.zo l a (i:Int)=some (match z88 (l.drop i) a with|(r,e)=>if e=0 then .go r else .done (r,e)):=by
 intro n
 induction n with
 | zero =>
  intro i a hn hi ha
  rw [M.zo,List.drop_eq_nil_of_le (by omega)]
  have:¬((i:Int)<(l.length:Int)):=by omega
  simp [this,z88]
 | succ n ih =>
  intro i a hn hi ha
  have hlt:i<l.length:=by omega
  have h1:((i:Int)<(l.length:Int)):=by omega
  have hx:=hm l[i] (by simp)
  rw [M.zo,List.drop_eq_getElem_cons hlt]
  simp only [h1,decide_true,if_true,zak,List.getElem?_eq_getElem hlt,ya,yb]
  unfold z88
  by_cases he:l[i]=[]
  ·simp [he]
  ·have hc:=z5i 61 (swp l[i])
   rw [zee] at hc
   simp only [he,decide_false,yd,if_false]
   rw [zw6 (by omega)]
   simp only [yb]
   rw [zl6 61 (by rw [zee];omega)]
   simp only [yb]
   rw [z3n (by omega),z3n (by omega)]
   simp only [yb]
   cases h2:z1d (z18 61 (swp l[i])).1 with
   | none=>simp
   | some x =>
    cases h3:z1d (z18 61 (swp l[i])).2.1 with
    | none=>simp
    | some y =>
     simp only [decide_true,yf,Bool.or_self,yd,if_false]
     rw [z4p (by simp;omega),w1 (by omega)]
     simp only [yb]
     rw [ih (i+1) _ (by omega) (by omega) (by simp;omega)]
theorem z9q {s:Z} (h:s.length<1000000):M.q0k s=some (z3l s):=by
 unfold M.q0k z3l
 rw [zgv 38 (by omega)]
 simp only [ya,yb]
 by_cases hb:8192<s.length∨64<(z16 38 s).length
 ·have:(decide (8192<(s.length:Int))||decide (64<((z16 38 s).length:Int)))=true:=by
   rw [Bool.or_eq_true,decide_eq_true_iff,decide_eq_true_iff]
   omega
  simp [this,hb]
 ·have:(decide (8192<(s.length:Int))||decide (64<((z16 38 s).length:Int)))=false:=by
   rw [Bool.or_eq_false_iff,decide_eq_false_iff_not,decide_eq_false_iff_not]
   omega
  simp only [this,yd,if_false,hb]
  by_cases he:s=[]
  ·simp [he]
  ·have hk:=zh9 (l:=z16 38 s) (by omega) (fun x hx=>by have:=z4l 38 s x hx;omega) _ 0 [] rfl (Nat.zero_le _) (by simp)
   have hk:M.zo (z16 38 s) [] 0=_:=hk
   rw [hk,List.drop_zero]
   simp only [he,decide_false,yd,if_false,yb]
   rcases hp:z88 (z16 38 s) [] with ⟨r,e⟩
   simp only
   by_cases h0:e=0
   ·subst h0;simp
   ·simp [h0]
def zrg (l:List q05) (k v:Z):Z:=match l.find? (fun p=>decide (p.z13=k)) with
 | some p=>p.z3b
 | none=>v
def zqc (l:List q05) (k:Z):Nat:=l.countP fun p=>decide (p.z13=k)
theorem zm4 (p:q05) (l:List q05) (k v:Z):zrg (p::l) k v=if p.z13=k then p.z3b else zrg l k v:=by
 unfold zrg
 rw [List.find?_cons]
 by_cases h:p.z13=k<;>simp [h]
def zqd (l:List q05) (k:Z):Bool:=l.any fun p=>decide (p.z13=k)
theorem zoc (l:List q05) (k:Z):decide (0<zqc l k)=zqd l k:=by
 unfold zqc zqd
 rw [yc,decide_eq_true_iff,List.countP_pos_iff,List.any_eq_true]
end Go.Sen
end
