import Derived.Test.YtfdoofnmjehecaaGreatDoorPShE
set_option linter.all false
section
namespace Go.Sen
open _root_.Option renaming bind_eq_bind → ya, bind_some → yb
open _root_.Bool renaming false_eq_true → yc
open _root_.List renaming dropLast_concat_getLast → yd, dropWhile_cons → ye, dropWhile_sublist → yf, getElem?_eq_getElem → yg, length_cons → yh
open IntKind renaming wrap → yi
open Go.Lk Go.Pe
theorem zce {s:Z} (lo hi:Nat) (hs:s.length<1152921504606846976):M.q5l s (lo:Int) (hi:Int)=some (zaq lo hi s):=by
 unfold M.q5l
 have hk:M.z3v s (lo:Int) (hi:Int) 0=some (match s.findIdx? (fun b => !(decide (lo≤b.toNat)&&decide (b.toNat≤hi))) with|some i => .done false|none => .go ()):=by
  refine zuu (fun _=>false) () hs (fun i h => ?_) ?_
  ·rw [M.z3v.eq_1]
   have h1:((i:Int)<(s.length:Int)):=by omega
   simp only [h1,decide_true,if_true,zfj,yg h,ya,yb]
   by_cases a:lo≤(s[i]).toNat
   ·have a':¬(((s[i]).toNat:Int)<(lo:Int)):=by omega
    by_cases b:(s[i]).toNat≤hi
    ·have b':¬((hi:Int)<((s[i]).toNat:Int)):=by omega
     simp [a,a',b,b']
    ·have b':((hi:Int)<((s[i]).toNat:Int)):=by omega
     simp [a,a',b,b']
   ·have a':(((s[i]).toNat:Int)<(lo:Int)):=by omega
    simp [a,a']
  ·rw [M.z3v.eq_1]
   simp
 simp only [ya,hk,yb]
 unfold zaq
 rcases zct s (fun b=>decide (lo≤b.toNat)&&decide (b.toNat≤hi)) with ⟨h1,h2⟩|⟨i,h1,h2⟩
 ·rw [h1,h2]
 ·rw [h1,h2]
theorem zd9 {s:Z} (hs:s.length<1000000000):M.q62 s=some (z6g s):=by
 unfold M.q62 z6g
 have h1:M.q5l s 65 90=some (zaq 65 90 s):=zce 65 90 (by omega)
 have e:zaq 65 90 s=s.all isA:=rfl
 rw [h1,e]
 by_cases h0:s=[]
 ·simp [h0]
 ·by_cases h8:s.length≤8
  ·have h8':((s.length:Int)≤8):=by omega
   simp [h0,h8,h8']
  ·have h8':¬((s.length:Int)≤8):=by omega
   simp [h0,h8,h8']
theorem zph (b:UInt8):((((decide (97≤(b.toNat:Int)))&&(decide ((b.toNat:Int)≤122)))||((decide (48≤(b.toNat:Int)))&&(decide ((b.toNat:Int)≤57))))||(decide ((b.toNat:Int)=45)))=isN b:=by
 have:∀ b:UInt8,(((((decide (97≤(b.toNat:Int)))&&(decide ((b.toNat:Int)≤122)))||((decide (48≤(b.toNat:Int)))&&(decide ((b.toNat:Int)≤57))))||(decide ((b.toNat:Int)=45)))==isN b)=true:=za8 (by decide +kernel)
 exact eq_of_beq (this b)
theorem zgi {s:Z} (hs:s.length<1000000000):M.q63 s=some (zhf s):=by
 unfold M.q63
 have hk:M.z3l s 0=some (match s.findIdx? (fun b => !isN b) with|some i => .done false|none => .go ()):=by
  refine zuu (fun _=>false) () (by omega) (fun i h => ?_) ?_
  ·rw [M.z3l.eq_1]
   have h1:((i:Int)<(s.length:Int)):=by omega
   simp only [h1,decide_true,if_true,zfj,yg h,ya,yb,zph]
  ·rw [M.z3l.eq_1]
   simp
 simp only [ya,hk,yb]
 unfold zhf
 rcases zct s isN with ⟨h1,h2⟩|⟨i,h1,h2⟩
 ·rw [h1,h2]
  by_cases h32:s.length≤32
  ·have:((s.length:Int)≤32):=by omega
   simp [h32,this]
  ·have:¬((s.length:Int)≤32):=by omega
   simp [h32,this]
 ·rw [h1,h2]
  simp
def zej (b:UInt8):Bool:=decide (b=32)
theorem zm1 (s:Z):bare s=(s.reverse.dropWhile zej).reverse.dropWhile zej:=by
 have e:(fun b=>([32]:Z).contains b)=zej:=by
  funext b
  unfold zej
  simp
 unfold bare Lib.trimS Lib.trimLeftS Lib.trimRightS
 rw [←e]
theorem zi5 (s:Z):decide (bare s=s)=(decide (s=[])||(!decide (s.head? = some 32) && !decide (s.getLast? = some 32))):=by
 rw [zm1]
 cases s with
 | nil=>rfl
 | cons c r =>
  obtain ⟨r',d,hd⟩:∃ r' d,c::r=r'++[d]:=⟨(c::r).dropLast,(c::r).getLast (by simp),(yd _).symm⟩
  have hg:(c::r).getLast? = some d:=by rw [hd];simp
  rw [hg]
  by_cases h32:d=32
  ·subst h32
   have hr:(c::r).reverse=32::r'.reverse:=by rw [hd];simp
   have h2:=(yf zej (l:=r'.reverse)).length_le
   have h3:=(yf zej (l:=((c::r).reverse.dropWhile zej).reverse)).length_le
   rw [List.length_reverse] at h2 h3
   have hl:(c::r).length=r'.length+1:=by rw [hd];simp
   have:¬((c::r).reverse.dropWhile zej).reverse.dropWhile zej=c::r:=fun e=>by
    have e:=congrArg List.length e
    rw [hr,ye,if_pos (by simp [zej])] at h3
    rw [hr,ye,if_pos (by simp [zej])] at e
    omega
   rw [decide_eq_false this]
   simp
  ·have hr:(c::r).reverse=d::r'.reverse:=by rw [hd];simp
   have e1:((c::r).reverse.dropWhile zej).reverse=c::r:=by
    rw [hr,ye,if_neg (by simp [zej,h32]),←hr,List.reverse_reverse]
   rw [e1,ye]
   by_cases hc:c=32
   ·subst hc
    have h1:=(yf zej (l:=r)).length_le
    have:¬r.dropWhile zej=32::r:=fun e=>by
     have:=congrArg List.length e
     rw [yh] at this
     omega
    simp [zej,this]
   ·simp [zej,hc,h32]
theorem z9g {s:Z} (h:s.length<1000000000):M.q6m s=some (isVal s):=by
 unfold M.q6m isVal
 have h1:M.q5l s 32 126=some (zaq 32 126 s):=zce 32 126 (by omega)
 rw [h1,zi5]
 cases ha:zaq 32 126 s with
 | false=>rfl
 | true =>
  simp only [ya,yb,if_true,Bool.true_and]
  cases s with
  | nil=>rfl
  | cons c r =>
   obtain ⟨r',d,hd⟩:∃ r' d,c::r=r'++[d]:=⟨(c::r).dropLast,(c::r).getLast (by simp),(yd _).symm⟩
   have i0:ix (c::r) 0=some c:=by simp [zvu]
   have hl:(c::r).length=r'.length+1:=by rw [hd];simp
   have ew:yi .i64 (((c::r).length:Int) - 1)=((r'.length:Nat):Int):=by simp only [yh] at h hl ⊢;rw [w64 (by omega) (by omega)];omega
   have i1:(c::r)[r'.length]? = some d:=by rw [hd];simp
   have hg:(c::r).getLast? = some d:=by rw [hd];simp
   have hb:=zfn (c:=c) (n:=32) (by decide)
   have hb:((c.toNat:Int)=32)↔c=32:=hb
   have hb2:=zfn (c:=d) (n:=32) (by decide)
   have hb2:((d.toNat:Int)=32)↔d=32:=hb2
   have hne:¬(c::r)=[]:=by simp
   simp only [hne,decide_false,yc,if_false,i0,ew,zfj,i1,yb,Bool.false_or,hg,List.head?_cons,Option.some.injEq]
   by_cases q:c=32
   ·have q':=hb.2 q
    simp [q,q']
   ·have q':¬((c.toNat:Int)=32):=fun e=>q (hb.1 e)
    by_cases q2:d=32
    ·have q2':=hb2.2 q2
     simp [q,q',q2,q2']
    ·have q2':¬((d.toNat:Int)=32):=fun e=>q2 (hb2.1 e)
     simp [q,q',q2,q2']
theorem zq8 {l:List q05} {k:Z} (hl:l.length<1000000000):∀ (m i:Nat) (v:Z) (n:Nat),l.length - i=m→i≤l.length→n≤i →
  M.z34 l k v (n:Int) (i:Int)=some (if n=0 then zhd (l.drop i) k v else v,((n+zhc (l.drop i) k:Nat):Int)):=by
 intro m
 induction m with
 | zero =>
  intro i v n hm hi hn
  rw [M.z34.eq_1,List.drop_eq_nil_of_le (by omega),if_neg (by simp;omega)]
  simp [zhd,zhc]
 | succ m ih =>
  intro i v n hm hi hn
  have hlt:i<l.length:=by omega
  rw [M.z34.eq_1,List.drop_eq_getElem_cons hlt]
  have h1:((i:Int)<(l.length:Int)):=by omega
  simp only [h1,decide_true,if_true,zfj,yg hlt,ya,yb]
  rw [w1 (n:=i) (by omega),zk6]
  have eN:zhc (l[i]::l.drop (i+1)) k=(if l[i].z03=k then 1 else 0)+zhc (l.drop (i+1)) k:=by
   unfold zhc
   rw [List.countP_cons]
   by_cases h:l[i].z03=k<;>simp [h,Nat.add_comm]
  rw [eN]
  by_cases hk:l[i].z03=k
  ·simp only [hk,decide_true,if_true]
   by_cases h0:n=0
   ·subst h0
    have:(((0:Nat):Int)=0):=rfl
    simp only [this,decide_true,if_true]
    have w0:yi .i64 (0+1)=((1:Nat):Int):=w1 (n:=0) (by decide)
    rw [w0,ih (i+1) _ 1 (by omega) (by omega) (by omega)]
    simp
   ·have:¬((n:Int)=0):=by omega
    simp only [this,h0,decide_false,yc,if_false]
    rw [w1 (by omega),ih (i+1) _ (n+1) (by omega) (by omega) (by omega),if_neg (by omega)]
    congr 3
    omega
  ·simp only [hk,decide_false,yc,if_false]
   rw [ih (i+1) _ n (by omega) (by omega) (by omega)]
   simp
theorem zcd {l:List q05} (k:Z) (hl:l.length<1000000000):M.q45 l k=some (zhd l k [],((zhc l k:Nat):Int)):=by
 unfold M.q45
 have h:=zq8 (k:=k) hl l.length 0 [] 0 rfl (Nat.zero_le _) (Nat.le_refl _)
 rw [List.drop_zero,if_pos rfl,Nat.zero_add] at h
 have h:M.z34 l k [] 0 0=_:=h
 rw [h]
 rfl
theorem zf4 {l:List q05} (k:Z) (hl:l.length<1000000000):M.q5t l k=some (zhd l k [],zj6 l k):=by
 unfold M.q5t
 rw [zcd k hl]
 simp only [ya,yb]
 rw [←zmh]
 congr 2
 exact decide_eq_decide.2 (by omega)
end Go.Sen
end
section
namespace Go.Sen
open Go.Lk Go.Pe
end Go.Sen
end
section
namespace Go.Sen
open Go.Lk Go.Pe
end Go.Sen
end
section
namespace Go.Sen
open _root_.Option renaming bind_eq_bind → ya, bind_some → yb
open IntKind renaming wrap → yc
open Go.Lk Go.Pe
theorem zp3 (m:Nat) (h:m<10):byt [yc .u8 (yc .i64 (48+(m:Int)))]=[UInt8.ofNat (48+m)]:=by
 have:∀ m:Fin 10,byt [yc .u8 (yc .i64 (48+((m.val:Nat):Int)))]=[UInt8.ofNat (48+m.val)]:=by decide +kernel
 exact this ⟨m,h⟩
theorem zf5:∀ (b m:Nat) (s:Z),m≤b→0<m→s.length+m<1000000000000000000→M.z1w s (m:Int)=some (Lib.decDigits m++s):=by
 intro b
 induction b with
 | zero=>intro m s h1 h2;omega
 | succ b ih =>
  intro m s h1 h2 h3
  have hp:(0:Int)<(m:Int):=by omega
  have e1:Int.tmod (m:Int) 10=((m % 10:Nat):Int):=by rw [Int.tmod_eq_emod_of_nonneg (by omega)];omega
  have e2:Int.tdiv (m:Int) 10=((m / 10:Nat):Int):=by rw [Int.tdiv_eq_ediv_of_nonneg (by omega)];omega
  rw [M.z1w]
  simp only [hp,decide_true,Bool.true_or,if_true,e1,e2]
  rw [zp3 _ (by omega),z2q (by simp;omega),w64 (by omega) (by omega)]
  simp only [ya,yb]
  by_cases h10:m<10
  ·have e3:m / 10=0:=by omega
   have e4:m % 10=m:=by omega
   rw [e3,e4,M.z1w,Lib.decDigits,dif_pos h10]
   simp
  ·rw [ih (m / 10) _ (by omega) (by omega) (by simp;omega)]
   conv=>rhs;rw [Lib.decDigits]
   rw [dif_neg h10,List.append_assoc]
theorem zda {n:Nat} (h:n<100000000000000000):M.q64 (n:Int)=some (Lib.decDigits n):=by
 unfold M.q64
 by_cases h0:n=0
 ·subst h0
  have e:M.z1w [] ((0:Nat):Int)=some [48]:=by
   rw [M.z1w]
   have e1:byt [yc .u8 (yc .i64 (48+Int.tmod ((0:Nat):Int) 10))]=[48]:=by decide +kernel
   rw [e1,z2q (by simp)]
   have e2:yc .i64 (Int.tdiv ((0:Nat):Int) 10)=0:=by decide +kernel
   simp only [ya,yb,e2]
   rw [M.z1w]
   simp
  rw [e,Lib.decDigits]
  rfl
 ·rw [zf5 n n [] (Nat.le_refl _) (by omega) (by simp;omega)]
  simp
end Go.Sen
end
section
namespace Go.Sen
open _root_.Option renaming bind_eq_bind → ya, bind_some → yb
open _root_.Bool renaming false_eq_true → yc
open _root_.List renaming drop_eq_getElem_cons → yd, drop_eq_nil_of_le → ye, drop_zero → yf, getElem?_eq_getElem → yg, getElem_mem → yh
open _root_.Nat renaming zero_le → yi
open IntKind renaming wrap → yj
open Go.Lk Go.Pe
theorem zkz:∀ c:UInt8,M.q4b (c.toNat:Int)=some (z8n c):=by
 have:∀ c:UInt8,decide (M.q4b (c.toNat:Int)=some (z8n c))=true:=za8 (by decide +kernel)
 exact fun c=>of_decide_eq_true (this c)
def zss (c:UInt8):Z:=if z8n c=true then [c] else [37,hxU (c.toNat / 16),hxU (c.toNat % 16)]
theorem zml:∀ c:UInt8,((ix ([48,49,50,51,52,53,54,55,56,57,65,66,67,68,69,70]:Z) (yj .u8 (Int.tdiv (c.toNat:Int) 16)))=some (hxU (c.toNat / 16)))∧((ix ([48,49,50,51,52,53,54,55,56,57,65,66,67,68,69,70]:Z) (Int.tmod (c.toNat:Int) 16))=some (hxU (c.toNat % 16))):=by
 have:∀ c:UInt8,decide (((ix ([48,49,50,51,52,53,54,55,56,57,65,66,67,68,69,70]:Z) (yj .u8 (Int.tdiv (c.toNat:Int) 16)))=some (hxU (c.toNat / 16)))∧((ix ([48,49,50,51,52,53,54,55,56,57,65,66,67,68,69,70]:Z) (Int.tmod (c.toNat:Int) 16))=some (hxU (c.toNat % 16))))=true:=za8 (by decide +kernel)
 exact fun c=>of_decide_eq_true (this c)
theorem zgm {s:Z} (h:s.length<100000000):∀ (n i:Nat) (a:Z),s.length - i=n→i≤s.length→a.length≤3*i→M.z1v s (unb a) (i:Int)=some (unb (a++(s.drop i).flatMap zss)):=by
 intro n
 induction n with
 | zero =>
  intro i a hn hi ha
  rw [M.z1v.eq_1,ye (by omega),if_neg (by simp;omega)]
  simp
 | succ n ih =>
  intro i a hn hi ha
  have hlt:i<s.length:=by omega
  rw [M.z1v.eq_1,yd hlt,List.flatMap_cons]
  have h1:((i:Int)<(s.length:Int)):=by omega
  simp only [h1,decide_true,if_true,zfj,yg hlt,ya,yb,zkz]
  rw [w1 (by omega)]
  have ed:zss s[i]=if z8n s[i]=true then [s[i]] else [37,hxU (s[i].toNat / 16),hxU (s[i].toNat % 16)]:=rfl
  rw [ed]
  cases hp:z8n s[i] with
  | true =>
   simp only [if_true]
   rw [z55 (by rw [z11];simp;omega)]
   simp only [yb]
   rw [zi0,ih (i+1) _ (by omega) (by omega) (by simp;omega)]
   simp
  | false =>
   obtain ⟨t1,t2⟩:=zml s[i]
   simp only [yc,if_false,t1,t2,yb]
   rw [z55 (by rw [z11];simp;omega)]
   simp only [yb]
   have e:unb a++[37,((hxU (s[i].toNat / 16)).toNat:Int),((hxU (s[i].toNat % 16)).toNat:Int)]=unb (a++[37,hxU (s[i].toNat / 16),hxU (s[i].toNat % 16)]):=by rw [z2o];rfl
   rw [e,ih (i+1) _ (by omega) (by omega) (by simp;omega)]
   simp
theorem zky (c:UInt8):zss c=zez [37,50,48] c:=by
 unfold zss zez
 split
 ·rfl
 ·split
  ·rename_i h
   subst h
   decide
  ·rfl
theorem z7i {s:Z} (h:s.length<100000000):M.q46 s=some (z8m s):=by
 unfold M.q46
 have:M.z1v s [] 0=_:=zgm h _ 0 [] rfl (yi _) (yi _)
 rw [this,yf]
 have e:zss=zez [37,50,48]:=funext zky
 simp only [ya,yb,List.nil_append,z9x,e]
 rfl
theorem zn7 {s:Z} (h:s.length<100000000):∀ (n i:Nat) (a:Z),s.length - i=n→i≤s.length→a.length≤3*i→M.z2z s (unb a) (i:Int)=some (unb (a++zar (s.drop i))):=by
 intro n
 induction n with
 | zero =>
  intro i a hn hi ha
  rw [M.z2z.eq_1,ye (by omega),if_neg (by simp;omega)]
  simp [zar,pct]
 | succ n ih =>
  intro i a hn hi ha
  have hlt:i<s.length:=by omega
  have hw:zar (s[i]::s.drop (i+1))=zez [43] s[i]++zar (s.drop (i+1)):=z9q _ _ _
  rw [M.z2z.eq_1,yd hlt,hw]
  have h1:((i:Int)<(s.length:Int)):=by omega
  have hb:=zfn (c:=s[i]) (n:=32) (by decide)
  have hb:((s[i].toNat:Int)=32)↔s[i]=32:=hb
  simp only [h1,decide_true,if_true,zfj,yg hlt,ya,yb]
  by_cases hc:s[i]=32
  ·rw [if_pos (by simpa using hb.2 hc),z55 (by rw [z11];simp;omega),w1 (by omega)]
   simp only [yb]
   have e:unb a++[43]=unb (a++[43]):=zi0 a 43
   have e2:zez [43] s[i]=[43]:=by rw [hc];decide
   rw [e,e2,ih (i+1) _ (by omega) (by omega) (by simp;omega)]
   simp
  ·rw [if_neg (by simpa using fun q=>hc (hb.1 q)),zuw hlt (by omega)]
   simp only [yb]
   rw [z7i (by simp)]
   simp only [yb]
   have e2:z8m [s[i]]=zez [43] s[i]:=by
    have:z8m [s[i]]=zez [37,50,48] s[i]++[]:=z9q _ _ _
    rw [this,List.append_nil]
    unfold zez
    rw [if_neg hc,if_neg hc]
   have hl:=zd8 (bl:=[43]) (by simp) s[i]
   rw [e2,z55 (by rw [z11,z11];omega),w1 (by omega)]
   simp only [yb]
   rw [←z2o,ih (i+1) _ (by omega) (by omega) (by simp;omega)]
   simp
theorem zau {s:Z} (h:s.length<100000000):M.q4d s=some (zar s):=by
 unfold M.q4d
 have:M.z2z s [] 0=_:=zn7 h _ 0 [] rfl (yi _) (yi _)
 rw [this,yf]
 simp [z9x]
theorem zcg {l:List q05} (hf:zi3 l) {i:Nat} (hlt:i<l.length) {acc acc2:Z} (hl:acc2.length≤100000000000) (hi:i<1000) (hacc:(if decide (0<(i:Int))=true then (cat acc [38]).bind fun s81=>some s81 else some acc)=some acc2) :
  M.z1t l acc (i:Int)=M.z1t l (acc2++fld l[i]) ((i+1:Nat):Int):=by
 have h1:((i:Int)<(l.length:Int)):=by omega
 obtain ⟨x1,x2⟩:=hf l[i] (yh hlt)
 have l1:=z5q (bl:=[43]) (by simp) l[i].z03
 have l2:=z5q (bl:=[43]) (by simp) l[i].z1d
 have l1:(zar l[i].z03).length≤3*l[i].z03.length:=l1
 have l2:(zar l[i].z1d).length≤3*l[i].z1d.length:=l2
 conv=>lhs;rw [M.z1t.eq_1]
 simp only [h1,decide_true,if_true,zfj,yg hlt,ya,yb,hacc]
 rw [zau x1]
 simp only [yb]
 rw [z2q (by simp;omega)]
 simp only [yb]
 rw [zau x2]
 simp only [yb]
 rw [z2q (by simp;omega)]
 simp only [yb]
 rw [z2q (by simp;omega),w1 (by omega)]
 rfl
theorem zn4 {l:List q05} (hl:l.length≤64) (hf:zi3 l):∀ (n i:Nat) (a:Z),l.length - i=n→1≤i→i≤l.length→a.length≤i*700000000→M.z1t l a (i:Int)=some (a++Lib.joinTail [38] ((l.drop i).map fld)):=by
 intro n
 induction n with
 | zero =>
  intro i a hn h1 hi ha
  rw [M.z1t.eq_1,ye (by omega),if_neg (by simp;omega)]
  simp [Lib.joinTail]
 | succ n ih =>
  intro i a hn h1 hi ha
  have hlt:i<l.length:=by omega
  have hfl:=zfv (hf l[i] (yh hlt))
  have h0:((0:Int)<(i:Int)):=by omega
  rw [zcg hf hlt (acc2:=a++[38]) (by simp;omega) (by omega) (by rw [if_pos (by simpa using h0),z2q (by simp;omega)];rfl)]
  rw [ih (i+1) _ (by omega) (by omega) (by omega) (by simp only [List.length_append,List.length_singleton];omega),yd hlt,List.map_cons]
  have e:Lib.joinTail [38] (fld l[i]::(l.drop (i+1)).map fld)=[38]++fld l[i]++Lib.joinTail [38] ((l.drop (i+1)).map fld):=rfl
  rw [e]
  simp
theorem zgh {l:List q05} (hl:l.length<100000000) (hf:zi3 l):M.q3z l=some (form l):=by
 unfold M.q3z form
 by_cases h64:64<l.length
 ·have:(64:Int)<(l.length:Int):=by omega
  simp [h64,this]
 ·have:¬(64:Int)<(l.length:Int):=by omega
  have hk:M.z1t l [] 0=some (z2f l):=by
   cases l with
   | nil =>
    rw [M.z1t.eq_1,if_neg (by simp)]
    rfl
   | cons p r =>
    have hfl:=zfv (hf p (by simp))
    have h0:(0:Nat)<(p::r).length:=by simp
    have e:=zcg hf h0 (acc:=[]) (acc2:=[]) (by simp) (by omega) (by rfl)
    have e:M.z1t (p::r) [] 0=M.z1t (p::r) ([]++fld p) ((1:Nat):Int):=e
    rw [e,zn4 (by omega) hf _ 1 _ rfl (Nat.le_refl _) (by simp) (by simp;omega)]
    unfold z2f
    rw [List.map_cons,Lib.join_cons]
    rfl
  simp only [this,h64,decide_false,yc,if_false,ya,hk,yb]
  by_cases h8:8192<(z2f l).length
  ·have:(8192:Int)<((z2f l).length:Int):=by omega
   simp [h8,this]
  ·have:¬(8192:Int)<((z2f l).length:Int):=by omega
   simp [h8,this]
end Go.Sen
end
section
namespace Go.Sen
open _root_.Option renaming bind_some → ya
open _root_.Bool renaming and_eq_true → yb, eq_false_iff → yc, not_eq_true' → yd
open _root_.List renaming count_cons → ye, mem_cons → yf, mem_map → yg, nodup_cons → yh
open Go.Lk Go.Pe
theorem zc9:∀ ns:List Z,ns.Nodup↔∀ a∈ns,ns.count a=1
 | []=>by simp
 | x::r=>by
  have ih:=zc9 r
  rw [yh,ih]
  constructor
  ·rintro ⟨h1,h2⟩ a ha
   rw [ye]
   rcases yf.1 ha with rfl|ha
   ·rw [List.count_eq_zero.2 h1];simp
   ·have:¬x=a:=fun e=>h1 (by rw [e];exact ha)
    rw [h2 a ha];simp [this]
  ·intro h
   have hx:x∉r:=fun hm=>by
    have:=h x (by simp)
    rw [ye] at this
    have h1:=List.count_pos_iff.2 hm
    simp at this
    omega
   refine ⟨hx,fun a ha => ?_⟩
   have:=h a (by simp [ha])
   rw [ye] at this
   have hne:¬x=a:=fun e=>hx (by rw [e];exact ha)
   simpa [hne] using this
theorem zby (l:List q05) (k:Z):zhc l k=(l.map (·.z03)).count k:=by
 unfold zhc
 rw [List.count,List.countP_map]
 congr 1
 funext p
 exact (Bool.beq_eq_decide_eq _ _).symm
theorem zab:∀ (l:List q05) (sn:List Z),(∃ r,z5c l sn=some r)↔(∀ p∈l,zhf p.z03=true∧isVal p.z1d=true∧¬p.z03∈sn)∧(l.map (·.z03)).Nodup
 | [],sn=>by simp [z5c]
 | p::r,sn=>by
  have ih:=zab r (p.z03::sn)
  unfold z5c
  by_cases h:zhf p.z03=true∧isVal p.z1d=true∧¬p.z03∈sn
  ·have hc:(zhf p.z03&&isVal p.z1d && !sn.contains p.z03)=true:=by simp [h]
   rw [if_pos hc,ih,List.map_cons,yh]
   constructor
   ·rintro ⟨h1,h2⟩
    refine ⟨fun q hq => ?_,fun hm => ?_,h2⟩
    ·rcases yf.1 hq with rfl|hq
     ·exact h
     ·obtain ⟨a,b,c⟩:=h1 q hq
      exact ⟨a,b,fun e=>c (by simp [e])⟩
    ·obtain ⟨q,hq,e⟩:=yg.1 hm
     exact (h1 q hq).2.2 (by rw [e];simp)
   ·rintro ⟨h1,h2,h3⟩
    refine ⟨fun q hq => ?_,h3⟩
    obtain ⟨a,b,c⟩:=h1 q (by simp [hq])
    refine ⟨a,b,fun e => ?_⟩
    rcases yf.1 e with e|e
    ·exact h2 (yg.2 ⟨q,hq,e⟩)
    ·exact c e
  ·have hc:¬(zhf p.z03&&isVal p.z1d && !sn.contains p.z03)=true:=fun e=>h (by
    simp only [yb,yd] at e
    exact ⟨e.1.1,e.1.2,by simpa using e.2⟩)
   rw [if_neg hc]
   constructor
   ·rintro ⟨_,e⟩;cases e
   ·rintro ⟨h1,_⟩
    exact absurd (h1 p (by simp)) h
theorem zc0:∀ (l:List q05) (sn r:List Z),z5c l sn=some r→∀ k,r.contains k=(sn.contains k||zj6 l k)
 | [],sn,r,h,k=>by unfold z5c at h;cases h;simp [zj6]
 | p::t,sn,r,h,k=>by
  unfold z5c at h
  split at h
  ·rw [zc0 t _ r h k,List.contains_cons]
   unfold zj6
   rw [List.any_cons]
   by_cases e:k=p.z03
   ·subst e;simp
   ·have e2:¬p.z03=k:=fun q=>e q.symm
    have e3:(k==p.z03)=false:=by rw [yc];intro q;exact e (eq_of_beq q)
    rw [e3,decide_eq_false e2]
    simp
  ·cases h
def z9l (l:List q05) (p:q05):Bool:=zhf p.z03&&isVal p.z1d&&decide (zhc l p.z03=1) && !decide (p.z03=z5v) && !decide (p.z03=z5z)
theorem zim (l:List q05):z5l l=(decide (l.length≤32)&&zj6 l z3d&&l.all (z9l l)):=by
 have key:(∃ r,z5c l [z5z,z5v]=some r)↔l.all (z9l l)=true:=by
  rw [zab,zc9,List.all_eq_true]
  unfold z9l
  constructor
  ·rintro ⟨h1,h2⟩ p hp
   obtain ⟨a,b,c⟩:=h1 p hp
   have hn:zhc l p.z03=1:=by rw [zby];exact h2 _ (yg.2 ⟨p,hp,rfl⟩)
   have c1:¬p.z03=z5v:=fun e=>c (by simp [e])
   have c2:¬p.z03=z5z:=fun e=>c (by simp [e])
   simp [a,b,hn,c1,c2]
  ·intro h
   refine ⟨fun p hp => ?_,fun a ha => ?_⟩
   ·have:=h p hp
    simp only [yb,yd,decide_eq_true_eq,decide_eq_false_iff_not] at this
    obtain ⟨⟨⟨⟨a,b⟩,_⟩,c1⟩,c2⟩:=this
    exact ⟨a,b,fun e=>by
     simp only [yf,List.not_mem_nil,or_false] at e
     rcases e with e|e
     ·exact c2 e
     ·exact c1 e⟩
   ·obtain ⟨p,hp,rfl⟩:=yg.1 ha
    have:=h p hp
    simp only [yb,decide_eq_true_eq] at this
    rw [←zby]
    exact this.1.1.2
 unfold z5l
 cases hr:z5c l [z5z,z5v] with
 | none =>
  have:l.all (z9l l)=false:=by
   rw [yc]
   intro e
   obtain ⟨r,h⟩:=key.2 e
   rw [hr] at h
   cases h
  rw [this]
  simp
 | some sn =>
  have:l.all (z9l l)=true:=key.1 ⟨sn,hr⟩
  have hh:=zc0 l _ sn hr z3d
  have hne:([z5z,z5v]:List Z).contains z3d=false:=by decide
  rw [hne,Bool.false_or] at hh
  rw [this]
  simp only [hh,Bool.and_true]
theorem zl9 {q:q03} (hl:q.zl.length<100000000) (hf:zi3 q.zl):∀ (n i:Nat) (b:Bool),q.zl.length - i=n→i≤q.zl.length→M.z2r q b (i:Int)=some (b&&(q.zl.drop i).all (z9l q.zl)):=by
 intro n
 induction n with
 | zero =>
  intro i b hn hi
  rw [M.z2r.eq_1,List.drop_eq_nil_of_le (by omega),if_neg (by simp;omega)]
  simp
 | succ n ih =>
  intro i b hn hi
  have hlt:i<q.zl.length:=by omega
  have h1:((i:Int)<(q.zl.length:Int)):=by omega
  rw [M.z2r.eq_1,List.drop_eq_getElem_cons hlt,List.all_cons]
  cases b with
  | false=>simp
  | true =>
   obtain ⟨x1,x2⟩:=hf q.zl[i] (List.getElem_mem hlt)
   simp only [h1,decide_true,Bool.and_self,if_true,zfj,List.getElem?_eq_getElem hlt,Option.bind_eq_bind,ya]
   rw [zcd _ (by omega),zgi (by omega),z9g (by omega),w1 (by omega)]
   simp only [ya]
   have cl:([99,111,110,116,101,110,116,45,108,101,110,103,116,104]:Z)=z5v:=rfl
   have te:([116,114,97,110,115,102,101,114,45,101,110,99,111,100,105,110,103]:Z)=z5z:=rfl
   have e1:decide (((zhc q.zl q.zl[i].z03:Nat):Int)=1)=decide (zhc q.zl q.zl[i].z03=1):=decide_eq_decide.2 (by omega)
   have key:∀ c:Bool,(if zhf q.zl[i].z03=true then (some (isVal q.zl[i].z1d)).bind fun a153=>some a153 else some false)=some (zhf q.zl[i].z03&&isVal q.zl[i].z1d):=fun _=>by cases zhf q.zl[i].z03<;>rfl
   rw [cl,te,e1]
   have key:=key true
   simp only [ya] at key
   rw [key]
   simp only [ya]
   rw [ih (i+1) _ (by omega) (by omega)]
   unfold z9l
   rfl
end Go.Sen
end
