import Derived.Test.YtfdoofnmjehecaaGreatDoorRShI
import Derived.Lib.TrimUEq
import Derived.Test.YtfdoofnmjehecaaGreatDoorRHnG
set_option linter.all false
section
namespace Go.Sen
open _root_.Option renaming bind_eq_bind → ya, bind_some → yb
open _root_.Bool renaming eq_iff_iff → yc, false_eq_true → yd, not_false → ye, not_true → yf, true_and → yg
open _root_.List renaming append_assoc → yh, drop_eq_getElem_cons → yi, drop_eq_nil_of_le → yj, drop_zero → yk, getElem?_eq_getElem → yl, map_append → ym, map_cons → yn
open Go.Lk Go.Pe
def zlw (b:UInt8):Bool:=decide (b.toNat<33)||decide (126<b.toNat)||decide (b=34)||decide (b=92)
theorem zpf:∀ b:UInt8,zhc b.toNat=zlw b:=zg0 (by decide +kernel)
theorem zlf {n:Nat} (h:128≤n):zhc n=true:=by
 unfold zhc
 have:126<n:=by omega
 simp [this]
theorem ztd {s:Z}:∀ (f pos:Nat),s.length≤pos+f→decide (0≤Lib.idxFuncFrom zhc true ⟨s.toArray⟩ f pos)=(s.drop pos).any zlw:=by
 have hsz:(⟨s.toArray⟩:ByteArray).size=s.length:=by simp [ByteArray.size]
 intro f
 induction f with
 | zero =>
  intro pos h
  rw [yj (by omega)]
  simp [Lib.idxFuncFrom]
 | succ f ih =>
  intro pos h
  unfold Lib.idxFuncFrom
  rw [hsz]
  by_cases hp:pos<s.length
  ·rw [if_pos hp,yi hp,List.any_cons]
   have e:Utf8.decode ⟨s.toArray⟩ pos=Lib.decodeL (s[pos]::s.drop (pos+1)):=by
    rw [←Lib.decodeL_drop,←yi hp]
   rw [e]
   by_cases hl:(s[pos]).toNat<128
   ·rw [Lib.decodeL_ascii _ _ hl]
    simp only [zpf]
    cases hb:zlw s[pos] with
    | true=>simp
    | false =>
     rw [if_neg (by simp),ih (pos+1) (by omega),Bool.false_or]
   ·have h1:=decode_high s[pos] (s.drop (pos+1)) hl
    rw [if_pos (zlf h1)]
    have:zlw s[pos]=true:=by
     unfold zlw
     have:126<(s[pos]).toNat:=by omega
     simp [this]
    rw [this]
    simp
  ·rw [if_neg hp,yj (by omega)]
   simp
theorem zmm (s:Z):M.z2b s=some (s.any zlw):=by
 unfold M.z2b Lib.idxFunc
 rw [ztd _ 0 (by simp [ByteArray.size]),yk]
def z4i (s:Z):Bool:=decide (s.length≤128)&&Lib.validD s
def zf7 (s:Z):Bool := !decide (s=[])&&decide (s.length≤32) && !s.any zlw
def zf0 (n:Int):Bool:=decide (0≤n)&&decide (n≤1099511627776)
theorem zf1 {s:Z} (h:s.length<1000000000):M.q77 s=some (z4i s):=by
 unfold M.q77 z4i
 by_cases h1:s.length≤128
 ·have:((s.length:Int)≤128):=by omega
  simp [this,h1,z3p (s:=s) (by omega)]
 ·have:¬((s.length:Int)≤128):=by omega
  simp [this,h1]
theorem zf2 (s:Z):M.q79 s=some (zf7 s):=by
 unfold M.q79 zf7
 by_cases h:s=[]
 ·subst h;simp
 ·by_cases h1:s.length≤32
  ·have:((s.length:Int)≤32):=by omega
   simp [this,h1,h,zmm]
  ·have:¬((s.length:Int)≤32):=by omega
   simp [this,h1]
def scp:Option Z→List Z→Bool
 | _,[]=>true
 | p,a::r=>zf7 a&&(match p with
  | none=>true
  | some q=>slt q a)&&scp (some a) r
def okC (c:q01):Bool:=[c.z7d,c.z7f,c.z7c,c.zt,c.z7e,c.z0f].all z4i&&c.z3u.all z4i&&zf0 c.z8d&&zf0 c.z8c&&decide (0≤c.z03)&&decide (c.z03≤9)&&decide (c.zj.length≤16)&&decide (c.z3u.length≤4) && !decide (([]:Z)∈c.z3u)&&scp none c.zj
def z9b (l:List Z) (i:Nat):Option Z:=if i=0 then none else l[i - 1]?
theorem zov {c:q01} (hl:c.zj.length<1000000000):∀ (n i:Nat),c.zj.length - i=n→i≤c.zj.length→M.z0g c (i:Int)=some (if scp (z9b c.zj i) (c.zj.drop i)=true then .go () else .done 142):=by
 intro n
 induction n with
 | zero =>
  intro i hn hi
  rw [M.z0g,yj (by omega)]
  have:¬((i:Int)<(c.zj.length:Int)):=by omega
  simp [this,scp]
 | succ n ih =>
  intro i hn hi
  have hlt:i<c.zj.length:=by omega
  have h1:((i:Int)<(c.zj.length:Int)):=by omega
  rw [M.z0g,yi hlt]
  simp only [h1,decide_true,if_true,z6m,yl hlt,ya,yb,zf2]
  have hprev:z9b c.zj (i+1)=some c.zj[i]:=by
   unfold z9b
   rw [if_neg (by omega),Nat.add_sub_cancel,yl hlt]
  unfold scp
  rw [w1 (by omega),ih (i+1) (by omega) (by omega),hprev]
  cases hw:zf7 c.zj[i] with
  | false=>simp
  | true =>
   by_cases h0:i=0
   ·subst h0
    simp [z9b]
   ·have hp:(0:Int)<(i:Int):=by omega
    have e1:IntKind.wrap .i64 ((i:Int) - 1)=((i - 1:Nat):Int):=by rw [w64 (by omega) (by omega)];omega
    have e2:z9b c.zj i=some c.zj[i - 1]:=by
     unfold z9b
     rw [if_neg h0,yl (by omega)]
    rw [e2]
    simp only [hp,decide_true,if_true,yf,yd,if_false,e1,z6m,yl (show i - 1<c.zj.length by omega),yb,yg]
    cases slt c.zj[i - 1] c.zj[i]<;>simp
theorem zd2 {c:q01} (h:zp8 c):M.q76 c=some (if okC c=true then 0 else 142):=by
 obtain ⟨h0,_⟩:=h
 unfold q01.sz at h0
 have k1:=z3y c.zj
 have k2:=z3y c.z3u
 have hm:∀ s∈c.z3u,s.length<1000000000:=fun s hs=>by have:=zc1 hs;omega
 unfold M.q76
 rw [z2p (by simp;omega)]
 simp only [ya,yb]
 obtain ⟨l,hl⟩:∃ l,l=[c.z7d,c.z7f,c.z7c,c.zt,c.z7e,c.z0f]++c.z3u:=⟨_,rfl⟩
 have hll:l.length=6+c.z3u.length:=by rw [hl,List.length_append];rfl
 have hlm:∀ s∈l,s.length<1000000000:=fun s hs=>by
  rw [hl] at hs
  rcases List.mem_append.1 hs with hs|hs
  ·simp only [List.mem_cons,List.not_mem_nil,or_false] at hs
   rcases hs with rfl|rfl|rfl|rfl|rfl|rfl<;>omega
  ·exact hm s hs
 rw [←hl]
 have hk:M.z0j l 0=some (match l.findIdx? (fun s => !z4i s) with|some i => .done 142|none => .go ()):=by
  refine zzi (fun _=>(142:Int)) () (by omega) (fun i h => ?_) ?_
  ·rw [M.z0j]
   have h1:((i:Int)<(l.length:Int)):=by omega
   simp only [h1,decide_true,if_true,z6m,yl h,ya,yb,zf1 (hlm _ (List.getElem_mem h))]
  ·rw [M.z0j]
   simp
 rw [hk]
 have hok:okC c=(l.all z4i&&(zf0 c.z8d&&zf0 c.z8c&&decide (0≤c.z03)&&decide (c.z03≤9)&&decide (c.zj.length≤16)&&decide (c.z3u.length≤4) && !decide (([]:Z)∈c.z3u))&&scp none c.zj):=by
  rw [hl,List.all_append]
  unfold okC
  simp only [Bool.and_assoc]
 rw [hok]
 rcases zji l z4i with ⟨h1,h2⟩|⟨i,h1,h2⟩
 ·rw [h1,h2]
  simp only [yb,yg]
  have ht:∀ n:Int,M.q78 n=some (zf0 n):=fun n=>rfl
  have hs:=zov (c:=c) (by omega) _ 0 rfl (Nat.zero_le _)
  have hs:M.z0g c 0=_:=hs
  rw [hs]
  have hp:z9b c.zj 0=none:=rfl
  rw [hp,yk]
  simp only [ht,yb,contains_eq (ks:=c.z3u) (k:=[]) (by omega)]
  have e1:decide (c.z03<0) = !decide (0≤c.z03):=by rw [yc];simp
  have e2:decide (9<c.z03) = !decide (c.z03≤9):=by rw [yc];simp
  have e3:decide (16<(c.zj.length:Int)) = !decide (c.zj.length≤16):=by rw [yc];simp;omega
  have e4:decide (4<(c.z3u.length:Int)) = !decide (c.z3u.length≤4):=by rw [yc];simp;omega
  rw [e1,e2,e3,e4]
  cases zf0 c.z8d<;>cases zf0 c.z8c<;>cases decide (0≤c.z03)<;>cases decide (c.z03≤9)<;>cases decide (c.zj.length≤16)<;>cases decide (c.z3u.length≤4)<;>cases decide (([]:Z)∈c.z3u)<;>cases scp none c.zj<;>rfl
 ·rw [h1,h2]
  rfl
def zp1:List (Int × Z):=[(200,[79,75]),(201,[67,114,101,97,116,101,100]),(400,[66,97,100,32,82,101,113,117,101,115,116]),(401,[85,110,97,117,116,104,111,114,105,122,101,100]),(403,[70,111,114,98,105,100,100,101,110]),(404,[78,111,116,32,70,111,117,110,100]),(405,[77,101,116,104,111,100,32,78,111,116,32,65,108,108,111,119,101,100]),(409,[67,111,110,102,108,105,99,116]),(412,[80,114,101,99,111,110,100,105,116,105,111,110,32,70,97,105,108,101,100]),(413,[67,111,110,116,101,110,116,32,84,111,111,32,76,97,114,103,101]),(429,[84,111,111,32,77,97,110,121,32,82,101,113,117,101,115,116,115]),(431,[82,101,113,117,101,115,116,32,72,101,97,100,101,114,32,70,105,101,108,100,115,32,84,111,111,32,76,97,114,103,101]),(500,[73,110,116,101,114,110,97,108,32,83,101,114,118,101,114,32,69,114,114,111,114]),(503,[83,101,114,118,105,99,101,32,85,110,97,118,97,105,108,97,98,108,101]),(507,[73,110,115,117,102,102,105,99,105,101,110,116,32,83,116,111,114,97,103,101])]
def z6e (n:Int):Z:=z5x zp1 n []
theorem z6k (n:Int):M.q2w n=some (z6e n):=by
 unfold M.q2w z6e
 rfl
theorem zaz (n:Int) (h:¬z6e n=[]):(100≤n∧n<1000)∧(z6e n).length≤40∧∀ b∈z6e n,32≤b.toNat∧b.toNat≤126:=by
 have key:∀ l:List (Int × Z),(∀ p∈l,(100≤p.1∧p.1<1000)∧p.2.length≤40∧∀ b∈p.2,32≤b.toNat∧b.toNat≤126)→¬z5x l n []=[]→(100≤n∧n<1000)∧(z5x l n []).length≤40∧∀ b∈z5x l n [],32≤b.toNat∧b.toNat≤126:=by
  intro l
  induction l with
  | nil=>intro _ h;exact absurd rfl h
  | cons p l ih =>
   intro hl h
   obtain ⟨k,v⟩:=p
   unfold z5x at h ⊢
   by_cases e:n=k
   ·rw [if_pos e]
    subst e
    exact hl (n,v) (by simp)
   ·rw [if_neg e] at h ⊢
    exact ih (fun p hp=>hl p (by simp [hp])) h
 exact key zp1 (by decide +kernel) h
theorem zed {n:Int} (h:I64 n):(Lib.itoa n).length≤20:=by
 unfold I64 at h
 unfold Lib.itoa
 split
 ·have:=z9k (n:=n.natAbs) (k:=19) (by omega) (by decide)
  simp
  omega
 ·have:=z9k (n:=n.toNat) (k:=19) (by omega) (by decide)
  have e:n.natAbs=n.toNat:=by omega
  first|(rw [e];omega)|omega
def zzv:Z:=[72,84,84,80,47,49,46,49,32]
def zwj:Z:=[99,111,110,116,101,110,116,45,116,121,112,101,58,32,97,112,112,108,105,99,97,116,105,111,110,47,106,115,111,110]
def zwh:Z:=[115,101,116,45,99,111,111,107,105,101,58,32,115,101,115,115,105,111,110,61]
def zwi:Z:=[59,32,80,97,116,104,61,47,59,32,72,116,116,112,79,110,108,121]
def zzu:Z:=[99,111,110,116,101,110,116,45,108,101,110,103,116,104,58,32]
def zso (st:Int):Z:=zzv++Lib.itoa st++[32]++z6e st
def zw3 (ck:Z):Z:=zwh++ck++zwi
def zwu (n:Int):Z:=zzu++Lib.itoa n
def zmn (st:Int) (ck:Z) (n:Int):Z:=zso st++[13,10]++zwj++[13,10]++(if ck=[] then [] else zw3 ck++[13,10])++zwu n++[13,10]++[13,10]
theorem zlh (n:Int):(z6e n).length≤40:=by
 by_cases h:z6e n=[]
 ·rw [h];simp
 ·exact (zaz n h).2.1
theorem z8q {st:Int} {ck:Z} {n:Int} (h1:I64 st) (h2:ck.length<1000000000) (h3:I64 n):M.q1j st ck n=some (zmn st ck n):=by
 have l1:=zed h1
 have l2:=zed h3
 have l3:=zlh st
 unfold M.q1j
 rw [zhg h1,zhg h3,z6k]
 simp only [ya,yb]
 rw [z2z (by simp;omega)]
 simp only [yb]
 rw [z2z (by simp;omega)]
 simp only [yb]
 rw [z2z (by simp;omega)]
 simp only [yb]
 rw [z2z (by simp;omega)]
 simp only [yb]
 rw [z2z (by simp;omega)]
 simp only [yb]
 rw [z2z (by simp;omega)]
 simp only [yb]
 unfold zmn zso zw3 zwu zzv zwj zwh zwi zzu
 by_cases hc:ck=[]
 ·simp only [hc,decide_true,yf,yd,if_false,if_true,yb]
  rw [z2z (by simp;omega)]
  simp only [yb]
  rw [z2z (by simp;omega)]
  simp only [yb]
  rw [z2z (by simp;omega)]
  simp only [yb]
  rw [z2z (by simp;omega)]
  simp only [yh,List.nil_append,yb]
 ·simp only [hc,decide_false,ye,if_true,if_false,yb]
  rw [z2z (by simp;omega)]
  simp only [yb]
  rw [z2z (by simp;omega)]
  simp only [yb]
  rw [z2z (by simp;omega)]
  simp only [yb]
  rw [z2z (by simp;omega)]
  simp only [yb]
  rw [z2z (by simp;omega)]
  simp only [yb]
  rw [z2z (by simp;omega)]
  simp only [yb]
  rw [z2z (by simp;omega)]
  simp only [yb]
  rw [z2z (by simp;omega)]
  simp only [yh,yb]
theorem zou:∀ l m:List J,szs (l++m)=szs l+szs m
 | [],m=>by simp [szs]
 | x::l,m=>by
  have:=zou l m
  simp only [List.cons_append,szs]
  omega
theorem ztl (l m:List Z):kys (l++m)=kys l+kys m:=by simp [kys]
def msz (l:List Mb):Nat:=szs (l.map (·.2))+kys (l.map (·.1))
theorem zu1 (l m:List Mb):msz (l++m)=msz l+msz m:=by
 unfold msz
 rw [ym,ym,zou,ztl]
 omega
theorem zn8 (l:List Mb):(obj l).sz=msz l+1:=by
 rw [q04.zd1]
 simp [obj,msz]
theorem z6b (b:Bool) (k:Z) (v:J):msz (opt b k v)≤v.sz+k.length+2:=by
 unfold opt msz
 split
 ·simp [szs,kys]
  omega
 ·simp [szs,kys]
theorem zq0 (s:Z):(jT s).sz=s.length+1:=by rw [q04.zd1];simp [jT,szs,kys]
theorem zhw {n:Int} (h:I64 n):(jN n).sz≤21:=by
 rw [q04.zd1]
 have:=zed h
 simp [jN,szs,kys]
 omega
theorem zmr:∀ l:List Z,szs (l.map jT)≤2*kys l
 | []=>by simp [szs]
 | s::l=>by
  have:=zmr l
  rw [yn,szs,zq0,z5r]
  omega
theorem zjp (l:List Z):(jTs l).sz≤2*kys l+1:=by
 have:=zmr l
 rw [q04.zd1]
 simp [jTs]
 have e:kys []=0:=rfl
 omega
theorem zmq:∀ l:List q02,szs (l.map fun f=>jTs f.z3g)+kys (l.map (·.z1c))≤3*zdk l
 | []=>by simp [szs,kys]
 | f::l=>by
  have h1:=zmq l
  have h2:=zjp f.z3g
  rw [yn,yn,szs,z5r,zbp]
  unfold q02.sz
  omega
theorem zwn (l:List q02):(jFs l).sz≤3*zdk l+1:=by
 have:=zmq l
 rw [q04.zd1]
 simp [jFs]
 omega
theorem zh7:∀ l:List q07,szs (l.map fun t=>obj (z71 t))≤40*zle l
 | []=>by simp [szs]
 | t::l=>by
  have h1:=zh7 l
  have h2:=zwn t.z0m
  have h3:msz (z71 t)≤(jFs t.z0m).sz+t.gId.length+t.zh.length+t.z55.length+30:=by
   simp [z71,msz,szs,kys,zq0,kId,zwp,kTag,zmt]
   omega
  rw [yn,szs,zn8,zco]
  unfold q07.sz
  omega
theorem zm4 {c:q01} (h:zp8 c):msz (z7m c)≤2*c.sz+300:=by
 obtain ⟨_,h1,h2,h3⟩:=h
 have a1:=zhw h1
 have a2:=zhw h2
 have a3:=zhw h3
 have a4:=zjp c.zj
 have a5:=zjp c.z3u
 unfold q01.sz
 simp [z7m,msz,szs,kys,zq0,kIss,kSub,kAud,kCid,kJti,zs6,kIat,kExp,z9s,z9t,zzz] at *
 omega
theorem zk3 {r:q06} (h:zvh r):(obj (z4u r)).sz<1000000000:=by
 obtain ⟨h0,⟨i1,i2,i3,i4,i5⟩,i6⟩:=h
 unfold q06.sz at h0
 have hc:=zm4 (c:=r.zm) ⟨by omega,i6⟩
 have ht:=zh7 r.z0q
 have a1:=zhw i2
 have a2:=zhw i3
 have a3:=zhw i4
 have a4:=zhw i5
 have a5:=zjp r.zj
 have b1:=z6b (!decide (r.z11=0)) zbx (jN r.z11)
 have b2:=z6b (z4v r.z2l) zby (jT r.z2l)
 have b3:=z6b (z4v r.z1p) z95 (jT r.z1p)
 have b4:=z6b (z4v r.z1f) z6p (jT r.z1f)
 have b5:=z6b (z4v r.gId) ztj (jT r.gId)
 have b6:=z6b (z4v r.zq) zhy (jT r.zq)
 have b7:=z6b (!decide (r.zj=[])) z9t (jTs r.zj)
 have b8:=z6b (!decide (r.z0h=0)) z6o (jN r.z0h)
 have b9:=z6b (!decide (r.z03=0)) z9s (jN r.z03)
 have b10:=z6b (!decide (r.z1l=0)) zc0 (jN r.z1l)
 have b11:=z6b r.z3w z96 zhx
 have b12:=z6b (!z7l r.zm) z97 (obj (z7m r.zm))
 have b13:=z6b (!decide (r.z0q=[])) zbz (jL (r.z0q.map fun t=>obj (z71 t)))
 have e1:zhx.sz=1:=by decide
 have e2:(jL (r.z0q.map fun t=>obj (z71 t))).sz=szs (r.z0q.map fun t=>obj (z71 t))+1:=by rw [q04.zd1];simp [jL,kys]
 rw [zq0] at b2 b3 b4 b5 b6
 rw [e1] at b11
 rw [e2] at b13
 rw [zn8] at b12
 have l1:zbx.length=5:=rfl
 have l2:zby.length=5:=rfl
 have l3:z95.length=12:=rfl
 have l4:z6p.length=13:=rfl
 have l5:ztj.length=8:=rfl
 have l6:zhy.length=4:=rfl
 have l7:z9t.length=5:=rfl
 have l8:z6o.length=10:=rfl
 have l9:z9s.length=5:=rfl
 have l10:zc0.length=5:=rfl
 have l11:z96.length=6:=rfl
 have l12:z97.length=6:=rfl
 have l13:zbz.length=6:=rfl
 rw [zn8]
 unfold z4u
 simp only [zu1]
 omega
def zzj:Z:=[65,66,67,68,69,70,71,72,73,74,75,76,77,78,79,80,81,82,83,84,85,86,87,88,89,90,97,98,99,100,101,102,103,104,105,106,107,108,109,110,111,112,113,114,115,116,117,118,119,120,121,122,48,49,50,51,52,53,54,55,56,57,45,95]
def zxk (b:UInt8):Bool:=zzx b||decide (b=45)||decide (b=95)
theorem zux:∀ b:UInt8,zzj.contains b=zxk b:=zg0 (by decide +kernel)
def zcd (s:Z):Bool:=s.all zxk
theorem zyh {s:Z} (h:s.length<1000000000):∃ t,M.trim s zzj=some t∧decide (t=[])=zcd s:=by
 refine ⟨_,zvr (by omega) (by decide),?_⟩
 rw [zow]
 unfold zcd
 congr 1
 funext b
 exact zux b
def z3r (n:Int):Bool:=decide (0≤n)&&decide (n<1000000000000000)
def zet (r:q06):Bool:=z3r r.z11&&z3r r.z0h&&z3r r.z03&&z3r r.z1l&&decide ((print (obj (z4u r))).2=0) && !decide (z6e r.z2v=[])&&zcd r.z0c&&okC r.zm
def z5m (r:q06):Z:=zmn r.z2v r.z0c ((print (obj (z4u r))).1.length:Int)
def zk2 (r:q06):Z × Int:=if zet r=true then (if 8192<(z5m r).length then ([],224) else (z5m r++(print (obj (z4u r))).1,0)) else ([],224)
theorem zgp (v:J):(print v).1.length≤16384:=by
 unfold print
 split
 ·split
  ·simp
  ·rename_i h;simp;omega
 ·simp
theorem zqi {r:q06}:M.z0d r 0=some (if (z3r r.z11&&z3r r.z0h&&z3r r.z03&&z3r r.z1l)=true then .go () else .done ([],224)):=by
 have step:∀ (i:Nat) (x:Int),i<4→[r.z11,r.z0h,r.z03,r.z1l][i]? = some x→M.z0d r (i:Int)=if z3r x=true then M.z0d r ((i+1:Nat):Int) else some (.done ([],224)):=by
  intro i x hi hx
  rw [M.z0d]
  have h1:((i:Int)<([r.z11,r.z0h,r.z03,r.z1l].length:Int)):=by simp;omega
  simp only [h1,decide_true,if_true,z6m,hx,ya,yb]
  rw [w1 (by omega)]
  unfold z3r
  by_cases a:x<0
  ·have:¬0≤x:=by omega
   simp [a,this]
  ·have a':0≤x:=by omega
   by_cases b:x<1000000000000000
   ·have:¬1000000000000000≤x:=by omega
    simp [a,a',b,this]
   ·have:1000000000000000≤x:=by omega
    simp [a,a',b,this]
 have s0:M.z0d r 0=_:=step 0 _ (by decide) rfl
 have s1:=step 1 _ (by decide) rfl
 have s2:=step 2 _ (by decide) rfl
 have s3:=step 3 _ (by decide) rfl
 have s4:M.z0d r ((3+1:Nat):Int)=some (.go ()):=by
  rw [M.z0d]
  simp
 rw [s0,s1,s2,s3,s4]
 cases z3r r.z11<;>cases z3r r.z0h<;>cases z3r r.z03<;>cases z3r r.z1l<;>rfl
theorem zeb {r:q06} {f:Nat} (hf:17≤f) (h:zvh r):M.q0v f r=some (zk2 r):=by
 have hr:=h
 obtain ⟨h0,⟨i1,i2,i3,i4,i5⟩,i6⟩:=h
 have hsz:=zk3 hr
 unfold q06.sz at h0
 have hc:zp8 r.zm:=⟨by omega,i6⟩
 have hpl:=zgp (obj (z4u r))
 unfold M.q0v zk2 zet
 rw [zqi]
 cases hn:(z3r r.z11&&z3r r.z0h&&z3r r.z03&&z3r r.z1l) with
 | false=>simp
 | true =>
  obtain ⟨t,ht1,ht2⟩:=zyh (s:=r.z0c) (by omega)
  unfold zzj at ht1
  have hk:∀ b:Bool,decide ((if b=true then (0:Int) else 142)=0)=b:=fun b=>by cases b<;>rfl
  simp only [if_true,ya,yb,zg8 hr,zef hf (show Small (obj (z4u r)) from by unfold Small;omega),z6k,ht1,zd2 hc,yg]
  rw [z8q i1 (by omega) (by unfold I64;omega)]
  have hhd:zmn r.z2v r.z0c ((print (obj (z4u r))).1.length:Int)=z5m r:=rfl
  rw [hhd]
  cases hz:decide ((print (obj (z4u r))).2=0) with
  | false=>simp
  | true =>
   cases hw:decide (z6e r.z2v=[]) with
   | true=>simp
   | false =>
    rw [ht2]
    cases hp:zcd r.z0c with
    | false=>simp
    | true =>
     simp only [yf,ye,yd,if_false,yb,hk,yg]
     cases hcc:okC r.zm with
     | false=>simp
     | true =>
      simp only [yf,yd,if_false,yb,if_true]
      by_cases h8:8192<(z5m r).length
      ·have:(8192:Int)<((z5m r).length:Int):=by omega
       simp [this,h8]
      ·have:¬(8192:Int)<((z5m r).length:Int):=by omega
       simp only [this,decide_false,yd,if_false,h8]
       rw [z2z (by omega)]
       rfl
end Go.Sen
end
section
namespace Go.Sen
open Go.Lk Go.Pe
end Go.Sen
end
section
namespace Go.Sen
open Go.Lk Go.Pe
def no (c:UInt8) (s:Z):Prop := ∀ b∈s,¬b=c
def target (q:q03):Z:=pathS q.z1t++(if formS q.z3n=[] then [] else 63::formS q.z3n)
end Go.Sen
end
