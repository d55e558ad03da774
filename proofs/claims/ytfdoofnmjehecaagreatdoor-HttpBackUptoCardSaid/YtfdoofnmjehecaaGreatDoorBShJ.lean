import Derived.Test.YtfdoofnmjehecaaGreatDoorBShI
import Derived.Lib.TrimUEq
import Derived.Test.YtfdoofnmjehecaaGreatDoorBHnP
set_option linter.all false
section
namespace Go.Sen
open _root_.Option renaming bind_eq_bind → ya, bind_some → yb
open _root_.Bool renaming eq_iff_iff → yc, false_eq_true → yd, not_false → ye, not_true → yf, true_and → yg
open _root_.List renaming append_assoc → yh, drop_eq_getElem_cons → yi, drop_eq_nil_of_le → yj, drop_zero → yk, getElem?_eq_getElem → yl, map_append → ym, map_cons → yn
open Go.Lk Go.Pe
def zxi (b:UInt8):Bool:=decide (b.toNat<33)||decide (126<b.toNat)||decide (b=34)||decide (b=92)
theorem ztd:∀ b:UInt8,zk5 b.toNat=zxi b:=zcg (by decide +kernel)
theorem zp6 {n:Nat} (h:128≤n):zk5 n=true:=by
 unfold zk5
 have:126<n:=by omega
 simp [this]
theorem zy2 {s:Z}:∀ (f pos:Nat),s.length≤pos+f→decide (0≤Lib.idxFuncFrom zk5 true ⟨s.toArray⟩ f pos)=(s.drop pos).any zxi:=by
 have hsz:(⟨s.toArray⟩:ByteArray).size=s.length:=by simp [ByteArray.size]
 intro f
 induction f with
 | zero =>
  intro pos h
  rw [yj (by omega)]
  simp [Lib.idxFuncFrom]
 | succ f ih =>
  intro pos h
  unfold Lib.idxFuncFrom
  rw [hsz]
  by_cases hp:pos<s.length
  ·rw [if_pos hp,yi hp,List.any_cons]
   have e:Utf8.decode ⟨s.toArray⟩ pos=Lib.decodeL (s[pos]::s.drop (pos+1)):=by
    rw [←Lib.decodeL_drop,←yi hp]
   rw [e]
   by_cases hl:(s[pos]).toNat<128
   ·rw [Lib.decodeL_ascii _ _ hl]
    simp only [ztd]
    cases hb:zxi s[pos] with
    | true=>simp
    | false =>
     rw [if_neg (by simp),ih (pos+1) (by omega),Bool.false_or]
   ·have h1:=decode_high s[pos] (s.drop (pos+1)) hl
    rw [if_pos (zp6 h1)]
    have:zxi s[pos]=true:=by
     unfold zxi
     have:126<(s[pos]).toNat:=by omega
     simp [this]
    rw [this]
    simp
  ·rw [if_neg hp,yj (by omega)]
   simp
theorem zqk (s:Z):M.z2f s=some (s.any zxi):=by
 unfold M.z2f Lib.idxFunc
 rw [zy2 _ 0 (by simp [ByteArray.size]),yk]
def zlz (s:Z):Bool:=decide (s.length≤128)&&Lib.validD s
def zw7 (s:Z):Bool := !decide (s=[])&&decide (s.length≤32) && !s.any zxi
def zjz (n:Int):Bool:=decide (0≤n)&&decide (n≤1099511627776)
theorem zhi {s:Z} (h:s.length<1000000000):M.q76 s=some (zlz s):=by
 unfold M.q76 zlz
 by_cases h1:s.length≤128
 ·have:((s.length:Int)≤128):=by omega
  simp [this,h1,z56 (s:=s) (by omega)]
 ·have:¬((s.length:Int)≤128):=by omega
  simp [this,h1]
theorem zhj (s:Z):M.q78 s=some (zw7 s):=by
 unfold M.q78 zw7
 by_cases h:s=[]
 ·subst h;simp
 ·by_cases h1:s.length≤32
  ·have:((s.length:Int)≤32):=by omega
   simp [this,h1,h,zqk]
  ·have:¬((s.length:Int)≤32):=by omega
   simp [this,h1]
def scp:Option Z→List Z→Bool
 | _,[]=>true
 | p,a::r=>zw7 a&&(match p with
  | none=>true
  | some q=>slt q a)&&scp (some a) r
def okC (c:q01):Bool:=[c.zae,c.zag,c.zad,c.zy,c.zaf,c.z0j].all zlz&&c.z6w.all zlz&&zjz c.zc2&&zjz c.zc1&&decide (0≤c.z0e)&&decide (c.z0e≤9)&&decide (c.zk.length≤16)&&decide (c.z6w.length≤4) && !decide (([]:Z)∈c.z6w)&&scp none c.zk
def zll (l:List Z) (i:Nat):Option Z:=if i=0 then none else l[i - 1]?
theorem zsp {c:q01} (hl:c.zk.length<1000000000):∀ (n i:Nat),c.zk.length - i=n→i≤c.zk.length→M.z0h c (i:Int)=some (if scp (zll c.zk i) (c.zk.drop i)=true then .go () else .done 142):=by
 intro n
 induction n with
 | zero =>
  intro i hn hi
  rw [M.z0h,yj (by omega)]
  have:¬((i:Int)<(c.zk.length:Int)):=by omega
  simp [this,scp]
 | succ n ih =>
  intro i hn hi
  have hlt:i<c.zk.length:=by omega
  have h1:((i:Int)<(c.zk.length:Int)):=by omega
  rw [M.z0h,yi hlt]
  simp only [h1,decide_true,if_true,zcj,yl hlt,ya,yb,zhj]
  have hprev:zll c.zk (i+1)=some c.zk[i]:=by
   unfold zll
   rw [if_neg (by omega),Nat.add_sub_cancel,yl hlt]
  unfold scp
  rw [w1 (by omega),ih (i+1) (by omega) (by omega),hprev]
  cases hw:zw7 c.zk[i] with
  | false=>simp
  | true =>
   by_cases h0:i=0
   ·subst h0
    simp [zll]
   ·have hp:(0:Int)<(i:Int):=by omega
    have e1:IntKind.wrap .i64 ((i:Int) - 1)=((i - 1:Nat):Int):=by rw [w64 (by omega) (by omega)];omega
    have e2:zll c.zk i=some c.zk[i - 1]:=by
     unfold zll
     rw [if_neg h0,yl (by omega)]
    rw [e2]
    simp only [hp,decide_true,if_true,yf,yd,if_false,e1,zcj,yl (show i - 1<c.zk.length by omega),yb,yg]
    cases slt c.zk[i - 1] c.zk[i]<;>simp
theorem zfc {c:q01} (h:ClOk c):M.q75 c=some (if okC c=true then 0 else 142):=by
 obtain ⟨h0,_⟩:=h
 unfold q01.sz at h0
 have k1:=z4y c.zk
 have k2:=z4y c.z6w
 have hm:∀ s∈c.z6w,s.length<1000000000:=fun s hs=>by have:=zkw hs;omega
 unfold M.q75
 rw [z6b (by simp;omega)]
 simp only [ya,yb]
 obtain ⟨l,hl⟩:∃ l,l=[c.zae,c.zag,c.zad,c.zy,c.zaf,c.z0j]++c.z6w:=⟨_,rfl⟩
 have hll:l.length=6+c.z6w.length:=by rw [hl,List.length_append];rfl
 have hlm:∀ s∈l,s.length<1000000000:=fun s hs=>by
  rw [hl] at hs
  rcases List.mem_append.1 hs with hs|hs
  ·simp only [List.mem_cons,List.not_mem_nil,or_false] at hs
   rcases hs with rfl|rfl|rfl|rfl|rfl|rfl<;>omega
  ·exact hm s hs
 rw [←hl]
 have hk:M.z0l l 0=some (match l.findIdx? (fun s => !zlz s) with|some i => .done 142|none => .go ()):=by
  refine seek (fun _=>(142:Int)) () (by omega) (fun i h => ?_) ?_
  ·rw [M.z0l]
   have h1:((i:Int)<(l.length:Int)):=by omega
   simp only [h1,decide_true,if_true,zcj,yl h,ya,yb,zhi (hlm _ (List.getElem_mem h))]
  ·rw [M.z0l]
   simp
 rw [hk]
 have hok:okC c=(l.all zlz&&(zjz c.zc2&&zjz c.zc1&&decide (0≤c.z0e)&&decide (c.z0e≤9)&&decide (c.zk.length≤16)&&decide (c.z6w.length≤4) && !decide (([]:Z)∈c.z6w))&&scp none c.zk):=by
  rw [hl,List.all_append]
  unfold okC
  simp only [Bool.and_assoc]
 rw [hok]
 rcases ztu l zlz with ⟨h1,h2⟩|⟨i,h1,h2⟩
 ·rw [h1,h2]
  simp only [yb,yg]
  have ht:∀ n:Int,M.q77 n=some (zjz n):=fun n=>rfl
  have hs:=zsp (c:=c) (by omega) _ 0 rfl (Nat.zero_le _)
  have hs:M.z0h c 0=_:=hs
  rw [hs]
  have hp:zll c.zk 0=none:=rfl
  rw [hp,yk]
  simp only [ht,yb,contains_eq (ks:=c.z6w) (k:=[]) (by omega)]
  have e1:decide (c.z0e<0) = !decide (0≤c.z0e):=by rw [yc];simp
  have e2:decide (9<c.z0e) = !decide (c.z0e≤9):=by rw [yc];simp
  have e3:decide (16<(c.zk.length:Int)) = !decide (c.zk.length≤16):=by rw [yc];simp;omega
  have e4:decide (4<(c.z6w.length:Int)) = !decide (c.z6w.length≤4):=by rw [yc];simp;omega
  rw [e1,e2,e3,e4]
  cases zjz c.zc2<;>cases zjz c.zc1<;>cases decide (0≤c.z0e)<;>cases decide (c.z0e≤9)<;>cases decide (c.zk.length≤16)<;>cases decide (c.z6w.length≤4)<;>cases decide (([]:Z)∈c.z6w)<;>cases scp none c.zk<;>rfl
 ·rw [h1,h2]
  rfl
def zx9:List (Int × Z):=[(200,[79,75]),(201,[67,114,101,97,116,101,100]),(400,[66,97,100,32,82,101,113,117,101,115,116]),(401,[85,110,97,117,116,104,111,114,105,122,101,100]),(403,[70,111,114,98,105,100,100,101,110]),(404,[78,111,116,32,70,111,117,110,100]),(405,[77,101,116,104,111,100,32,78,111,116,32,65,108,108,111,119,101,100]),(409,[67,111,110,102,108,105,99,116]),(412,[80,114,101,99,111,110,100,105,116,105,111,110,32,70,97,105,108,101,100]),(413,[67,111,110,116,101,110,116,32,84,111,111,32,76,97,114,103,101]),(429,[84,111,111,32,77,97,110,121,32,82,101,113,117,101,115,116,115]),(431,[82,101,113,117,101,115,116,32,72,101,97,100,101,114,32,70,105,101,108,100,115,32,84,111,111,32,76,97,114,103,101]),(500,[73,110,116,101,114,110,97,108,32,83,101,114,118,101,114,32,69,114,114,111,114]),(503,[83,101,114,118,105,99,101,32,85,110,97,118,97,105,108,97,98,108,101]),(507,[73,110,115,117,102,102,105,99,105,101,110,116,32,83,116,111,114,97,103,101])]
def z68 (n:Int):Z:=z7d zx9 n []
theorem z7o (n:Int):M.q2v n=some (z68 n):=by
 unfold M.q2v z68
 rfl
theorem z9b (n:Int) (h:¬z68 n=[]):(100≤n∧n<1000)∧(z68 n).length≤40∧∀ b∈z68 n,32≤b.toNat∧b.toNat≤126:=by
 have key:∀ l:List (Int × Z),(∀ p∈l,(100≤p.1∧p.1<1000)∧p.2.length≤40∧∀ b∈p.2,32≤b.toNat∧b.toNat≤126)→¬z7d l n []=[]→(100≤n∧n<1000)∧(z7d l n []).length≤40∧∀ b∈z7d l n [],32≤b.toNat∧b.toNat≤126:=by
  intro l
  induction l with
  | nil=>intro _ h;exact absurd rfl h
  | cons p l ih =>
   intro hl h
   obtain ⟨k,v⟩:=p
   unfold z7d at h ⊢
   by_cases e:n=k
   ·rw [if_pos e]
    subst e
    exact hl (n,v) (by simp)
   ·rw [if_neg e] at h ⊢
    exact ih (fun p hp=>hl p (by simp [hp])) h
 exact key zx9 (by decide +kernel) h
theorem zgu {n:Int} (h:I64 n):(Lib.itoa n).length≤20:=by
 unfold I64 at h
 unfold Lib.itoa
 split
 ·have:=z5k (n:=n.natAbs) (k:=19) (by omega) (by decide)
  simp
  omega
 ·have:=z5k (n:=n.toNat) (k:=19) (by omega) (by decide)
  have e:n.natAbs=n.toNat:=by omega
  first|(rw [e];omega)|omega
def hVer:Z:=[72,84,84,80,47,49,46,49,32]
def zgq:Z:=[99,111,110,116,101,110,116,45,116,121,112,101,58,32,97,112,112,108,105,99,97,116,105,111,110,47,106,115,111,110]
def zim:Z:=[115,101,116,45,99,111,111,107,105,101,58,32,115,101,115,115,105,111,110,61]
def zxz:Z:=[59,32,80,97,116,104,61,47,59,32,72,116,116,112,79,110,108,121]
def hLen:Z:=[99,111,110,116,101,110,116,45,108,101,110,103,116,104,58,32]
def z2h (st:Int):Z:=hVer++Lib.itoa st++[32]++z68 st
def zez (ck:Z):Z:=zim++ck++zxz
def zbd (n:Int):Z:=hLen++Lib.itoa n
def zgr (st:Int) (ck:Z) (n:Int):Z:=z2h st++[13,10]++zgq++[13,10]++(if ck=[] then [] else zez ck++[13,10])++zbd n++[13,10]++[13,10]
theorem zp8 (n:Int):(z68 n).length≤40:=by
 by_cases h:z68 n=[]
 ·rw [h];simp
 ·exact (z9b n h).2.1
theorem z9t {st:Int} {ck:Z} {n:Int} (h1:I64 st) (h2:ck.length<1000000000) (h3:I64 n):M.q1j st ck n=some (zgr st ck n):=by
 have l1:=zgu h1
 have l2:=zgu h3
 have l3:=zp8 st
 unfold M.q1j
 rw [zka h1,zka h3,z7o]
 simp only [ya,yb]
 rw [z3r (by simp;omega)]
 simp only [yb]
 rw [z3r (by simp;omega)]
 simp only [yb]
 rw [z3r (by simp;omega)]
 simp only [yb]
 rw [z3r (by simp;omega)]
 simp only [yb]
 rw [z3r (by simp;omega)]
 simp only [yb]
 rw [z3r (by simp;omega)]
 simp only [yb]
 unfold zgr z2h zez zbd hVer zgq zim zxz hLen
 by_cases hc:ck=[]
 ·simp only [hc,decide_true,yf,yd,if_false,if_true,yb]
  rw [z3r (by simp;omega)]
  simp only [yb]
  rw [z3r (by simp;omega)]
  simp only [yb]
  rw [z3r (by simp;omega)]
  simp only [yb]
  rw [z3r (by simp;omega)]
  simp only [yh,List.nil_append,yb]
 ·simp only [hc,decide_false,ye,if_true,if_false,yb]
  rw [z3r (by simp;omega)]
  simp only [yb]
  rw [z3r (by simp;omega)]
  simp only [yb]
  rw [z3r (by simp;omega)]
  simp only [yb]
  rw [z3r (by simp;omega)]
  simp only [yb]
  rw [z3r (by simp;omega)]
  simp only [yb]
  rw [z3r (by simp;omega)]
  simp only [yb]
  rw [z3r (by simp;omega)]
  simp only [yb]
  rw [z3r (by simp;omega)]
  simp only [yh,yb]
theorem zso:∀ l m:List J,szs (l++m)=szs l+szs m
 | [],m=>by simp [szs]
 | x::l,m=>by
  have:=zso l m
  simp only [List.cons_append,szs]
  omega
theorem zyg (l m:List Z):kys (l++m)=kys l+kys m:=by simp [kys]
def msz (l:List Mb):Nat:=szs (l.map (·.2))+kys (l.map (·.1))
theorem zyy (l m:List Mb):msz (l++m)=msz l+msz m:=by
 unfold msz
 rw [ym,ym,zso,zyg]
 omega
theorem zrm (l:List Mb):(obj l).sz=msz l+1:=by
 rw [q04.z8f]
 simp [obj,msz]
theorem z7f (b:Bool) (k:Z) (v:J):msz (opt b k v)≤v.sz+k.length+2:=by
 unfold opt msz
 split
 ·simp [szs,kys]
  omega
 ·simp [szs,kys]
theorem zue (s:Z):(jT s).sz=s.length+1:=by rw [q04.z8f];simp [jT,szs,kys]
theorem zku {n:Int} (h:I64 n):(jN n).sz≤21:=by
 rw [q04.z8f]
 have:=zgu h
 simp [jN,szs,kys]
 omega
theorem zqw:∀ l:List Z,szs (l.map jT)≤2*kys l
 | []=>by simp [szs]
 | s::l=>by
  have:=zqw l
  rw [yn,szs,zue,z4p]
  omega
theorem zmx (l:List Z):(jTs l).sz≤2*kys l+1:=by
 have:=zqw l
 rw [q04.z8f]
 simp [jTs]
 have e:kys []=0:=rfl
 omega
theorem zqv:∀ l:List q02,szs (l.map fun f=>jTs f.z3d)+kys (l.map (·.z1a))≤3*zct l
 | []=>by simp [szs,kys]
 | f::l=>by
  have h1:=zqv l
  have h2:=zmx f.z3d
  rw [yn,yn,szs,z4p,zb2]
  unfold q02.sz
  omega
theorem zz01w (l:List q02):(jFs l).sz≤3*zct l+1:=by
 have:=zqv l
 rw [q04.z8f]
 simp [jFs]
 omega
theorem zjy:∀ l:List q07,szs (l.map fun t=>obj (z4u t))≤40*zk8 l
 | []=>by simp [szs]
 | t::l=>by
  have h1:=zjy l
  have h2:=zz01w t.z0n
  have h3:msz (z4u t)≤(jFs t.z0n).sz+t.gId.length+t.zi.length+t.z5g.length+30:=by
   simp [z4u,msz,szs,kys,zue,kId,ziz,zwo,z5e]
   omega
  rw [yn,szs,zrm,zbo]
  unfold q07.sz
  omega
theorem zpx {c:q01} (h:ClOk c):msz (z3k c)≤2*c.sz+300:=by
 obtain ⟨_,h1,h2,h3⟩:=h
 have a1:=zku h1
 have a2:=zku h2
 have a3:=zku h3
 have a4:=zmx c.zk
 have a5:=zmx c.z6w
 unfold q01.sz
 simp [z3k,msz,szs,kys,zue,zyb,zyd,zy7,zy9,zyc,zdz,kIat,kExp,z6e,z5b,zy6] at *
 omega
theorem zv5 {r:q06} (h:RpOk r):(obj (z0s r)).sz<1000000000:=by
 obtain ⟨h0,⟨i1,i2,i3,i4,i5⟩,i6⟩:=h
 unfold q06.sz at h0
 have hc:=zpx (c:=r.zl) ⟨by omega,i6⟩
 have ht:=zjy r.z06
 have a1:=zku i2
 have a2:=zku i3
 have a3:=zku i4
 have a4:=zku i5
 have a5:=zmx r.zk
 have b1:=z7f (!decide (r.z10=0)) zb7 (jN r.z10)
 have b2:=z7f (z4z r.z2k) z9y (jT r.z2k)
 have b3:=z7f (z4z r.z1n) z6q (jT r.z1n)
 have b4:=z7f (z4z r.z14) z52 (jT r.z14)
 have b5:=z7f (z4z r.gId) zsz (jT r.gId)
 have b6:=z7f (z4z r.zt) zf7 (jT r.zt)
 have b7:=z7f (!decide (r.zk=[])) z5b (jTs r.zk)
 have b8:=z7f (!decide (r.z0i=0)) z5o (jN r.z0i)
 have b9:=z7f (!decide (r.z0e=0)) z6e (jN r.z0e)
 have b10:=z7f (!decide (r.z1p=0)) zb8 (jN r.z1p)
 have b11:=z7f r.z3a z6r zof
 have b12:=z7f (!z7j r.zl) z4x (obj (z3k r.zl))
 have b13:=z7f (!decide (r.z06=[])) z45 (jL (r.z06.map fun t=>obj (z4u t)))
 have e1:zof.sz=1:=by decide
 have e2:(jL (r.z06.map fun t=>obj (z4u t))).sz=szs (r.z06.map fun t=>obj (z4u t))+1:=by rw [q04.z8f];simp [jL,kys]
 rw [zue] at b2 b3 b4 b5 b6
 rw [e1] at b11
 rw [e2] at b13
 rw [zrm] at b12
 have l1:zb7.length=5:=rfl
 have l2:z9y.length=5:=rfl
 have l3:z6q.length=12:=rfl
 have l4:z52.length=13:=rfl
 have l5:zsz.length=8:=rfl
 have l6:zf7.length=4:=rfl
 have l7:z5b.length=5:=rfl
 have l8:z5o.length=10:=rfl
 have l9:z6e.length=5:=rfl
 have l10:zb8.length=5:=rfl
 have l11:z6r.length=6:=rfl
 have l12:z4x.length=6:=rfl
 have l13:z45.length=6:=rfl
 rw [zrm]
 unfold z0s
 simp only [zyy]
 omega
def sesB:Z:=[65,66,67,68,69,70,71,72,73,74,75,76,77,78,79,80,81,82,83,84,85,86,87,88,89,90,97,98,99,100,101,102,103,104,105,106,107,108,109,110,111,112,113,114,115,116,117,118,119,120,121,122,48,49,50,51,52,53,54,55,56,57,45,95]
def sesC (b:UInt8):Bool:=isAl b||decide (b=45)||decide (b=95)
theorem zzz:∀ b:UInt8,sesB.contains b=sesC b:=zcg (by decide +kernel)
def za0 (s:Z):Bool:=s.all sesC
theorem M_ses {s:Z} (h:s.length<1000000000):∃ t,M.trim s sesB=some t∧decide (t=[])=za0 s:=by
 refine ⟨_,zz013 (by omega) (by decide),?_⟩
 rw [zss]
 unfold za0
 congr 1
 funext b
 exact zzz b
def z4t (n:Int):Bool:=decide (0≤n)&&decide (n<1000000000000000)
def z6u (r:q06):Bool:=z4t r.z10&&z4t r.z0i&&z4t r.z0e&&z4t r.z1p&&decide ((print (obj (z0s r))).2=0) && !decide (z68 r.z1l=[])&&za0 r.z03&&okC r.zl
def z1k (r:q06):Z:=zgr r.z1l r.z03 ((print (obj (z0s r))).1.length:Int)
def z3x (r:q06):Z × Int:=if z6u r=true then (if 8192<(z1k r).length then ([],224) else (z1k r++(print (obj (z0s r))).1,0)) else ([],224)
theorem zed (v:J):(print v).1.length≤16384:=by
 unfold print
 split
 ·split
  ·simp
  ·rename_i h;simp;omega
 ·simp
theorem zv4 {r:q06}:M.z0f r 0=some (if (z4t r.z10&&z4t r.z0i&&z4t r.z0e&&z4t r.z1p)=true then .go () else .done ([],224)):=by
 have step:∀ (i:Nat) (x:Int),i<4→[r.z10,r.z0i,r.z0e,r.z1p][i]? = some x→M.z0f r (i:Int)=if z4t x=true then M.z0f r ((i+1:Nat):Int) else some (.done ([],224)):=by
  intro i x hi hx
  rw [M.z0f]
  have h1:((i:Int)<([r.z10,r.z0i,r.z0e,r.z1p].length:Int)):=by simp;omega
  simp only [h1,decide_true,if_true,zcj,hx,ya,yb]
  rw [w1 (by omega)]
  unfold z4t
  by_cases a:x<0
  ·have:¬0≤x:=by omega
   simp [a,this]
  ·have a':0≤x:=by omega
   by_cases b:x<1000000000000000
   ·have:¬1000000000000000≤x:=by omega
    simp [a,a',b,this]
   ·have:1000000000000000≤x:=by omega
    simp [a,a',b,this]
 have s0:M.z0f r 0=_:=step 0 _ (by decide) rfl
 have s1:=step 1 _ (by decide) rfl
 have s2:=step 2 _ (by decide) rfl
 have s3:=step 3 _ (by decide) rfl
 have s4:M.z0f r ((3+1:Nat):Int)=some (.go ()):=by
  rw [M.z0f]
  simp
 rw [s0,s1,s2,s3,s4]
 cases z4t r.z10<;>cases z4t r.z0i<;>cases z4t r.z0e<;>cases z4t r.z1p<;>rfl
theorem zb4 {r:q06} {f:Nat} (hf:17≤f) (h:RpOk r):M.q0v f r=some (z3x r):=by
 have hr:=h
 obtain ⟨h0,⟨i1,i2,i3,i4,i5⟩,i6⟩:=h
 have hsz:=zv5 hr
 unfold q06.sz at h0
 have hc:ClOk r.zl:=⟨by omega,i6⟩
 have hpl:=zed (obj (z0s r))
 unfold M.q0v z3x z6u
 rw [zv4]
 cases hn:(z4t r.z10&&z4t r.z0i&&z4t r.z0e&&z4t r.z1p) with
 | false=>simp
 | true =>
  obtain ⟨t,ht1,ht2⟩:=M_ses (s:=r.z03) (by omega)
  unfold sesB at ht1
  have hk:∀ b:Bool,decide ((if b=true then (0:Int) else 142)=0)=b:=fun b=>by cases b<;>rfl
  simp only [if_true,ya,yb,zir hr,zgx hf (show Small (obj (z0s r)) from by unfold Small;omega),z7o,ht1,zfc hc,yg]
  rw [z9t i1 (by omega) (by unfold I64;omega)]
  have hhd:zgr r.z1l r.z03 ((print (obj (z0s r))).1.length:Int)=z1k r:=rfl
  rw [hhd]
  cases hz:decide ((print (obj (z0s r))).2=0) with
  | false=>simp
  | true =>
   cases hw:decide (z68 r.z1l=[]) with
   | true=>simp
   | false =>
    rw [ht2]
    cases hp:za0 r.z03 with
    | false=>simp
    | true =>
     simp only [yf,ye,yd,if_false,yb,hk,yg]
     cases hcc:okC r.zl with
     | false=>simp
     | true =>
      simp only [yf,yd,if_false,yb,if_true]
      by_cases h8:8192<(z1k r).length
      ·have:(8192:Int)<((z1k r).length:Int):=by omega
       simp [this,h8]
      ·have:¬(8192:Int)<((z1k r).length:Int):=by omega
       simp only [this,decide_false,yd,if_false,h8]
       rw [z3r (by omega)]
       rfl
end Go.Sen
end
section
namespace Go.Sen
open _root_.List renaming length_append → ya
open Go.Lk Go.Pe
theorem zod {a sub:Z} (b:Z) {i:Nat} (h:Lib.index a sub=i) (hsub:sub≠[]):Lib.index (a++b) sub=i:=by
 rcases Lib.index_spec a sub with ⟨h1,_⟩|⟨j,h1,h2,h3,h4⟩
 ·omega
 ·obtain rfl:j=i:=by omega
  have room:∀ j,Lib.occAt a sub j=true→j+sub.length≤a.length:=fun j hj=>(Lib.occAt_room hj).resolve_right hsub
  have hroom:=room j h3
  have same:∀ k,k+sub.length≤a.length→Lib.occAt (a++b) sub k=Lib.occAt a sub k:=fun k hk=>by
   rw [Lib.occAt_iff_take _ _ _ (by rw [ya];omega),Lib.occAt_iff_take _ _ _ hk,List.drop_append_of_le_length (by omega),List.take_append_of_le_length (by rw [List.length_drop];omega)]
  refine Lib.index_first (by rw [ya];omega) (by rw [same j hroom];exact h3) fun k hk => ?_
  rw [same k (by omega)]
  exact h4 k hk
end Go.Sen
end
section
namespace Go.Sen
open _root_.Bool renaming and_eq_true → ya
open _root_.List renaming all_eq_true → yb, cons_append → yc, dropWhile → yd, isPrefixOf → ye, length_cons → yf, nil_append → yg
open Go.Lk Go.Pe
def no (c:UInt8) (s:Z):Prop := ∀ b∈s,¬b=c
theorem no.cons {c x:UInt8} {r:Z} (h:no c (x::r)):¬x=c∧no c r:=⟨h x (by simp),fun b hb=>h b (by simp [hb])⟩
theorem no.app {c:UInt8} {s t:Z} (h:no c s) (k:no c t):no c (s++t):=fun b hb=>(List.mem_append.1 hb).elim (h b) (k b)
theorem zpz {c:UInt8} (t:Z):∀ {s:Z},no c s→zgi c (s++c::t)=(s,t,true)
 | [],_=>by rw [yg,z8o,if_pos rfl]
 | x::r,h=>by
  obtain ⟨h1,h2⟩:=h.cons
  rw [yc,z8o,if_neg h1,zpz t h2]
theorem zjv:∀ {s:Z},no 13 s→z3s s=[s]
 | [],_=>by unfold z3s;rfl
 | x::r,h=>by
  obtain ⟨h1,h2⟩:=h.cons
  unfold z3s
  rw [if_neg fun q=>h1 q.1,zjv h2]
theorem zju (t:Z):∀ {s:Z},no 13 s→z3s (s++13::10::t)=s::z3s t
 | [],_=>by
  rw [yg]
  conv=>lhs;unfold z3s
  rw [if_pos ⟨rfl,rfl⟩]
  rfl
 | x::r,h=>by
  obtain ⟨h1,h2⟩:=h.cons
  rw [yc]
  conv=>lhs;unfold z3s
  rw [if_neg fun q=>h1 q.1,zju t h2]
def z2w:List Z→Z
 | []=>[]
 | a::l=>a++l.flatMap fun x=>13::10::x
theorem zfy (a b:Z) (l:List Z):z2w (a::b::l)=a++13::10::z2w (b::l):=by simp [z2w]
theorem zcp:∀ (l:List Z) (a:Z),no 13 a→(∀ x∈l,no 13 x)→z3s (z2w (a::l))=a::l
 | [],a,h,_=>by
  have:z2w [a]=a:=by simp [z2w]
  rw [this,zjv h]
 | b::l,a,h,k=>by rw [zfy,zju _ h,zcp l b (k b (by simp)) fun x hx=>k x (by simp [hx])]
theorem zmv (x:UInt8) (r:Z) (h:¬x=13):Lib.index (x::r) z4h=if Lib.index r z4h = -1 then -1 else Lib.index r z4h+1:=by
 rw [Lib.index]
 have:(z4h).isPrefixOf (x::r)=false:=by simp [z4h,ye,Ne.symm h]
 rw [this]
 simp
theorem zdu {r:Z} {i:Nat} (hi:Lib.index r z4h=i):∀ {a:Z},no 13 a→Lib.index (a++r) z4h=((a.length+i:Nat):Int)
 | [],_=>by rw [yg,hi,List.length_nil,Nat.zero_add]
 | x::a,h=>by
  obtain ⟨h1,h2⟩:=h.cons
  have ih:=zdu hi h2
  rw [yc,zmv _ _ h1,ih,if_neg (by omega),yf]
  omega
theorem zqn (t:Z):Lib.index (13::10::13::10::t) z4h=0:=by
 rw [Lib.index]
 have:(z4h).isPrefixOf (13::10::13::10::t)=true:=by simp [z4h,ye]
 rw [this]
 simp
theorem zqo {r:Z} {x:UInt8} {i:Nat} (hx:¬x=13) (hi:Lib.index (x::r) z4h=i):Lib.index (13::10::x::r) z4h=((i+2:Nat):Int):=by
 have h1:Lib.index (10::x::r) z4h=((i+1:Nat):Int):=by rw [zmv _ _ (by decide),hi,if_neg (by omega)];omega
 rw [Lib.index]
 have:(z4h).isPrefixOf (13::10::x::r)=false:=by simp [z4h,ye,Ne.symm hx]
 rw [this,h1]
 simp
 omega
theorem zah (t:Z):∀ (l:List Z) (a:Z),no 13 a→(∀ x∈l,no 13 x∧¬x=[])→Lib.index (z2w (a::l)++13::10::13::10::t) z4h=((z2w (a::l)).length:Nat)
 | [],a,h,_=>by
  have e:z2w [a]=a:=by simp [z2w]
  rw [e]
  have:=zdu (r:=13::10::13::10::t) (i:=0) (zqn t) h
  simpa using this
 | b::l,a,h,k=>by
  obtain ⟨kb,kn⟩:=k b (by simp)
  have ih:=zah t l b kb fun x hx=>k x (by simp [hx])
  cases b with
  | nil=>exact absurd rfl kn
  | cons x b =>
   have hx:=(kb.cons).1
   have e:z2w ((x::b)::l)++13::10::13::10::t=x::(b++((l.flatMap fun x=>13::10::x)++13::10::13::10::t)):=by simp [z2w]
   rw [zfy,List.append_assoc,yc,yc]
   rw [e] at ih ⊢
   rw [zdu (zqo hx ih) h,List.length_append,yf,yf]
theorem zo4 {l:List Z} {a:Z} (t:Z) (h:no 13 a) (k:∀ x∈l,no 13 x∧¬x=[]) (hl:(z2w (a::l)).length+4≤8192):z8a (z2w (a::l)++13::10::13::10::t)=(z2w (a::l)).length+4:=by
 unfold z8a
 have e:(z2w (a::l)++13::10::13::10::t).take 8192=z2w (a::l)++13::10::13::10::t.take (8192 - (z2w (a::l)).length - 4):=by
  rw [List.take_append,List.take_of_length_le (by omega)]
  congr 1
  have:8192 - (z2w (a::l)).length=(8192 - (z2w (a::l)).length - 4)+4:=by omega
  rw [this]
  simp
 rw [e,zah _ l a h k,if_pos (by omega)]
 omega
def target (q:q03):Z:=pathS q.z1q++(if formS q.z3c=[] then [] else 63::formS q.z3c)
theorem zuy {s:Z} {lo hi:Nat} {c:UInt8} (h:zux lo hi s=true) (hc:c.toNat<lo):no c s:=fun b hb e=>by
 subst e
 unfold zux at h
 have:=yb.1 h b hb
 simp at this
 omega
theorem zte (s:Z):bare s=yd ([32]:Z).contains (yd ([32]:Z).contains s.reverse).reverse:=by unfold bare Lib.trimS Lib.trimLeftS Lib.trimRightS;rfl
theorem zgj:∀ (n u:Nat),u≤n→z6m 0 (Lib.decDigits u)=u:=by
 intro n
 induction n with
 | zero =>
  intro u hu
  have:u=0:=by omega
  subst this
  rw [Lib.decDigits]
  rfl
 | succ n ih =>
  intro u hu
  rw [Lib.decDigits]
  split
  ·rename_i h
   rw [zav,zgk,z5l]
   simp
   omega
  ·rename_i h
   rw [zmg,ih (u / 10) (by omega),z5l]
   simp
   omega
theorem zit {n:Nat} (k:Nat) (hk:1≤k) (h:n<10 ^ k):isNum k (Lib.decDigits n)=true:=by
 obtain ⟨d1,d2,d3⟩:=z3l n n (Nat.le_refl _)
 have hl:=z5k h hk
 unfold isNum
 simp only [ya,Bool.not_eq_true',decide_eq_false_iff_not,decide_eq_true_eq,Bool.or_eq_true]
 refine ⟨⟨⟨d2,yb.2 d1⟩,hl⟩,?_⟩
 by_cases e:(Lib.decDigits n).head? = some 48
 ·right
  have:=d3 e
  subst this
  rw [Lib.decDigits]
  rfl
 ·exact .inl e
theorem zqq (n:Nat):isVal (Lib.decDigits n)=true:=by
 obtain ⟨d1,d2,_⟩:=z3l n n (Nat.le_refl _)
 unfold isVal zux
 rw [ya,decide_eq_true_iff,yb]
 refine ⟨fun b hb => ?_,?_⟩
 ·have:=zf5 (d1 b hb)
  simp
  omega
 ·have no32:∀ b∈Lib.decDigits n,([32]:Z).contains b=false:=fun b hb=>by
   have:=zf5 (d1 b hb)
   simp
   intro e
   subst e
   simp at this
  have dw:∀ l:Z,(∀ b∈l,([32]:Z).contains b=false)→l.dropWhile ([32]:Z).contains=l:=fun l hl=>by
   cases l with
   | nil=>rfl
   | cons x l=>rw [List.dropWhile_cons,if_neg (by rw [hl x (by simp)];decide)]
  rw [zte,dw (Lib.decDigits n).reverse fun b hb=>no32 b (by simpa using hb),List.reverse_reverse,dw _ no32]
theorem zor {s:Z} (h:isVal s=true):no 13 s:=by
 unfold isVal at h
 simp only [ya] at h
 exact zuy h.1 (by decide)
end Go.Sen
end
