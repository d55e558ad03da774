import Derived.Test.YtfdoofnmjehecaaGreatDoorBShJ
import Derived.Test.YtfdoofnmjehecaaGreatDoorBHnP
import Derived.Test.YtfdoofnmjehecaaGreatDoorBHnK
set_option linter.all false
namespace Go.Sen
open _root_.Option renaming bind_eq_bind → ya, bind_some → yb, getD_some → yc, map_eq_some_iff → yd
open _root_.Bool renaming true_and → ye
open _root_.List renaming drop_eq_getElem_cons → yf, drop_eq_nil_of_le → yg, drop_zero → yh, getElem?_eq_getElem → yi, getElem_mem → yj, head?_cons → yk, length_drop → yl, length_take → ym, mem_of_getElem? → yn, tail_cons → yo
open _root_.Nat renaming le_trans → yp
open IntKind renaming wrap → yq
open Go.Lk Go.Pe
def zcz (v:J) (k:Z):Z:=if (z42 v k).1.zi=4 then (z42 v k).1.zt else []
def zrl (v:J) (k:Z):Int:=(intOf (z42 v k).1).1
def tsM (v:J) (k:Z):List Z:=(z6v (z42 v k).1).1
def zht:List J→List Z→Option (List q02)
 | [],_=>some []
 | x::xs,ks=>if (z6v x).2=true then (zht xs ks.tail).map (⟨ks.head?.getD [],(z6v x).1⟩ :: ·) else none
def zcm (v:J):List q02 × Bool:=if v.zi=6 then (match zht v.zj v.zw with
 | some l=>(l,true)
 | none=>([],false)) else ([],false)
def za6 (v:J):q01:=⟨zcz v zyb,zcz v zyd,zcz v zy7,zcz v zy9,zcz v zyc,zcz v zdz,zrl v kIat,zrl v kExp,zrl v z6e,tsM v z5b,tsM v zy6⟩
def zcq (v:J):q07:=⟨zcz v kId,zcz v ziz,zcz v zwo,(zcm (z42 v z5e).1).1⟩
def z3i (st:Int) (ck:Z) (v:J):q06:=⟨st,zrl v zb7,ck,zcz v z9y,zcz v z6q,zcz v z52,zcz v zsz,zcz v zf7,tsM v z5b,zrl v z5o,zrl v z6e,zrl v zb8,decide ((z42 v z6r).1.zi=2),za6 (z42 v z4x).1,(z42 v z45).1.zj.map zcq⟩
def SzJ (v:J):Prop:=v.sz≤131072
theorem SzJ.parts {v:J} (h:SzJ v):v.zt.length≤131072∧v.zj.length≤131072∧v.zw.length≤131072:=by
 unfold SzJ at h
 rw [q04.z8f] at h
 have h1:=zhf v.zj
 have h2:=z4y v.zw
 omega
theorem SzJ.z42 {v:J} (h:SzJ v) (k:Z):SzJ (z42 v k).1:=yp (zc4 v k) h
theorem SzJ.mem {v x:J} (h:SzJ v) (hx:x∈v.zj):SzJ x:=by
 have:=zhg hx
 unfold SzJ at h ⊢
 rw [q04.z8f] at h
 omega
theorem zut (w:Nat):z5i zbs w=0:=by
 unfold zbs
 simp [z5i,z9r,frm]
def Chk (v:J):Prop := ∃ w,z5i v w=0
theorem Chk.mem {v x:J} (h:Chk v) (hx:x∈v.zj):Chk x:=by
 obtain ⟨w,h⟩:=h
 exact ⟨w+1,z6c (z6z h).2.2 x hx⟩
theorem zoq (v:J) (k:Z):(z42 v k).1=zbs∨(z42 v k).1∈v.zj:=by
 unfold z42
 split
 ·split
  ·split
   ·rename_i x hx
    exact .inr (yn hx)
   ·exact .inl rfl
  ·exact .inl rfl
 ·exact .inl rfl
theorem Chk.z42 {v:J} (h:Chk v) (k:Z):Chk (z42 v k).1:=by
 rcases zoq v k with e|e
 ·rw [e];exact ⟨0,zut 0⟩
 ·exact h.mem e
theorem Chk.keys {v:J} (h:Chk v):v.zi=6→v.zw.length=v.zj.length:=by
 obtain ⟨w,h⟩:=h
 exact (zd2 (z6z h).2.1).1
theorem get_eq {v:J} (h:SzJ v) (k:Z):M.q1z ⟨v⟩ k=some ⟨(z42 v k).1⟩:=by
 unfold M.q1z
 rw [zf6 (show v.zw.length<1000000000 by have:=h.parts;omega)]
 rfl
theorem z3y {v:J} (h:SzJ v) (k:Z):M.q23 ⟨v⟩ k=some (zcz v k):=by
 unfold M.q23
 rw [get_eq h k]
 unfold zcz
 by_cases e:(z42 v k).1.zi=4<;>simp [e]
theorem zao {v:J} (h:SzJ v) (k:Z):M.q22 ⟨v⟩ k=some (zrl v k):=by
 unfold M.q22
 rw [get_eq h k]
 simp only [ya,yb]
 rw [zkv (by have:=(h.z42 k).parts;omega)]
 rfl
theorem zei {v:J} (h:SzJ v) (k:Z):M.q24 ⟨v⟩ k=some (tsM v k):=by
 unfold M.q24
 rw [get_eq h k]
 simp only [ya,yb]
 rw [z7r (by have:=(h.z42 k).parts;omega)]
 rfl
theorem zxt {v:J} (h:SzJ v) (h6:v.zi=6) (hk:v.zw.length=v.zj.length):∀ (n i:Nat) (a:List q02),v.zj.length - i=n→i≤v.zj.length→a.length≤i →
  M.z2m v a (i:Int)=some (match zht (v.zj.drop i) (v.zw.drop i) with|some l => .go (a++l)|none => .done ([],false)):=by
 have hp:=h.parts
 intro n
 induction n with
 | zero =>
  intro i a hn hi ha
  rw [M.z2m,yg (by omega)]
  have:¬((i:Int)<(v.zj.length:Int)):=by omega
  simp [this,zht]
 | succ n ih =>
  intro i a hn hi ha
  have hlt:i<v.zj.length:=by omega
  have hlt2:i<v.zw.length:=by omega
  have h1:((i:Int)<(v.zj.length:Int)):=by omega
  have hx:SzJ v.zj[i]:=h.mem (yj hlt)
  rw [M.z2m,yf hlt,yf hlt2]
  simp only [h1,decide_true,if_true,zcj,yi hlt,yi hlt2,ya,yb,h6]
  rw [z7r (by have:=hx.parts;omega)]
  simp only [yb]
  unfold zht
  cases ht:(z6v v.zj[i]).2 with
  | false=>simp
  | true =>
   simp only [Bool.not_true,Bool.or_self,Bool.false_eq_true,if_false,if_true,yo,yk,yc]
   rw [z6b (by simp;omega),w1 (by omega)]
   simp only [yb]
   rw [ih (i+1) _ (by omega) (by omega) (by simp;omega)]
   cases zht (v.zj.drop (i+1)) (v.zw.drop (i+1))<;>simp
theorem zum {v:J} (h:SzJ v) (hk:v.zi=6→v.zw.length=v.zj.length):M.q1m v=some (zcm v):=by
 unfold M.q1m zcm
 by_cases h6:v.zi=6
 ·have hs:=zxt h h6 (hk h6) _ 0 [] rfl (Nat.zero_le _) (by simp)
  have hs:M.z2m v [] 0=_:=hs
  rw [hs,yh,yh,if_pos h6]
  cases zht v.zj v.zw<;>simp [h6]
 ·rw [if_neg h6,M.z2m]
  cases hl:v.zj with
  | nil=>simp [h6]
  | cons x l =>
   have hx:SzJ x:=h.mem (by rw [hl];simp)
   have h1:((0:Int)<((x::l).length:Int)):=by simp
   have i0:ix (x::l) 0=some x:=by simp [ix_0]
   simp only [h1,decide_true,if_true,i0,ya,yb]
   rw [z7r (by have:=hx.parts;omega)]
   simp [h6]
theorem zu5 {v:J} (h:SzJ v) (hc:Chk v):∀ (n i:Nat) (a:List q07),v.zj.length - i=n→i≤v.zj.length→a.length≤i→M.z0o ⟨v⟩ (i:Int) a=some (a++(v.zj.drop i).map zcq):=by
 have hp:=h.parts
 intro n
 induction n with
 | zero =>
  intro i a hn hi ha
  rw [M.z0o,yg (by omega)]
  have:¬((i:Int)<(v.zj.length:Int)):=by omega
  simp [this]
 | succ n ih =>
  intro i a hn hi ha
  have hlt:i<v.zj.length:=by omega
  have h1:((i:Int)<(v.zj.length:Int)):=by omega
  have hx:SzJ v.zj[i]:=h.mem (yj hlt)
  have hcx:Chk v.zj[i]:=hc.mem (yj hlt)
  rw [M.z0o,yf hlt]
  simp only [h1,decide_true,if_true,zcj,yi hlt,ya,yb]
  have g:=get_eq hx z5e
  unfold z5e at g
  rw [g]
  simp only [yb]
  have e:=zum (hx.z42 z5e) (hcx.z42 z5e).keys
  unfold z5e at e
  rw [e]
  have t1:=z3y hx kId
  have t2:=z3y hx ziz
  have t3:=z3y hx zwo
  unfold kId at t1
  unfold ziz at t2
  unfold zwo at t3
  simp only [yb,t1,t2,t3]
  rw [z6b (by simp;omega),w1 (by omega)]
  simp only [yb]
  rw [ih (i+1) _ (by omega) (by omega) (by simp;omega),List.map_cons,List.append_assoc]
  rfl
theorem zu4 {v:J} (h:SzJ v) (hc:Chk v):M.q1l ⟨v⟩=some (z3i 0 [] v):=by
 have hk:M.z0o ⟨(z42 v z45).1⟩ 0 []=some ([]++((z42 v z45).1.zj.drop 0).map zcq):=zu5 (h.z42 z45) (hc.z42 z45) _ 0 [] rfl (Nat.zero_le _) (by simp)
 rw [yh,List.nil_append] at hk
 have hcl:=h.z42 z4x
 have n1:=zao h zb7
 have n2:=zao h z5o
 have n3:=zao h z6e
 have n4:=zao h zb8
 have t1:=z3y h z9y
 have t2:=z3y h z6q
 have t3:=z3y h z52
 have t4:=z3y h zsz
 have t5:=z3y h zf7
 have s1:=zei h z5b
 have g1:=get_eq h z6r
 have g2:=get_eq h z4x
 have g3:=get_eq h z45
 have c1:=z3y hcl zyb
 have c2:=z3y hcl zyd
 have c3:=z3y hcl zy7
 have c4:=z3y hcl zy9
 have c5:=z3y hcl zyc
 have c6:=z3y hcl zdz
 have c7:=zao hcl kIat
 have c8:=zao hcl kExp
 have c9:=zao hcl z6e
 have c10:=zei hcl z5b
 have c11:=zei hcl zy6
 unfold M.q1l
 have f1:([101,114,114,111,114]:Z)=zb7:=rfl
 have f2:([103,114,97,110,116]:Z)=z9y:=rfl
 have f3:([97,99,99,101,115,115,95,116,111,107,101,110]:Z)=z6q:=rfl
 have f4:([114,101,102,114,101,115,104,95,116,111,107,101,110]:Z)=z52:=rfl
 have f5:([105,100,95,116,111,107,101,110]:Z)=zsz:=rfl
 have f6:([116,101,120,116]:Z)=zf7:=rfl
 have f7:([115,99,111,112,101]:Z)=z5b:=rfl
 have f8:([101,120,112,105,114,101,115,95,105,110]:Z)=z5o:=rfl
 have f9:([108,101,118,101,108]:Z)=z6e:=rfl
 have f10:([116,111,116,97,108]:Z)=zb8:=rfl
 have f11:([97,99,116,105,118,101]:Z)=z6r:=rfl
 have f12:([99,108,97,105,109,115]:Z)=z4x:=rfl
 have f13:([116,104,105,110,103,115]:Z)=z45:=rfl
 have f14:([105,115,115]:Z)=zyb:=rfl
 have f15:([115,117,98]:Z)=zyd:=rfl
 have f16:([97,117,100]:Z)=zy7:=rfl
 have f17:([99,108,105,101,110,116,95,105,100]:Z)=zy9:=rfl
 have f18:([106,116,105]:Z)=zyc:=rfl
 have f19:([110,111,110,99,101]:Z)=zdz:=rfl
 have f20:([105,97,116]:Z)=kIat:=rfl
 have f21:([101,120,112]:Z)=kExp:=rfl
 have f22:([97,99,116]:Z)=zy6:=rfl
 simp only [f1,f2,f3,f4,f5,f6,f7,f8,f9,f10,f11,f12,f13,f14,f15,f16,f17,f18,f19,f20,f21,f22,ya,yb,n1,n2,n3,n4,t1,t2,t3,t4,t5,s1,g1,g2,g3,c1,c2,c3,c4,c5,c6,c7,c8,c9,c10,c11,hk]
 rfl
theorem z3z {v:J} (k:Z):(zcz v k).length≤v.sz:=by
 have h1:=zc4 v k
 unfold zcz
 split
 ·rw [q04.z8f] at h1
  omega
 ·simp
theorem zjx:∀ {l:List J} {r:List Z},texts l=some r→kys r≤szs l
 | [],r,h=>by
  unfold texts at h
  cases h
  simp [kys]
 | x::l,r,h=>by
  unfold texts at h
  split at h
  ·obtain ⟨r',h1,rfl⟩:=yd.1 h
   have:=zjx h1
   rw [z4p,szs,q04.z8f]
   omega
  ·cases h
theorem zeq (v:J):kys (z6v v).1≤v.sz:=by
 rw [q04.z8f]
 unfold z6v
 split
 ·split
  ·rename_i l h
   have:=zjx h
   simp only
   omega
  ·simp [kys]
 ·simp [kys]
theorem zm1 (v:J) (k:Z):kys (tsM v k)≤v.sz:=yp (zeq _) (zc4 v k)
theorem zqc:∀ {l:List J} {ks:List Z} {r:List q02},zht l ks=some r→zct r≤szs l+kys ks
 | [],ks,r,h=>by
  unfold zht at h
  cases h
  simp [zct]
 | x::l,ks,r,h=>by
  unfold zht at h
  split at h
  ·obtain ⟨r',h1,rfl⟩:=yd.1 h
   have h2:=zqc h1
   have h3:=zeq x
   rw [zb2,szs]
   unfold q02.sz
   simp only
   cases ks with
   | nil =>
    simp only [List.head?_nil,Option.getD_none,List.length_nil,List.tail_nil] at h2 ⊢
    omega
   | cons k ks =>
    simp only [yk,yc,yo] at h2 ⊢
    rw [z4p]
    omega
  ·cases h
theorem zr8 (v:J):zct (zcm v).1≤v.sz:=by
 rw [q04.z8f]
 unfold zcm
 split
 ·split
  ·rename_i l h
   have:=zqc h
   simp only
   omega
  ·simp [zct]
 ·simp [zct]
theorem zg8:∀ l:List J,zk8 (l.map zcq)≤4*szs l
 | []=>by simp [zk8]
 | x::l=>by
  have h1:=zg8 l
  have h2:=z3z (v:=x) kId
  have h3:=z3z (v:=x) ziz
  have h4:=z3z (v:=x) zwo
  have h5:=yp (zr8 (z42 x z5e).1) (zc4 x z5e)
  have h6:(zcq x).sz=(zcz x kId).length+(zcz x ziz).length+(zcz x zwo).length+zct (zcm (z42 x z5e).1).1+1:=rfl
  rw [List.map_cons,zbo,szs,h6]
  omega
theorem z61 (v:J):I64 (intOf v).1:=by
 unfold intOf I64
 split
 ·rename_i h
  have hc:=h.2
  unfold canon at hc
  simp only [Bool.and_eq_true,decide_eq_true_eq] at hc
  obtain ⟨⟨⟨_,h1⟩,h2⟩,_⟩:=hc
  have hd:∀ c∈mag v.zt,isD c=true:=List.all_eq_true.1 h1
  have:=zbx (mag v.zt) 0 0 hd (by decide)
  rw [Nat.zero_add] at this
  have hp:=zz8 h2
  unfold way
  split
  ·simp only;omega
  ·simp only;omega
 ·simp
theorem zo0 (v:J):(za6 v).sz≤8*v.sz:=by
 have h1:=z3z (v:=v) zyb
 have h2:=z3z (v:=v) zyd
 have h3:=z3z (v:=v) zy7
 have h4:=z3z (v:=v) zy9
 have h5:=z3z (v:=v) zyc
 have h6:=z3z (v:=v) zdz
 have h7:=zm1 v z5b
 have h8:=zm1 v zy6
 unfold q01.sz za6
 simp only
 omega
theorem zu6 {v:J} (h:SzJ v) {st:Int} {ck:Z} (hs:I64 st) (hk:ck.length≤1000000):RpOk (z3i st ck v):=by
 unfold SzJ at h
 refine ⟨?_,⟨hs,z61 _,z61 _,z61 _,z61 _⟩,z61 _,z61 _,z61 _⟩
 have h1:=z3z (v:=v) z9y
 have h2:=z3z (v:=v) z6q
 have h3:=z3z (v:=v) z52
 have h4:=z3z (v:=v) zsz
 have h5:=z3z (v:=v) zf7
 have h6:=zm1 v z5b
 have h7:=zo0 (z42 v z4x).1
 have h8:=zc4 v z4x
 have h9:=zg8 (z42 v z45).1.zj
 have h10:=zc4 v z45
 have h11:szs (z42 v z45).1.zj≤(z42 v z45).1.sz:=by rw [q04.z8f];omega
 unfold q06.sz z3i
 simp only
 omega
def zR:q06:=⟨0,0,[],[],[],[],[],[],[],0,0,0,false,⟨[],[],[],[],[],[],0,0,0,[],[]⟩,[]⟩
def zk0 (p s:Z):Z:=if p.isPrefixOf s then s.drop p.length else s
def zcx (l:List Z) (i:Nat):Z:=(l[i]?).getD []
def zbl (l:List Z):Z:=((zcx l 0).take 12).drop 9
def z8e (l:List Z):Int:=((z6m 0 (zbl l):Nat):Int)
def z71 (l:List Z):Z:=if l.length=4 then (zgi 59 (zk0 zim (zcx l 2))).1 else []
def zf8 (l:List Z):Z:=zk0 hLen (zcx l (l.length - 1))
def z6s (l:List Z):Nat:=z6m 0 (zf8 l)
def zqm (s:Z) (n:Nat) (st:Int) (ck:Z) (k:Nat):q06 × Nat × Int :=
 if s.length<n+k then (zR,0,223) else if (parse ((s.drop n).take k)).2=0∧z3x (z3i st ck (parse ((s.drop n).take k)).1)=(s.take (n+k),0) then (z3i st ck (parse ((s.drop n).take k)).1,n+k,0) else (zR,0,220)
def zin (l:List Z) (h:Z):Bool:=decide (3≤l.length)&&decide (12<(zcx l 0).length)&&isNum 3 (zbl l) && !decide (z68 (z8e l)=[])&&za0 (z71 l)&&isNum 5 (zf8 l)&&decide (z6s l≤16384)&&decide (zgr (z8e l) (z71 l) (z6s l:Int)=h)
def zy0 (s:Z) (n:Nat) (l:List Z):q06 × Nat × Int:=if zin l (s.take n)=true then zqm s n (z8e l) (z71 l) (z6s l) else (zR,0,220)
def zgs (s:Z):q06 × Nat × Int:=if z8a s=0 then (zR,0,if s.length<8192 then 223 else 220) else zy0 s (z8a s) (z3s (s.take (z8a s - 4)))
theorem ztl (c:UInt8) (s:Z):(zgi c s).1.length≤s.length:=by have:=(zme c s).1;omega
theorem zes (p s:Z):(zk0 p s).length≤s.length:=by
 unfold zk0
 split
 ·rw [yl];omega
 ·exact Nat.le_refl _
theorem z6d {s:Z} {f:Nat} (hf:34≤f) (h:s.length<1000000000):M.q0t f s=some ((zgs s).1,(((zgs s).2.1:Nat):Int),(zgs s).2.2):=by
 unfold M.q0t zgs
 rw [zkr h]
 simp only [ya,yb]
 by_cases h0:z8a s=0
 ·rw [if_pos h0,h0]
  by_cases h1:s.length<8192
  ·have:((s.length:Int)<8192):=by omega
   simp [this,h1,z3m,z1y,zR]
  ·have:¬((s.length:Int)<8192):=by omega
   simp [this,h1,z1y,zR]
 ·rw [if_neg h0]
  have hp:(0:Int)<((z8a s:Nat):Int):=by omega
  have h4:=zz01i (s:=s) (by omega)
  have hle:=zxq s
  simp only [hp,decide_true,Bool.true_or,z3m,yb]
  have ew:yq .i64 (((z8a s:Nat):Int) - 4)=((z8a s - 4:Nat):Int):=by rw [w64 (by omega) (by omega)];omega
  rw [ew,zjw (by omega)]
  simp only [yb]
  have hlt:(s.take (z8a s - 4)).length≤8192:=by rw [ym];omega
  rw [zt4 (by omega)]
  obtain ⟨hs1,hs2⟩:=zp4 _ (s.take (z8a s - 4)) (Nat.le_refl _)
  obtain ⟨l,hl⟩:∃ l,z3s (s.take (z8a s - 4))=l:=⟨_,rfl⟩
  rw [hl] at hs1 hs2 ⊢
  simp only [yb]
  have hrow:∀ i,i<l.length→ix l (i:Int)=some (zcx l i):=fun i hi=>by rw [zcj];unfold zcx;rw [yi hi];rfl
  have hrl:∀ i,(zcx l i).length≤8192:=fun i=>by
   unfold zcx
   cases e:l[i]? with
   | none=>simp
   | some x=>have:=hs2 x (yn e);simp;omega
  unfold zy0 zin
  by_cases c1:3≤l.length
  ·have c1':(3:Int)≤(l.length:Int):=by omega
   have r0:ix l 0=some (zcx l 0):=hrow 0 (by omega)
   simp only [c1',c1,decide_true,if_true,r0,yb,ye]
   by_cases c2:12<(zcx l 0).length
   ·have c2':(12:Int)<((zcx l 0).length:Int):=by omega
    have hs:sub (zcx l 0) 9 12=some (zbl l):=by
     have:=zw1 (l:=zcx l 0) (a:=9) (b:=12) (by omega) (by omega)
     simpa [zbl] using this
    simp only [c2',c2,decide_true,z3m,yb,hs,ye]
    have hst:(zbl l).length≤3:=by unfold zbl;rw [yl,ym];omega
    obtain ⟨st,n1,n2⟩:=z9u (s:=zbl l) 3 (by decide) (by omega)
    have n1:M.q1t (zbl l) 3=some (st,isNum 3 (zbl l)):=n1
    rw [n1]
    simp only [yb]
    cases c3:isNum 3 (zbl l) with
    | false=>simp [z1y,zR]
    | true =>
     have est:st=z8e l:=n2 c3
     subst est
     simp only [if_true,z7o,yb,ye]
     cases c4:decide (z68 (z8e l)=[]) with
     | true=>simp [z1y,zR]
     | false =>
      simp only [Bool.not_false,z3m,yb,ye]
      have hck:(if decide ((l.length:Int)=4)=true then (ix l 2).bind fun x50=>(M.q74 x50 [115,101,116,45,99,111,111,107,105,101,58,32,115,101,115,115,105,111,110,61]).bind fun a51=>(M.cut a51 [59]).bind fun a53=>some a53.1 else some ([]:Z))=some (z71 l):=by
       unfold z71
       by_cases e4:l.length=4
       ·have e4':((l.length:Int)=4):=by omega
        have r2:ix l 2=some (zcx l 2):=hrow 2 (by omega)
        have htp:M.q74 (zcx l 2) [115,101,116,45,99,111,111,107,105,101,58,32,115,101,115,115,105,111,110,61]=some (zk0 zim (zcx l 2)):=z7z _ _
        have:=zes zim (zcx l 2)
        have:=hrl 2
        simp only [e4',e4,decide_true,if_true,r2,yb,htp]
        rw [M_cut 59 (by omega)]
        rfl
       ·have e4':¬((l.length:Int)=4):=by omega
        simp [e4',e4]
      rw [hck]
      simp only [yb]
      have hckl:(z71 l).length≤8192:=by
       unfold z71
       split
       ·have h1:=ztl 59 (zk0 zim (zcx l 2))
        have h2:=zes zim (zcx l 2)
        have h3:=hrl 2
        omega
       ·simp
      obtain ⟨t,ht1,ht2⟩:=M_ses (s:=z71 l) (by omega)
      unfold sesB at ht1
      rw [ht1]
      simp only [yb,ht2]
      cases c5:za0 (z71 l) with
      | false=>simp [z1y,zR]
      | true =>
       simp only [z3m,yb,ye]
       have el:yq .i64 ((l.length:Int) - 1)=((l.length - 1:Nat):Int):=by rw [w64 (by omega) (by omega)];omega
       rw [el,hrow _ (by omega)]
       simp only [yb]
       have htp:M.q74 (zcx l (l.length - 1)) [99,111,110,116,101,110,116,45,108,101,110,103,116,104,58,32]=some (zf8 l):=z7z _ _
       rw [htp]
       simp only [yb]
       have hll:(zf8 l).length≤8192:=yp (zes _ _) (hrl _)
       obtain ⟨m,m1,m2⟩:=z9u (s:=zf8 l) 5 (by decide) (by omega)
       have m1:M.q1t (zf8 l) 5=some (m,isNum 5 (zf8 l)):=m1
       rw [m1]
       simp only [yb]
       cases c6:isNum 5 (zf8 l) with
       | false=>simp [z1y,zR]
       | true =>
        have em:m=((z6s l:Nat):Int):=m2 c6
        subst em
        simp only [if_true,ye]
        by_cases c7:z6s l≤16384
        ·have c7':((z6s l:Nat):Int)≤16384:=by omega
         have hst3:z6m 0 (zbl l)<1000:=by
          have:=ziu c3 (by decide)
          have h2:=this.2.1
          have:10 ^ (zbl l).length≤10 ^ 3:=Nat.pow_le_pow_right (by decide) hst
          omega
         have hi:I64 (z8e l):=by unfold I64 z8e;omega
         simp only [c7',c7,decide_true,if_true,ye]
         rw [zjw (by omega),z9t hi (by omega) (by unfold I64;omega)]
         simp only [yb]
         cases c8:decide (zgr (z8e l) (z71 l) ((z6s l:Nat):Int)=s.take (z8a s)) with
         | false=>simp [z1y,zR]
         | true =>
          simp only [z3m,yb,if_true]
          have ew2:yq .i64 ((s.length:Int) - ((z8a s:Nat):Int))=((s.length - z8a s:Nat):Int):=by rw [w64 (by omega) (by omega)];omega
          rw [ew2]
          unfold zqm
          by_cases c9:s.length<z8a s+z6s l
          ·have:¬(((z6s l:Nat):Int)≤((s.length - z8a s:Nat):Int)):=by omega
           simp [this,c9,z1y,zR]
          ·have:(((z6s l:Nat):Int)≤((s.length - z8a s:Nat):Int)):=by omega
           simp only [this,decide_true,z3m,yb,c9,if_false]
           rw [wadd (by omega),zw1 (by omega) (by omega)]
           simp only [yb]
           have et:(s.take (z8a s+z6s l)).drop (z8a s)=(s.drop (z8a s)).take (z6s l):=by
            rw [List.drop_take,Nat.add_sub_cancel_left]
           rw [et,zgw _ hf]
           simp only [yb]
           obtain ⟨b,hb⟩:∃ b,(s.drop (z8a s)).take (z6s l)=b:=⟨_,rfl⟩
           rw [hb]
           by_cases c10:(parse b).2=0
           ·have hchk:Chk (parse b).1:=by
             rcases zlh b with ⟨x,e,hx⟩|⟨c,e,hx⟩
             ·rw [e];exact ⟨0,hx⟩
             ·rw [e] at c10;simp only at c10;omega
            have hsz:SzJ (parse b).1:=zv2 b
            simp only [c10,decide_true,z3m,yb,zu4 hsz hchk,true_and]
            have hrep:(q06.mk (z8e l) (z3i 0 [] (parse b).1).z10 (z71 l) (z3i 0 [] (parse b).1).z2k (z3i 0 [] (parse b).1).z1n (z3i 0 [] (parse b).1).z14 (z3i 0 [] (parse b).1).gId (z3i 0 [] (parse b).1).zt (z3i 0 [] (parse b).1).zk (z3i 0 [] (parse b).1).z0i (z3i 0 [] (parse b).1).z0e (z3i 0 [] (parse b).1).z1p (z3i 0 [] (parse b).1).z3a (z3i 0 [] (parse b).1).zl (z3i 0 [] (parse b).1).z06)=z3i (z8e l) (z71 l) (parse b).1:=rfl
            rw [hrep,zb4 (by omega) (zu6 hsz hi (by omega))]
            simp only [yb]
            by_cases c11:(z3x (z3i (z8e l) (z71 l) (parse b).1)).2=0
            ·simp only [c11,decide_true,if_true]
             rw [zjw (by omega)]
             simp only [yb]
             by_cases c12:(z3x (z3i (z8e l) (z71 l) (parse b).1)).1=s.take (z8a s+z6s l)
             ·have:z3x (z3i (z8e l) (z71 l) (parse b).1)=(s.take (z8a s+z6s l),0):=Prod.ext c12 c11
              simp only [c12,decide_true,z3m,yb,this,if_true]
             ·have:¬z3x (z3i (z8e l) (z71 l) (parse b).1)=(s.take (z8a s+z6s l),0):=fun e=>c12 (by rw [e])
              simp [c12,z1y,this,zR]
            ·have:¬z3x (z3i (z8e l) (z71 l) (parse b).1)=(s.take (z8a s+z6s l),0):=fun e=>c11 (by rw [e])
             simp [c11,z1y,this,zR]
           ·simp [c10,z1y,zR]
        ·have c7':¬((z6s l:Nat):Int)≤16384:=by omega
         simp [c7',c7,z1y,zR]
   ·have c2':¬(12:Int)<((zcx l 0).length:Int):=by omega
    simp [c2',c2,z1y,zR]
  ·have c1':¬(3:Int)≤(l.length:Int):=by omega
   simp [c1',c1,z1y,zR]
end Go.Sen
