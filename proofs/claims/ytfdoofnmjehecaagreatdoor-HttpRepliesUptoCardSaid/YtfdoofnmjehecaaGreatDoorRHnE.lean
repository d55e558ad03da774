import Derived.Test.YtfdoofnmjehecaaGreatDoorRHnA
set_option linter.all false
section
namespace Go.Sen
open _root_.Option renaming bind_eq_bind → ya, bind_some → yb
open _root_.Bool renaming and_eq_true → yc, not_eq_true → yd, not_eq_true' → ye, or_eq_true → yf
open _root_.List renaming drop_eq_getElem_cons → yg, drop_eq_nil_of_le → yh, drop_zero → yi, eq_nil_of_length_eq_zero → yj, getElem?_eq_getElem → yk, getElem_mem → yl, nodup_append → ym
open _root_.Nat renaming zero_le → yn
open Go.Lk Go.Pe
theorem zu2 (b:Bool) (e:Int):M.q3e b e=some (if b=true then .ok () else .pan e):=by cases b<;>simp [M.q3e]
theorem zbe (x:q04) (xs:List q04) (w:Nat):zkp (x::xs) w=if zao x w=0 then zkp xs w else zao x w:=by simp only [zkp]
theorem zko {v:q04} {self:q04→Int→Option (Rs Unit)} {w:Nat} (hw:w≤16) (hl:v.zk.length<1152921504606846976) (hs:∀ x∈v.zk,self x ((w+1:Nat):Int)=some (znt (zao x (w+1)))) :
  ∀ (n i:Nat),v.zk.length - i=n→i≤v.zk.length→M.z09 v self (w:Int) (i:Int)=some (znt (zkp (v.zk.drop i) (w+1))):=by
 intro n
 induction n with
 | zero =>
  intro i hn hi
  rw [M.z09.eq_1]
  have:¬((i:Int)<(v.zk.length:Int)):=by omega
  rw [if_neg (by simpa using this),yh (by omega)]
  rfl
 | succ n ih =>
  intro i hn hi
  have hlt:i<v.zk.length:=by omega
  rw [M.z09.eq_1]
  have h1:((i:Int)<(v.zk.length:Int)):=by omega
  simp only [h1,decide_true,if_true,z6m,yk hlt,ya,yb]
  rw [w1 (n:=w) (by omega),hs _ (yl hlt),w1 (by omega),ih (i+1) (by omega) (by omega),yg hlt,zbe]
  simp only [yb]
  unfold znt
  by_cases hc:zao v.zk[i] (w+1)=0
  ·simp [hc]
  ·simp [hc]
def Small (v:q04):Prop:=v.sz<1000000000
theorem Small.mem {v x:q04} (h:Small v) (hx:x∈v.zk):Small x:=by
 unfold Small at *
 have:=zix hx
 rw [q04.zd1 v] at h
 omega
theorem Small.parts {v:q04} (h:Small v):v.zq.length<1000000000∧v.zk.length<1000000000∧v.zn.length<1000000000∧∀ k∈v.zn,k.length<1000000000:=by
 unfold Small at h
 rw [q04.zd1] at h
 have h1:=zez v.zk
 have h2:=z3y v.zn
 exact ⟨by omega,by omega,by omega,fun k hk=>by have:=zc1 hk;omega⟩
theorem zbv:∀ (f:Nat) (v:q04) (w:Nat),w≤16→17≤f+w→Small v→M.q3a f v (w:Int)=some (znt (zao v w)):=by
 intro f
 induction f with
 | zero=>intro v w h1 h2;omega
 | succ f ih =>
  intro v w hw hf hsm
  obtain ⟨s1,s2,s3,s4⟩:=hsm.parts
  have hk1:(v.zk=[]∨w<16)→M.z09 v (M.q3a f) (w:Int) 0=some (znt (zkp v.zk (w+1))):=by
   intro h
   refine zko hw (by omega) (fun x hx => ?_) _ 0 rfl (yn _)
   rcases h with h|h
   ·rw [h] at hx;cases hx
   ·exact ih x (w+1) (by omega) (by omega) (hsm.mem hx)
  rw [M.q3a,zhl,zbw (.inr trivial)]
  simp only [zu2,zbh (fun k hk=>by have:=s4 k hk;omega) (show v.zn.length<1152921504606846976 by omega),zoq (show v.zn.length*16≤140737488355328 by omega),ya,yb]
  have hj:(if (!(!v.zn.all Lib.validD))=true then some (decide v.zn.Nodup) else some false)=some (v.zn.all Lib.validD&&decide v.zn.Nodup):=by
   cases v.zn.all Lib.validD<;>simp
  rw [hj]
  simp only [yb]
  have hn1:=zcx (s:=v.zq) (by omega)
  have hn2:=z3p (s:=v.zq) (by omega)
  generalize hb5:(v.zn.all Lib.validD&&decide v.zn.Nodup)=b5
  generalize hb4:(decide (v.zh=6)&&decide ((v.zn.length:Int)=(v.zk.length:Int))||decide ((v.zn.length:Int)=0) && !decide (v.zh=6))=b4
  generalize hb2:(decide (0≤v.zh)&&decide (v.zh<7))=b2
  by_cases hd:(v.zh=5∨v.zh=6)∧16≤w
  ·have:(!(decide (v.zh=5)||decide (v.zh=6))||decide ((w:Int)<16))=false:=by
    rw [←yd,yf,ye,←yd,yf]
    simp only [decide_eq_true_eq]
    omega
   rw [this,if_pos hd]
   rfl
  ·have h1:(!(decide (v.zh=5)||decide (v.zh=6))||decide ((w:Int)<16))=true:=by
    rw [yf,ye,←yd,yf]
    simp only [decide_eq_true_eq]
    omega
   rw [h1,if_neg hd]
   have h3:(decide (v.zh=5)||decide (v.zh=6)||decide ((v.zk.length:Int)=0))=true→(v.zk=[]∨w<16):=by
    rw [yf,yf]
    simp only [decide_eq_true_eq]
    intro h
    rcases h with h|h
    ·exact .inr (by omega)
    ·exact .inl (yj (by omega))
   generalize (decide (v.zh=5)||decide (v.zh=6)||decide ((v.zk.length:Int)=0))=b3 at *
   cases b2 with
   | false=>rfl
   | true =>
    cases b3 with
    | false=>rfl
    | true =>
     cases b4 with
     | false=>rfl
     | true =>
      cases b5 with
      | false=>rfl
      | true =>
       have hk:=hk1 (h3 rfl)
       have e:((num v.zq:Nat):Int)=(v.zq.length:Int)↔num v.zq=v.zq.length:=by omega
       simp only [if_true,Bool.true_and]
       by_cases k3:v.zh=3
       ·by_cases ht:v.zq=[]
        ·simp [k3,ht,znt]
        ·by_cases hn:num v.zq=v.zq.length
         ·simp [k3,ht,hn,hn1,hk]
         ·have:¬((num v.zq:Nat):Int)=(v.zq.length:Int):=fun x=>hn (e.1 x)
          simp [k3,ht,hn,hn1,this,znt]
       ·by_cases k4:v.zh=4
        ·cases hv:Lib.validD v.zq<;>simp [k4,hv,hn2,hk,znt]
        ·by_cases ht:v.zq=[]<;>simp [k3,k4,ht,hk,znt]
theorem zee {v:q04} {f:Nat} (hf:17≤f) (h:Small v):M.q33 f v=some (zao v 0):=by
 unfold M.q33
 have h1:=zbv f v 0 (by omega) (by omega) h
 have h1:M.q3a f v 0=some (znt (zao v 0)):=h1
 rw [h1]
 simp only [ya,yb]
 unfold znt
 by_cases hc:zao v 0=0<;>simp [hc]
theorem zt8 {v:q04} (hs:∀ k∈v.zn,k.length<1152921504606846976) (hl:v.zn.length<1152921504606846976):∀ (n i:Nat),v.zn.length - i=n→i≤v.zn.length →
  M.z42 v (i:Int)=some (if (v.zn.drop i).all Lib.validD=true then .go () else .done false):=by
 intro n
 induction n with
 | zero =>
  intro i hn hi
  rw [M.z42.eq_1]
  have:¬((i:Int)<(v.zn.length:Int)):=by omega
  rw [if_neg (by simpa using this),yh (by omega)]
  rfl
 | succ n ih =>
  intro i hn hi
  have hlt:i<v.zn.length:=by omega
  rw [M.z42.eq_1]
  have h1:((i:Int)<(v.zn.length:Int)):=by omega
  have h2:=hs v.zn[i] (yl hlt)
  simp only [h1,decide_true,if_true,z6m,yk hlt,ya,yb]
  rw [z3p (by omega),yg hlt,w1 (by omega),ih (i+1) (by omega) (by omega)]
  simp only [yb,List.all_cons]
  by_cases hv:Lib.validD v.zn[i]=true<;>simp [hv]
theorem zrp {l:List Z} (hl:l.length<1152921504606846976) {i:Nat} (hi:i<l.length):∀ (n k:Nat),i - k=n→k≤i →
  M.z3d (i:Int) l (k:Int)=some (if l[i]∈(l.take i).drop k then .done (.done true) else .go ()):=by
 intro n
 induction n with
 | zero =>
  intro k hn hk
  rw [M.z3d.eq_1]
  have:¬((k:Int)<(i:Int)):=by omega
  rw [if_neg (by simpa using this),yh (by simp;omega)]
  simp
 | succ n ih =>
  intro k hn hk
  rw [M.z3d.eq_1]
  have h1:((k:Int)<(i:Int)):=by omega
  have hk':k<l.length:=by omega
  simp only [h1,decide_true,if_true,z6m,yk hi,yk hk',ya,yb]
  rw [w1 (by omega),ih (k+1) (by omega) (by omega)]
  have e:(l.take i).drop k=l[k]::(l.take i).drop (k+1):=by
   rw [yg (by simp;omega)]
   simp
  rw [e]
  by_cases h:l[i]=l[k]
  ·simp [h]
  ·simp [h]
theorem zro {l:List Z} (hl:l.length<1152921504606846976):∀ (n i:Nat),l.length - i=n→i≤l.length→(l.take i).Nodup →
  M.z3c l (i:Int)=some (if l.Nodup then .go () else .done true):=by
 intro n
 induction n with
 | zero =>
  intro i hn hi hd
  rw [M.z3c.eq_1]
  have:¬((i:Int)<(l.length:Int)):=by omega
  rw [List.take_of_length_le (by omega)] at hd
  rw [if_neg (by simpa using this),if_pos hd]
 | succ n ih =>
  intro i hn hi hd
  have hlt:i<l.length:=by omega
  rw [M.z3c.eq_1]
  have h1:((i:Int)<(l.length:Int)):=by omega
  have h2:=zrp hl hlt _ 0 rfl (yn _)
  simp only [h1,decide_true,if_true,ya]
  have h2:M.z3d (i:Int) l 0=_:=h2
  rw [h2]
  simp only [yb,yi]
  have e:l.take (i+1)=l.take i++[l[i]]:=by simp
  by_cases hm:l[i]∈l.take i
  ·rw [if_pos hm]
   have:¬l.Nodup:=fun h=>by
    have h3:=(List.take_sublist (i+1) l).nodup h
    rw [e,ym] at h3
    exact h3.2.2 _ hm _ (by simp) rfl
   simp [this]
  ·rw [if_neg hm]
   simp only
   rw [w1 (by omega)]
   refine ih (i+1) (by omega) (by omega) ?_
   rw [e,ym]
   exact ⟨hd,by simp,fun a ha b hb=>by simp at hb;subst hb;intro h;subst h;exact hm ha⟩
theorem zrn {l:List Z} (hl:l.length<1152921504606846976):M.q50 l=some (!decide l.Nodup):=by
 unfold M.q50
 have h:=zro hl _ 0 rfl (yn _) (by simp)
 have h:M.z3c l 0=_:=h
 rw [h]
 by_cases hn:l.Nodup<;>simp [hn]
theorem zii {v:q04} (h:Small v):M.q4q v=some (frm v.zh v.zq v.zk.length v.zn):=by
 obtain ⟨s1,s2,s3,s4⟩:=h.parts
 unfold M.q4q
 have h1:=zt8 (v:=v) (fun k hk=>by have:=s4 k hk;omega) (by omega) _ 0 rfl (yn _)
 have h1:M.z42 v 0=_:=h1
 rw [h1]
 simp only [yi,ya,yb]
 unfold frm
 cases hv:v.zn.all Lib.validD with
 | false=>simp
 | true =>
  simp only [if_true,Bool.true_and]
  have k0:((v.zn.length:Int)=0)↔v.zn=[]:=by rw [←List.length_eq_zero_iff];omega
  have l0:((v.zk.length:Int)=0)↔v.zk.length=0:=by omega
  have kl:((v.zn.length:Int)=(v.zk.length:Int))↔v.zn.length=v.zk.length:=by omega
  have nn:((num v.zq:Nat):Int)=(v.zq.length:Int)↔num v.zq=v.zq.length:=by omega
  rw [zep (by omega),z3p (by omega),zrn (by omega)]
  simp only [yb,k0,l0,kl,nn]
  by_cases h0:v.zh=0
  ·simp [h0]
  by_cases h1:v.zh=1
  ·simp [h1]
  by_cases h2:v.zh=2
  ·simp [h2]
  by_cases h3:v.zh=3
  ·by_cases ht:v.zq=[]
   ·simp [h3,ht]
   ·by_cases hn:num v.zq=v.zq.length
    ·by_cases hl:v.zk.length=0
     ·simp [h3,ht,hn,hl]
     ·simp [h3,ht,hn,hl]
    ·simp [h3,ht,hn]
  by_cases h4:v.zh=4
  ·simp [h4]
  by_cases h5:v.zh=5
  ·simp [h5]
  by_cases h6:v.zh=6
  ·by_cases ht:v.zq=[]<;>by_cases hn:v.zn.length=v.zk.length<;>simp [h6,ht,hn]
  simp [h0,h1,h2,h3,h4,h5,h6]
theorem zpk {v:q04} {self:q04→Int→Option Int} {w:Nat} (hw:w≤16) (hl:v.zk.length<1152921504606846976) (hs:∀ x∈v.zk,self x ((w+1:Nat):Int)=some (zao x (w+1))) :
  ∀ (n i:Nat),v.zk.length - i=n→i≤v.zk.length→M.z3b v self (w:Int) (i:Int)=some (if zkp (v.zk.drop i) (w+1)=0 then .go () else .done (zkp (v.zk.drop i) (w+1))):=by
 intro n
 induction n with
 | zero =>
  intro i hn hi
  rw [M.z3b.eq_1]
  have:¬((i:Int)<(v.zk.length:Int)):=by omega
  rw [if_neg (by simpa using this),yh (by omega)]
  rfl
 | succ n ih =>
  intro i hn hi
  have hlt:i<v.zk.length:=by omega
  rw [M.z3b.eq_1]
  have h1:((i:Int)<(v.zk.length:Int)):=by omega
  simp only [h1,decide_true,if_true,z6m,yk hlt,ya,yb]
  rw [w1 (n:=w) (by omega),hs _ (yl hlt),w1 (by omega),ih (i+1) (by omega) (by omega),yg hlt,zbe]
  simp only [yb]
  by_cases hc:zao v.zk[i] (w+1)=0
  ·simp [hc]
  ·simp [hc]
theorem zgt:∀ (f:Nat) (v:q04) (w:Nat),w≤16→17≤f+w→Small v→M.q4o f v (w:Int)=some (zao v w):=by
 intro f
 induction f with
 | zero=>intro v w h1 h2;omega
 | succ f ih =>
  intro v w hw hf hsm
  obtain ⟨s1,s2,s3,s4⟩:=hsm.parts
  rw [M.q4o,zhl,zii hsm]
  have e:((decide (v.zh=5)||decide (v.zh=6))&&decide (16≤(w:Int)))=decide ((v.zh=5∨v.zh=6)∧16≤w):=by
   rw [Bool.eq_iff_iff,yc,yf]
   simp only [decide_eq_true_eq]
   omega
  rw [e]
  by_cases hd:(v.zh=5∨v.zh=6)∧16≤w
  ·simp [hd]
  ·rw [if_neg (by simpa using hd),if_neg hd]
   simp only [ya,yb]
   cases hfm:frm v.zh v.zq v.zk.length v.zn with
   | false=>simp
   | true =>
    have hl:v.zk=[]∨w<16:=by
     rw [zbw (.inr trivial)] at hfm
     simp only [yc,yf,decide_eq_true_eq] at hfm
     rcases hfm.2.1 with h|h
     ·exact .inr (by omega)
     ·exact .inl (yj (by omega))
    have hk1:=zpk (v:=v) (self:=M.q4o f) hw (by omega) (fun x hx=>by
     rcases hl with h|h
     ·rw [h] at hx;cases hx
     ·exact ih x (w+1) (by omega) (by omega) (hsm.mem hx)) _ 0 rfl (yn _)
    have hk1:M.z3b v (M.q4o f) (w:Int) 0=_:=hk1
    rw [hk1]
    simp only [yi]
    by_cases hc:zkp v.zk (w+1)=0<;>simp [hc]
theorem zgr {v:q04} {f:Nat} (hf:17≤f) (h:Small v):M.q4f f v=some (zao v 0):=by
 unfold M.q4f
 have h1:M.q4o f v 0=some (zao v 0):=zgt f v 0 (by omega) (by omega) h
 rw [h1]
 rfl
end Go.Sen
end
section
namespace Go.Sen
open _root_.Option renaming bind_eq_bind → ya, bind_some → yb
open _root_.List renaming append_assoc → yc, drop_eq_getElem_cons → yd, drop_eq_nil_of_le → ye, drop_zero → yf, getElem?_eq_getElem → yg, length_append → yh, length_cons → yi
open IntKind renaming wrap → yj
open _root_.UInt8 renaming ofNat → yk
open Go.Lk Go.Pe
theorem z2t {a:List Int} {b:Int} (h:a.length<1099511627776):M.q71 a b=some (a++[b]):=by
 unfold M.q71 M.z30
 simp only [ya,yb]
 rw [z2p (by simp;omega)]
 rfl
theorem z3q {a:List Int} {b:Z} (h:a.length+b.length<1099511627776):M.q72 a b=some ((b.length:Int),a++unb b):=by
 unfold M.q72 M.z30
 simp only [ya,yb]
 rw [z2p (by simp [unb];omega)]
 rfl
theorem builderLen_eq (a:List Int):M.q70 a=some (a.length:Int):=rfl
theorem zb1 (s:Z):M.zo (unb s)=some s:=by
 unfold M.zo
 rw [zap (by simp [zhi])]
 simp [zhi]
def zvl (n:Nat):UInt8:=yk (if n<10 then 48+n else 87+n)
def qb (c:UInt8):Z :=
 if c=34∨c=92 then [92,c] else if c=8 then [92,98] else if c=9 then [92,116] else if c=10 then [92,110] else if c=12 then [92,102] else if c=13 then [92,114]
 else if c.toNat<32 then [92,117,48,48,zvl (c.toNat / 16),zvl (c.toNat % 16)] else [c]
def qbs (s:Z):Z:=s.flatMap qb
def qt (s:Z):Z:=34::qbs s++[34]
theorem zni (c:UInt8):(qb c).length≤6:=by
 unfold qb
 repeat' split
 all_goals simp
theorem zeo:∀ s:Z,(qbs s).length≤6*s.length
 | []=>by simp [qbs]
 | c::s=>by
  have h1:=zni c
  have h2:=zeo s
  simp only [qbs,List.flatMap_cons,yh,yi] at *
  omega
theorem zk1 (s:Z):(qt s).length≤6*s.length+2:=by
 have:=zeo s
 simp only [qt,yh,yi,List.length_nil]
 omega
theorem zjz (c:UInt8) (s:Z):qbs (c::s)=qb c++qbs s:=by simp [qbs]
def zwo (x:Int):Option Z:=do
 let a←M.indexByte ([34,92,8,9,10,12,13]:Z) x
 if (decide (0≤a)) then
  let s_87←sub ([34,92,98,116,110,102,114]:Z) a (yj .i64 (a+1))
  cat ([92]:Z) s_87
 else
  if (decide (x<32)) then
   let s_91←sub ([48,49]:Z) (zk9 .u8 x 4) (yj .u8 ((zk9 .u8 x 4)+1))
   let s_92←cat ([92,117,48,48]:Z) s_91
   let s_93←sub ([48,49,50,51,52,53,54,55,56,57,97,98,99,100,101,102]:Z) (zcq .u8 x 15) (yj .u8 ((zcq .u8 x 15)+1))
   cat s_92 s_93
  else some [yk x.toNat]
theorem zq1:∀ c:UInt8,zwo (c.toNat:Int)=some (qb c):=zg0 (by decide +kernel)
theorem znj {s:Z} (hs:s.length<100000000000):∀ (n i:Nat) (acc:List Int),s.length - i=n→i≤s.length→acc.length+6*n<1099511627776→M.z04 s (i:Int) acc=some (acc++unb (qbs (s.drop i))):=by
 intro n
 induction n with
 | zero =>
  intro i acc hn hi ha
  rw [M.z04.eq_1]
  have:¬((i:Int)<((unb s).length:Int)):=by rw [zaj];omega
  rw [if_neg (by simpa using this),ye (by omega)]
  simp [qbs,unb]
 | succ n ih =>
  intro i acc hn hi ha
  have hlt:i<s.length:=by omega
  have h1:((i:Int)<((unb s).length:Int)):=by rw [zaj];omega
  have hj:=zq1 s[i]
  have hq:=zni s[i]
  rw [M.z04.eq_1]
  simp only [h1,decide_true,if_true,z6m,zv8,yg hlt,Option.map_some,ya,yb]
  rw [w1 (by omega)]
  have next:∀ a:List Int,a=acc++unb (qb s[i])→M.z04 s ((i+1:Nat):Int) a=some (acc++unb (qbs (s.drop i))):=by
   rintro a rfl
   rw [ih (i+1) _ (by omega) (by omega) (by simp [unb];omega),yd hlt,zjz,z3o,yc]
  unfold zwo at hj
  simp only [ya] at hj
  cases hx:M.indexByte ([34,92,8,9,10,12,13]:Z) ((s[i]).toNat:Int) with
  | none=>rw [hx] at hj;cases hj
  | some a =>
   rw [hx] at hj
   simp only [yb] at hj ⊢
   by_cases ca:0≤a
   ·rw [if_pos (by simpa using ca)] at hj ⊢
    cases hy:sub ([34,92,98,116,110,102,114]:Z) a (yj .i64 (a+1)) with
    | none=>rw [hy] at hj;cases hj
    | some y =>
     rw [hy] at hj
     simp only [yb] at hj ⊢
     rw [hj]
     simp only [yb]
     rw [z3q (by omega)]
     exact next _ rfl
   ·rw [if_neg (by simpa using ca)] at hj ⊢
    by_cases cx:((s[i]).toNat:Int)<32
    ·rw [if_pos (by simpa using cx)] at hj ⊢
     cases hy:sub ([48,49]:Z) (zk9 .u8 ((s[i]).toNat:Int) 4) (yj .u8 ((zk9 .u8 ((s[i]).toNat:Int) 4)+1)) with
     | none=>rw [hy] at hj;cases hj
     | some y =>
      rw [hy] at hj
      simp only [yb] at hj ⊢
      cases hz:cat ([92,117,48,48]:Z) y with
      | none=>rw [hz] at hj;cases hj
      | some z =>
       rw [hz] at hj
       simp only [yb] at hj ⊢
       cases hu:sub ([48,49,50,51,52,53,54,55,56,57,97,98,99,100,101,102]:Z) (zcq .u8 ((s[i]).toNat:Int) 15) (yj .u8 ((zcq .u8 ((s[i]).toNat:Int) 15)+1)) with
       | none=>rw [hu] at hj;cases hj
       | some u =>
        rw [hu] at hj
        simp only [yb] at hj ⊢
        rw [hj]
        simp only [yb]
        rw [z3q (by omega)]
        exact next _ rfl
    ·rw [if_neg (by simpa using cx)] at hj ⊢
     rw [z2t (by omega)]
     simp only [Option.some.injEq] at hj
     refine next _ ?_
     rw [←hj]
     simp [unb]
theorem z8r {s:Z} {acc:List Int} (h:acc.length+6*s.length+2<100000000000):M.q3g acc s=some (acc++unb (qt s)):=by
 unfold M.q3g
 rw [z2t (by omega),zap (by simp;omega)]
 simp only [ya,yb]
 have h1:=znj (s:=s) (by omega) _ 0 (acc++[34]) rfl (Nat.zero_le _) (by simp;omega)
 have h1:M.z04 s 0 (acc++[34])=_:=h1
 rw [h1]
 simp only [yb,yf]
 have:=zeo s
 rw [z2t (by simp [unb];omega)]
 simp [qt,unb]
theorem zqj:∀ c:UInt8,∀ acc:List Int,acc.length<1000000000000→∀ k:List Int→Option (List Int),
  ((if ((decide ((c.toNat:Int)=34))||(decide ((c.toNat:Int)=92))) then (app 1 acc [92,(c.toNat:Int)]).bind k else
  if (decide ((c.toNat:Int)=8)) then (app 1 acc (unb ([92,98]:Z))).bind k else
  if (decide ((c.toNat:Int)=9)) then (app 1 acc (unb ([92,116]:Z))).bind k else
  if (decide ((c.toNat:Int)=10)) then (app 1 acc (unb ([92,110]:Z))).bind k else
  if (decide ((c.toNat:Int)=12)) then (app 1 acc (unb ([92,102]:Z))).bind k else
  if (decide ((c.toNat:Int)=13)) then (app 1 acc (unb ([92,114]:Z))).bind k else
  if (decide ((c.toNat:Int)<32)) then (ix ([48,49,50,51,52,53,54,55,56,57,97,98,99,100,101,102]:Z) (yj .u8 (Int.tdiv (c.toNat:Int) 16))).bind fun c_81 =>
   (ix ([48,49,50,51,52,53,54,55,56,57,97,98,99,100,101,102]:Z) (Int.tmod (c.toNat:Int) 16)).bind fun c_82=>(app 1 acc [92,117,48,48,(c_81.toNat:Int),(c_82.toNat:Int)]).bind k else
  (app 1 acc [(c.toNat:Int)]).bind k:Option (List Int))=k (acc++unb (qb c))):=by
 intro c acc ha k
 have ap:∀ l:List Int,l.length≤6→app 1 acc l=some (acc++l):=fun l hl=>z2p (by omega)
 have t:∀ n:Nat,n<256→(((c.toNat:Int)=(n:Int))↔c=yk n):=fun n hn=>toNat_eq hn
 by_cases c34:c=34
 ·subst c34;rw [if_pos (by decide),ap _ (by simp)];rfl
 by_cases c92:c=92
 ·subst c92;rw [if_pos (by decide),ap _ (by simp)];rfl
 have n34:¬(c.toNat:Int)=34:=fun e=>c34 ((t 34 (by omega)).1 e)
 have n92:¬(c.toNat:Int)=92:=fun e=>c92 ((t 92 (by omega)).1 e)
 rw [if_neg (by simp [n34,n92])]
 by_cases c8:c=8
 ·subst c8;rw [if_pos (by decide),ap _ (by decide)];rfl
 rw [if_neg (by simpa using fun e=>c8 ((t 8 (by omega)).1 e))]
 by_cases c9:c=9
 ·subst c9;rw [if_pos (by decide),ap _ (by decide)];rfl
 rw [if_neg (by simpa using fun e=>c9 ((t 9 (by omega)).1 e))]
 by_cases c10:c=10
 ·subst c10;rw [if_pos (by decide),ap _ (by decide)];rfl
 rw [if_neg (by simpa using fun e=>c10 ((t 10 (by omega)).1 e))]
 by_cases c12:c=12
 ·subst c12;rw [if_pos (by decide),ap _ (by decide)];rfl
 rw [if_neg (by simpa using fun e=>c12 ((t 12 (by omega)).1 e))]
 by_cases c13:c=13
 ·subst c13;rw [if_pos (by decide),ap _ (by decide)];rfl
 rw [if_neg (by simpa using fun e=>c13 ((t 13 (by omega)).1 e))]
 have eq:qb c=if c.toNat<32 then [92,117,48,48,zvl (c.toNat / 16),zvl (c.toNat % 16)] else [c]:=by
  unfold qb
  simp [c34,c92,c8,c9,c10,c12,c13]
 rw [eq]
 by_cases cl:c.toNat<32
 ·have cl':(c.toNat:Int)<32:=by omega
  rw [if_pos (by simpa using cl'),if_pos cl]
  have tab:∀ n:Fin 32,ix ([48,49,50,51,52,53,54,55,56,57,97,98,99,100,101,102]:Z) (yj .u8 (Int.tdiv (n.val:Int) 16))=some (zvl (n.val / 16))∧ix ([48,49,50,51,52,53,54,55,56,57,97,98,99,100,101,102]:Z) (Int.tmod (n.val:Int) 16)=some (zvl (n.val % 16)):=by decide +kernel
  obtain ⟨h1,h2⟩:=tab ⟨c.toNat,cl⟩
  simp only at h1 h2
  rw [h1,h2]
  simp only [yb]
  rw [ap _ (by simp)]
  rfl
 ·have cl':¬(c.toNat:Int)<32:=by omega
  rw [if_neg (by simpa using cl'),if_neg cl,ap _ (by simp)]
  rfl
theorem zv6 {s:Z} (hs:s.length<100000000000):∀ (n i:Nat) (acc:List Int),s.length - i=n→i≤s.length→acc.length+6*n<1000000000000→M.z1n s acc (i:Int)=some (acc++unb (qbs (s.drop i))):=by
 intro n
 induction n with
 | zero =>
  intro i acc hn hi ha
  rw [M.z1n.eq_1]
  have:¬((i:Int)<(s.length:Int)):=by omega
  rw [if_neg (by simpa using this),ye (by omega)]
  simp [qbs,unb]
 | succ n ih =>
  intro i acc hn hi ha
  have hlt:i<s.length:=by omega
  have h1:((i:Int)<(s.length:Int)):=by omega
  have hq:=zni s[i]
  rw [M.z1n.eq_1]
  simp only [h1,decide_true,if_true,z6m,yg hlt,ya,yb]
  rw [w1 (by omega)]
  rw [zqj s[i] acc (by omega) (fun l=>M.z1n s l ((i+1:Nat):Int))]
  rw [ih (i+1) _ (by omega) (by omega) (by simp [unb];omega),yd hlt,zjz,z3o,yc]
theorem zcg {s:Z} (h:s.length<100000000000):M.q4m s=some (unb (qt s)):=by
 unfold M.q4m
 have h1:=zv6 (s:=s) (by omega) _ 0 [34] rfl (Nat.zero_le _) (by simp;omega)
 have h1:M.z1n s [34] 0=_:=h1
 rw [h1]
 have:=zeo s
 simp only [ya,yb,yf]
 rw [z2p (by simp [unb];omega)]
 simp [qt,unb]
end Go.Sen
end
