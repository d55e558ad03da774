import Derived.Test.YtfdoofnmjehecaaGreatDoorBHtM
import Derived.Test.YtfdoofnmjehecaaGreatDoorBHtP7
import Derived.Lib.SplitLaws
set_option linter.all false
section
namespace Go.Sen
open _root_.List renaming eq_nil_of_length_eq_zero → ya, isPrefixOf → yb, length_cons → yc, length_drop → yd
open _root_.Nat renaming le_refl → ye
open Go.Lk Go.Pe
def zgi (c:UInt8):Z→Z × Z × Bool
 | []=>([],[],false)
 | x::r=>if x=c then ([],r,true) else (x::(zgi c r).1,(zgi c r).2.1,(zgi c r).2.2)
theorem z8o (c x:UInt8) (r:Z):zgi c (x::r)=if x=c then ([],r,true) else (x::(zgi c r).1,(zgi c r).2.1,(zgi c r).2.2):=rfl
theorem zf4 (c x:UInt8) (r:Z):Lib.index (x::r) [c]=if x=c then 0 else if Lib.index r [c] = -1 then -1 else Lib.index r [c]+1:=by
 rw [Lib.index]
 by_cases h:x=c
 ·subst h;simp [yb]
 ·have:([c]:Z).isPrefixOf (x::r)=false:=by simp [yb,Ne.symm h]
  rw [this]
  simp [h]
theorem cut_b (c:UInt8):∀ s:Z,Lib.cut s [c]=zgi c s
 | []=>by simp [Lib.cut,Lib.index,zgi]
 | x::r=>by
  have ih:=cut_b c r
  have hge:=Lib.index_ge r [c]
  have hc:=zf4 c x r
  by_cases h:x=c
  ·rw [if_pos h] at hc
   unfold Lib.cut
   rw [hc,z8o,if_pos h]
   simp
  ·rw [if_neg h] at hc
   rw [z8o,if_neg h,←ih]
   by_cases hm:Lib.index r [c] = -1
   ·rw [if_pos hm] at hc
    unfold Lib.cut
    rw [hc,hm]
    simp
   ·rw [if_neg hm] at hc
    obtain ⟨k,hk⟩:∃ k:Nat,Lib.index r [c]=k:=⟨(Lib.index r [c]).toNat,by omega⟩
    unfold Lib.cut
    rw [hc,hk,if_pos (by omega),if_pos (by omega)]
    have e:((k:Int)+1).toNat=k+1:=by omega
    simp [e,Nat.add_assoc]
theorem zme (c:UInt8):∀ s:Z,(zgi c s).1.length+(zgi c s).2.1.length≤s.length∧((zgi c s).2.2=true→(zgi c s).1.length+(zgi c s).2.1.length+1=s.length)
 | []=>by simp [zgi]
 | x::r=>by
  have ih:=zme c r
  rw [z8o]
  split
  ·simp
  ·simp only [yc]
   refine ⟨by omega,fun h => ?_⟩
   have:=ih.2 h
   omega
theorem M_cut {s:Z} (c:UInt8) (h:s.length<4294967281):M.cut s [c]=some (zgi c s):=by
 unfold M.cut
 rw [z4k (by simpa using h),←cut_b]
 rfl
def zx7 (c:UInt8):Z→List Z
 | []=>[[]]
 | x::r=>if x=c then []::zx7 c r else match zx7 c r with
  | []=>[[x]]
  | h::t=>(x::h)::t
def z63 (sep:Z):Nat→Z→List Z
 | 0,s=>[s]
 | k+1,s=>if Lib.index s sep = -1 then [s] else s.take (Lib.index s sep).toNat::z63 sep k (s.drop ((Lib.index s sep).toNat+sep.length))
theorem z7q (s sub:Z):Lib.indexB ⟨s.toArray⟩ ⟨sub.toArray⟩=Lib.index s sub:=by
 unfold Lib.indexB
 simp
theorem z8r (s:Z) (a b:Nat):(⟨s.toArray⟩:ByteArray).extract a b=⟨((s.take b).drop a).toArray⟩:=by
 apply ByteArray.ext
 rw [ByteArray.data_extract]
 simp [List.drop_take]
theorem zem (sep:Z):∀ (k:Nat) (s:Z),(Lib.splitB ⟨sep.toArray⟩ 0 k ⟨s.toArray⟩).map (·.data.toList)=z63 sep k s
 | 0,s=>by simp [Lib.splitB,z63]
 | k+1,s=>by
  have hsz:∀ l:Z,(⟨l.toArray⟩:ByteArray).size=l.length:=fun l=>by simp [ByteArray.size]
  unfold Lib.splitB z63
  rw [z7q]
  by_cases h:Lib.index s sep = -1
  ·rw [if_pos (by simpa using h),if_pos h];simp
  ·rw [if_neg (by simpa using h),if_neg h,z8r,z8r,List.map_cons,zem sep k]
   simp [hsz]
theorem zly {sep:Z} (h1:1≤sep.length):∀ (n:Nat) (s:Z),s.length≤n→∀ k,s.length≤k→z63 sep (Lib.countB ⟨s.toArray⟩ ⟨sep.toArray⟩) s=z63 sep k s:=by
 intro n
 have hsz:∀ l:Z,(⟨l.toArray⟩:ByteArray).size=l.length:=fun l=>by simp [ByteArray.size]
 induction n with
 | zero =>
  intro s hn k hk
  have:s=[]:=ya (by omega)
  subst this
  have hi:Lib.index [] sep = -1:=by rw [Lib.index,if_neg];cases sep<;>simp_all
  rw [Lib.countB_miss _ _ (by rw [z7q];exact hi)]
  cases k with
  | zero=>rfl
  | succ k=>unfold z63;rw [if_pos hi]
 | succ n ih =>
  intro s hn k hk
  have hge:=Lib.index_ge s sep
  by_cases hi:Lib.index s sep = -1
  ·rw [Lib.countB_miss _ _ (by rw [z7q];exact hi)]
   cases k with
   | zero=>rfl
   | succ k =>
    conv=>rhs;unfold z63;rw [if_pos hi]
    rfl
  ·obtain ⟨i,hi2⟩:∃ i:Nat,Lib.index s sep=i:=⟨(Lib.index s sep).toNat,by omega⟩
   have hroom:=Lib.index_room s sep (by omega)
   have hh:=Lib.countB_hit ⟨s.toArray⟩ ⟨sep.toArray⟩ i (by rw [hsz];exact h1) (by rw [z7q];exact hi2)
   rw [z8r,hsz,hsz,List.take_length] at hh
   have hd:(s.drop (i+sep.length)).length≤n:=by rw [yd];omega
   obtain ⟨k,rfl⟩:∃ j,k=j+1:=⟨k - 1,by omega⟩
   rw [hh,Nat.add_comm 1]
   unfold z63
   rw [if_neg hi,if_neg hi,hi2]
   have e:((i:Int)).toNat=i:=by omega
   rw [e,ih _ hd k (by rw [yd];omega)]
theorem zvx {sep:Z} (h1:1≤sep.length) (s:Z):zen s sep=z63 sep s.length s:=by
 unfold zen
 rw [zem]
 exact zly h1 _ s (ye _) _ (ye _)
def z3s:Z→List Z
 | []=>[[]]
 | x::r=>if x=13∧r.head? = some 10 then []::z3s (r.drop 1) else match z3s r with
  | []=>[[x]]
  | h::t=>(x::h)::t
termination_by s=>s.length
theorem zsm:∀ s:Z,∃ h t,z3s s=h::t
 | []=>⟨_,_,by unfold z3s;rfl⟩
 | x::r=>by
  unfold z3s
  split
  ·exact ⟨_,_,rfl⟩
  ·split<;>exact ⟨_,_,rfl⟩
theorem ztk (x:UInt8) (r:Z):([13,10]:Z).isPrefixOf (x::r)=decide (x=13∧r.head? = some 10):=by
 cases r with
 | nil=>simp [yb]
 | cons y r =>
  simp only [yb,List.head?_cons,Option.some.injEq]
  by_cases h1:x=13<;>by_cases h2:y=10<;>simp [h1,h2]
  ·exact fun h=>h2 h.symm
  ·exact fun h=>(h1 h.symm).elim
  ·exact fun h=>(h1 h.symm).elim
theorem z8t (x:UInt8) (r:Z):Lib.index (x::r) [13,10]=if x=13∧r.head? = some 10 then 0 else if Lib.index r [13,10] = -1 then -1 else Lib.index r [13,10]+1:=by
 rw [Lib.index,ztk]
 by_cases h:x=13∧r.head? = some 10
 ·simp [h]
 ·simp [h]
theorem zvw:∀ (n:Nat) (s:Z) (k:Nat),s.length≤n→s.length≤k→z63 [13,10] k s=z3s s:=by
 intro n
 induction n with
 | zero =>
  intro s k hn hk
  have:s=[]:=ya (by omega)
  subst this
  unfold z3s
  cases k with
  | zero=>rfl
  | succ k=>unfold z63;rw [if_pos (by simp [Lib.index])]
 | succ n ih =>
  intro s k hn hk
  cases s with
  | nil =>
   unfold z3s
   cases k with
   | zero=>rfl
   | succ k=>unfold z63;rw [if_pos (by simp [Lib.index])]
  | cons x r =>
   simp only [yc] at hn hk
   obtain ⟨k,rfl⟩:∃ j,k=j+1:=⟨k - 1,by omega⟩
   have hge:=Lib.index_ge r [13,10]
   unfold z3s
   by_cases hx:x=13∧r.head? = some 10
   ·rw [if_pos hx]
    unfold z63
    rw [z8t,if_pos hx,if_neg (by decide)]
    have hd:(r.drop 1).length≤n:=by rw [yd];omega
    have q:=ih (r.drop 1) k hd (by rw [yd];omega)
    simpa using q
   ·rw [if_neg hx,←ih r (k+1) (by omega) (by omega)]
    unfold z63
    rw [z8t,if_neg hx]
    by_cases hm:Lib.index r [13,10] = -1
    ·simp [hm]
    ·obtain ⟨i,hi⟩:∃ i:Nat,Lib.index r [13,10]=i:=⟨(Lib.index r [13,10]).toNat,by omega⟩
     rw [if_neg hm,hi,if_neg (by omega),if_neg (by omega)]
     have e1:((i:Int)+1).toNat=i+1:=by omega
     have e2:((i:Int)).toNat=i:=by omega
     simp [e1,e2,Nat.add_right_comm]
theorem zt4 {s:Z} (h:s.length<4294967281):M.split s [13,10]=some (z3s s):=by
 unfold M.split
 rw [z4k (by simpa using h),zvx (by simp),zvw _ s _ (ye _) (ye _)]
 rfl
end Go.Sen
end
section
namespace Go.Sen
open _root_.Option renaming bind_eq_bind → ya, bind_some → yb
open _root_.Bool renaming not_eq_true → yc, not_eq_true' → yd, or_eq_true → ye
open Go.Lk Go.Pe
theorem z2z (b:Bool) (e:Int):M.q3e b e=some (if b=true then .ok () else .pan e):=by cases b<;>simp [M.q3e]
theorem z5v (x:q04) (xs:List q04) (w:Nat):z9r (x::xs) w=if z5i x w=0 then z9r xs w else z5i x w:=by simp only [z9r]
theorem znz {v:q04} {self:q04→Int→Option (Rs Unit)} {w:Nat} (hw:w≤16) (hl:v.zj.length<1152921504606846976) (hs:∀ x∈v.zj,self x ((w+1:Nat):Int)=some (zs9 (z5i x (w+1)))) :
  ∀ (n i:Nat),v.zj.length - i=n→i≤v.zj.length→M.z0b v self (w:Int) (i:Int)=some (zs9 (z9r (v.zj.drop i) (w+1))):=by
 intro n
 induction n with
 | zero =>
  intro i hn hi
  rw [M.z0b.eq_1]
  have:¬((i:Int)<(v.zj.length:Int)):=by omega
  rw [if_neg (by simpa using this),List.drop_eq_nil_of_le (by omega)]
  rfl
 | succ n ih =>
  intro i hn hi
  have hlt:i<v.zj.length:=by omega
  rw [M.z0b.eq_1]
  have h1:((i:Int)<(v.zj.length:Int)):=by omega
  simp only [h1,decide_true,if_true,zcj,List.getElem?_eq_getElem hlt,ya,yb]
  rw [w1 (n:=w) (by omega),hs _ (List.getElem_mem hlt),w1 (by omega),ih (i+1) (by omega) (by omega),List.drop_eq_getElem_cons hlt,z5v]
  simp only [yb]
  unfold zs9
  by_cases hc:z5i v.zj[i] (w+1)=0
  ·simp [hc]
  ·simp [hc]
def Small (v:q04):Prop:=v.sz<1000000000
theorem Small.mem {v x:q04} (h:Small v) (hx:x∈v.zj):Small x:=by
 unfold Small at *
 have:=zhg hx
 rw [q04.z8f v] at h
 omega
theorem Small.parts {v:q04} (h:Small v):v.zt.length<1000000000∧v.zj.length<1000000000∧v.zw.length<1000000000∧∀ k∈v.zw,k.length<1000000000:=by
 unfold Small at h
 rw [q04.z8f] at h
 have h1:=zhf v.zj
 have h2:=z4y v.zw
 exact ⟨by omega,by omega,by omega,fun k hk=>by have:=zkw hk;omega⟩
theorem zdx:∀ (f:Nat) (v:q04) (w:Nat),w≤16→17≤f+w→Small v→M.q3a f v (w:Int)=some (zs9 (z5i v w)):=by
 intro f
 induction f with
 | zero=>intro v w h1 h2;omega
 | succ f ih =>
  intro v w hw hf hsm
  obtain ⟨s1,s2,s3,s4⟩:=hsm.parts
  have hk1:(v.zj=[]∨w<16)→M.z0b v (M.q3a f) (w:Int) 0=some (zs9 (z9r v.zj (w+1))):=by
   intro h
   refine znz hw (by omega) (fun x hx => ?_) _ 0 rfl (Nat.zero_le _)
   rcases h with h|h
   ·rw [h] at hx;cases hx
   ·exact ih x (w+1) (by omega) (by omega) (hsm.mem hx)
  rw [M.q3a,z6j,ziw (.inr trivial)]
  simp only [z2z,zdf (fun k hk=>by have:=s4 k hk;omega) (show v.zw.length<1152921504606846976 by omega),zsj (show v.zw.length*16≤140737488355328 by omega),ya,yb]
  have hj:(if (!(!v.zw.all Lib.validD))=true then some (decide v.zw.Nodup) else some false)=some (v.zw.all Lib.validD&&decide v.zw.Nodup):=by
   cases v.zw.all Lib.validD<;>simp
  rw [hj]
  simp only [yb]
  have hn1:=z9w (s:=v.zt) (by omega)
  have hn2:=z56 (s:=v.zt) (by omega)
  generalize hb5:(v.zw.all Lib.validD&&decide v.zw.Nodup)=b5
  generalize hb4:(decide (v.zi=6)&&decide ((v.zw.length:Int)=(v.zj.length:Int))||decide ((v.zw.length:Int)=0) && !decide (v.zi=6))=b4
  generalize hb2:(decide (0≤v.zi)&&decide (v.zi<7))=b2
  by_cases hd:(v.zi=5∨v.zi=6)∧16≤w
  ·have:(!(decide (v.zi=5)||decide (v.zi=6))||decide ((w:Int)<16))=false:=by
    rw [←yc,ye,yd,←yc,ye]
    simp only [decide_eq_true_eq]
    omega
   rw [this,if_pos hd]
   rfl
  ·have h1:(!(decide (v.zi=5)||decide (v.zi=6))||decide ((w:Int)<16))=true:=by
    rw [ye,yd,←yc,ye]
    simp only [decide_eq_true_eq]
    omega
   rw [h1,if_neg hd]
   have h3:(decide (v.zi=5)||decide (v.zi=6)||decide ((v.zj.length:Int)=0))=true→(v.zj=[]∨w<16):=by
    rw [ye,ye]
    simp only [decide_eq_true_eq]
    intro h
    rcases h with h|h
    ·exact .inr (by omega)
    ·exact .inl (List.eq_nil_of_length_eq_zero (by omega))
   generalize (decide (v.zi=5)||decide (v.zi=6)||decide ((v.zj.length:Int)=0))=b3 at *
   cases b2 with
   | false=>rfl
   | true =>
    cases b3 with
    | false=>rfl
    | true =>
     cases b4 with
     | false=>rfl
     | true =>
      cases b5 with
      | false=>rfl
      | true =>
       have hk:=hk1 (h3 rfl)
       have e:((num v.zt:Nat):Int)=(v.zt.length:Int)↔num v.zt=v.zt.length:=by omega
       simp only [if_true,Bool.true_and]
       by_cases k3:v.zi=3
       ·by_cases ht:v.zt=[]
        ·simp [k3,ht,zs9]
        ·by_cases hn:num v.zt=v.zt.length
         ·simp [k3,ht,hn,hn1,hk]
         ·have:¬((num v.zt:Nat):Int)=(v.zt.length:Int):=fun x=>hn (e.1 x)
          simp [k3,ht,hn,hn1,this,zs9]
       ·by_cases k4:v.zi=4
        ·cases hv:Lib.validD v.zt<;>simp [k4,hv,hn2,hk,zs9]
        ·by_cases ht:v.zt=[]<;>simp [k3,k4,ht,hk,zs9]
theorem zgv {v:q04} {f:Nat} (hf:17≤f) (h:Small v):M.q32 f v=some (z5i v 0):=by
 unfold M.q32
 have h1:=zdx f v 0 (by omega) (by omega) h
 have h1:M.q3a f v 0=some (zs9 (z5i v 0)):=h1
 rw [h1]
 simp only [ya,yb]
 unfold zs9
 by_cases hc:z5i v 0=0<;>simp [hc]
end Go.Sen
end
section
namespace Go.Sen
open _root_.Option renaming bind_eq_bind → ya, bind_some → yb
open _root_.List renaming length_append → yc, length_cons → yd
open IntKind renaming wrap → ye
open Go.Lk Go.Pe
theorem z2o {a:List Int} {b:Int} (h:a.length<1099511627776):M.q70 a b=some (a++[b]):=by
 unfold M.q70 M.z39
 simp only [ya,yb]
 rw [z6b (by simp;omega)]
 rfl
theorem z30 {a:List Int} {b:Z} (h:a.length+b.length<1099511627776):M.q71 a b=some ((b.length:Int),a++unb b):=by
 unfold M.q71 M.z39
 simp only [ya,yb]
 rw [z6b (by simp [unb];omega)]
 rfl
theorem builderLen_eq (a:List Int):M.q6z a=some (a.length:Int):=rfl
theorem z83 (s:Z):M.zp (unb s)=some s:=by
 unfold M.zp
 rw [z4k (by simp [zpr])]
 simp [zpr]
def zwk (n:Nat):UInt8:=UInt8.ofNat (if n<10 then 48+n else 87+n)
def qb (c:UInt8):Z :=
 if c=34∨c=92 then [92,c] else if c=8 then [92,98] else if c=9 then [92,116] else if c=10 then [92,110] else if c=12 then [92,102] else if c=13 then [92,114]
 else if c.toNat<32 then [92,117,48,48,zwk (c.toNat / 16),zwk (c.toNat % 16)] else [c]
def qbs (s:Z):Z:=s.flatMap qb
def qt (s:Z):Z:=34::qbs s++[34]
theorem zx1 (c:UInt8):(qb c).length≤6:=by
 unfold qb
 repeat' split
 all_goals simp
theorem zlm:∀ s:Z,(qbs s).length≤6*s.length
 | []=>by simp [qbs]
 | c::s=>by
  have h1:=zx1 c
  have h2:=zlm s
  simp only [qbs,List.flatMap_cons,yc,yd] at *
  omega
theorem zrz (s:Z):(qt s).length≤6*s.length+2:=by
 have:=zlm s
 simp only [qt,yc,yd,List.length_nil]
 omega
theorem zh6 (c:UInt8) (s:Z):qbs (c::s)=qb c++qbs s:=by simp [qbs]
def jstep (x:Int):Option Z:=do
 let a←M.indexByte ([34,92,8,9,10,12,13]:Z) x
 if (decide (0≤a)) then
  let s_87←sub ([34,92,98,116,110,102,114]:Z) a (ye .i64 (a+1))
  cat ([92]:Z) s_87
 else
  if (decide (x<32)) then
   let s_91←sub ([48,49]:Z) (znk .u8 x 4) (ye .u8 ((znk .u8 x 4)+1))
   let s_92←cat ([92,117,48,48]:Z) s_91
   let s_93←sub ([48,49,50,51,52,53,54,55,56,57,97,98,99,100,101,102]:Z) (zev .u8 x 15) (ye .u8 ((zev .u8 x 15)+1))
   cat s_92 s_93
  else some [UInt8.ofNat x.toNat]
theorem zuf:∀ c:UInt8,jstep (c.toNat:Int)=some (qb c):=zcg (by decide +kernel)
theorem zs0 {s:Z} (hs:s.length<100000000000):∀ (n i:Nat) (acc:List Int),s.length - i=n→i≤s.length→acc.length+6*n<1099511627776→M.z05 s (i:Int) acc=some (acc++unb (qbs (s.drop i))):=by
 intro n
 induction n with
 | zero =>
  intro i acc hn hi ha
  rw [M.z05.eq_1]
  have:¬((i:Int)<((unb s).length:Int)):=by rw [z9p];omega
  rw [if_neg (by simpa using this),List.drop_eq_nil_of_le (by omega)]
  simp [qbs,unb]
 | succ n ih =>
  intro i acc hn hi ha
  have hlt:i<s.length:=by omega
  have h1:((i:Int)<((unb s).length:Int)):=by rw [z9p];omega
  have hj:=zuf s[i]
  have hq:=zx1 s[i]
  rw [M.z05.eq_1]
  simp only [h1,decide_true,if_true,zcj,zst,List.getElem?_eq_getElem hlt,Option.map_some,ya,yb]
  rw [w1 (by omega)]
  have next:∀ a:List Int,a=acc++unb (qb s[i])→M.z05 s ((i+1:Nat):Int) a=some (acc++unb (qbs (s.drop i))):=by
   rintro a rfl
   rw [ih (i+1) _ (by omega) (by omega) (by simp [unb];omega),List.drop_eq_getElem_cons hlt,zh6,z5r,List.append_assoc]
  unfold jstep at hj
  simp only [ya] at hj
  cases hx:M.indexByte ([34,92,8,9,10,12,13]:Z) ((s[i]).toNat:Int) with
  | none=>rw [hx] at hj;cases hj
  | some a =>
   rw [hx] at hj
   simp only [yb] at hj ⊢
   by_cases ca:0≤a
   ·rw [if_pos (by simpa using ca)] at hj ⊢
    cases hy:sub ([34,92,98,116,110,102,114]:Z) a (ye .i64 (a+1)) with
    | none=>rw [hy] at hj;cases hj
    | some y =>
     rw [hy] at hj
     simp only [yb] at hj ⊢
     rw [hj]
     simp only [yb]
     rw [z30 (by omega)]
     exact next _ rfl
   ·rw [if_neg (by simpa using ca)] at hj ⊢
    by_cases cx:((s[i]).toNat:Int)<32
    ·rw [if_pos (by simpa using cx)] at hj ⊢
     cases hy:sub ([48,49]:Z) (znk .u8 ((s[i]).toNat:Int) 4) (ye .u8 ((znk .u8 ((s[i]).toNat:Int) 4)+1)) with
     | none=>rw [hy] at hj;cases hj
     | some y =>
      rw [hy] at hj
      simp only [yb] at hj ⊢
      cases hz:cat ([92,117,48,48]:Z) y with
      | none=>rw [hz] at hj;cases hj
      | some z =>
       rw [hz] at hj
       simp only [yb] at hj ⊢
       cases hu:sub ([48,49,50,51,52,53,54,55,56,57,97,98,99,100,101,102]:Z) (zev .u8 ((s[i]).toNat:Int) 15) (ye .u8 ((zev .u8 ((s[i]).toNat:Int) 15)+1)) with
       | none=>rw [hu] at hj;cases hj
       | some u =>
        rw [hu] at hj
        simp only [yb] at hj ⊢
        rw [hj]
        simp only [yb]
        rw [z30 (by omega)]
        exact next _ rfl
    ·rw [if_neg (by simpa using cx)] at hj ⊢
     rw [z2o (by omega)]
     simp only [Option.some.injEq] at hj
     refine next _ ?_
     rw [←hj]
     simp [unb]
theorem z9x {s:Z} {acc:List Int} (h:acc.length+6*s.length+2<100000000000):M.q3g acc s=some (acc++unb (qt s)):=by
 unfold M.q3g
 rw [z2o (by omega),z4k (by simp;omega)]
 simp only [ya,yb]
 have h1:=zs0 (s:=s) (by omega) _ 0 (acc++[34]) rfl (Nat.zero_le _) (by simp;omega)
 have h1:M.z05 s 0 (acc++[34])=_:=h1
 rw [h1]
 simp only [yb,List.drop_zero]
 have:=zlm s
 rw [z2o (by simp [unb];omega)]
 simp [qt,unb]
end Go.Sen
end
section
namespace Go.Sen
open _root_.Option renaming bind_eq_bind → ya, bind_some → yb
open _root_.Bool renaming false_eq_true → yc
open _root_.List renaming drop_eq_getElem_cons → yd, drop_zero → ye, getElem?_cons_succ → yf, getElem?_cons_zero → yg, getElem?_eq_getElem → yh, length_append → yi, length_cons → yj, length_nil → yk
open Go.Lk Go.Pe
mutual
def prJ:q04→Z
 | ⟨k,t,l,ks⟩=>if k=0 then [110,117,108,108] else if k=1 then [102,97,108,115,101] else if k=2 then [116,114,117,101] else if k=3 then t else if k=4 then qt t
  else (if k=6 then 123 else 91)::prL (decide (k=6)) l ks true++[if k=6 then 125 else 93]
def prL (o:Bool):List q04→List Z→Bool→Z
 | [],_,_=>[]
 | x::xs,ks,f=>(if f=true then [] else [44])++((if o=true then qt (ks.head?.getD [])++[58] else [])++(prJ x++prL o xs ks.tail false))
end
theorem zeb (v:q04):prJ v=if v.zi=0 then [110,117,108,108] else if v.zi=1 then [102,97,108,115,101] else if v.zi=2 then [116,114,117,101] else if v.zi=3 then v.zt else if v.zi=4 then qt v.zt
  else (if v.zi=6 then 123 else 91)::prL (decide (v.zi=6)) v.zj v.zw true++[if v.zi=6 then 125 else 93]:=by cases v;simp only [prJ]
theorem z4g (o:Bool) (x:q04) (xs:List q04) (ks:List Z) (f:Bool):prL o (x::xs) ks f=(if f=true then [] else [44])++((if o=true then qt (ks.head?.getD [])++[58] else [])++(prJ x++prL o xs ks.tail false)):=by simp only [prL]
theorem zqz (ks:List Z):(qt (ks.head?.getD [])).length≤2+6*(kys ks - kys ks.tail)∧kys ks.tail≤kys ks:=by
 cases ks with
 | nil=>simp [qt,qbs]
 | cons k ks =>
  have:=zrz k
  rw [z4p]
  simp only [List.head?_cons,Option.getD_some,List.tail_cons]
  omega
mutual
theorem zli:∀ v:q04,(prJ v).length≤7*v.sz
 | ⟨k,t,l,ks⟩=>by
  have h1:=zlj (decide (k=6)) l ks true
  have h2:=zrz t
  simp only [prJ,q04.sz]
  repeat' split
  all_goals try simp only [yi,yj,yk]
  all_goals omega
theorem zlj:∀ (o:Bool) (l:List q04) (ks:List Z) (f:Bool),(prL o l ks f).length≤7*szs l+7*kys ks
 | _,[],_,_=>by simp [prL]
 | o,x::xs,ks,f=>by
  have h1:=zli x
  have h2:=zlj o xs ks.tail false
  obtain ⟨h3,h4⟩:=zqz ks
  simp only [prL,szs]
  repeat' split
  all_goals simp only [yi,yj,yk]
  all_goals omega
end
theorem tail_drop {α:Type} (l:List α) (i:Nat):(l.drop i).tail=l.drop (i+1):=by simp
theorem zyh {v:q04} {self:List Int→q04→Option (List Int)} (hl:v.zj.length<1152921504606846976) (hk:v.zi=6→v.zw.length=v.zj.length)
  (hs:∀ x∈v.zj,∀ a:List Int,a.length+7*x.sz<90000000000→self a x=some (a++unb (prJ x))):∀ (n i:Nat) (acc:List Int),v.zj.length - i=n→i≤v.zj.length →
  acc.length+7*szs (v.zj.drop i)+7*kys (v.zw.drop i)<90000000000→M.z0q v self (i:Int) acc=some (acc++unb (prL (decide (v.zi=6)) (v.zj.drop i) (v.zw.drop i) (decide (i=0)))):=by
 intro n
 induction n with
 | zero =>
  intro i acc hn hi ha
  rw [M.z0q.eq_1]
  have:¬((i:Int)<(v.zj.length:Int)):=by omega
  rw [if_neg (by simpa using this),(List.drop_eq_nil_of_le (by omega):v.zj.drop i=[])]
  simp [prL,unb]
 | succ n ih =>
  intro i acc hn hi ha
  have hlt:i<v.zj.length:=by omega
  have h1:((i:Int)<(v.zj.length:Int)):=by omega
  rw [M.z0q.eq_1]
  simp only [h1,decide_true,if_true,zcj,yh hlt,ya,yb]
  rw [w1 (by omega)]
  have e0:v.zj.drop i=v.zj[i]::v.zj.drop (i+1):=yd hlt
  have hsz:szs (v.zj.drop i)=(v.zj[i]).sz+szs (v.zj.drop (i+1))+1:=by rw [e0];simp only [szs]
  have hkd:kys (v.zw.drop (i+1))≤kys (v.zw.drop i):=by rw [←tail_drop];exact (zqz _).2
  have ej:(if decide (0<(i:Int))=true then (M.q70 acc 44).bind fun a_119=>some a_119 else some acc)=some (acc++unb (if decide (i=0)=true then [] else [44])):=by
   by_cases hz:i=0
   ·simp [hz,unb]
   ·have:0<(i:Int):=by omega
    rw [z2o (by omega)]
    simp [hz,this,unb]
  rw [ej]
  simp only [yb]
  have hc:(if decide (i=0)=true then ([]:Z) else [44]).length≤1:=by split<;>simp
  generalize hcm:(if decide (i=0)=true then ([]:Z) else [44])=cm at ej hc
  have hx:=hs _ (List.getElem_mem hlt)
  have hpl:=zli v.zj[i]
  by_cases h6:v.zi=6
  ·have hlk:i<v.zw.length:=by rw [hk h6];exact hlt
   have e1:v.zw.drop i=v.zw[i]::v.zw.drop (i+1):=yd hlk
   have hks:kys (v.zw.drop i)=(v.zw[i]).length+1+kys (v.zw.drop (i+1)):=by rw [e1,z4p]
   have hql:=zrz v.zw[i]
   simp only [h6,decide_true,if_true,yh hlk,yb]
   rw [z9x (by simp [unb];omega)]
   simp only [yb]
   rw [z2o (by simp [unb];omega)]
   simp only [yb]
   rw [hx _ (by simp [unb];omega)]
   simp only [yb]
   rw [ih (i+1) _ (by omega) (by omega) (by simp [unb];omega),e0,z4g,hcm,e1]
   have e58:([58]:List Int)=unb [58]:=rfl
   rw [e58]
   simp [h6,z5r,yh hlk]
   rw [←z5r,←z5r]
   rfl
  ·rw [if_neg (by simpa using h6)]
   rw [hx _ (by simp [unb];omega)]
   simp only [yb]
   rw [ih (i+1) _ (by omega) (by omega) (by simp [unb];omega),e0,z4g,hcm,tail_drop]
   simp [h6,z5r]
theorem z6c:∀ {l:List q04} {w:Nat},z9r l w=0→∀ x∈l,z5i x w=0
 | y::l,w,h,x,hx=>by
  rw [z5v] at h
  by_cases hc:z5i y w=0
  ·rw [if_pos hc] at h
   rcases List.mem_cons.1 hx with rfl|hx
   ·exact hc
   ·exact z6c h x hx
  ·rw [if_neg hc] at h;exact absurd h hc
theorem z6z {v:q04} {w:Nat} (h:z5i v w=0):¬((v.zi=5∨v.zi=6)∧16≤w)∧frm v.zi v.zt v.zj.length v.zw=true∧z9r v.zj (w+1)=0:=by
 rw [z6j] at h
 split at h
 ·cases h
 ·rename_i h1
  split at h
  ·cases h
  ·rename_i h2
   exact ⟨h1,by simpa using h2,h⟩
theorem zd2 {k:Int} {t:Z} {n:Nat} {ks:List Z} (h:frm k t n ks=true):(k=6→ks.length=n)∧(¬(k=5∨k=6)→n=0)∧(0≤k∧k<7):=by
 rw [ziw (.inr trivial)] at h
 simp only [Bool.and_eq_true,Bool.or_eq_true,decide_eq_true_eq] at h
 obtain ⟨h1,h2,h3,_⟩:=h
 refine ⟨fun e => ?_,fun e => ?_,h1⟩
 ·rcases h3 with h3|h3
  ·omega
  ·simp [e] at h3
 ·rcases h2 with h2|h2
  ·exact absurd h2 e
  ·omega
theorem zix:∀ (f:Nat) (v:q04) (w:Nat),w≤16→17≤f+w→z5i v w=0→∀ a:List Int,a.length+7*v.sz<90000000000→M.q3d f a v=some (a++unb (prJ v)):=by
 intro f
 induction f with
 | zero=>intro v w h1 h2;omega
 | succ f ih =>
  intro v w hw hf hc a ha
  obtain ⟨c1,c2,c3⟩:=z6z hc
  obtain ⟨d1,d2,d3⟩:=zd2 c2
  have hsz:=q04.z8f v
  have hpl:=zli v
  rw [M.q3d,zeb]
  rw [zeb] at hpl
  by_cases h0:v.zi=0
  ·have hq:M.q71 a ([110,117,108,108]:Z)=_:=z30 (by simp;omega)
   simp [h0,hq]
  by_cases h1:v.zi=1
  ·have hq:M.q71 a ([102,97,108,115,101]:Z)=_:=z30 (by simp;omega)
   simp [h1,hq]
  by_cases h2:v.zi=2
  ·have hq:M.q71 a ([116,114,117,101]:Z)=_:=z30 (by simp;omega)
   simp [h2,hq]
  by_cases h3:v.zi=3
  ·have hq:=z30 (a:=a) (b:=v.zt) (by omega)
   simp [h3,hq]
  by_cases h4:v.zi=4
  ·have hq:=z9x (s:=v.zt) (acc:=a) (by omega)
   simp [h4,hq]
  have hl:v.zj=[]∨w<16:=by
   by_cases h56:v.zi=5∨v.zi=6
   ·exact .inr (by omega)
   ·exact .inl (List.eq_nil_of_length_eq_zero (d2 h56))
  have hlen:=zhf v.zj
  have hk1:=fun (acc:List Int) (hacc:acc.length≤a.length+1)=>zyh (v:=v) (self:=M.q3d f) (by omega) d1 (fun x hx b hb=>by
   rcases hl with h|h
   ·rw [h] at hx;cases hx
   ·exact ih x (w+1) (by omega) (by omega) (z6c c3 x hx) b hb) _ 0 acc rfl (Nat.zero_le _) (by simp only [ye];omega)
  have hpl2:=zlj (decide (v.zi=6)) v.zj v.zw true
  rw [if_neg (by simpa using h0),if_neg (by simpa using h1),if_neg (by simpa using h2),if_neg (by simpa using h3),if_neg (by simpa using h4),if_neg h0,if_neg h1,if_neg h2,if_neg h3,if_neg h4]
  by_cases h6:v.zi=6
  ·simp only [h6,decide_true,if_true,ya,yb,ix_0,ix_1,yg,yf]
   rw [z2o (by omega)]
   simp only [yb]
   have hq:=hk1 (a++[123]) (by simp)
   have hq:M.z0q v (M.q3d f) 0 (a++[123])=_:=hq
   simp only [ye,decide_true,h6] at hq
   have e:(((123:UInt8).toNat:Nat):Int)=123:=rfl
   rw [e,hq]
   simp only [yb]
   simp only [h6,decide_true] at hpl2
   rw [z2o (by simp [unb];omega)]
   simp [unb]
  ·simp only [h6,decide_false,if_false,ya,yb,ix_0,ix_1,yg,yf,yc]
   rw [z2o (by omega)]
   simp only [yb]
   have hq:=hk1 (a++[91]) (by simp)
   have hq:M.z0q v (M.q3d f) 0 (a++[91])=_:=hq
   simp only [ye,decide_true,decide_false,h6] at hq
   have e:(((91:UInt8).toNat:Nat):Int)=91:=rfl
   rw [e,hq]
   simp only [yb]
   simp only [h6,decide_false] at hpl2
   rw [z2o (by simp [unb];omega)]
   simp [unb]
def print (v:q04):Z × Int:=if z5i v 0=0 then (if 16384<(prJ v).length then ([],22) else (prJ v,0)) else ([],z5i v 0)
theorem zgx {v:q04} {f:Nat} (hf:17≤f) (h:Small v):M.q36 f v=some (print v):=by
 unfold M.q36 print
 rw [zgv hf h]
 simp only [ya,yb]
 by_cases hc:z5i v 0=0
 ·unfold Small at h
  have hl:=zix f v 0 (by omega) (by omega) hc [] (by simp;omega)
  rw [List.nil_append] at hl
  simp only [hc,decide_true,Bool.not_true,yc,if_false,if_true,hl,yb,builderLen_eq,z9p]
  by_cases h2:16384<(prJ v).length
  ·have:(16384:Int)<((prJ v).length:Int):=by omega
   simp [h2,this]
  ·have:¬(16384:Int)<((prJ v).length:Int):=by omega
   simp [h2,this,z83]
 ·simp [hc]
end Go.Sen
end
