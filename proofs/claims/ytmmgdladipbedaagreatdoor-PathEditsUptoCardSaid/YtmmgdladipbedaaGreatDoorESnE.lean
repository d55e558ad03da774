import Derived.Test.YtmmgdladipbedaaGreatDoorESnA
import Derived.Test.YtmmgdladipbedaaGreatDoorEPaM
set_option linter.all false
section
namespace Go.Sen
open _root_.Option renaming bind_eq_bind → ya, bind_some → yb
open _root_.Bool renaming and_eq_true → yc, not_eq_true → yd, not_eq_true' → ye, or_eq_true → yf
open _root_.List renaming drop_eq_getElem_cons → yg, drop_eq_nil_of_le → yh, drop_zero → yi, eq_nil_of_length_eq_zero → yj, getElem?_eq_getElem → yk, getElem_mem → yl, nodup_append → ym
open _root_.Nat renaming zero_le → yn
open Go.Lk Go.Pe
theorem z2q (b:Bool) (e:Int):M.q0r b e=some (if b=true then .ok () else .pan e):=by cases b<;>simp [M.q0r]
theorem z9v (x:q03) (xs:List q03) (w:Nat):zc3 (x::xs) w=if z7h x w=0 then zc3 xs w else z7h x w:=by simp only [zc3]
theorem zn3 {v:q03} {self:q03→Int→Option (Rs Unit)} {w:Nat} (hw:w≤16) (hl:v.zc.length<1152921504606846976) (hs:∀ x∈v.zc,self x ((w+1:Nat):Int)=some (zqu (z7h x (w+1)))) :
  ∀ (n i:Nat),v.zc.length - i=n→i≤v.zc.length→M.z1p v self (w:Int) (i:Int)=some (zqu (zc3 (v.zc.drop i) (w+1))):=by
 intro n
 induction n with
 | zero =>
  intro i hn hi
  rw [M.z1p.eq_1]
  have:¬((i:Int)<(v.zc.length:Int)):=by omega
  rw [if_neg (by simpa using this),yh (by omega)]
  rfl
 | succ n ih =>
  intro i hn hi
  have hlt:i<v.zc.length:=by omega
  rw [M.z1p.eq_1]
  have h1:((i:Int)<(v.zc.length:Int)):=by omega
  simp only [h1,decide_true,if_true,z2u,yk hlt,ya,yb]
  rw [w1 (n:=w) (by omega),hs _ (yl hlt),w1 (by omega),ih (i+1) (by omega) (by omega),yg hlt,z9v]
  simp only [yb]
  unfold zqu
  by_cases hc:z7h v.zc[i] (w+1)=0
  ·simp [hc]
  ·simp [hc]
def Small (v:q03):Prop:=v.sz<1000000000
theorem Small.mem {v x:q03} (h:Small v) (hx:x∈v.zc):Small x:=by
 unfold Small at *
 have:=zb5 hx
 rw [q03.z1n v] at h
 omega
theorem Small.parts {v:q03} (h:Small v):v.z03.length<1000000000∧v.zc.length<1000000000∧v.z05.length<1000000000∧∀ k∈v.z05,k.length<1000000000:=by
 unfold Small at h
 rw [q03.z1n] at h
 have h1:=z83 v.zc
 have h2:=z4m v.z05
 exact ⟨by omega,by omega,by omega,fun k hk=>by have:=zg3 hk;omega⟩
theorem zda:∀ (f:Nat) (v:q03) (w:Nat),w≤16→17≤f+w→Small v→M.q0n f v (w:Int)=some (zqu (z7h v w)):=by
 intro f
 induction f with
 | zero=>intro v w h1 h2;omega
 | succ f ih =>
  intro v w hw hf hsm
  obtain ⟨s1,s2,s3,s4⟩:=hsm.parts
  have hk1:(v.zc=[]∨w<16)→M.z1p v (M.q0n f) (w:Int) 0=some (zqu (zc3 v.zc (w+1))):=by
   intro h
   refine zn3 hw (by omega) (fun x hx => ?_) _ 0 rfl (yn _)
   rcases h with h|h
   ·rw [h] at hx;cases hx
   ·exact ih x (w+1) (by omega) (by omega) (hsm.mem hx)
  rw [M.q0n,z5x,zdc (.inr trivial)]
  simp only [z2q,zcq (fun k hk=>by have:=s4 k hk;omega) (show v.z05.length<1152921504606846976 by omega),zix (show v.z05.length*16≤140737488355328 by omega),ya,yb]
  have hj:(if (!(!v.z05.all Lib.validD))=true then some (decide v.z05.Nodup) else some false)=some (v.z05.all Lib.validD&&decide v.z05.Nodup):=by
   cases v.z05.all Lib.validD<;>simp
  rw [hj]
  simp only [yb]
  have hn1:=z8t (s:=v.z03) (by omega)
  have hn2:=z2s (s:=v.z03) (by omega)
  generalize hb5:(v.z05.all Lib.validD&&decide v.z05.Nodup)=b5
  generalize hb4:(decide (v.zb=6)&&decide ((v.z05.length:Int)=(v.zc.length:Int))||decide ((v.z05.length:Int)=0) && !decide (v.zb=6))=b4
  generalize hb2:(decide (0≤v.zb)&&decide (v.zb<7))=b2
  by_cases hd:(v.zb=5∨v.zb=6)∧16≤w
  ·have:(!(decide (v.zb=5)||decide (v.zb=6))||decide ((w:Int)<16))=false:=by
    rw [←yd,yf,ye,←yd,yf]
    simp only [decide_eq_true_eq]
    omega
   rw [this,if_pos hd]
   rfl
  ·have h1:(!(decide (v.zb=5)||decide (v.zb=6))||decide ((w:Int)<16))=true:=by
    rw [yf,ye,←yd,yf]
    simp only [decide_eq_true_eq]
    omega
   rw [h1,if_neg hd]
   have h3:(decide (v.zb=5)||decide (v.zb=6)||decide ((v.zc.length:Int)=0))=true→(v.zc=[]∨w<16):=by
    rw [yf,yf]
    simp only [decide_eq_true_eq]
    intro h
    rcases h with h|h
    ·exact .inr (by omega)
    ·exact .inl (yj (by omega))
   generalize (decide (v.zb=5)||decide (v.zb=6)||decide ((v.zc.length:Int)=0))=b3 at *
   cases b2 with
   | false=>rfl
   | true =>
    cases b3 with
    | false=>rfl
    | true =>
     cases b4 with
     | false=>rfl
     | true =>
      cases b5 with
      | false=>rfl
      | true =>
       have hk:=hk1 (h3 rfl)
       have e:((num v.z03:Nat):Int)=(v.z03.length:Int)↔num v.z03=v.z03.length:=by omega
       simp only [if_true,Bool.true_and]
       by_cases k3:v.zb=3
       ·by_cases ht:v.z03=[]
        ·simp [k3,ht,zqu]
        ·by_cases hn:num v.z03=v.z03.length
         ·simp [k3,ht,hn,hn1,hk]
         ·have:¬((num v.z03:Nat):Int)=(v.z03.length:Int):=fun x=>hn (e.1 x)
          simp [k3,ht,hn,hn1,this,zqu]
       ·by_cases k4:v.zb=4
        ·cases hv:Lib.validD v.z03<;>simp [k4,hv,hn2,hk,zqu]
        ·by_cases ht:v.z03=[]<;>simp [k3,k4,ht,hk,zqu]
theorem zfy {v:q03} {f:Nat} (hf:17≤f) (h:Small v):M.q0i f v=some (z7h v 0):=by
 unfold M.q0i
 have h1:=zda f v 0 (by omega) (by omega) h
 have h1:M.q0n f v 0=some (zqu (z7h v 0)):=h1
 rw [h1]
 simp only [ya,yb]
 unfold zqu
 by_cases hc:z7h v 0=0<;>simp [hc]
theorem zvf {v:q03} (hs:∀ k∈v.z05,k.length<1152921504606846976) (hl:v.z05.length<1152921504606846976):∀ (n i:Nat),v.z05.length - i=n→i≤v.z05.length →
  M.z3n v (i:Int)=some (if (v.z05.drop i).all Lib.validD=true then .go () else .done false):=by
 intro n
 induction n with
 | zero =>
  intro i hn hi
  rw [M.z3n.eq_1]
  have:¬((i:Int)<(v.z05.length:Int)):=by omega
  rw [if_neg (by simpa using this),yh (by omega)]
  rfl
 | succ n ih =>
  intro i hn hi
  have hlt:i<v.z05.length:=by omega
  rw [M.z3n.eq_1]
  have h1:((i:Int)<(v.z05.length:Int)):=by omega
  have h2:=hs v.z05[i] (yl hlt)
  simp only [h1,decide_true,if_true,z2u,yk hlt,ya,yb]
  rw [z2s (by omega),yg hlt,w1 (by omega),ih (i+1) (by omega) (by omega)]
  simp only [yb,List.all_cons]
  by_cases hv:Lib.validD v.z05[i]=true<;>simp [hv]
theorem zts {l:List (List UInt8)} (hl:l.length<1152921504606846976) {i:Nat} (hi:i<l.length):∀ (n k:Nat),i - k=n→k≤i →
  M.z36 (i:Int) l (k:Int)=some (if l[i]∈(l.take i).drop k then .done (.done true) else .go ()):=by
 intro n
 induction n with
 | zero =>
  intro k hn hk
  rw [M.z36.eq_1]
  have:¬((k:Int)<(i:Int)):=by omega
  rw [if_neg (by simpa using this),yh (by simp;omega)]
  simp
 | succ n ih =>
  intro k hn hk
  rw [M.z36.eq_1]
  have h1:((k:Int)<(i:Int)):=by omega
  have hk':k<l.length:=by omega
  simp only [h1,decide_true,if_true,z2u,yk hi,yk hk',ya,yb]
  rw [w1 (by omega),ih (k+1) (by omega) (by omega)]
  have e:(l.take i).drop k=l[k]::(l.take i).drop (k+1):=by
   rw [yg (by simp;omega)]
   simp
  rw [e]
  by_cases h:l[i]=l[k]
  ·simp [h]
  ·simp [h]
theorem ztr {l:List (List UInt8)} (hl:l.length<1152921504606846976):∀ (n i:Nat),l.length - i=n→i≤l.length→(l.take i).Nodup →
  M.z34 l (i:Int)=some (if l.Nodup then .go () else .done true):=by
 intro n
 induction n with
 | zero =>
  intro i hn hi hd
  rw [M.z34.eq_1]
  have:¬((i:Int)<(l.length:Int)):=by omega
  rw [List.take_of_length_le (by omega)] at hd
  rw [if_neg (by simpa using this),if_pos hd]
 | succ n ih =>
  intro i hn hi hd
  have hlt:i<l.length:=by omega
  rw [M.z34.eq_1]
  have h1:((i:Int)<(l.length:Int)):=by omega
  have h2:=zts hl hlt _ 0 rfl (yn _)
  simp only [h1,decide_true,if_true,ya]
  have h2:M.z36 (i:Int) l 0=_:=h2
  rw [h2]
  simp only [yb,yi]
  have e:l.take (i+1)=l.take i++[l[i]]:=by simp
  by_cases hm:l[i]∈l.take i
  ·rw [if_pos hm]
   have:¬l.Nodup:=fun h=>by
    have h3:=(List.take_sublist (i+1) l).nodup h
    rw [e,ym] at h3
    exact h3.2.2 _ hm _ (by simp) rfl
   simp [this]
  ·rw [if_neg hm]
   simp only
   rw [w1 (by omega)]
   refine ih (i+1) (by omega) (by omega) ?_
   rw [e,ym]
   exact ⟨hd,by simp,fun a ha b hb=>by simp at hb;subst hb;intro h;subst h;exact hm ha⟩
theorem zmr {l:List (List UInt8)} (hl:l.length<1152921504606846976):M.q3s l=some (!decide l.Nodup):=by
 unfold M.q3s
 have h:=ztr hl _ 0 rfl (yn _) (by simp)
 have h:M.z34 l 0=_:=h
 rw [h]
 by_cases hn:l.Nodup<;>simp [hn]
theorem zk8 {v:q03} (h:Small v):M.q3h v=some (frm v.zb v.z03 v.zc.length v.z05):=by
 obtain ⟨s1,s2,s3,s4⟩:=h.parts
 unfold M.q3h
 have h1:=zvf (v:=v) (fun k hk=>by have:=s4 k hk;omega) (by omega) _ 0 rfl (yn _)
 have h1:M.z3n v 0=_:=h1
 rw [h1]
 simp only [yi,ya,yb]
 unfold frm
 cases hv:v.z05.all Lib.validD with
 | false=>simp
 | true =>
  simp only [if_true,Bool.true_and]
  have k0:((v.z05.length:Int)=0)↔v.z05=[]:=by rw [←List.length_eq_zero_iff];omega
  have l0:((v.zc.length:Int)=0)↔v.zc.length=0:=by omega
  have kl:((v.z05.length:Int)=(v.zc.length:Int))↔v.z05.length=v.zc.length:=by omega
  have nn:((num v.z03:Nat):Int)=(v.z03.length:Int)↔num v.z03=v.z03.length:=by omega
  rw [zaf (by omega),z2s (by omega),zmr (by omega)]
  simp only [yb,k0,l0,kl,nn]
  by_cases h0:v.zb=0
  ·simp [h0]
  by_cases h1:v.zb=1
  ·simp [h1]
  by_cases h2:v.zb=2
  ·simp [h2]
  by_cases h3:v.zb=3
  ·by_cases ht:v.z03=[]
   ·simp [h3,ht]
   ·by_cases hn:num v.z03=v.z03.length
    ·by_cases hl:v.zc.length=0
     ·simp [h3,ht,hn,hl]
     ·simp [h3,ht,hn,hl]
    ·simp [h3,ht,hn]
  by_cases h4:v.zb=4
  ·simp [h4]
  by_cases h5:v.zb=5
  ·simp [h5]
  by_cases h6:v.zb=6
  ·by_cases ht:v.z03=[]<;>by_cases hn:v.z05.length=v.zc.length<;>simp [h6,ht,hn]
  simp [h0,h1,h2,h3,h4,h5,h6]
theorem zs6 {v:q03} {self:q03→Int→Option Int} {w:Nat} (hw:w≤16) (hl:v.zc.length<1152921504606846976) (hs:∀ x∈v.zc,self x ((w+1:Nat):Int)=some (z7h x (w+1))) :
  ∀ (n i:Nat),v.zc.length - i=n→i≤v.zc.length→M.z30 v self (w:Int) (i:Int)=some (if zc3 (v.zc.drop i) (w+1)=0 then .go () else .done (zc3 (v.zc.drop i) (w+1))):=by
 intro n
 induction n with
 | zero =>
  intro i hn hi
  rw [M.z30.eq_1]
  have:¬((i:Int)<(v.zc.length:Int)):=by omega
  rw [if_neg (by simpa using this),yh (by omega)]
  rfl
 | succ n ih =>
  intro i hn hi
  have hlt:i<v.zc.length:=by omega
  rw [M.z30.eq_1]
  have h1:((i:Int)<(v.zc.length:Int)):=by omega
  simp only [h1,decide_true,if_true,z2u,yk hlt,ya,yb]
  rw [w1 (n:=w) (by omega),hs _ (yl hlt),w1 (by omega),ih (i+1) (by omega) (by omega),yg hlt,z9v]
  simp only [yb]
  by_cases hc:z7h v.zc[i] (w+1)=0
  ·simp [hc]
  ·simp [hc]
theorem zil:∀ (f:Nat) (v:q03) (w:Nat),w≤16→17≤f+w→Small v→M.q3f f v (w:Int)=some (z7h v w):=by
 intro f
 induction f with
 | zero=>intro v w h1 h2;omega
 | succ f ih =>
  intro v w hw hf hsm
  obtain ⟨s1,s2,s3,s4⟩:=hsm.parts
  rw [M.q3f,z5x,zk8 hsm]
  have e:((decide (v.zb=5)||decide (v.zb=6))&&decide (16≤(w:Int)))=decide ((v.zb=5∨v.zb=6)∧16≤w):=by
   rw [Bool.eq_iff_iff,yc,yf]
   simp only [decide_eq_true_eq]
   omega
  rw [e]
  by_cases hd:(v.zb=5∨v.zb=6)∧16≤w
  ·simp [hd]
  ·rw [if_neg (by simpa using hd),if_neg hd]
   simp only [ya,yb]
   cases hfm:frm v.zb v.z03 v.zc.length v.z05 with
   | false=>simp
   | true =>
    have hl:v.zc=[]∨w<16:=by
     rw [zdc (.inr trivial)] at hfm
     simp only [yc,yf,decide_eq_true_eq] at hfm
     rcases hfm.2.1 with h|h
     ·exact .inr (by omega)
     ·exact .inl (yj (by omega))
    have hk1:=zs6 (v:=v) (self:=M.q3f f) hw (by omega) (fun x hx=>by
     rcases hl with h|h
     ·rw [h] at hx;cases hx
     ·exact ih x (w+1) (by omega) (by omega) (hsm.mem hx)) _ 0 rfl (yn _)
    have hk1:M.z30 v (M.q3f f) (w:Int) 0=_:=hk1
    rw [hk1]
    simp only [yi]
    by_cases hc:zc3 v.zc (w+1)=0<;>simp [hc]
theorem zii {v:q03} {f:Nat} (hf:17≤f) (h:Small v):M.q34 f v=some (z7h v 0):=by
 unfold M.q34
 have h1:M.q3f f v 0=some (z7h v 0):=zil f v 0 (by omega) (by omega) h
 rw [h1]
 rfl
end Go.Sen
end
section
namespace Go.Sen
open _root_.Option renaming bind_eq_bind → ya, bind_some → yb
open _root_.Bool renaming and_false → yc, eq_iff_iff → yd, false_and → ye, false_eq_true → yf
open _root_.List renaming all_eq_not_any_not → yg, all_eq_true → yh, getElem?_cons_zero → yi
open Go.Lk Go.Pe
theorem zcg {α R X:Type} {l:List α} {p:α→Bool} {F:Int→Option (Jn R X)} (d:Nat→R) (x0:X) (hl:l.length<1152921504606846976)
  (hF:∀ (i:Nat) (h:i<l.length),F (i:Int)=if p l[i]=true then some (.done (d i)) else F (IntKind.wrap .i64 ((i:Int)+1))) (hE:F (l.length:Int)=some (.go x0)) :
  F 0=some (match l.findIdx? p with|some i => .done (d i)|none => .go x0):=by
 have key:∀ (n i:Nat),l.length - i=n→i≤l.length→F (i:Int)=some (match (l.drop i).findIdx? p with|some k => .done (d (i+k))|none => .go x0):=by
  intro n
  induction n with
  | zero =>
   intro i h1 h2
   have:i=l.length:=by omega
   subst this
   simp [hE]
  | succ n ih =>
   intro i h1 h2
   have hi:i<l.length:=by omega
   rw [hF i hi,z1x hi,List.findIdx?_cons]
   cases hp:p l[i] with
   | true=>simp
   | false =>
    rw [w1 (by omega),ih (i+1) (by omega) (by omega)]
    simp only [yf,if_false]
    cases (l.drop (i+1)).findIdx? p with
    | none=>rfl
    | some k=>simp [Nat.add_assoc,Nat.add_comm 1 k]
 have:=key _ 0 rfl (Nat.zero_le _)
 simpa using this
theorem z94 {α:Type} {l:List α} {p:α→Bool}:(l.findIdx? p).isSome=l.any p:=by
 rw [List.findIdx?_isSome]
theorem z4x {α:Type} (l:List α) (p:α→Bool):(l.findIdx? p=none∧l.any p=false)∨∃ i,l.findIdx? p=some i∧l.any p=true:=by
 have:=z94 (l:=l) (p:=p)
 cases h:l.findIdx? p with
 | none=>rw [h] at this;exact .inl ⟨rfl,this.symm⟩
 | some i=>rw [h] at this;exact .inr ⟨i,rfl,this.symm⟩
theorem z4o {α:Type} (l:List α) (p:α→Bool):(l.findIdx? (fun x => !p x)=none∧l.all p=true)∨∃ i,l.findIdx? (fun x => !p x)=some i∧l.all p=false:=by
 have e:l.all p = !(l.any fun x => !p x):=by rw [yg]
 rcases z4x l (fun x => !p x) with ⟨h1,h2⟩|⟨i,h1,h2⟩
 ·exact .inl ⟨h1,by rw [e,h2];rfl⟩
 ·exact .inr ⟨i,h1,by rw [e,h2];rfl⟩
def isL (b:UInt8):Bool:=decide (65≤b.toNat)&&decide (b.toNat≤90)||decide (97≤b.toNat)&&decide (b.toNat≤122)
def wch (b:UInt8):Bool:=isL b||isD b||decide (b=45)||decide (b=95)||decide (b=46)
def zdh:List UInt8:=[65,66,67,68,69,70,71,72,73,74,75,76,77,78,79,80,81,82,83,84,85,86,87,88,89,90,97,98,99,100,101,102,103,104,105,106,107,108,109,110,111,112,113,114,115,116,117,118,119,120,121,122]
def zak:List UInt8:=zdh++[48,49,50,51,52,53,54,55,56,57,45,95,46]
theorem zjz:∀ b:UInt8,decide (0≤Lib.indexByte zdh b)=isL b:=zbg (by decide +kernel)
theorem zfk:∀ b:UInt8,zak.contains b=wch b:=zbg (by decide +kernel)
def zzu (s:List UInt8):Bool:=decide (s=[97,110,100])||decide (s=[111,114])||decide (s=[110,111,116])
def isName (s:List UInt8):Bool:=match s with
 | []=>false
 | c::r=>decide ((c::r).length≤24)&&isL c&&(c::r).all wch && !zzu (c::r)
theorem zaq {α:Type} (p:α→Bool) (l:List α):l.dropWhile p=[]↔l.all p=true:=by
 induction l with
 | nil=>simp
 | cons a l ih =>
  rw [List.dropWhile_cons]
  cases h:p a<;>simp [h,ih]
theorem zre {l cs:List UInt8}:decide (Lib.trimS l cs=[])=l.all cs.contains:=by
 rw [yd,decide_eq_true_iff]
 unfold Lib.trimS Lib.trimLeftS Lib.trimRightS
 rw [zaq]
 constructor
 ·intro h
  rw [yh] at h ⊢
  intro x hx
  by_cases hc:cs.contains x=true
  ·exact hc
  ·exfalso
   have:l.reverse.dropWhile (cs.contains ·)=[]:=by
    cases hd:l.reverse.dropWhile (cs.contains ·) with
    | nil=>rfl
    | cons a r =>
     have h1:=List.head_dropWhile_not (p:=(cs.contains ·)) (l:=l.reverse) (by rw [hd];simp)
     have h2:cs.contains a=true:=h a (by rw [hd];simp)
     simp only [hd,List.head_cons] at h1
     rw [h2] at h1
     cases h1
   rw [zaq] at this
   rw [yh] at this
   exact hc (this x (by simpa using hx))
 ·intro h
  have:l.reverse.dropWhile (cs.contains ·)=[]:=by
   rw [zaq,yh]
   rw [yh] at h
   exact fun x hx=>h x (by simpa using hx)
  rw [this]
  rfl
theorem zhw {l:List (List UInt8)} {s:List UInt8} (hl:l.length<1152921504606846976):M.z04 l s 0=some (match l.findIdx? (fun x=>decide (s=x)) with|some i => .done (i:Int)|none => .go ()):=by
 refine zcg (fun i:Nat=>(i:Int)) () hl (fun i h => ?_) ?_
 ·rw [M.z04]
  simp [z2u,h]
 ·rw [M.z04]
  simp
theorem zbd {l:List (List UInt8)} {s:List UInt8} (hl:l.length<1152921504606846976):M.q5h l s=some (l.contains s):=by
 unfold M.q5h M.q5x
 rw [zhw hl]
 have:l.contains s=(l.findIdx? (fun x=>decide (s=x))).isSome:=by
  rw [z94,List.contains_eq_any_beq]
  congr 1
  funext x
  rw [yd]
  simp
 rw [this]
 cases l.findIdx? (fun x=>decide (s=x)) with
 | none=>simp
 | some i=>simp
theorem z4t (s:List UInt8):M.q2g s=some (isName s):=by
 unfold M.q2g
 cases s with
 | nil=>simp [isName]
 | cons c r =>
  by_cases h24:((c::r).length:Int)≤24
  ·have e1:M.indexByte zdh (c.toNat:Int)=some (Lib.indexByte zdh c):=by simp [M.indexByte]
   have e2:M.trim (c::r) zak=some (Lib.trimS (c::r) zak):=by
    unfold M.trim
    rw [z48]
    ·rfl
    ·have:zak.all (fun b=>decide (b.toNat<128))=true:=by decide
     have h2:(zak.length<4294967281):=by decide
     simp only [this,h2,decide_true,Bool.and_true,decide_eq_true_eq]
     omega
   have e3:M.q5h [[97,110,100],[111,114],[110,111,116]] (c::r)=some (zzu (c::r)):=by
    rw [zbd (by decide)]
    congr 1
    rw [yd,List.contains_iff_mem]
    simp [zzu,or_assoc]
   have h24':(c::r).length≤24:=by omega
   show (do
    let j_7←(do
     if ((!decide ((c::r)=([]:List UInt8)))&&(decide (((c::r).length:Int)≤24))) then
      let c_8←ix (c::r) 0
      let a_9←M.indexByte zdh (c_8.toNat:Int)
      some (decide (0≤a_9))
     else some false:Option Bool)
    let j_14←(do
     if j_7 then
      let a_15←M.trim (c::r) zak
      some (decide (a_15=([]:List UInt8)))
     else some false:Option Bool)
    let j_20←(do
     if j_14 then
      let a_21←M.q5h [[97,110,100],[111,114],[110,111,116]] (c::r)
      some (!a_21)
     else some false:Option Bool)
    some j_20)=_
   have hc:((!decide ((c::r)=([]:List UInt8)))&&(decide (((c::r).length:Int)≤24)))=true:=by rw [decide_eq_true h24];simp
   simp only [hc,if_true,zni,yi,ya,yb,e1,zjz]
   cases hL:isL c with
   | false=>simp [isName,hL]
   | true =>
    simp only [if_true,e2,yb,zre]
    have hw:(c::r).all zak.contains=(c::r).all wch:=by
     congr 1
     funext b
     exact zfk b
    rw [hw]
    cases hW:(c::r).all wch with
    | false=>simp [isName,hL,hW]
    | true =>
     simp only [if_true,e3,yb,isName,hL,hW,h24',decide_true,Bool.true_and]
  ·have h24':¬(c::r).length≤24:=by omega
   simp only [h24,decide_false,yc,yf,if_false,ya,yb,isName,h24',ye]
theorem letter_eq (c:UInt8):M.q4k (c.toNat:Int)=some (wch c):=by
 revert c
 exact zbg (by decide +kernel)
theorem z73 {s:List UInt8} (hs:s.length<1152921504606846976):M.q3x s=some (isName s):=by
 unfold M.q3x
 cases s with
 | nil=>simp [isName]
 | cons c r =>
  have hk:M.z42 (c::r) 0=some (match (c::r).findIdx? (fun x => !wch x) with|some i => .done false|none => .go ()):=by
   refine zcg (fun _=>false) () hs (fun i h => ?_) ?_
   ·rw [M.z42]
    simp only [show ((i:Int)<((c::r).length:Int)) by omega,decide_true,if_true,z2u,List.getElem?_eq_getElem h,ya,yb,letter_eq]
   ·rw [M.z42]
    simp
  rw [hk]
  have hall:(match (c::r).findIdx? (fun x => !wch x) with|some i=>(.done false:Jn Bool Unit)|none => .go ())=if (c::r).all wch=true then .go () else .done false:=by
   have:=z94 (l:=c::r) (p:=fun x => !wch x)
   cases h:(c::r).findIdx? (fun x => !wch x) with
   | none =>
    rw [h] at this
    simp only [Option.isSome_none] at this
    rw [if_pos]
    rw [yg,←this]
    rfl
   | some i =>
    rw [h] at this
    simp only [Option.isSome_some] at this
    rw [if_neg]
    rw [yg,←this]
    decide
  rw [hall]
  have hL:isL c=(decide (65≤(c.toNat:Int))&&decide ((c.toNat:Int)≤90)||decide (97≤(c.toNat:Int))&&decide ((c.toNat:Int)≤122)):=by
   unfold isL
   congr 1<;>congr 1<;>(rw [decide_eq_decide];omega)
  have hkw:(((decide ((c::r)=([97,110,100]:List UInt8)))||(decide ((c::r)=([111,114]:List UInt8))))||(decide ((c::r)=([110,111,116]:List UInt8))))=zzu (c::r):=rfl
  have hlen:decide (24<((c::r).length:Int)) = !decide ((c::r).length≤24):=by
   rw [←decide_not,decide_eq_decide]
   omega
  simp only [isName,hL,zni,yi,ya,yb,hlen,←hkw]
  by_cases h1:(c::r).length≤24<;>by_cases h2:(c::r)=([97,110,100]:List UInt8)<;>by_cases h3:(c::r)=([111,114]:List UInt8)<;>by_cases h4:(c::r)=([110,111,116]:List UInt8) <;>
   simp only [h1,h2,h3,h4,decide_true,decide_false,Bool.not_true,Bool.not_false,Bool.or_true,Bool.true_or,Bool.or_false,Bool.false_or,Bool.and_true,yc,Bool.true_and,ye,if_true,if_false,yb,reduceCtorEq,yf]
  by_cases g1:65≤(c.toNat:Int)<;>by_cases g2:(c.toNat:Int)≤90<;>by_cases g3:97≤(c.toNat:Int)<;>by_cases g4:(c.toNat:Int)≤122<;>by_cases g5:(c::r).all wch=true<;>simp [g1,g2,g3,g4,g5]<;>simp_all
def z2x (s:List UInt8):Bool:=decide (s.length≤128)&&Lib.validD s
theorem zbq (s:List UInt8):M.q2y s=some (z2x s):=by
 unfold M.q2y z2x
 by_cases h:s.length≤128
 ·have h':(s.length:Int)≤128:=by omega
  simp [h,h',z2s (s:=s) (by omega)]
 ·have h':¬(s.length:Int)≤128:=by omega
  simp [h,h']
theorem zds (s:List UInt8):M.q4w s=some (z2x s):=by
 unfold M.q4w z2x
 by_cases h:s.length≤128
 ·have h':(s.length:Int)≤128:=by omega
  simp [h,h',z2s (s:=s) (by omega)]
 ·have h':¬(s.length:Int)≤128:=by omega
  simp [h,h']
end Go.Sen
end
section
namespace Go.Sen
open _root_.Option renaming bind_eq_bind → ya, bind_some → yb
open _root_.List renaming append_assoc → yc, drop_eq_getElem_cons → yd, drop_eq_nil_of_le → ye, drop_zero → yf, getElem?_eq_getElem → yg, length_append → yh, length_cons → yi
open IntKind renaming wrap → yj
open _root_.UInt8 renaming ofNat → yk
open Go.Lk Go.Pe
theorem z2c {a:List Int} {b:Int} (h:a.length<1099511627776):M.q61 a b=some (a++[b]):=by
 unfold M.q61 M.z2w
 simp only [ya,yb]
 rw [z0w (by simp;omega)]
 rfl
theorem z2t {a:List Int} {b:List UInt8} (h:a.length+b.length<1099511627776):M.q62 a b=some ((b.length:Int),a++unb b):=by
 unfold M.q62 M.z2w
 simp only [ya,yb]
 rw [z0w (by simp [unb];omega)]
 rfl
theorem builderLen_eq (a:List Int):M.q60 a=some (a.length:Int):=rfl
theorem z7e (s:List UInt8):M.z0f (unb s)=some s:=by
 unfold M.z0f
 rw [z48 (by simp [zap])]
 simp [zap]
def zxg (n:Nat):UInt8:=yk (if n<10 then 48+n else 87+n)
def qb (c:UInt8):List UInt8 :=
 if c=34∨c=92 then [92,c] else if c=8 then [92,98] else if c=9 then [92,116] else if c=10 then [92,110] else if c=12 then [92,102] else if c=13 then [92,114]
 else if c.toNat<32 then [92,117,48,48,zxg (c.toNat / 16),zxg (c.toNat % 16)] else [c]
def qbs (s:List UInt8):List UInt8:=s.flatMap qb
def qt (s:List UInt8):List UInt8:=34::qbs s++[34]
theorem zqd (c:UInt8):(qb c).length≤6:=by
 unfold qb
 repeat' split
 all_goals simp
theorem zgh:∀ s:List UInt8,(qbs s).length≤6*s.length
 | []=>by simp [qbs]
 | c::s=>by
  have h1:=zqd c
  have h2:=zgh s
  simp only [qbs,List.flatMap_cons,yh,yi] at *
  omega
theorem zbr (s:List UInt8):(qt s).length≤6*s.length+2:=by
 have:=zgh s
 simp only [qt,yh,yi,List.length_nil]
 omega
theorem zme (c:UInt8) (s:List UInt8):qbs (c::s)=qb c++qbs s:=by simp [qbs]
def zyd (x:Int):Option (List UInt8):=do
 let a←M.indexByte ([34,92,8,9,10,12,13]:List UInt8) x
 if (decide (0≤a)) then
  let s_87←sub ([34,92,98,116,110,102,114]:List UInt8) a (yj .i64 (a+1))
  cat ([92]:List UInt8) s_87
 else
  if (decide (x<32)) then
   let s_91←sub ([48,49]:List UInt8) (zo0 .u8 x 4) (yj .u8 ((zo0 .u8 x 4)+1))
   let s_92←cat ([92,117,48,48]:List UInt8) s_91
   let s_93←sub ([48,49,50,51,52,53,54,55,56,57,97,98,99,100,101,102]:List UInt8) (zem .u8 x 15) (yj .u8 ((zem .u8 x 15)+1))
   cat s_92 s_93
  else some [yk x.toNat]
theorem zsq:∀ c:UInt8,zyd (c.toNat:Int)=some (qb c):=zbg (by decide +kernel)
theorem zqe {s:List UInt8} (hs:s.length<100000000000):∀ (n i:Nat) (acc:List Int),s.length - i=n→i≤s.length→acc.length+6*n<1099511627776→M.z18 s (i:Int) acc=some (acc++unb (qbs (s.drop i))):=by
 intro n
 induction n with
 | zero =>
  intro i acc hn hi ha
  rw [M.z18.eq_1]
  have:¬((i:Int)<((unb s).length:Int)):=by rw [z1t];omega
  rw [if_neg (by simpa using this),ye (by omega)]
  simp [qbs,unb]
 | succ n ih =>
  intro i acc hn hi ha
  have hlt:i<s.length:=by omega
  have h1:((i:Int)<((unb s).length:Int)):=by rw [z1t];omega
  have hj:=zsq s[i]
  have hq:=zqd s[i]
  rw [M.z18.eq_1]
  simp only [h1,decide_true,if_true,z2u,zku,yg hlt,Option.map_some,ya,yb]
  rw [w1 (by omega)]
  have next:∀ a:List Int,a=acc++unb (qb s[i])→M.z18 s ((i+1:Nat):Int) a=some (acc++unb (qbs (s.drop i))):=by
   rintro a rfl
   rw [ih (i+1) _ (by omega) (by omega) (by simp [unb];omega),yd hlt,zme,z2g,yc]
  unfold zyd at hj
  simp only [ya] at hj
  cases hx:M.indexByte ([34,92,8,9,10,12,13]:List UInt8) ((s[i]).toNat:Int) with
  | none=>rw [hx] at hj;cases hj
  | some a =>
   rw [hx] at hj
   simp only [yb] at hj ⊢
   by_cases ca:0≤a
   ·rw [if_pos (by simpa using ca)] at hj ⊢
    cases hy:sub ([34,92,98,116,110,102,114]:List UInt8) a (yj .i64 (a+1)) with
    | none=>rw [hy] at hj;cases hj
    | some y =>
     rw [hy] at hj
     simp only [yb] at hj ⊢
     rw [hj]
     simp only [yb]
     rw [z2t (by omega)]
     exact next _ rfl
   ·rw [if_neg (by simpa using ca)] at hj ⊢
    by_cases cx:((s[i]).toNat:Int)<32
    ·rw [if_pos (by simpa using cx)] at hj ⊢
     cases hy:sub ([48,49]:List UInt8) (zo0 .u8 ((s[i]).toNat:Int) 4) (yj .u8 ((zo0 .u8 ((s[i]).toNat:Int) 4)+1)) with
     | none=>rw [hy] at hj;cases hj
     | some y =>
      rw [hy] at hj
      simp only [yb] at hj ⊢
      cases hz:cat ([92,117,48,48]:List UInt8) y with
      | none=>rw [hz] at hj;cases hj
      | some z =>
       rw [hz] at hj
       simp only [yb] at hj ⊢
       cases hu:sub ([48,49,50,51,52,53,54,55,56,57,97,98,99,100,101,102]:List UInt8) (zem .u8 ((s[i]).toNat:Int) 15) (yj .u8 ((zem .u8 ((s[i]).toNat:Int) 15)+1)) with
       | none=>rw [hu] at hj;cases hj
       | some u =>
        rw [hu] at hj
        simp only [yb] at hj ⊢
        rw [hj]
        simp only [yb]
        rw [z2t (by omega)]
        exact next _ rfl
    ·rw [if_neg (by simpa using cx)] at hj ⊢
     rw [z2c (by omega)]
     simp only [Option.some.injEq] at hj
     refine next _ ?_
     rw [←hj]
     simp [unb]
theorem z8u {s:List UInt8} {acc:List Int} (h:acc.length+6*s.length+2<100000000000):M.q0t acc s=some (acc++unb (qt s)):=by
 unfold M.q0t
 rw [z2c (by omega),z48 (by simp;omega)]
 simp only [ya,yb]
 have h1:=zqe (s:=s) (by omega) _ 0 (acc++[34]) rfl (Nat.zero_le _) (by simp;omega)
 have h1:M.z18 s 0 (acc++[34])=_:=h1
 rw [h1]
 simp only [yb,yf]
 have:=zgh s
 rw [z2c (by simp [unb];omega)]
 simp [qt,unb]
theorem ztd:∀ c:UInt8,∀ acc:List Int,acc.length<1000000000000→∀ k:List Int→Option (List Int),
  ((if ((decide ((c.toNat:Int)=34))||(decide ((c.toNat:Int)=92))) then (app 1 acc [92,(c.toNat:Int)]).bind k else
  if (decide ((c.toNat:Int)=8)) then (app 1 acc (unb ([92,98]:List UInt8))).bind k else
  if (decide ((c.toNat:Int)=9)) then (app 1 acc (unb ([92,116]:List UInt8))).bind k else
  if (decide ((c.toNat:Int)=10)) then (app 1 acc (unb ([92,110]:List UInt8))).bind k else
  if (decide ((c.toNat:Int)=12)) then (app 1 acc (unb ([92,102]:List UInt8))).bind k else
  if (decide ((c.toNat:Int)=13)) then (app 1 acc (unb ([92,114]:List UInt8))).bind k else
  if (decide ((c.toNat:Int)<32)) then (ix ([48,49,50,51,52,53,54,55,56,57,97,98,99,100,101,102]:List UInt8) (yj .u8 (Int.tdiv (c.toNat:Int) 16))).bind fun c_81 =>
   (ix ([48,49,50,51,52,53,54,55,56,57,97,98,99,100,101,102]:List UInt8) (Int.tmod (c.toNat:Int) 16)).bind fun c_82=>(app 1 acc [92,117,48,48,(c_81.toNat:Int),(c_82.toNat:Int)]).bind k else
  (app 1 acc [(c.toNat:Int)]).bind k:Option (List Int))=k (acc++unb (qb c))):=by
 intro c acc ha k
 have ap:∀ l:List Int,l.length≤6→app 1 acc l=some (acc++l):=fun l hl=>z0w (by omega)
 have t:∀ n:Nat,n<256→(((c.toNat:Int)=(n:Int))↔c=yk n):=fun n hn=>toNat_eq hn
 by_cases c34:c=34
 ·subst c34;rw [if_pos (by decide),ap _ (by simp)];rfl
 by_cases c92:c=92
 ·subst c92;rw [if_pos (by decide),ap _ (by simp)];rfl
 have n34:¬(c.toNat:Int)=34:=fun e=>c34 ((t 34 (by omega)).1 e)
 have n92:¬(c.toNat:Int)=92:=fun e=>c92 ((t 92 (by omega)).1 e)
 rw [if_neg (by simp [n34,n92])]
 by_cases c8:c=8
 ·subst c8;rw [if_pos (by decide),ap _ (by decide)];rfl
 rw [if_neg (by simpa using fun e=>c8 ((t 8 (by omega)).1 e))]
 by_cases c9:c=9
 ·subst c9;rw [if_pos (by decide),ap _ (by decide)];rfl
 rw [if_neg (by simpa using fun e=>c9 ((t 9 (by omega)).1 e))]
 by_cases c10:c=10
 ·subst c10;rw [if_pos (by decide),ap _ (by decide)];rfl
 rw [if_neg (by simpa using fun e=>c10 ((t 10 (by omega)).1 e))]
 by_cases c12:c=12
 ·subst c12;rw [if_pos (by decide),ap _ (by decide)];rfl
 rw [if_neg (by simpa using fun e=>c12 ((t 12 (by omega)).1 e))]
 by_cases c13:c=13
 ·subst c13;rw [if_pos (by decide),ap _ (by decide)];rfl
 rw [if_neg (by simpa using fun e=>c13 ((t 13 (by omega)).1 e))]
 have eq:qb c=if c.toNat<32 then [92,117,48,48,zxg (c.toNat / 16),zxg (c.toNat % 16)] else [c]:=by
  unfold qb
  simp [c34,c92,c8,c9,c10,c12,c13]
 rw [eq]
 by_cases cl:c.toNat<32
 ·have cl':(c.toNat:Int)<32:=by omega
  rw [if_pos (by simpa using cl'),if_pos cl]
  have tab:∀ n:Fin 32,ix ([48,49,50,51,52,53,54,55,56,57,97,98,99,100,101,102]:List UInt8) (yj .u8 (Int.tdiv (n.val:Int) 16))=some (zxg (n.val / 16))∧ix ([48,49,50,51,52,53,54,55,56,57,97,98,99,100,101,102]:List UInt8) (Int.tmod (n.val:Int) 16)=some (zxg (n.val % 16)):=by decide +kernel
  obtain ⟨h1,h2⟩:=tab ⟨c.toNat,cl⟩
  simp only at h1 h2
  rw [h1,h2]
  simp only [yb]
  rw [ap _ (by simp)]
  rfl
 ·have cl':¬(c.toNat:Int)<32:=by omega
  rw [if_neg (by simpa using cl'),if_neg cl,ap _ (by simp)]
  rfl
theorem zwx {s:List UInt8} (hs:s.length<100000000000):∀ (n i:Nat) (acc:List Int),s.length - i=n→i≤s.length→acc.length+6*n<1000000000000→M.z11 s acc (i:Int)=some (acc++unb (qbs (s.drop i))):=by
 intro n
 induction n with
 | zero =>
  intro i acc hn hi ha
  rw [M.z11.eq_1]
  have:¬((i:Int)<(s.length:Int)):=by omega
  rw [if_neg (by simpa using this),ye (by omega)]
  simp [qbs,unb]
 | succ n ih =>
  intro i acc hn hi ha
  have hlt:i<s.length:=by omega
  have h1:((i:Int)<(s.length:Int)):=by omega
  have hq:=zqd s[i]
  rw [M.z11.eq_1]
  simp only [h1,decide_true,if_true,z2u,yg hlt,ya,yb]
  rw [w1 (by omega)]
  rw [ztd s[i] acc (by omega) (fun l=>M.z11 s l ((i+1:Nat):Int))]
  rw [ih (i+1) _ (by omega) (by omega) (by simp [unb];omega),yd hlt,zme,z2g,yc]
theorem z9h {s:List UInt8} (h:s.length<100000000000):M.q3d s=some (unb (qt s)):=by
 unfold M.q3d
 have h1:=zwx (s:=s) (by omega) _ 0 [34] rfl (Nat.zero_le _) (by simp;omega)
 have h1:M.z11 s [34] 0=_:=h1
 rw [h1]
 have:=zgh s
 simp only [ya,yb,yf]
 rw [z0w (by simp [unb];omega)]
 simp [qt,unb]
end Go.Sen
end
