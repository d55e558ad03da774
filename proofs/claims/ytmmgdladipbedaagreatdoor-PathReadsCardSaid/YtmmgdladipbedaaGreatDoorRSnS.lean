import Derived.Test.YtmmgdladipbedaaGreatDoorRSnR
set_option linter.all false
namespace Go.Sen
open _root_.Option renaming bind_eq_bind → ya, bind_some → yb
open _root_.Bool renaming false_eq_true → yc, not_false → yd, not_true → ye
open _root_.List renaming length_cons → yf, mem_singleton → yg, nodup_append → yh, nodup_nil → yi
open IntKind renaming wrap → yj
open _root_.UInt8 renaming toNat_inj → yk
open Go.Lk Go.Pe
section
variable {s r:List UInt8} {c:UInt8} {i:Nat}
abbrev RL:=(List UInt8) × Int × Int × (List q03) × (List (List UInt8))
def zyc (s:List UInt8) (i:Int) (ks:List (List UInt8)):Option ((List UInt8) × Int × Int × (List (List UInt8))):=do
 let a_2170←M.q3g (q08.mk s i 0)
 let a_2172←M.q3k a_2170
 let l_2174←app 16 ks [a_2172.1]
 let j_2194←(do
   let j_2198←(do
     if (decide (a_2172.2.ge=0)) then
      let a_2199←M.q3o l_2174
      some a_2199
     else
      some false:Option Bool)
   if j_2198 then
    let a_2201←M.q3n a_2172.2 20
    some (a_2201.gs,a_2201.gi,a_2201.ge)
   else
    some (a_2172.2.gs,a_2172.2.gi,a_2172.2.ge):Option ((List UInt8) × Int × Int))
 let a_2203←M.q3g (q08.mk j_2194.1 j_2194.2.1 j_2194.2.2)
 let j_2216←(do
   let a_2217←M.q3f a_2203
   if (!decide (a_2217=58)) then
    let a_2219←M.q3n a_2203 20
    some (a_2219.gs,a_2219.gi,a_2219.ge)
   else
    some (a_2203.gs,a_2203.gi,a_2203.ge):Option ((List UInt8) × Int × Int))
 some (j_2216.1,(yj .i64 (j_2216.2.1+1)),j_2216.2.2,l_2174)
def zmd (a3:Int) (self:RR→Int→Option (q03 × RR)) (p1:Int) (s:List UInt8) (i e:Int) (l:List q03) (ks:List (List UInt8)):Option RL:=do
 let j_2231←(do
   if (decide (e=0)) then
    let a_2232←self (q08.mk s i e) (yj .i64 (p1+1))
    let l_2234←app 72 l [a_2232.1]
    some (a_2232.2.gs,a_2232.2.gi,a_2232.2.ge,l_2234)
   else
    some (s,i,e,l):Option ((List UInt8) × Int × Int × (List q03)))
 let a_2235←M.q3f (q08.mk j_2231.1 j_2231.2.1 j_2231.2.2.1)
 if (decide (a_2235=44)) then
  M.z03 a3 self p1 (decide (a_2235=44)) j_2231.1 (yj .i64 (j_2231.2.1+1)) j_2231.2.2.1 j_2231.2.2.2 ks
 else
  M.z03 a3 self p1 (decide (a_2235=44)) j_2231.1 j_2231.2.1 j_2231.2.2.1 j_2231.2.2.2 ks
theorem zt7 (self:RR→Int→Option (q03 × RR)) (p1:Int) (s:List UInt8) (i:Int) (l:List q03) (ks:List (List UInt8)) :
  M.z03 91 self p1 true s i 0 l ks=zmd 91 self p1 s i 0 l ks:=by
 rw [M.z03.eq_1]
 simp only [zeb]
 rfl
theorem zvv (self:RR→Int→Option (q03 × RR)) (p1:Int) (s:List UInt8) (i:Int) (l:List q03) (ks:List (List UInt8)) :
  M.z03 123 self p1 true s i 0 l ks=(zyc s i ks).bind fun j=>zmd 123 self p1 j.1 j.2.1 j.2.2.1 l j.2.2.2:=by
 rw [M.z03.eq_1]
 simp only [zeb]
 rfl
theorem z6d (a3:Int) (self:RR→Int→Option (q03 × RR)) (p1:Int) (b:Bool) (s:List UInt8) (i e:Int) (l:List q03) (ks:List (List UInt8)) (h:b=false∨¬e=0) :
  M.z03 a3 self p1 b s i e l ks=some (s,i,e,l,ks):=by
 rw [M.z03.eq_1]
 rcases h with rfl|h
 ·rfl
 ·cases b with
  | true=>simp [h]
  | false=>rfl
def zxq (s:List UInt8) (z:Option ((List UInt8) × Int × Int × (List (List UInt8)))):Rs (List UInt8 × List (List UInt8))→Prop
 | .ok (r2,ks1)=>∃ r1 j,At s r1 j∧z0b r1=r2∧z=some (s,(j:Int),0,ks1)
 | .pan c=>c=20∧∃ (j:Nat) (ks':List (List UInt8)),j≤s.length+3∧z=some (s,(j:Int),20,ks')
theorem zt9 (hs:s.length<1000000) {ks:List (List UInt8)} (hk:ks.length<1000000) (hn:ks.Nodup) (h:At s r i):zxq s (zyc s (i:Int) ks) (zmj (z0b r) ks):=by
 obtain ⟨j1,a1,b1⟩:=z2m hs 0 h
 have ht:=zby hs a1
 unfold zyc zmj
 simp only [b1,ya,yb]
 have bad:∀ (j:Nat) (t:List UInt8),j≤s.length+1→∃ (j':Nat),j'≤s.length+3∧((M.q3g ⟨s,(j:Int),20⟩).bind fun a_2203=>((M.q3f a_2203).bind fun a_2217=>if (!decide (a_2217=58)) then (M.q3n a_2203 20).bind fun a_2219=>some (a_2219.gs,a_2219.gi,a_2219.ge) else some (a_2203.gs,a_2203.gi,a_2203.ge)).bind fun j_2216=>some (j_2216.1,(yj .i64 (j_2216.2.1+1)),j_2216.2.2,ks++[t]))=some (s,(j':Int),20,ks++[t]):=by
  intro j t hj
  obtain ⟨j2,a2,b2⟩:=zct hs 20 j
  obtain ⟨c,hc⟩:=z71 (s:=s) 20 j2
  refine ⟨j2+1,by omega,?_⟩
  simp only [b2,hc,yb,z88 (show ¬(20:Int)=0 by decide)]
  have hw:=w1 (n:=j2) (by omega)
  split<;>simp [hw]
 cases hx:text (z0b r) with
 | none =>
  rw [hx] at ht
  obtain ⟨t,j2,h2,h3⟩:=ht
  have ea:app 16 ks [t]=some (ks++[t]):=z1v (by simp;omega)
  obtain ⟨j',q1,q2⟩:=bad j2 t h2
  refine ⟨rfl,j',ks++[t],q1,?_⟩
  simp only [h3,yb,ea]
  exact q2
 | some p =>
  obtain ⟨t,r2⟩:=p
  rw [hx] at ht
  obtain ⟨j2,h2,h3⟩:=ht
  have h2l:=h2.2
  have ea:app 16 ks [t]=some (ks++[t]):=z1v (by simp;omega)
  have etw:M.q3o (ks++[t])=some (decide (t∈ks)):=by
   rw [zri (by simp;omega)]
   congr 1
   rw [Bool.eq_iff_iff]
   simp only [Bool.not_eq_true',decide_eq_false_iff_not,decide_eq_true_eq,yh,hn,List.nodup_cons,List.not_mem_nil,not_false_eq_true,yi,and_self,true_and]
   constructor
   ·intro hh
    apply Classical.byContradiction
    intro hm
    exact hh fun a ha b hb=>by
     simp only [yg] at hb
     subst hb
     rintro rfl
     exact hm ha
   ·intro hm hh
    exact hh t hm t (by simp) rfl
  simp only [h3,yb,ea,decide_true,if_true,etw]
  by_cases hm:t∈ks
  ·obtain ⟨j',q1,q2⟩:=bad j2 t (by omega)
   simp only [hm,decide_true,if_true,z0o,yb]
   exact ⟨rfl,j',ks++[t],q1,q2⟩
  ·obtain ⟨j3,a3,b3⟩:=z2m hs 0 h2
   have hat:=z3e 0 a3
   simp only [hm,decide_false,yc,if_false,yb,b3,hat]
   rw [take_one]
   have a3l:=a3.2
   cases hb:z0b r2 with
   | nil =>
    refine ⟨rfl,j3+1,ks++[t],by omega,?_⟩
    simp [hd,z0o,w1 (n:=j3) (by omega)]
   | cons d r3 =>
    rw [hb] at a3
    have t58:((d.toNat:Int)=58)↔d=58:=toNat_eq (n:=58) (by omega)
    by_cases hd58:d=58
    ·subst hd58
     have e58:hd (58::r3)=58:=rfl
     simp only [e58,decide_true,ye,yc,if_false,if_true,yb]
     exact ⟨r3,j3+1,a3.cons.2.1,rfl,by rw [w1 (by omega)]⟩
    ·have n58:¬hd (d::r3)=58:=fun e=>hd58 (t58.1 e)
     simp only [n58,hd58,decide_false,yd,if_true,if_false]
     refine ⟨rfl,j3+1,ks++[t],by omega,?_⟩
     simp [z0o,w1 (n:=j3) (by omega)]
def zjd (s:List UInt8) (o:Bool) (en:UInt8) (B:Nat) (z:Option RL):Rd→Prop
 | .ok (x,r2)=>∃ r1 j,At s (en::r1) j∧z0b r1=r2∧z=some (s,(j:Int),0,x.ze,x.z0m)∧x.zc=(if o=true then 6 else 5)∧x.z0r=[]
 | .pan c=>∃ (j:Nat) (e':Int) (l':List q03) (ks':List (List UInt8)),j≤B+1∧z=some (s,(j:Int),e',l',ks')∧((e'=c∧¬c=0)∨(e'=0∧c=20∧∃ r1,At s r1 j∧¬hd r1=(en.toNat:Int)))
def zhk (s:List UInt8) (B:Nat) (z:Option (q03 × RR)):Rd→Prop
 | .ok (x,r2)=>∃ j,At s r2 j∧z=some (x,⟨s,(j:Int),0⟩)
 | .pan c=>¬c=0∧∃ x,∃ j:Nat,j≤B∧z=some (x,⟨s,(j:Int),c⟩)
theorem zre (hs:s.length<1000000) {a3 p1 e:Int} {self:RR→Int→Option (q03 × RR)} {l:List q03} {ks:List (List UInt8)} {i B:Nat} (he:¬e=0) (hB:i≤B) (hB2:B<2000000) (o:Bool) (en:UInt8) :
  zjd s o en B (zmd a3 self p1 s (i:Int) e l ks) (.pan e):=by
 obtain ⟨c,hc⟩:=z71 (s:=s) e i
 unfold zmd
 simp only [he,decide_false,yc,if_false,ya,yb,hc]
 rw [w1 (by omega)]
 split
 ·exact ⟨i+1,e,l,ks,by omega,z6d _ _ _ _ _ _ _ _ _ (.inr he),.inl ⟨rfl,he⟩⟩
 ·exact ⟨i,e,l,ks,by omega,z6d _ _ _ _ _ _ _ _ _ (.inr he),.inl ⟨rfl,he⟩⟩
theorem zp7 (hs:s.length<1000000) {o:Bool} {en:UInt8} (hen:en=if o=true then 125 else 93) {a3:Int} {w:Nat} (hw:w<16) {self:RR→Int→Option (q03 × RR)} {l:List q03} {ks:List (List UInt8)} {B:Nat} (hB:s.length+3≤B) (hB2:B<2000000)
  {vr:Rd} {f:Nat} {vf:List UInt8→Rd} (hv:zhk s B (self ⟨s,(i:Int),0⟩ ((w+1:Nat):Int)) vr) (hl:l.length<1000000)
  (ih:∀ x r2 j,vr = .ok (x,44::r2)→At s (44::r2) j→zjd s o en B (M.z03 a3 self (w:Int) true s ((j+1:Nat):Int) 0 (l++[x]) ks) (items vf o en f (z0b r2) (l++[x]) ks)) :
  zjd s o en B (zmd a3 self (w:Int) s (i:Int) 0 l ks) (match (generalizing:=false) vr with
   | .pan c => .pan c
   | .ok (x,s2)=>match take s2 [en] with
    | some r => .ok (⟨if o=true then 6 else 5,[],l++[x],ks⟩,r)
    | none=>match take s2 [44] with
     | none => .pan 20
     | some r=>items vf o en f r (l++[x]) ks):=by
 unfold zmd
 rw [w1 (by omega)]
 simp only [decide_true,if_true,ya]
 cases vr with
 | pan c =>
  obtain ⟨hc0,x,j,hj,hx⟩:=hv
  have ea:app 72 l [x]=some (l++[x]):=z1v (by simp;omega)
  obtain ⟨c',hc⟩:=z71 (s:=s) c j
  simp only [hx,yb,ea,hc]
  rw [w1 (by omega)]
  split
  ·exact ⟨j+1,c,l++[x],ks,by omega,z6d _ _ _ _ _ _ _ _ _ (.inr hc0),.inl ⟨rfl,hc0⟩⟩
  ·exact ⟨j,c,l++[x],ks,by omega,z6d _ _ _ _ _ _ _ _ _ (.inr hc0),.inl ⟨rfl,hc0⟩⟩
 | ok p =>
  obtain ⟨x,s2⟩:=p
  obtain ⟨j,hj,hx⟩:=hv
  have hjl:=hj.2
  have ea:app 72 l [x]=some (l++[x]):=z1v (by simp;omega)
  simp only [hx,yb,ea,z3e 0 hj]
  rw [w1 (by omega),take_one,take_one]
  cases s2 with
  | nil =>
   have n44:¬((0:Int)=44):=by decide
   simp only [hd,n44,decide_false,yc,if_false]
   exact ⟨j,0,l++[x],ks,by omega,z6d _ _ _ _ _ _ _ _ _ (.inl rfl),.inr ⟨rfl,rfl,[],hj,by subst hen;cases o<;>decide⟩⟩
  | cons d r2 =>
   have t44:((d.toNat:Int)=44)↔d=44:=toNat_eq (n:=44) (by omega)
   by_cases h44:d=44
   ·subst h44
    have hne:¬((44:UInt8)=en):=by subst hen;cases o<;>decide
    have e44:hd (44::r2)=44:=rfl
    simp only [e44,decide_true,if_true,hne,if_false]
    exact ih x r2 j rfl hj
   ·simp only [hd,t44,h44,decide_false,yc,if_false]
    by_cases hde:d=en
    ·subst hde
     simp only [if_true]
     exact ⟨r2,j,hj,rfl,z6d _ _ _ _ _ _ _ _ _ (.inl rfl),rfl,rfl⟩
    ·simp only [hde,if_false]
     refine ⟨j,0,l++[x],ks,by omega,z6d _ _ _ _ _ _ _ _ _ (.inl rfl),.inr ⟨rfl,rfl,d::r2,hj,fun e=>hde ?_⟩⟩
     simp only [hd] at e
     exact yk.1 (by omega)
theorem zol (hs:s.length<1000000) {o:Bool} {en:UInt8} (hen:en=if o=true then 125 else 93) {w:Nat} (hw:w<16) {self:RR→Int→Option (q03 × RR)} {vf:List UInt8→Rd} {B:Nat} (hB:s.length+3≤B) (hB2:B<2000000)
  (hv:∀ r i,At s r i→zhk s B (self ⟨s,(i:Int),0⟩ ((w+1:Nat):Int)) (vf (z0b r))) (hvl:∀ s x r,vf s = .ok (x,r)→r.length+1≤s.length) :
  ∀ (f:Nat) (r:List UInt8) (i:Nat) (l:List J) (ks:List (List UInt8)),r.length<f→At s r i→l.length≤i→ks.length≤i→ks.Nodup →
   zjd s o en B (M.z03 (if o=true then 123 else 91) self (w:Int) true s (i:Int) 0 l ks) (items vf o en f (z0b r) l ks):=by
 intro f
 induction f with
 | zero=>intro r i l ks hf;omega
 | succ f ih =>
  intro r i l ks hf h hl hk hn
  have hi:=h.2
  have hlen:=h.len
  rw [items]
  cases o with
  | false =>
   simp only [yc,if_false]
   rw [zt7]
   refine zp7 (o:=false) (l:=l) hs hen hw hB hB2 (vf:=vf) (f:=f) (hv r i h) (by omega) fun x r2 j hx hj => ?_
   have h1:=hvl _ _ _ hx
   have h2:=z1j r
   have hjl:=hj.len
   simp only [yf] at h1 hjl
   exact ih r2 (j+1) (l++[x]) ks (by omega) hj.cons.2.1 (by simp;omega) (by omega) hn
  | true =>
   simp only [if_true]
   rw [zvv]
   have hkey:=zt9 hs (by omega) hn h
   cases hkx:zmj (z0b r) ks with
   | pan c =>
    rw [hkx] at hkey
    obtain ⟨rfl,j,ks',hj,hx⟩:=hkey
    simp only [hx,yb]
    exact zre hs (by decide) (by omega) hB2 _ _
   | ok p =>
    obtain ⟨r2,ks1⟩:=p
    rw [hkx] at hkey
    obtain ⟨r1,j,hj,hb,hx⟩:=hkey
    obtain ⟨k1,k2⟩:=zk9 hkx
    obtain ⟨kk,k3,k4,_⟩:=znv hkx
    have h2:=z1j r
    have h3:=z1j r1
    have hjl:=hj.len
    have hgt:i<j∨¬i<j:=by omega
    subst hb
    simp only [hx,yb]
    refine zp7 (o:=true) (l:=l) hs hen hw hB hB2 (vf:=vf) (f:=f) (hv r1 j hj) (by omega) fun x r3 j3 hx3 hj3 => ?_
    have h1:=hvl _ _ _ hx3
    have hjl3:=hj3.len
    simp only [yf] at h1 hjl3
    refine ih r3 (j3+1) (l++[x]) ks1 (by omega) hj3.cons.2.1 (by simp;omega) (by omega) ?_
    rw [k3,yh]
    refine ⟨hn,by simp,fun a ha b hb => ?_⟩
    simp only [yg] at hb
    subst hb
    rintro rfl
    exact k4 ha
theorem zj6 (hs:s.length<1000000) {r1:List UInt8} {j:Nat} (h:At s r1 j) (x:q03) (B:Nat) :
  zhk s B ((M.q3g (q08.mk s (j:Int) 0)).bind fun a=>some (x,a)) (.ok (x,z0b r1)):=by
 obtain ⟨j2,h1,h2⟩:=z2m hs 0 h
 exact ⟨j2,h1,by rw [h2];rfl⟩
theorem zfe (s:List UInt8):z0b (z0b s)=z0b s:=by
 induction s with
 | nil=>rfl
 | cons c s ih =>
  cases h:bl c with
  | true=>rw [show z0b (c::s)=z0b s by simp [z0b,h]];exact ih
  | false=>rw [z5g h,z5g h]
theorem zgu (hs:s.length<1000000):∀ (f F:Nat) (r:List UInt8) (i w:Nat),w≤16→17≤f+w→f≤F→f≤17→At s r i→zhk s (s.length+4*f+4) (M.q3l F ⟨s,(i:Int),0⟩ (w:Int)) (val f (z0b r) w):=by
 intro f
 induction f with
 | zero=>intro F r i w h1 h2;omega
 | succ f ih =>
  intro F r i w hw hfw hF hf17 h
  obtain ⟨F,rfl⟩:∃ F',F=F'+1:=⟨F - 1,by omega⟩
  obtain ⟨j1,a1,b1⟩:=z2m hs 0 h
  have a1l:=a1.len
  have hat:=z3e 0 a1
  rw [M.q3l,val]
  simp only [b1,hat,ya,yb]
  generalize hr1:z0b r=r1 at a1 a1l hat
  have htx:=zby hs a1
  by_cases c34:hd r1=34
  ·-- a text
   have hh:r1.head? = some 34:=by
    cases r1 with
    | nil=>cases c34
    | cons c t =>
     have t34:((c.toNat:Int)=34)↔c=34:=toNat_eq (n:=34) (by omega)
     simp only [hd] at c34
     rw [t34.1 c34]
     rfl
   simp only [c34,decide_true,if_true]
   cases hx:text r1 with
   | none =>
    rw [hx] at htx
    obtain ⟨t,j,hj,ht⟩:=htx
    simp only [ht,yb,hh,if_true]
    have n20:¬((20:Int)=0):=by decide
    simp only [n20,decide_false,yc,if_false]
    exact ⟨by decide,_,j,by omega,rfl⟩
   | some p =>
    obtain ⟨t,r2⟩:=p
    rw [hx] at htx
    obtain ⟨j,hj,ht⟩:=htx
    simp only [ht,yb,decide_true,if_true]
    exact zj6 hs hj _ _
  ·have hnh:¬r1.head? = some 34:=fun e=>c34 (by
    cases r1 with
    | nil=>cases e
    | cons c t=>cases e;rfl)
   have hxn:text r1=none:=by
    cases r1 with
    | nil=>rfl
    | cons c t=>exact zp8 fun e=>c34 (by rw [e];rfl)
   simp only [c34,decide_false,yc,if_false,hxn,hnh]
   -- a list or an object
   have nested:∀ (o:Bool) (r2:List UInt8),r1=(if o=true then 123 else 91)::r2→zhk s (s.length+4*(f+1)+4)
     ((if (decide (16≤(w:Int))) then
       (M.q3n ⟨s,(j1:Int),0⟩ 21).bind fun a_1140=>some (Jn.done ((q03.mk 0 ([]:List UInt8) [] []),a_1140))
      else
       (M.q3g (q08.mk s (yj .i64 ((j1:Int)+1)) 0)).bind fun a_1145 =>
       ((M.q3f a_1145).bind fun a_1695=>M.z03 (if o=true then 123 else 91) (M.q3l F) (w:Int) (!decide (a_1695=(if o=true then 125 else 93))) a_1145.gs a_1145.gi a_1145.ge [] []).bind fun j_1694 =>
       ((M.q3f (q08.mk j_1694.1 j_1694.2.1 j_1694.2.2.1)).bind fun a_2249 =>
         if (!decide (a_2249=(if o=true then 125 else 93))) then
          (M.q3n (q08.mk j_1694.1 j_1694.2.1 j_1694.2.2.1) 20).bind fun a_2251 =>
          some (a_2251.gs,a_2251.gi,a_2251.ge)
         else
          some (j_1694.1,j_1694.2.1,j_1694.2.2.1)).bind fun j_2248 =>
       some (Jn.go (j_2248.1,(yj .i64 (j_2248.2.1+1)),j_2248.2.2,(if o=true then (6:Int) else 5),([]:List UInt8),j_1694.2.2.2.1,j_1694.2.2.2.2))).bind fun q_1133=>match q_1133 with
      | .done r=>some r
      | .go j_1133 =>
       if (decide (j_1133.2.2.1=0)) then
        (M.q3g (q08.mk j_1133.1 j_1133.2.1 j_1133.2.2.1)).bind fun a_2255 =>
        some ((q03.mk j_1133.2.2.2.1 j_1133.2.2.2.2.1 j_1133.2.2.2.2.2.1 j_1133.2.2.2.2.2.2),a_2255)
       else
        some ((q03.mk j_1133.2.2.2.1 j_1133.2.2.2.2.1 j_1133.2.2.2.2.2.1 j_1133.2.2.2.2.2.2),(q08.mk j_1133.1 j_1133.2.1 j_1133.2.2.1)))
     (nest (fun s=>val f s (w+1)) o w (z0b r2)):=by
    intro o r2 er
    subst er
    unfold nest
    by_cases h16:16≤w
    ·have h16i:(16:Int)≤(w:Int):=by omega
     simp only [h16,h16i,decide_true,if_true,z0o,yb]
     exact ⟨by decide,_,j1,by omega,rfl⟩
    ·have h16i:¬(16:Int)≤(w:Int):=by omega
     obtain ⟨g1,g2,g3⟩:=a1.cons
     obtain ⟨j2,a2,b2⟩:=z2m hs 0 g2
     have a2l:=a2.len
     have hat2:=z3e 0 a2
     simp only [h16,h16i,decide_false,yc,if_false]
     rw [w1 (by omega)]
     simp only [b2,hat2,yb]
     have hen:∃ en:UInt8,en=if o=true then 125 else 93:=⟨_,rfl⟩
     obtain ⟨en,hen⟩:=hen
     have heni:(if o=true then (125:Int) else 93)=(en.toNat:Int):=by subst hen;cases o<;>rfl
     rw [←hen,heni]
     have hend:∀ (q:List UInt8),(hd q=(en.toNat:Int))↔∃ t,q=en::t:=by
      intro q
      cases q with
      | nil =>
       constructor
       ·intro e;simp only [hd] at e;subst hen;cases o<;>cases e
       ·rintro ⟨t,e⟩;cases e
      | cons d t =>
       constructor
       ·intro e;exact ⟨t,by rw [show d=en from yk.1 (by simp only [hd] at e;omega)]⟩
       ·rintro ⟨t',e⟩;cases e;rfl
     -- how it goes on behind the loop
     have fin_ok:∀ (j:Nat) (t:List UInt8) (l:List J) (ks:List (List UInt8)),At s (en::t) j→zhk s (s.length+4*(f+1)+4)
       ((((M.q3f (q08.mk s (j:Int) 0)).bind fun a_2249 =>
         if (!decide (a_2249=(en.toNat:Int))) then
          (M.q3n (q08.mk s (j:Int) 0) 20).bind fun a_2251 =>
          some (a_2251.gs,a_2251.gi,a_2251.ge)
         else
          some (s,(j:Int),(0:Int))).bind fun j_2248 =>
        (some (Jn.go (j_2248.1,(yj .i64 (j_2248.2.1+1)),j_2248.2.2,(if o=true then (6:Int) else 5),([]:List UInt8),l,ks)):Option (Jn (q03 × RR) _))).bind fun q_1133=>match q_1133 with
        | .done r=>some r
        | .go j_1133 =>
         if (decide (j_1133.2.2.1=0)) then
          (M.q3g (q08.mk j_1133.1 j_1133.2.1 j_1133.2.2.1)).bind fun a_2255 =>
          some ((q03.mk j_1133.2.2.2.1 j_1133.2.2.2.2.1 j_1133.2.2.2.2.2.1 j_1133.2.2.2.2.2.2),a_2255)
         else
          some ((q03.mk j_1133.2.2.2.1 j_1133.2.2.2.2.1 j_1133.2.2.2.2.2.1 j_1133.2.2.2.2.2.2),(q08.mk j_1133.1 j_1133.2.1 j_1133.2.2.1)))
       (.ok (⟨if o=true then 6 else 5,[],l,ks⟩,z0b t)):=by
      intro j t l ks hj
      have hjl:=hj.2
      have e1:hd (en::t)=(en.toNat:Int):=rfl
      simp only [z3e 0 hj,e1,yb,decide_true,ye,yc,if_false,if_true]
      rw [w1 (by omega)]
      exact zj6 hs hj.cons.2.1 _ _
     by_cases he:hd (z0b r2)=(en.toNat:Int)
     ·obtain ⟨t,ht⟩:=(hend _).1 he
      rw [ht] at a2
      have et:take (z0b r2) [en]=some (z0b t):=by rw [ht,take_one];simp
      simp only [he,decide_true,ye,et]
      rw [z6d _ _ _ _ _ _ _ _ _ (.inl rfl)]
      exact fin_ok j2 t [] [] a2
     ·have et:take (z0b r2) [en]=none:=by
       rw [take_one]
       cases hb:z0b r2 with
       | nil=>rfl
       | cons d t =>
        have:¬d=en:=fun e=>he (by rw [hb,e];rfl)
        simp [this]
      simp only [he,decide_false,yd,et]
      have hb0:z0b (z0b r2)=z0b r2:=zfe r2
      have hit:=zol (s:=s) (o:=o) hs hen (w:=w) (by omega) (self:=M.q3l F) (vf:=fun s=>val f s (w+1)) (B:=s.length+4*f+4) (by omega) (by omega)
       (fun r i hri=>ih F r i (w+1) (by omega) (by omega) (by omega) (by omega) hri) (fun s x r hx=>zpf f s (w+1) x r hx) ((z0b r2).length+1) (z0b r2) j2 [] [] (by omega) a2 (Nat.zero_le _) (Nat.zero_le _) yi
      rw [hb0] at hit
      cases hx:items (fun s=>val f s (w+1)) o en ((z0b r2).length+1) (z0b r2) [] [] with
      | ok p =>
       obtain ⟨x,r3⟩:=p
       rw [hx] at hit
       obtain ⟨t,j,hj,hbt,hz,hk,htx⟩:=hit
       simp only [hz,yb]
       have:=fin_ok j t x.ze x.z0m hj
       rw [hbt,←hk] at this
       obtain ⟨k,tx,l,ks⟩:=x
       simp only at hk htx this ⊢
       subst htx
       subst hk
       exact this
      | pan c =>
       rw [hx] at hit
       obtain ⟨j,e',l',ks',hj,hz,hc⟩:=hit
       simp only [hz,yb]
       rcases hc with ⟨rfl,hc⟩|⟨rfl,rfl,t,ht,hne⟩
       ·obtain ⟨c2,hc2⟩:=z71 (s:=s) e' j
        simp only [hc2,yb,z88 hc]
        have hw1:=w1 (n:=j) (by omega)
        split
        ·simp only [yb,hc,decide_false,yc,if_false,hw1]
         exact ⟨hc,_,j+1,by omega,rfl⟩
        ·simp only [yb,hc,decide_false,yc,if_false,hw1]
         exact ⟨hc,_,j+1,by omega,rfl⟩
       ·have hw1:=w1 (n:=j) (by omega)
        have n20:¬((20:Int)=0):=by decide
        simp only [z3e 0 ht,yb,hne,decide_false,yd,if_true,z0o,n20,yc,if_false,hw1]
        exact ⟨n20,_,j+1,by omega,rfl⟩
   by_cases c91:hd r1=91
   ·obtain ⟨r2,er⟩:∃ r2,r1=91::r2:=by
     cases r1 with
     | nil=>cases c91
     | cons c t =>
      have t91:((c.toNat:Int)=91)↔c=91:=toNat_eq (n:=91) (by omega)
      simp only [hd] at c91
      exact ⟨t,by rw [t91.1 c91]⟩
    have et:take r1 [91]=some (z0b r2):=by rw [er,take_one];simp
    have hn:=nested false r2 er
    have n123:¬((91:Int)=123):=by decide
    simp only [c91,decide_true,if_true,yb,n123,decide_false,yc,if_false,et] at hn ⊢
    exact hn
   ·by_cases c123:hd r1=123
    ·obtain ⟨r2,er⟩:∃ r2,r1=123::r2:=by
      cases r1 with
      | nil=>cases c123
      | cons c t =>
       have t123:((c.toNat:Int)=123)↔c=123:=toNat_eq (n:=123) (by omega)
       simp only [hd] at c123
       exact ⟨t,by rw [t123.1 c123]⟩
     have et:take r1 [123]=some (z0b r2):=by rw [er,take_one];simp
     have et0:take r1 [91]=none:=by rw [er,take_one];rfl
     have hn:=nested true r2 er
     have n91:¬((123:Int)=91):=by decide
     simp only [c123,decide_true,if_true,yb,n91,decide_false,yc,if_false,et,et0] at hn ⊢
     exact hn
    ·-- a word or a number
     have et0:take r1 [91]=none:=by
      rw [take_one]
      cases r1 with
      | nil=>rfl
      | cons d t =>
       have:¬d=91:=fun e=>c91 (by rw [e];rfl)
       simp [this]
     have et1:take r1 [123]=none:=by
      rw [take_one]
      cases r1 with
      | nil=>rfl
      | cons d t =>
       have:¬d=123:=fun e=>c123 (by rw [e];rfl)
       simp [this]
     have hword:=zim hs a1
     simp only [c91,c123,decide_false,yc,if_false,yb,et0,et1]
     cases hx:word r1 with
     | ok p =>
      obtain ⟨x,r2⟩:=p
      rw [hx] at hword
      obtain ⟨t,j,hj,hb,hz⟩:=hword
      subst hb
      simp only [hz,yb,decide_true,if_true]
      have e:=zeb x
      simp only [e]
      exact zj6 hs hj x (s.length+4*(f+1)+4)
     | pan c =>
      rw [hx] at hword
      obtain ⟨rfl,x,j,hj,hz⟩:=hword
      have n20:¬((20:Int)=0):=by decide
      simp only [hz,yb,n20,decide_false,yc,if_false]
      exact ⟨n20,_,j,by omega,rfl⟩
theorem zgt (s:List UInt8) {f:Nat} (hf:17≤f):M.q32 f s=some (parse s):=by
 unfold M.q32 parse
 by_cases hl:16384<s.length
 ·have:(16384:Int)<(s.length:Int):=by omega
  simp [hl,this]
 ·have:¬(16384:Int)<(s.length:Int):=by omega
  have hv:=zgu (s:=s) (by omega) 17 f s 0 0 (by omega) (by omega) hf (by omega) At.start
  have hv:zhk s (s.length+4*17+4) (M.q3l f ⟨s,0,0⟩ 0) (val 17 (z0b s) 0):=hv
  simp only [this,decide_false,yc,if_false,hl,ya]
  cases hx:val 17 (z0b s) 0 with
  | pan c =>
   rw [hx] at hv
   obtain ⟨hc,x,j,hj,hz⟩:=hv
   simp only [hz,yb,z88 hc]
   split<;>simp [hc]
  | ok p =>
   obtain ⟨x,r⟩:=p
   rw [hx] at hv
   obtain ⟨j,hj,hz⟩:=hv
   have hjl:=hj.len
   simp only [hz,yb]
   by_cases hr:r=[]
   ·subst hr
    have hn:¬((j:Int)<(s.length:Int)):=by simp only [List.length_nil] at hjl;omega
    simp [hn]
   ·have hpos:0<r.length:=List.length_pos_iff.2 hr
    have hy:((j:Int)<(s.length:Int)):=by omega
    simp [hy,hr,z0o]
end
end Go.Sen
