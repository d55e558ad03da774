import Derived.Test.YtfdoofnmjehecaaGreatDoorBHnK
import Derived.Test.YtfdoofnmjehecaaGreatDoorBShA
import Derived.Lib.AtoiAllCases
import Derived.Test.YtfdoofnmjehecaaGreatDoorBHnH
import Derived.Lib.MapLaws
import Derived.Lib.TrimAscii
import Derived.Lib.TrimU
set_option linter.all false
section
namespace Go.Sen
open _root_.Option renaming bind_eq_bind → ya, bind_some → yb
open _root_.Bool renaming and_eq_true → yc, false_eq_true → yd, not_eq_true → ye, not_true → yf
open _root_.List renaming getElem?_eq_getElem → yg, length_cons → yh, mem_singleton → yi
open _root_.Nat renaming le_refl → yj, pow_le_pow_right → yk
open _root_.UInt8 renaming ofNat → yl
open Go.Lk Go.Pe
def zbs:J:=⟨0,[],[],[]⟩
def z42 (v:J) (k:Z):J × Bool:=if v.zi=6 then (match v.zw.findIdx? (fun x=>decide (k=x)) with
 | some j=>(match v.zj[j]? with|some x=>(x,true)|none=>(zbs,false))
 | none=>(zbs,false)) else (zbs,false)
theorem zf6 {v:J} {k:Z} (h:v.zw.length<1000000000):M.q34 v k=some (z42 v k):=by
 unfold M.q34 z42
 rw [zmw (by omega)]
 simp only [ya,yb]
 by_cases h6:v.zi=6
 ·simp only [h6,decide_true,Bool.true_and,if_true]
  cases v.zw.findIdx? (fun x=>decide (k=x)) with
  | none=>rfl
  | some j =>
   simp only
   have h0:(0:Int)≤(j:Int):=by omega
   by_cases hj:j<v.zj.length
   ·have:(j:Int)<(v.zj.length:Int):=by omega
    simp [this,zcj,yg hj]
   ·have:¬(j:Int)<(v.zj.length:Int):=by omega
    simp [this,List.getElem?_eq_none (Nat.le_of_not_lt hj),zbs]
 ·simp [h6,zbs]
theorem zc4 (v:J) (k:Z):(z42 v k).1.sz≤v.sz:=by
 have h1:=q04.z8f v
 have h0:zbs.sz=1:=by decide
 unfold z42
 split
 ·split
  ·split
   ·rename_i x hx
    have:=zhg (List.mem_of_getElem? hx)
    simp only
    omega
   ·simp only;omega
  ·simp only;omega
 ·simp only;omega
def texts:List J→Option (List Z)
 | []=>some []
 | x::l=>if x.zi=4 then (texts l).map (x.zt :: ·) else none
theorem ziv {v:J} (hl:v.zj.length<1000000000):∀ (n i:Nat) (acc:List Z),v.zj.length - i=n→i≤v.zj.length→acc.length+n<1000000000 →
  M.z2v v acc (i:Int)=some (match texts (v.zj.drop i) with|some l => .go (acc++l)|none => .done ([],false)):=by
 intro n
 induction n with
 | zero =>
  intro i acc hn hi ha
  rw [M.z2v.eq_1]
  have:¬((i:Int)<(v.zj.length:Int)):=by omega
  rw [if_neg (by simp [this]),List.drop_eq_nil_of_le (by omega)]
  simp [texts]
 | succ n ih =>
  intro i acc hn hi ha
  have hlt:i<v.zj.length:=by omega
  rw [M.z2v.eq_1]
  have h1:((i:Int)<(v.zj.length:Int)):=by omega
  simp only [h1,decide_true,if_true,zcj,yg hlt,ya,yb]
  rw [List.drop_eq_getElem_cons hlt,texts]
  by_cases h4:(v.zj[i]).zi=4
  ·simp only [h4,decide_true,yf,yd,if_false,if_true]
   rw [z6b (by simp only [yh,List.length_nil];omega),w1 (by omega)]
   simp only [yb]
   rw [ih (i+1) _ (by omega) (by omega) (by simp;omega)]
   cases texts (v.zj.drop (i+1)) with
   | none=>rfl
   | some l=>simp
  ·simp [h4]
def z6v (v:J):List Z × Bool:=if v.zi=5 then (match texts v.zj with|some l=>(l,true)|none=>([],false)) else ([],false)
theorem z7r {v:J} (hl:v.zj.length<100000000):M.q37 v=some (z6v v):=by
 unfold M.q37 z6v
 by_cases h5:v.zi=5
 ·have hk:=ziv (v:=v) (by omega) _ 0 [] rfl (Nat.zero_le _) (by simp;omega)
  have hk:M.z2v v [] 0=_:=hk
  simp only [h5,decide_true,yf,yd,if_false,if_true,hk,List.drop_zero,List.nil_append,ya,yb]
  cases texts v.zj<;>rfl
 ·simp [h5]
theorem zlu (l:List Z) (hl:l.length<1000000000):∀ (n i:Nat),l.length - i=n→i≤l.length→M.z22 l l (i:Int)=some (.go ()):=by
 intro n
 induction n with
 | zero =>
  intro i hn hi
  rw [M.z22.eq_1]
  have:¬((i:Int)<(l.length:Int)):=by omega
  rw [if_neg (by simp [this])]
 | succ n ih =>
  intro i hn hi
  have hlt:i<l.length:=by omega
  rw [M.z22.eq_1]
  have h1:((i:Int)<(l.length:Int)):=by omega
  simp only [h1,decide_true,if_true,zcj,yg hlt,ya,yb,yf,yd,if_false]
  rw [w1 (by omega),ih (i+1) (by omega) (by omega)]
theorem z6g {l:List Z} (hl:l.length<1000000000):M.q4k l l=some true:=by
 unfold M.q4k
 have:M.z22 l l 0=some (.go ()):=zlu l hl _ 0 rfl (Nat.zero_le _)
 simp [this]
def zi7 (a:Nat) (c:UInt8):Nat:=10*a+(c.toNat - 48)
def z6m (a:Nat) (l:Z):Nat:=l.foldl zi7 a
theorem z5l (a:Nat) (c:UInt8):zi7 a c=10*a+(c.toNat - 48):=rfl
theorem zgk (a:Nat):z6m a []=a:=rfl
theorem zav (a:Nat) (c:UInt8) (r:Z):z6m a (c::r)=z6m (zi7 a c) r:=by unfold z6m;rw [List.foldl_cons]
theorem zmg (l:Z) (a:Nat) (c:UInt8):z6m a (l++[c])=zi7 (z6m a l) c:=by
 unfold z6m
 rw [List.foldl_append]
 rfl
theorem zf5 {c:UInt8} (h:isD c=true):48≤c.toNat∧c.toNat≤57:=by
 unfold isD at h
 simpa using h
theorem zbx:∀ (l:Z) (a k:Nat),(∀ c∈l,isD c=true)→a<10 ^ k→z6m a l<10 ^ (k+l.length)
 | [],a,k,_,h=>by rw [zgk];exact h
 | c::l,a,k,hd,h=>by
  have h1:=zf5 (hd c (by simp))
  have h2:zi7 a c<10 ^ (k+1):=by rw [z5l,Nat.pow_succ];omega
  have:=zbx l _ (k+1) (fun x hx=>hd x (by simp [hx])) h2
  rw [zav,yh,show k+(l.length+1)=k+1+l.length by omega]
  exact this
theorem zza {a:Nat} {c:UInt8} {l:Z} (hd:isD c=true) (ha:a<1000000000000000):Lib.parseUint10 a (c::l)=Lib.parseUint10 (zi7 a c) l:=by
 have h1:=zf5 hd
 have e:a*10+(c.toNat - 48)=zi7 a c:=by rw [z5l];omega
 rw [Lib.parseUint10,e,if_pos h1,if_neg (by omega),if_neg (by rw [z5l];omega)]
@[reducible] def noN:Lib.NumEnd Nat:=Lib.parseMag []
theorem zzb {a:Nat} {c:UInt8} {l:Z} (hd:isD c=false):Lib.parseUint10 a (c::l)=noN:=by
 have h1:¬(48≤c.toNat∧c.toNat≤57):=fun x=>by
  have:isD c=true:=by unfold isD;simpa using x
  rw [hd] at this;cases this
 rw [Lib.parseUint10,if_neg h1];rfl
theorem zz7 {N:Nat} (hN:N≤1000000000000000) (l:Z):∀ a:Nat,(a+1)*10 ^ l.length≤N→Lib.parseUint10 a l=if (l.all isD)=true then .ok (z6m a l) else noN:=by
 induction l with
 | nil=>intro a _;rfl
 | cons c l ih =>
  intro a ha
  have hpos:0<10 ^ l.length:=Nat.pow_pos (by decide)
  rw [yh,Nat.pow_succ] at ha
  cases hd:isD c with
  | true =>
   have h1:=zf5 hd
   have h3:(a+1)*(10 ^ l.length*10)=(10*a+10)*10 ^ l.length:=by
    rw [Nat.mul_comm (10 ^ l.length) 10,←Nat.mul_assoc]
    congr 1
    omega
   rw [h3] at ha
   have h4:a+1≤(10*a+10)*10 ^ l.length:=by
    have:=Nat.le_mul_of_pos_right (10*a+10) hpos
    omega
   have h2:(zi7 a c+1)*10 ^ l.length≤N:=by
    refine Nat.le_trans (Nat.mul_le_mul_right _ ?_) ha
    rw [z5l]
    omega
   rw [zza hd (by omega),ih _ h2,List.all_cons,hd,zav,Bool.true_and]
  | false=>rw [zzb hd,List.all_cons,hd];rfl
theorem zal {l:Z} (hl:l.length≤15):Lib.parseMag l=if l=[] then noN else if (l.all isD)=true then .ok (z6m 0 l) else noN:=by
 unfold Lib.parseMag
 rw [zz7 (N:=10 ^ 15) (by decide) l 0 (by rw [Nat.zero_add,Nat.one_mul];exact yk (by decide) hl)]
 by_cases h:l=[]
 ·subst h;rfl
 ·rw [if_neg h,if_neg h]
theorem zjd {c:UInt8} (h:isD c=true):yl (48+(c.toNat - 48))=c:=by
 have:=zf5 h
 rw [show 48+(c.toNat - 48)=c.toNat by omega]
 simp
theorem zkj {n:Nat} (h:n<10):isD (yl (48+n))=true∧(yl (48+n)=48→n=0):=by
 have tab:∀ n:Fin 10,isD (yl (48+n.val))=true∧(yl (48+n.val)=48→n.val=0):=by decide
 exact tab ⟨n,h⟩
theorem z3l:∀ (n u:Nat),u≤n→(∀ c∈Lib.decDigits u,isD c=true)∧¬Lib.decDigits u=[]∧((Lib.decDigits u).head? = some 48→u=0)
 | n,u,hu=>by
  rw [Lib.decDigits]
  by_cases h:u<10
  ·rw [dif_pos h]
   refine ⟨fun c hc => ?_,List.cons_ne_nil _ _,fun he => ?_⟩
   ·rw [yi.1 hc];exact (zkj h).1
   ·exact (zkj h).2 (Option.some.inj he)
  ·rw [dif_neg h]
   match n,hu with
   | n+1,hu =>
    obtain ⟨h1,h2,h3⟩:=z3l n (u / 10) (by omega)
    refine ⟨fun c hc => ?_,by simp,fun he => ?_⟩
    ·rcases List.mem_append.1 hc with hc|hc
     ·exact h1 c hc
     ·rw [yi.1 hc];exact (zkj (by omega)).1
    ·rw [zb3,if_neg h2] at he
     have:=h3 he
     omega
   | 0,hu=>omega
theorem zmh:∀ (l:Z) (a:Nat),0<a→0<z6m a l
 | [],a,h=>h
 | c::l,a,h=>zmh l _ (by rw [z5l];omega)
theorem z7k:∀ (n:Nat) (l:Z),l.length=n→(∀ c∈l,isD c=true)→¬l=[]→(l.head? = some 48→l.length=1)→Lib.decDigits (z6m 0 l)=l:=by
 intro n
 induction n with
 | zero=>intro l hn _ h;exact absurd (List.eq_nil_of_length_eq_zero hn) h
 | succ n ih =>
  intro l' hn hd hne hh
  obtain ⟨l,c,rfl⟩:∃ l c,l'=l++[c]:=⟨l'.dropLast,l'.getLast hne,(List.dropLast_concat_getLast hne).symm⟩
  have hln:l.length=n:=by simpa using hn
  rw [zmg,z5l]
  have hc:=hd c (by simp)
  have hn:=zf5 hc
  by_cases hl:l=[]
  ·subst hl
   rw [zgk,Lib.decDigits,dif_pos (by omega)]
   rw [show 48+(10*0+(c.toNat - 48))=48+(c.toNat - 48) by omega,zjd hc]
   rfl
  ·have hh':¬l.head? = some 48:=fun e=>by
    have h2:=hh (by rw [zb3,if_neg hl];exact e)
    have:0<l.length:=List.length_pos_iff.2 hl
    simp at h2
    exact hl h2
   have ihl:=ih l hln (fun x hx=>hd x (by simp [hx])) hl (fun e=>absurd e hh')
   have hp:0<z6m 0 l:=by
    cases l with
    | nil=>exact absurd rfl hl
    | cons d r =>
     have h1:=zf5 (hd d (by simp))
     have h2:¬d=48:=fun e=>hh' (by rw [e];rfl)
     have h3:¬d.toNat=48:=fun e=>h2 (by rw [show (48:UInt8)=yl 48 from rfl,←e];simp)
     rw [zav]
     exact zmh r _ (by rw [z5l];omega)
   rw [Lib.decDigits,dif_neg (by omega)]
   have e1:(10*z6m 0 l+(c.toNat - 48)) / 10=z6m 0 l:=by omega
   have e2:(10*z6m 0 l+(c.toNat - 48)) % 10=c.toNat - 48:=by omega
   rw [e1,e2,ihl,zjd hc]
def mag (t:Z):Z:=if t.head? = some 45 then t.drop 1 else t
def way (t:Z):Int:=if t.head? = some 45 then -1 else 1
def canon (t:Z):Bool := !decide (mag t=[])&&(mag t).all isD&&decide ((mag t).length≤15) && !(decide ((mag t).head? = some 48)&&(decide (1<(mag t).length)||decide (way t<0)))
def intOf (v:J):Int × Bool:=if v.zi=3∧canon v.zt=true then (way v.zt*(z6m 0 (mag v.zt):Int),true) else (0,false)
theorem zyt (t:Z):(mag t).length≤t.length:=by
 unfold mag
 split<;>simp
theorem zkv {v:J} (h:v.zt.length<1000000000):M.q33 v=some (intOf v):=by
 unfold M.q33 intOf
 rw [z7z,z6o]
 have em:(if decide (v.zt.head? = some 45)=true then v.zt.drop ([45]:Z).length else v.zt)=mag v.zt:=by
  unfold mag
  by_cases hh:v.zt.head? = some 45<;>simp [hh]
 rw [em]
 simp only [ya,yb]
 generalize ht:v.zt=t at *
 have hml:=zyt t
 by_cases h3:v.zi=3
 ·simp only [h3,decide_true,yf,yd,if_false,true_and]
  by_cases hl:(mag t).length≤15
  ·have hl':¬(15:Int)<((mag t).length:Int):=by omega
   simp only [hl',decide_false,yd,if_false]
   unfold M.atoi
   rw [z4k (by simp;omega)]
   simp only [ya,yb]
   have hpow:(10:Nat) ^ (0+(mag t).length)≤10 ^ 15:=yk (by decide) (by omega)
   have hp15:(10:Nat) ^ 15=1000000000000000:=by decide
   have itoa_ok:∀ n:Int,-1000000000000000≤n→n≤1000000000000000→M.itoa n=some (Lib.itoa n):=fun n h1 h2=>by
    unfold M.itoa
    rw [z4k (by rw [yc];simp only [decide_eq_true_eq];omega)]
    rfl
   have pm:=zal hl
   cases t with
   | nil=>simp [Lib.atoiAll,canon,mag]
   | cons c r =>
    unfold Lib.atoiAll
    have t43:c.toNat=43↔c=43:=by have:=toNat_eq (b:=c) (n:=43) (by omega);rw [show yl 43=43 from rfl] at this;rw [←this];omega
    have t45:c.toNat=45↔c=45:=by have:=toNat_eq (b:=c) (n:=45) (by omega);rw [show yl 45=45 from rfl] at this;rw [←this];omega
    simp only [t43,t45]
    by_cases c45:c=45
    ·subst c45
     have hm:mag (45::r)=r:=by simp [mag]
     have hw:way (45::r) = -1:=by simp [way]
     rw [hm] at pm hpow hl
     simp only [or_true,if_true]
     rw [pm]
     by_cases hr:r=[]
     ·simp [hr,canon,mag,noN,Lib.parseMag]
     ·rw [if_neg hr]
      by_cases hd:(r.all isD)=true
      ·rw [if_pos hd]
       have hd':∀ c∈r,isD c=true:=by simpa using hd
       have hlt:=zbx r 0 0 hd' (by decide)
       simp only [not_true_eq_false,false_and,if_false,true_and]
       rw [if_neg (by omega)]
       simp only [if_true,yb,yf,yd,if_false]
       rw [itoa_ok _ (by omega) (by omega)]
       simp only [yb]
       have hc:canon (45::r) = !decide (r.head? = some 48):=by
        unfold canon
        rw [hm,hw,hd]
        simp [hr,hl]
       rw [hc,hm,hw]
       by_cases h48:r.head? = some 48
       ·have:¬Lib.itoa (-(z6m 0 r:Int))=45::r:=by
         intro e
         unfold Lib.itoa at e
         split at e
         ·rename_i hneg
          injection e with _ e
          have h5:=(z3l _ _ (yj ((-(z6m 0 r:Int)).natAbs))).2.2
          rw [e] at h5
          have:=h5 h48
          omega
         ·have h5:=(z3l _ _ (yj ((-(z6m 0 r:Int)).toNat))).1 45 (by rw [e];simp)
          simp [isD] at h5
        simp [h48,this]
       ·have hv:Lib.decDigits (z6m 0 r)=r:=z7k _ r rfl hd' hr (fun e=>absurd e h48)
        have hpos:0<z6m 0 r:=by
         rcases Nat.eq_zero_or_pos (z6m 0 r) with h0|h0
         ·exfalso
          rw [h0] at hv
          rw [←hv] at h48
          exact h48 (by rw [Lib.decDigits];rfl)
         ·exact h0
        have:Lib.itoa (-(z6m 0 r:Int))=45::r:=by
         unfold Lib.itoa
         rw [if_pos (by omega)]
         have:(-(z6m 0 r:Int)).natAbs=z6m 0 r:=by omega
         rw [this,hv]
        simp [h48,this]
      ·have hc:canon (45::r)=false:=by
        unfold canon
        rw [hm]
        simp [hd]
       rw [if_neg hd,hc]
       simp [noN,Lib.parseMag]
    ·have hm:mag (c::r)=c::r:=by simp [mag,c45]
     have hw:way (c::r)=1:=by simp [way,c45]
     rw [hm] at pm hpow hl
     by_cases c43:c=43
     ·subst c43
      have hc:canon (43::r)=false:=by
       unfold canon
       rw [hm]
       simp [isD]
      simp only [c45,or_false,if_true,hc,yd,if_false]
      have hrl:r.length≤15:=by simp at hl;omega
      rw [zal hrl]
      by_cases hr:r=[]
      ·simp [hr,noN,Lib.parseMag]
      ·rw [if_neg hr]
       by_cases hd:(r.all isD)=true
       ·rw [if_pos hd]
        have hd':∀ c∈r,isD c=true:=by simpa using hd
        have hlt:=zbx r 0 0 hd' (by decide)
        have hpow2:(10:Nat) ^ (0+r.length)≤10 ^ 15:=yk (by decide) (by omega)
        simp only [not_false_eq_true,true_and,if_false,false_and]
        rw [if_neg (by omega)]
        simp only [yb,yf,yd,if_false]
        rw [itoa_ok _ (by omega) (by omega)]
        have:¬Lib.itoa (z6m 0 r:Int)=43::r:=by
         intro e
         unfold Lib.itoa at e
         rw [if_neg (by omega)] at e
         have h5:=(z3l _ _ (yj ((z6m 0 r:Int).toNat))).1 43 (by rw [e];simp)
         simp [isD] at h5
        simp [this]
       ·rw [if_neg hd]
        simp [noN,Lib.parseMag]
     ·simp only [c45,c43,or_self,if_false]
      rw [pm,if_neg (by simp)]
      by_cases hd:((c::r).all isD)=true
      ·rw [if_pos hd]
       have hd':∀ x∈(c::r),isD x=true:=by simpa using hd
       have hlt:=zbx (c::r) 0 0 hd' (by decide)
       simp only [not_false_eq_true,true_and,if_false,false_and]
       rw [if_neg (by omega)]
       simp only [yb,yf,yd,if_false]
       rw [itoa_ok _ (by omega) (by omega)]
       have hc:canon (c::r) = !(decide (c=48)&&decide (1<(c::r).length)):=by
        unfold canon
        rw [hm,hw,hd]
        simp at hl
        simp [hl]
       have hi:Lib.itoa (z6m 0 (c::r):Int)=Lib.decDigits (z6m 0 (c::r)):=by
        unfold Lib.itoa
        rw [if_neg (by omega)]
        rfl
       rw [hc,hm,hw,hi]
       simp only [yb]
       by_cases h48:c=48∧1<(c::r).length
       ·have:¬Lib.decDigits (z6m 0 (c::r))=c::r:=by
         intro e
         have h5:=(z3l _ _ (yj (z6m 0 (c::r)))).2.2
         rw [e] at h5
         have h6:=h5 (by rw [h48.1];rfl)
         rw [h6,Lib.decDigits] at e
         rw [←e] at h48
         simp at h48
        have hh:(decide (c=48)&&decide (1<(c::r).length))=true:=by rw [yc,decide_eq_true_iff,decide_eq_true_iff];exact h48
        rw [hh]
        simp [this]
       ·have hv:Lib.decDigits (z6m 0 (c::r))=c::r:=z7k _ _ rfl hd' (by simp) (fun e=>by
         simp at e
         have:¬1<(c::r).length:=fun x=>h48 ⟨e,x⟩
         simp at this ⊢
         exact this)
        have:(decide (c=48)&&decide (1<(c::r).length))=false:=by
         rw [←ye,yc,decide_eq_true_iff,decide_eq_true_iff]
         exact h48
        rw [this,hv]
        simp
      ·have hc:canon (c::r)=false:=by
        unfold canon
        rw [hm]
        simp only [ye] at hd
        rw [hd]
        simp
       rw [if_neg hd,hc]
       simp [noN,Lib.parseMag]
  ·have hl':(15:Int)<((mag t).length:Int):=by omega
   have hc:canon t=false:=by unfold canon;simp [hl]
   simp only [hl',decide_true,if_true,hc]
   unfold M.atoi
   rw [z4k (by simp;omega)]
   simp only [ya,yb]
   rcases Lib.atoiAll t with n|_|_<;>simp
 ·have:∃ p,M.atoi t=some p:=by
   unfold M.atoi
   rw [z4k (by simp;omega)]
   simp only [ya,yb]
   rcases Lib.atoiAll t with n|_|_<;>exact ⟨_,rfl⟩
  obtain ⟨p,hp⟩:=this
  simp [hp,h3]
end Go.Sen
end
section
namespace Go.Sen
open _root_.Option renaming bind_eq_bind → ya, bind_some → yb
open _root_.Bool renaming and_eq_true → yc
open _root_.List renaming all_eq_true → yd
open Go.Lk Go.Pe
theorem seek {α R X:Type} {l:List α} {p:α→Bool} {F:Int→Option (Jn R X)} (d:Nat→R) (x0:X) (hl:l.length<1152921504606846976)
  (hF:∀ (i:Nat) (h:i<l.length),F (i:Int)=if p l[i]=true then some (.done (d i)) else F (IntKind.wrap .i64 ((i:Int)+1))) (hE:F (l.length:Int)=some (.go x0)) :
  F 0=some (match l.findIdx? p with|some i => .done (d i)|none => .go x0):=by
 have key:∀ (n i:Nat),l.length - i=n→i≤l.length→F (i:Int)=some (match (l.drop i).findIdx? p with|some k => .done (d (i+k))|none => .go x0):=by
  intro n
  induction n with
  | zero =>
   intro i h1 h2
   have:i=l.length:=by omega
   subst this
   simp [hE]
  | succ n ih =>
   intro i h1 h2
   have hi:i<l.length:=by omega
   rw [hF i hi,ztn hi,List.findIdx?_cons]
   cases hp:p l[i] with
   | true=>simp
   | false =>
    rw [w1 (by omega),ih (i+1) (by omega) (by omega)]
    simp only [Bool.false_eq_true,if_false]
    cases (l.drop (i+1)).findIdx? p with
    | none=>rfl
    | some k=>simp [Nat.add_assoc,Nat.add_comm 1 k]
 have:=key _ 0 rfl (Nat.zero_le _)
 simpa using this
theorem ztu {α:Type} (l:List α) (p:α→Bool):(l.findIdx? (fun x => !p x)=none∧l.all p=true)∨∃ i,l.findIdx? (fun x => !p x)=some i∧l.all p=false:=by
 have e:l.all p = !(l.any fun x => !p x):=by rw [List.all_eq_not_any_not]
 have:=List.findIdx?_isSome (xs:=l) (p:=fun x => !p x)
 cases h:l.findIdx? (fun x => !p x) with
 | none=>rw [h] at this;exact .inl ⟨rfl,by rw [e,←this];rfl⟩
 | some i=>rw [h] at this;exact .inr ⟨i,rfl,by rw [e,←this];rfl⟩
theorem zss {l cs:Z}:decide (Lib.trimS l cs=[])=l.all cs.contains:=by
 rw [Bool.eq_iff_iff,decide_eq_true_iff,zk1,yd]
theorem zz013 {l cs:Z} (hl:l.length≤9223372036854775807) (hc:(decide (cs.length<4294967281)&&cs.all fun b=>decide (b.toNat<128))=true):M.trim l cs=some (Lib.trimS l cs):=by
 unfold M.trim
 rw [z4k]
 ·rfl
 ·simp only [yc] at hc ⊢
  exact ⟨by simpa using hl,hc⟩
def zux (lo hi:Nat) (s:Z):Bool:=s.all fun b=>decide (lo≤b.toNat)&&decide (b.toNat≤hi)
def isA (b:UInt8):Bool:=decide (65≤b.toNat)&&decide (b.toNat≤90)
def caps:Z:=[65,66,67,68,69,70,71,72,73,74,75,76,77,78,79,80,81,82,83,84,85,86,87,88,89,90]
def bare (s:Z):Z:=Lib.trimS s [32]
def isVal (s:Z):Bool:=zux 32 126 s&&decide (bare s=s)
def isNum (k:Nat) (s:Z):Bool := !decide (s=[])&&s.all isD&&decide (s.length≤k)&&(!decide (s.head? = some 48)||decide (s.length=1))
def numV (s:Z):Int:=match Lib.atoiAll s with
 | .ok v=>v
 | .range=>Lib.atoiSat s
 | _=>0
theorem z5n (n:Nat):Lib.itoa (n:Int)=Lib.decDigits n:=by unfold Lib.itoa;rw [if_neg (by omega)];simp
theorem zz011 {n:Nat} (h:n<1000000000000000000):M.itoa (n:Int)=some (Lib.decDigits n):=by
 unfold M.itoa
 rw [z4k (by simp;omega),z5n]
 rfl
theorem zz8 {n:Nat} (h:n≤15):10 ^ n≤1000000000000000:=by
 have:=Nat.pow_le_pow_right (n:=10) (by decide) h
 omega
theorem ziu {k:Nat} {s:Z} (h:isNum k s=true) (hk:k≤15):Lib.atoiAll s = .ok ((z6m 0 s:Nat):Int)∧z6m 0 s<10 ^ s.length∧Lib.decDigits (z6m 0 s)=s:=by
 unfold isNum at h
 simp only [yc,Bool.not_eq_true',decide_eq_false_iff_not,decide_eq_true_eq,Bool.or_eq_true] at h
 obtain ⟨⟨⟨h1,h2⟩,h3⟩,h4⟩:=h
 have hd:∀ c∈s,isD c=true:=yd.1 h2
 have hlt:=zbx s 0 0 hd (by decide)
 rw [Nat.zero_add] at hlt
 have hp:=zz8 (n:=s.length) (by omega)
 refine ⟨?_,hlt,z7k _ s rfl hd h1 (fun e => ?_)⟩
 ·cases s with
  | nil=>exact absurd rfl h1
  | cons c r =>
   have hc:=zf5 (hd c (by simp))
   unfold Lib.atoiAll
   simp only
   rw [if_neg (by omega),zal (by omega),if_neg h1,if_pos h2]
   simp only
   rw [if_neg (by omega),if_neg (by omega),if_neg (by omega)]
 ·rcases h4 with h4|h4
  ·exact absurd e h4
  ·exact h4
theorem zz1 {k:Nat} {s:Z} (h:isNum k s=false) (hk:k≤15) (hl:s.length≤k):∀ v,Lib.atoiAll s = .ok v→0≤v→Lib.itoa v≠s:=by
 intro v hv h0 he
 obtain ⟨n,rfl⟩:∃ n:Nat,v=n:=⟨v.toNat,by omega⟩
 rw [z5n] at he
 obtain ⟨d1,d2,d3⟩:=z3l n n (Nat.le_refl _)
 rw [he] at d1 d2 d3
 have ha:s.all isD=true:=yd.2 d1
 unfold isNum at h
 have hh:¬(¬s.head? = some 48∨s.length=1):=fun hh=>by
  have:(!decide (s.head? = some 48)||decide (s.length=1))=true:=by simpa using hh
  rw [ha,this] at h
  simp [d2,hl] at h
 have hz:=d3 (Classical.byContradiction fun q=>hh (.inl q))
 subst hz
 have:Lib.decDigits 0=[48]:=Lib.decDigits_one (i:=0) (by decide)
 rw [this] at he
 exact hh (.inr (by rw [←he];rfl))
theorem z9u {s:Z} (k:Nat) (hk:k≤15) (hs:s.length≤281474976710656):∃ v,M.q1t s (k:Int)=some (v,isNum k s)∧(isNum k s=true→v=((z6m 0 s:Nat):Int)):=by
 unfold M.q1t
 have ha:M.atoi s=(match Lib.atoiAll s with
  | .ok v=>some (v,true)
  | .range=>some (Lib.atoiSat s,false)
  | _=>some (0,false)):=by
  unfold M.atoi
  rw [z4k (by simpa using hs)]
  rfl
 rw [ha]
 cases hn:isNum k s with
 | true =>
  obtain ⟨h1,h2,h3⟩:=ziu hn hk
  have hp:=zz8 (n:=s.length) (by unfold isNum at hn;simp at hn;omega)
  have hl:((s.length:Int)≤(k:Int)):=by unfold isNum at hn;simp at hn;omega
  refine ⟨((z6m 0 s:Nat):Int),?_,fun _=>rfl⟩
  rw [h1]
  have h0:((0:Int)≤((z6m 0 s:Nat):Int)):=by omega
  simp only [ya,yb,Bool.true_and,hl,h0,decide_true,if_true,Bool.and_self]
  rw [zz011 (by omega)]
  simp [h3]
 | false =>
  have hno:=zz1 hn hk
  rcases hv:Lib.atoiAll s with v|_|_
  ·refine ⟨v,?_,fun q=>by cases q⟩
   simp only [ya,yb,Bool.true_and]
   by_cases hl:((s.length:Int)≤(k:Int))
   ·by_cases h0:(0:Int)≤v
    ·have hne:=hno (by omega) v hv h0
     obtain ⟨n,rfl⟩:∃ n:Nat,v=n:=⟨v.toNat,by omega⟩
     have hb:=Lib.atoiAll_bounds hv
     simp only [hl,h0,decide_true,Bool.and_self,if_true]
     unfold M.itoa
     rw [z4k (by simp;omega)]
     simp [hne]
    ·simp [h0]
   ·simp [hl]
  ·exact ⟨_,rfl,fun q=>by cases q⟩
  ·exact ⟨_,rfl,fun q=>by cases q⟩
end Go.Sen
end
section
namespace Go.Sen
open Go.Lk Go.Pe
end Go.Sen
end
section
namespace Go.Sen
open _root_.Bool renaming and_eq_true → ya
open _root_.List renaming length_cons → yb, length_nil → yc, length_take → yd
open Go.Lk Go.Pe
def z4h:Z:=[13,10,13,10]
def z8a (s:Z):Nat:=if 0≤Lib.index (s.take 8192) z4h then (Lib.index (s.take 8192) z4h).toNat+4 else 0
theorem zxq (s:Z):z8a s≤s.length∧z8a s≤8192:=by
 unfold z8a
 split
 ·rename_i h
  have:=Lib.index_room (s.take 8192) z4h h
  have h2:(s.take 8192).length=min 8192 s.length:=yd
  simp only [z4h,yb,yc] at this
  rw [h2] at this
  have e:((Lib.index (s.take 8192) [13,10,13,10]).toNat:Int)=Lib.index (s.take 8192) [13,10,13,10]:=by
   unfold z4h at h
   omega
  unfold z4h
  omega
 ·omega
theorem zz01i {s:Z} (h:0<z8a s):4≤z8a s:=by
 unfold z8a at h ⊢
 split at h
 ·rw [if_pos ‹_›];omega
 ·omega
theorem zkr {s:Z} (h:s.length<1000000000):M.q1f s=some ((z8a s:Nat):Int):=by
 unfold M.q1f z8a
 have e:zyu (s.length:Int) 8192=((min s.length 8192:Nat):Int):=by unfold zyu;split<;>omega
 rw [e,zjw (Nat.min_le_left _ _)]
 have e2:s.take (min s.length 8192)=s.take 8192:=by rw [List.take_eq_take_iff];omega
 have e3:M.z4r (s.take 8192) z4h=some (Lib.index (s.take 8192) z4h):=by
  unfold M.z4r
  rw [z4k (by simp;omega)]
  rfl
 rw [e2]
 unfold z4h at e3 ⊢
 simp only [Option.bind_eq_bind,Option.bind_some,e3]
 by_cases h0:0≤Lib.index (s.take 8192) [13,10,13,10]
 ·have hr:=Lib.index_room (s.take 8192) [13,10,13,10] h0
  have h2:(s.take 8192).length=min 8192 s.length:=yd
  rw [h2] at hr
  simp only [yb,yc] at hr
  simp only [h0,decide_true,if_true]
  rw [w64 (by omega) (by omega)]
  congr 1
  omega
 ·simp [h0]
theorem z3m (e:Int):M.q1p true e=some (.ok ()):=by simp [M.q1p]
theorem z1y (e:Int):M.q1p false e=some (.pan e):=by simp [M.q1p]
def lowB (b:UInt8):UInt8:=if isA b=true then b+32 else b
def low (s:Z):Z:=s.map lowB
theorem decode_high (b:UInt8) (r:Z) (h:¬b.toNat<128):128≤(Lib.decodeL (b::r)).1:=by
 have e:(⟨(b::r).toArray⟩:ByteArray).get! 0=b:=by simp [ByteArray.get!]
 unfold Lib.decodeL Utf8.decode
 simp only [Nat.add_zero,e,Nat.zero_add]
 rw [if_neg (by omega)]
 split
 ·split
  ·rename_i h1;simpa using h1
  ·simp [Utf8.runeError]
 ·split
  ·split
   ·rename_i h1
    simp only [ya,decide_eq_true_eq] at h1
    simp only
    omega
   ·simp [Utf8.runeError]
  ·split
   ·split
    ·rename_i h1
     simp only [ya,decide_eq_true_eq] at h1
     simp only
     omega
    ·simp [Utf8.runeError]
   ·simp [Utf8.runeError]
end Go.Sen
end
section
namespace Go.Sen
open _root_.List renaming length_cons → ya, length_drop → yb
open Go.Lk Go.Pe
theorem zp4:∀ (n:Nat) (s:Z),s.length≤n→(z3s s).length≤s.length+1∧∀ x∈z3s s,x.length≤s.length:=by
 intro n
 induction n with
 | zero =>
  intro s hn
  have:s=[]:=List.eq_nil_of_length_eq_zero (by omega)
  subst this
  unfold z3s
  simp
 | succ n ih =>
  intro s hn
  cases s with
  | nil=>unfold z3s;simp
  | cons x r =>
   simp only [ya] at hn
   unfold z3s
   split
   ·obtain ⟨h1,h2⟩:=ih (r.drop 1) (by rw [yb];omega)
    rw [yb] at h1 h2
    refine ⟨by rw [ya,ya];omega,fun y hy => ?_⟩
    rcases List.mem_cons.1 hy with rfl|hy
    ·simp
    ·have:=h2 y hy;rw [ya];omega
   ·obtain ⟨h1,h2⟩:=ih r (by omega)
    obtain ⟨a,t,e⟩:=zsm r
    rw [e] at h1 h2
    rw [e]
    simp only [ya] at h1 ⊢
    refine ⟨by omega,fun y hy => ?_⟩
    rcases List.mem_cons.1 hy with rfl|hy
    ·have:=h2 a (by simp);rw [ya];omega
    ·have:=h2 y (by simp [hy]);omega
end Go.Sen
end
