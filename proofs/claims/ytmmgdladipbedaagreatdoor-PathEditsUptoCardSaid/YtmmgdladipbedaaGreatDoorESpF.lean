import Derived.Test.YtmmgdladipbedaaGreatDoorESpE
import Derived.Test.YtmmgdladipbedaaGreatDoorESnS
import Derived.Test.YtmmgdladipbedaaGreatDoorESpI
import Derived.Lib.ValidLaws
set_option linter.all false
section
namespace Go.Sen
open _root_.Option renaming bind_eq_bind → ya, bind_some → yb
open _root_.Bool renaming false_eq_true → yc, not_false → yd, not_true → ye
open _root_.List renaming append_assoc → yf, drop_append → yg, drop_succ_cons → yh, drop_suffix → yi, drop_zero → yj, getElem?_eq_getElem → yk, head?_cons → yl, length_append → ym, length_cons → yn, length_drop → yo, length_nil → yp, take_append → yq
open IntKind renaming wrap → yr
open Go.Lk Go.Pe
abbrev R19:=q09
def rdr (s r:List UInt8) (e:Int):R19:=⟨s,((s.length - r.length:Nat):Int),e⟩
theorem zwq {t r:List UInt8}:(t++r).length - r.length=t.length:=by simp
theorem zdu (t r:List UInt8) (e:Int):rdr (t++r) r e=⟨t++r,(t.length:Int),e⟩:=by unfold rdr;rw [zwq]
theorem z8o (r:List UInt8):bk r <:+ r:=List.dropWhile_suffix _
theorem zl6 (t:List UInt8) (e:Int):∀ (r u:List UInt8),(t++(u++r)).length<1000000000→∀ p0:R19,p0.gs=t++(u++r)→p0.ge=e→M.z13 p0 (((t++u).length:Nat):Int)=some (rdr (t++(u++r)) (bk r) e)
 | [],u,hl,p0,h1,h2=>by
  rw [M.z13,h1,h2]
  have:¬(((t++u).length:Int)<((t++(u++[])).length:Int)):=by simp
  simp only [this,decide_false,yc,if_false,ya,yb]
  simp [rdr,bk]
 | c::r,u,hl,p0,h1,h2=>by
  rw [M.z13,h1]
  have h3:(((t++u).length:Int)<((t++(u++c::r)).length:Int)):=by simp;omega
  have h4:(t++(u++c::r))[(t++u).length]? = some c:=by rw [←yf];simp
  simp only [h3,decide_true,if_true,z2u,h4,ya,yb]
  have e32:decide (((c.toNat:Nat):Int)=32)=decide (c=32):=by rw [decide_eq_decide];exact toNat_eq (n:=32) (by decide)
  rw [e32]
  by_cases hc:c=32
  ·simp only [hc,decide_true,if_true]
   have hlen:(t++u).length<4611686018427387904:=by simp at hl ⊢;omega
   rw [w1 hlen]
   have h5:(t++u).length+1=(t++(u++[32])).length:=by simp;omega
   have h6:t++(u++32::r)=t++((u++[32])++r):=by simp
   rw [h5,h6,zl6 t e r (u++[32]) (by rw [←h6,←hc];exact hl) p0 (by rw [h1,hc,h6]) h2]
   simp [bk]
  ·simp only [hc,decide_false,yc,if_false]
   have hb:bk (c::r)=c::r:=by simp [bk,hc]
   rw [hb,h2]
   simp only [rdr]
   congr 3
   simp
   omega
theorem zag {s r:List UInt8} {e:Int} (hs:s.length<1000000000) (hr:r <:+ s):M.q4n (rdr s r e)=some (rdr s (bk r) e):=by
 obtain ⟨t,rfl⟩:=hr
 have:=zl6 t e r [] (by simpa using hs) (rdr (t++r) r e) rfl rfl
 unfold M.q4n
 rw [zdu] at this ⊢
 simpa using this
theorem zuw (t:List UInt8) (e:Int):∀ (r u:List UInt8),(t++(u++r)).length<1000000000→∀ p0:R19,p0.gs=t++(u++r)→M.z1h p0 (((t++u).length:Nat):Int)=some (((t++u).length+(r.takeWhile wch).length:Nat):Int)
 | [],u,hl,p0,h1=>by
  rw [M.z1h,h1]
  have:¬(((t++u).length:Int)<((t++(u++[])).length:Int)):=by simp
  simp only [this,decide_false,yc,if_false,ya,yb]
  rfl
 | c::r,u,hl,p0,h1=>by
  rw [M.z1h,h1]
  have h3:(((t++u).length:Int)<((t++(u++c::r)).length:Int)):=by simp;omega
  have h4:(t++(u++c::r))[(t++u).length]? = some c:=by rw [←yf];simp
  simp only [h3,decide_true,if_true,z2u,h4,ya,yb,letter_eq,List.takeWhile_cons]
  cases hc:wch c with
  | true =>
   simp only [if_true]
   have hlen:(t++u).length<4611686018427387904:=by simp at hl ⊢;omega
   rw [w1 hlen]
   have h5:(t++u).length+1=(t++(u++[c])).length:=by simp;omega
   have h6:t++(u++c::r)=t++((u++[c])++r):=by simp
   rw [h5,zuw t e r (u++[c]) (by rw [←h6];exact hl) p0 (by rw [h1,h6])]
   congr 2
   simp only [ym,yn,yp]
   omega
  | false=>simp
theorem zuo {s r:List UInt8} {e:Int} (hs:s.length<1000000000) (hr:r <:+ s):M.q4s (rdr s r e)=some (wd r,rdr s (bk r) e):=by
 unfold M.q4s
 rw [zag hs hr]
 simp only [ya,yb]
 obtain ⟨t,rfl⟩:=(z8o r).trans hr
 rw [zdu]
 have:=zuw t e (bk r) [] (by simpa using hs) ⟨t++bk r,(t.length:Int),e⟩ rfl
 simp only [List.append_nil] at this
 rw [this]
 simp only [yb]
 have hw:((bk r).takeWhile wch).length≤(bk r).length:=zc0 r
 rw [zkq (by omega) (by simp only [ym];omega)]
 simp only [yb]
 have:((t++bk r).take (t.length+((bk r).takeWhile wch).length)).drop t.length=wd r:=by
  rw [yq,yg]
  unfold wd
  have h:=List.takeWhile_append_dropWhile (p:=wch) (l:=bk r)
  have h3:=List.take_left (l₁:=(bk r).takeWhile wch) (l₂:=(bk r).dropWhile wch)
  rw [h] at h3
  simp [h3]
 rw [this]
theorem zqi {s b:List UInt8} {e:Int} {n:Nat} (hs:s.length<1000000000) (hb:b <:+ s) (hn:n≤b.length):yr .i64 ((rdr s b e).gi+(n:Int))=(rdr s (b.drop n) e).gi:=by
 have h1:=hb.length_le
 simp only [rdr,yo]
 rw [zze (by omega)]
 congr 1
 omega
theorem zz1 {s r p:List UInt8} {e:Int} (hs:s.length<1000000000) (hr:r <:+ s):M.q4q (rdr s r e) p=some (decide (wd r=p),rdr s (if wd r=p then (bk r).drop p.length else bk r) e):=by
 have hb:=(z8o r).trans hr
 have hw:=zc0 r
 unfold M.q4q
 rw [zuo hs hr]
 simp only [ya,yb]
 by_cases h:wd r=p
 ·simp only [h,decide_true,if_true]
  rw [zqi hs hb (by rw [←h];exact hw)]
  rfl
 ·simp [h]
theorem zdt {s r p:List UInt8} {e:Int} (hs:s.length<1000000000) (hr:r <:+ s) (h1:p.all wch=true) (h2:¬p=[]):M.q4q (rdr s r e) p=some ((tk p r).1,rdr s (tk p r).2 e):=by
 rw [zz1 hs hr]
 unfold tk
 rw [zgs h1 h2]
 by_cases h:wd r=p<;>simp [h]
theorem r_at {s r:List UInt8} {e:Int} {c:UInt8} (hs:s.length<1000000000) (hr:r <:+ s) (hc:wch c=false):M.q4m (rdr s r e) (c.toNat:Int)=some ((tk [c] r).1,rdr s (tk [c] r).2 e):=by
 have hb:=(z8o r).trans hr
 unfold M.q4m
 rw [zag hs hr]
 simp only [ya,yb]
 unfold tk
 rw [zto hc]
 obtain ⟨t,ht⟩:=hb
 have hgi:(rdr s (bk r) e).gi=(t.length:Int):=by rw [←ht,zdu]
 have hgs:(rdr s (bk r) e).gs=t++bk r:=by rw [ht];rfl
 rw [hgi,hgs]
 cases hbk:bk r with
 | nil=>simp
 | cons d q =>
  have h3:((t.length:Int)<((t++d::q).length:Int)):=by simp;omega
  have h4:(t++d::q)[t.length]? = some d:=by simp
  have ed:decide (((d.toNat:Nat):Int)=((c.toNat:Nat):Int))=decide (d=c):=by
   rw [decide_eq_decide]
   constructor
   ·intro h;exact UInt8.toNat_inj.1 (by omega)
   ·intro h;rw [h]
  simp only [h3,decide_true,if_true,z2u,h4,yb,ed,yl,Option.some.injEq]
  by_cases hdc:d=c
  ·simp only [hdc,decide_true,if_true,yn,yp]
   have hs2:t.length<4611686018427387904:=by rw [←ht] at hs;simp at hs;omega
   rw [w1 hs2]
   have:rdr s ((c::q).drop (0+1)) e=⟨t++c::q,((t.length+1:Nat):Int),e⟩:=by
    have e1:s=(t++[c])++q:=by rw [←ht,hbk,hdc];simp
    simp only [yh,yj,Nat.zero_add]
    rw [e1,zdu]
    simp
   rw [this]
   rfl
  ·simp [hdc]
theorem zke {s r:List UInt8} {e c:Int}:M.q4t (rdr s r e) c=some (rdr s r (if e=0 then c else e)):=by
 unfold M.q4t
 by_cases h:e=0<;>simp [rdr,h]
theorem zby (p r:List UInt8):(tk p r).2 <:+ r:=by
 unfold tk
 split
 ·exact (yi _ _).trans (z8o r)
 ·exact z8o r
theorem zr0 {b:R19} (hb:b.gs.length<1000000000):∀ (n i:Nat),b.gs.length+2 - i=n→i≤b.gs.length+1→M.z0u b (i:Int)=some ((i+qsc (b.gs.drop i):Nat):Int):=by
 intro n
 induction n using Nat.strongRecOn with
 | ind n ih =>
  intro i h1 h2
  rw [M.z0u]
  by_cases hi:i<b.gs.length
  ·rw [z1x hi,zmg]
   simp only [show ((i:Int)<(b.gs.length:Int)) by omega,decide_true,if_true,z2u,yk hi,ya,yb]
   have e34:decide (((b.gs[i].toNat:Nat):Int)=34)=decide (b.gs[i]=34):=by rw [decide_eq_decide];exact toNat_eq (n:=34) (by decide)
   have e92:decide (((b.gs[i].toNat:Nat):Int)=92)=decide (b.gs[i]=92):=by rw [decide_eq_decide];exact toNat_eq (n:=92) (by decide)
   rw [e34,e92]
   by_cases h34:b.gs[i]=34
   ·simp [h34]
   ·simp only [h34,decide_false,yd,if_true,if_false]
    rw [w1 (by omega)]
    by_cases h92:b.gs[i]=92
    ·simp only [h92,decide_true,if_true]
     rw [w1 (by omega),ih (b.gs.length+2 - (i+1+1)) (by omega) (i+1+1) rfl (by omega),List.drop_drop]
     congr 2
     omega
    ·simp only [h92,decide_false,yc,if_false]
     rw [ih (b.gs.length+2 - (i+1)) (by omega) (i+1) rfl (by omega)]
     congr 2
     omega
  ·have h3:¬((i:Int)<(b.gs.length:Int)):=by omega
   rw [List.drop_eq_nil_of_le (by omega)]
   simp [h3,qsc]
def Ans {α:Type} (s:List UInt8) (x:Rs (α × List UInt8)) (out:Option (α × R19)):Prop:=match x with
 | .ok a=>a.2 <:+ s∧out=some (a.1,rdr s a.2 0)
 | .pan c=>¬c=0∧∃ a r,r <:+ s∧out=some (a,rdr s r c)
theorem zwi {s r:List UInt8} (hs:s.length<1000000000) (hr:r <:+ s) {f:Nat} (hf:17≤f):Ans s (vl r) (M.q4r f (rdr s r 0)):=by
 have hb:=(z8o r).trans hr
 have hbl:=hb.length_le
 have hq:∀ p0:R19,p0.gs=s→∀ i:Nat,i≤s.length+1→M.z0u p0 (i:Int)=some ((i+qsc (s.drop i):Nat):Int):=fun p0 h i hi=>by
  rw [←h] at hs hi ⊢
  exact zr0 hs _ i rfl hi
 unfold M.q4r
 rw [zag hs hr]
 simp only [ya,yb]
 obtain ⟨t,ht⟩:=hb
 have hgi:(rdr s (bk r) 0).gi=(t.length:Int):=by rw [←ht,zdu]
 have hgs:(rdr s (bk r) 0).gs=s:=rfl
 have hlen:s.length=t.length+(bk r).length:=by rw [←ht];simp
 rw [hgi,hgs]
 have hw:∀ c:Int,M.q4t (rdr s (bk r) 0) c=some (rdr s (bk r) c):=fun c=>by rw [zke];simp
 unfold vl
 have hsuf:bk r <:+ s:=(z8o r).trans hr
 cases hbk:bk r with
 | nil =>
  have h1:((s.length:Int)≤(t.length:Int)):=by rw [hlen,hbk];simp
  rw [hbk] at hw hsuf
  simp only [h1,decide_true,if_true,yb,hw,List.head?_nil,reduceCtorEq,if_false]
  exact ⟨by decide,_,_,hsuf,rfl⟩
 | cons d q =>
  have h1:¬((s.length:Int)≤(t.length:Int)):=by rw [hlen,hbk];simp;omega
  have h4:s[t.length]? = some d:=by rw [←ht,hbk];simp
  have e34:decide (((d.toNat:Nat):Int)=34)=decide (d=34):=by rw [decide_eq_decide];exact toNat_eq (n:=34) (by decide)
  rw [hbk] at hw hsuf hlen
  simp only [h1,decide_false,yc,if_false,z2u,h4,yb,e34,yl,Option.some.injEq]
  by_cases hd:d=34
  ·simp only [hd,decide_true,ye,yc,if_false,if_true,yh,yj]
   have hs1:s.drop (t.length+1)=q:=by
    rw [←ht,hbk]
    simp [yg]
   have hk:=hq (rdr s (bk r) 0) rfl (t.length+1) (by omega)
   simp only [yn] at hlen
   rw [hs1] at hk
   rw [hbk,hd] at hk
   rw [w1 (by omega),hk]
   simp only [yb]
   generalize hqq:qsc q=n at hk ⊢
   by_cases hl:1+n<(34::q).length
   ·have hl':¬((s.length:Int)≤((t.length+1+n:Nat):Int)):=by simp only [yn] at hl;omega
    simp only [hl',hl,decide_false,yc,if_false,if_true]
    have hl2:t.length+1+n<s.length:=by simp only [yn] at hl;omega
    rw [w1 (by omega),zkq (by omega) (by omega)]
    have hsub:(s.take (t.length+1+n+1)).drop t.length=(34::q).take (2+n):=by
     rw [←ht,hbk,hd,yq,yg]
     have e2:t.length+1+n+1 - t.length=2+n:=by omega
     have e3:List.take (t.length+1+n+1) t=t:=List.take_of_length_le (by omega)
     rw [e2,e3]
     simp
    rw [hsub]
    simp only [yb,zbs _ hf]
    generalize parse ((34::q).take (2+n))=v
    have hend:∀ e:Int,(q09.mk s ((t.length+1+n+1:Nat):Int) e)=rdr s ((34::q).drop (2+n)) e:=fun e=>by
     simp only [rdr,yo,yn]
     congr 2
     simp only [yn] at hl
     omega
    have hsuf2:(34::q).drop (2+n) <:+ s:=by
     rw [hd] at hsuf
     exact (yi _ _).trans hsuf
    by_cases hv:v.2=0∧v.1.z03.length≤128
    ·have hv':((!decide (v.2=0))||(decide (128<(v.1.z03.length:Int))))=false:=by
      simp only [Bool.or_eq_false_iff,Bool.not_eq_false',decide_eq_true_eq,decide_eq_false_iff_not]
      omega
     rw [if_pos hv]
     simp only [hv',yc,if_false,yb]
     refine ⟨hsuf2,?_⟩
     have:=hend 0
     rw [←this]
     rfl
    ·have hv':((!decide (v.2=0))||(decide (128<(v.1.z03.length:Int))))=true:=by
      simp only [Bool.or_eq_true,Bool.not_eq_true',decide_eq_true_eq,decide_eq_false_iff_not]
      omega
     rw [if_neg hv]
     have hw2:=hw 190
     rw [hd] at hw2
     simp only [hv',if_true,hw2,yb]
     refine ⟨by decide,v.1.z03,(34::q).drop (2+n),hsuf2,?_⟩
     have:=hend 190
     rw [←this]
     rfl
   ·have hl':((s.length:Int)≤((t.length+1+n:Nat):Int)):=by simp only [yn] at hl;omega
    have hw2:=hw 190
    rw [hd] at hw2
    simp only [hl',hl,decide_true,if_true,if_false,hw2,yb]
    exact ⟨by decide,_,_,hsuf,by rw [hd]⟩
  ·simp only [hd,decide_false,yd,if_true,if_false,hw,yb]
   exact ⟨by decide,_,_,hsuf,rfl⟩
theorem z6f (k:Int) (l:List EX):M.q4j k l=some (ze8 k l):=by
 unfold M.q4j
 match l with
 | []=>rfl
 | [x]=>rfl
 | x::y::l =>
  have:¬(((x::y::l).length:Int)=1):=by simp only [yn];omega
  rw [if_neg (by simpa using this)]
  rfl
def An4 (s:List UInt8) (x:Rs (List EX × List UInt8)) (out:Option (List EX × List UInt8 × Int × Int)):Prop:=match x with
 | .ok a=>a.2 <:+ s∧out=some (a.1,s,(rdr s a.2 0).gi,0)
 | .pan c=>¬c=0∧∃ l r,r <:+ s∧l.length≤s.length+3∧out=some (l,s,(rdr s r c).gi,c)
theorem zyg {s:List UInt8} (hs:s.length<1000000) {self:R19→Int→Option (EX × R19)} {next:List UInt8→Rs (EX × List UInt8)} {d:Int} (hself:∀ r,r <:+ s→Ans s (next r) (self (rdr s r 0) d)) (hle:Le next) :
  ∀ (f:Nat) (acc:List EX) (r:List UInt8),r.length<f→r <:+ s→acc.length+r.length≤s.length+2→An4 s (z9m z8c next f acc r) (M.z0a self d acc s (rdr s r 0).gi 0)
 | 0,acc,r,h,_,_=>by omega
 | f+1,acc,r,h,hr,ha=>by
  have hst:∀ (acc:List EX) (r:List UInt8) (c:Int),¬c=0→M.z0a self d acc s (rdr s r c).gi c=some (acc,s,(rdr s r c).gi,c):=fun acc r c hc=>by
   rw [M.z0a]
   simp [hc]
  have ht:=zby z8c r
  rw [M.z0a]
  unfold z9m
  have e1:M.q4q (q09.mk s (rdr s r 0).gi 0) [97,110,100]=some ((tk z8c r).1,rdr s (tk z8c r).2 0):=zdt (p:=z8c) (by omega) hr (by decide) (by decide)
  simp only [decide_true,if_true,e1,ya,yb]
  by_cases hk:(tk z8c r).1=true
  ·rw [if_pos hk,if_pos hk]
   have hlt:=zkr hk
   have h1:=hself _ (ht.trans hr)
   show An4 s _ ((self (rdr s (tk z8c r).2 0) d).bind _)
   cases hn:next (tk z8c r).2 with
   | pan c =>
    rw [hn] at h1
    obtain ⟨hc,x,r2,hr2,hx⟩:=h1
    rw [hx]
    simp only [yb,z5e]
    rw [z0w (by simp only [yn,yp];omega)]
    simp only [yb]
    have h3:=hst (acc++[x]) r2 c hc
    refine ⟨hc,acc++[x],r2,hr2,by simp;omega,?_⟩
    exact h3
   | ok x =>
    rw [hn] at h1
    obtain ⟨hr2,hx⟩:=h1
    have hl:=hle _ _ _ hn
    rw [hx]
    simp only [yb,z5e]
    rw [z0w (by simp only [yn,yp];omega)]
    simp only [yb]
    have hkl:z8c.length=3:=rfl
    exact zyg hs hself hle f (acc++[x.1]) x.2 (by omega) hr2 (by simp only [ym,yn,yp];omega)
  ·rw [if_neg hk,if_neg hk]
   exact ⟨ht.trans hr,rfl⟩
def rowF (word:List UInt8) (next:List UInt8→Rs (EX × List UInt8)) (f:Nat) (acc:List EX) (r:List UInt8):Rs (List EX × List UInt8):=match next r with
 | .pan c => .pan c
 | .ok x=>z9m word next f (acc++[x.1]) x.2
theorem zye {s:List UInt8} (hs:s.length<1000000) {self:R19→Int→Option (EX × R19)} {next:List UInt8→Rs (EX × List UInt8)} {d:Int} (hself:∀ r,r <:+ s→Ans s (next r) (self (rdr s r 0) d)) (hle:Le next) :
  ∀ (f:Nat) (acc:List EX) (r:List UInt8),r.length<f→r <:+ s→acc.length+r.length≤s.length+2→An4 s (rowF kOr (row 0 z8c next) f acc r) (M.z0n self d acc true s (rdr s r 0).gi 0)
 | 0,acc,r,h,_,_=>by omega
 | f+1,acc,r,h,hr,ha=>by
  have hst:∀ (acc:List EX) (b:Bool) (i:Int) (c:Int),b=false∨¬c=0→M.z0n self d acc b s i c=some (acc,s,i,c):=fun acc b i c hc=>by
   rw [M.z0n]
   rcases hc with rfl|hc
   ·rfl
   ·cases b<;>simp [hc]
  rw [M.z0n]
  simp only [if_true,decide_true,ya,yb]
  have h1:=hself r hr
  show An4 s _ ((self (rdr s r 0) d).bind _)
  unfold rowF
  rw [zfe 0]
  cases hn:next r with
  | pan c =>
   rw [hn] at h1
   obtain ⟨hc,x,r2,hr2,hx⟩:=h1
   rw [hx]
   simp only [yb,z5e]
   have hk2:M.z0a self d [x] s (rdr s r2 c).gi c=some ([x],s,(rdr s r2 c).gi,c):=by
    rw [M.z0a]
    simp [hc]
   have hk2':M.z0a self d [x] (rdr s r2 c).gs (rdr s r2 c).gi (rdr s r2 c).ge=some ([x],s,(rdr s r2 c).gi,c):=hk2
   rw [hk2']
   simp only [yb,z6f,z5e]
   rw [z0w (by simp only [yn,yp];omega)]
   simp only [yb,hc,decide_false,yc,if_false]
   rw [hst _ _ _ _ (.inl rfl)]
   exact ⟨hc,_,r2,hr2,by simp;omega,rfl⟩
  | ok x =>
   rw [hn] at h1
   obtain ⟨hr2,hx⟩:=h1
   have hl:=hle _ _ _ hn
   have hsl:=hr2.length_le
   rw [hx]
   simp only [yb,z5e]
   have h2:An4 s (z9m z8c next (x.2.length+1) [x.1] x.2) (M.z0a self d [x.1] s (rdr s x.2 0).gi 0) :=
    zyg hs hself hle (x.2.length+1) [x.1] x.2 (by omega) hr2 (by simp;omega)
   have e2:M.z0a self d [x.1] (rdr s x.2 0).gs (rdr s x.2 0).gi (rdr s x.2 0).ge=M.z0a self d [x.1] s (rdr s x.2 0).gi 0:=rfl
   rw [e2]
   cases hp:z9m z8c next (x.2.length+1) [x.1] x.2 with
   | pan c =>
    rw [hp] at h2
    obtain ⟨hc,l,r3,hr3,hl3,hx3⟩:=h2
    rw [hx3]
    simp only [yb,z6f,z5e]
    rw [z0w (by simp only [yn,yp];omega)]
    simp only [yb,hc,decide_false,yc,if_false]
    rw [hst _ _ _ _ (.inl rfl)]
    exact ⟨hc,_,r3,hr3,by simp;omega,rfl⟩
   | ok y =>
    rw [hp] at h2
    obtain ⟨hr3,hx3⟩:=h2
    have hyl:=zki hle _ _ _ _ _ hp
    rw [hx3]
    simp only [yb,z6f,z5e]
    rw [z0w (by simp only [yn,yp];omega)]
    simp only [yb,decide_true,if_true]
    have e3:M.q4q (q09.mk s (rdr s y.2 0).gi 0) [111,114]=some ((tk kOr y.2).1,rdr s (tk kOr y.2).2 0):=zdt (p:=kOr) (by omega) hr3 (by decide) (by decide)
    rw [e3]
    simp only [yb]
    conv in z9m kOr _ (f+1) _ _=>unfold z9m
    have ht:=zby kOr y.2
    by_cases hk:(tk kOr y.2).1=true
    ·have hlt:=zkr hk
     have hkl:kOr.length=2:=rfl
     rw [if_pos hk,hk]
     have:=zye hs hself hle f (acc++[ze8 0 y.1]) (tk kOr y.2).2 (by omega) (ht.trans hr3) (by simp only [ym,yn,yp];omega)
     unfold rowF at this
     exact this
    ·have hk':(tk kOr y.2).1=false:=by simpa using hk
     rw [if_neg hk,hk']
     have:=hst (acc++[ze8 0 y.1]) false (rdr s (tk kOr y.2).2 0).gi 0 (.inl rfl)
     exact ⟨ht.trans hr3,this⟩
theorem zr8 {s:List UInt8} (hs:s.length<1000000) {F:Nat} {next:List UInt8→Rs (EX × List UInt8)} {d:Int} (hself:∀ r,r <:+ s→Ans s (next r) (M.q4o F (rdr s r 0) d)) (hle:Le next) {r:List UInt8} (hr:r <:+ s):Ans s (row 1 kOr (row 0 z8c next) r) (M.q4p (F+1) (rdr s r 0) d):=by
 have hrl:=hr.length_le
 have h:=zye hs hself hle (r.length+1) [] r (by omega) hr (by simp;omega)
 unfold M.q4p
 have e1:M.z0n (M.q4o F) d [] true (rdr s r 0).gs (rdr s r 0).gi (rdr s r 0).ge=M.z0n (M.q4o F) d [] true s (rdr s r 0).gi 0:=rfl
 simp only [e1,ya]
 rw [zfe 1]
 unfold rowF at h
 cases hx:row 0 z8c next r with
 | pan c =>
  rw [hx] at h
  obtain ⟨hc,l,r2,hr2,_,hx2⟩:=h
  rw [hx2]
  simp only [yb,z6f]
  exact ⟨hc,_,r2,hr2,rfl⟩
 | ok x =>
  rw [hx] at h
  simp only [List.nil_append] at h
  have hxl:=zff hle _ _ _ hx
  have hfu:z9m kOr (row 0 z8c next) (r.length+1) [x.1] x.2=z9m kOr (row 0 z8c next) (x.2.length+1) [x.1] x.2:=ziq (by decide) (zff hle) _ _ _ _ (by omega) (by omega)
  rw [hfu] at h
  show Ans s (match z9m kOr (row 0 z8c next) (x.2.length+1) [x.1] x.2 with
   | .pan e => .pan e
   | .ok l => .ok (ze8 1 l.1,l.2)) _
  cases hy:z9m kOr (row 0 z8c next) (x.2.length+1) [x.1] x.2 with
  | pan c =>
   rw [hy] at h
   obtain ⟨hc,l,r2,hr2,_,hx2⟩:=h
   rw [hx2]
   simp only [yb,z6f]
   exact ⟨hc,_,r2,hr2,rfl⟩
  | ok y =>
   rw [hy] at h
   obtain ⟨hr2,hx2⟩:=h
   rw [hx2]
   simp only [yb,z6f]
   exact ⟨hr2,rfl⟩
theorem zz0 {s r:List UInt8} {e c:Int} (he:¬e=0):M.q4t (rdr s r e) c=some (rdr s r e):=by rw [zke,if_neg he]
theorem zio {s r:List UInt8} {c:Int}:M.q4t (rdr s r 0) c=some (rdr s r c):=by rw [zke,if_pos rfl]
theorem zql {s:List UInt8} (hs:s.length<1000000) {S:Nat→List UInt8→Rs (EX × List UInt8)} {F d:Nat} (hF:17≤F) (hS:d<16→∀ r,r <:+ s→Ans s (S (d+1) r) (M.q4p F (rdr s r 0) ((d+1:Nat):Int))) {r:List UInt8} (hr:r <:+ s):Ans s (z9s S d r) (M.q4o (F+1) (rdr s r 0) (d:Int)):=by
 have h1:=(zby z6v r).trans hr
 have h2:=(zby [40] (tk z6v r).2).trans h1
 unfold M.q4o z9s
 have e1:M.q4q (rdr s r 0) [110,111,116]=some ((tk z6v r).1,rdr s (tk z6v r).2 0):=zdt (p:=z6v) (by omega) hr (by decide) (by decide)
 have e2:M.q4m (rdr s (tk z6v r).2 0) 40=some ((tk [40] (tk z6v r).2).1,rdr s (tk [40] (tk z6v r).2).2 0):=r_at (c:=40) (by omega) h1 (by decide)
 simp only [e1,e2,ya,yb]
 by_cases ho:(tk [40] (tk z6v r).2).1=true
 ·rw [if_pos ho,if_pos ho]
  by_cases hd:d<16
  ·have hd':¬((16:Int)≤(d:Int)):=by omega
   rw [if_pos hd]
   simp only [hd',decide_false,yc,if_false]
   rw [w1 (by omega)]
   have h3:=hS hd _ h2
   cases hx:S (d+1) (tk [40] (tk z6v r).2).2 with
   | pan c =>
    rw [hx] at h3
    obtain ⟨hc,x,r2,hr2,hx2⟩:=h3
    rw [hx2]
    simp only [yb]
    have e3:M.q4m (rdr s r2 c) 41=some ((tk [41] r2).1,rdr s (tk [41] r2).2 c):=r_at (c:=41) (by omega) hr2 (by decide)
    have hj:(if (!(tk [41] r2).1)=true then (M.q4t (rdr s (tk [41] r2).2 c) 190).bind fun a=>some (a.gs,a.gi,a.ge) else some ((rdr s (tk [41] r2).2 c).gs,(rdr s (tk [41] r2).2 c).gi,(rdr s (tk [41] r2).2 c).ge):Option (List UInt8 × Int × Int))=some (s,(rdr s (tk [41] r2).2 c).gi,c):=by
     rw [zz0 hc]
     cases (tk [41] r2).1<;>rfl
    rw [e3]
    simp only [yb]
    rw [hj]
    simp only [yb]
    refine ⟨hc,?_⟩
    cases (tk z6v r).1 with
    | true=>exact ⟨_,(tk [41] r2).2,(zby _ _).trans hr2,rfl⟩
    | false=>exact ⟨_,(tk [41] r2).2,(zby _ _).trans hr2,rfl⟩
   | ok x =>
    rw [hx] at h3
    obtain ⟨hr2,hx2⟩:=h3
    rw [hx2]
    simp only [yb,z5e]
    have e3:M.q4m (rdr s x.2 0) 41=some ((tk [41] x.2).1,rdr s (tk [41] x.2).2 0):=r_at (c:=41) (by omega) hr2 (by decide)
    rw [e3]
    simp only [yb]
    have h5:=(zby [41] x.2).trans hr2
    by_cases hc:(tk [41] x.2).1=true
    ·simp only [hc,ye,yc,if_false,if_true,yb]
     cases (tk z6v r).1 with
     | true=>exact ⟨h5,rfl⟩
     | false=>exact ⟨h5,rfl⟩
    ·have hc':(tk [41] x.2).1=false:=by simpa using hc
     simp only [hc',yd,if_true,yc,if_false,zio,yb]
     refine ⟨by decide,?_⟩
     cases (tk z6v r).1 with
     | true=>exact ⟨_,_,h5,rfl⟩
     | false=>exact ⟨_,_,h5,rfl⟩
  ·have hd':((16:Int)≤(d:Int)):=by omega
   rw [if_neg hd]
   simp only [hd',decide_true,if_true,zio,yb]
   exact ⟨by decide,_,_,h2,rfl⟩
 ·rw [if_neg ho,if_neg ho]
  generalize (tk [40] (tk z6v r).2).2=s2 at h2 ⊢
  rw [zuo (by omega) h2]
  simp only [yb]
  have hb2:=(z8o s2).trans h2
  have hl2:=h2.length_le
  have hwl:=zc0 s2
  have hbl:=z5o s2
  rw [z73 (by omega)]
  simp only [yb]
  unfold leaf
  have hj:(if (tk z6v r).1=true then some true else some (!isName (wd s2)):Option Bool)=some (!(!(tk z6v r).1&&isName (wd s2))):=by
   cases (tk z6v r).1<;>simp
  rw [hj]
  simp only [yb]
  cases hn:(!(tk z6v r).1&&isName (wd s2)) with
  | false =>
   simp only [yd,if_true,zio,yb,yc,if_false]
   exact ⟨by decide,_,_,hb2,rfl⟩
  | true =>
   simp only [ye,yc,if_false,if_true]
   have h5:(bk s2).drop (wd s2).length <:+ s:=(yi _ _).trans hb2
   have e5:(q09.mk (rdr s (bk s2) 0).gs (yr .i64 ((rdr s (bk s2) 0).gi+((wd s2).length:Int))) (rdr s (bk s2) 0).ge)=rdr s ((bk s2).drop (wd s2).length) 0:=by
    rw [zqi (by omega) hb2 hwl]
    rfl
   rw [e5]
   generalize (bk s2).drop (wd s2).length=s5 at h5 ⊢
   have e6:M.q4q (rdr s s5 0) [112,114]=some ((tk kPr s5).1,rdr s (tk kPr s5).2 0):=zdt (p:=kPr) (by omega) h5 (by decide) (by decide)
   rw [e6]
   simp only [yb]
   by_cases hp:(tk kPr s5).1=true
   ·rw [if_pos hp,if_pos hp]
    exact ⟨(zby _ _).trans h5,rfl⟩
   ·rw [if_neg hp,if_neg hp]
    have ep:(tk kPr s5).2=bk s5:=by
     unfold tk at hp ⊢
     split
     ·rename_i h;rw [if_pos h] at hp;exact absurd rfl hp
     ·rfl
    have hb5:=(z8o s5).trans h5
    have hW:M.q4z=some zco:=rfl
    rw [ep,hW]
    simp only [yb]
    have hk:M.z0y zco F (wd s2,rdr s (bk s2) 0) 0 s (rdr s (bk s5) 0).gi 0=(match zhe (wd s5) with
      | some k=>(M.q4r F (rdr s ((bk s5).drop (wd s5).length) 0)).bind fun a=>some (.done ((q01.mk (yr .i64 (4+(k:Int))) (wd s2) a.1 []),a.2))
      | none=>some (.go (s,(rdr s (bk s5) 0).gi,0))):=by
     have key:∀ (n i:Nat),zco.length - i=n→i≤zco.length→M.z0y zco F (wd s2,rdr s (bk s2) 0) (i:Int) s (rdr s (bk s5) 0).gi 0=(match (zco.drop i).findIdx? (fun x=>decide (wd s5=x)) with
       | some k=>(M.q4r F (rdr s ((bk s5).drop (wd s5).length) 0)).bind fun a=>some (.done ((q01.mk (yr .i64 (4+((i+k:Nat):Int))) (wd s2) a.1 []),a.2))
       | none=>some (.go (s,(rdr s (bk s5) 0).gi,0))):=by
      intro n
      induction n with
      | zero =>
       intro i h1 h2
       have h9:zco.length=9:=rfl
       have:i=zco.length:=by omega
       subst this
       rw [M.z0y]
       simp
      | succ n ih =>
       intro i h1 h2
       have h9:zco.length=9:=rfl
       have hi:i<zco.length:=by omega
       obtain ⟨hw1,hw2⟩:=zhf _ (List.getElem_mem hi)
       rw [M.z0y,z1x hi,List.findIdx?_cons]
       have e7:M.q4q (q09.mk s (rdr s (bk s5) 0).gi 0) zco[i]=some ((tk zco[i] s5).1,rdr s (tk zco[i] s5).2 0):=by
        have:=zdt (e:=0) (p:=zco[i]) (by omega) hb5 hw1 hw2
        rw [ztp] at this
        exact this
       simp only [show ((i:Int)<(zco.length:Int)) by omega,decide_true,if_true,z2u,yk hi,ya,yb,e7]
       unfold tk
       rw [zgs hw1 hw2]
       by_cases hx:wd s5=zco[i]
       ·simp only [hx,decide_true,if_true]
        rfl
       ·simp only [hx,decide_false,yc,if_false]
        rw [w1 (by omega)]
        have:=ih (i+1) (by omega) (by omega)
        refine this.trans ?_
        cases (zco.drop (i+1)).findIdx? (fun x=>decide (wd s5=x)) with
        | none=>rfl
        | some k=>simp only [Option.map_some,show i+1+k=i+(k+1) by omega]
     have:=key _ 0 rfl (Nat.zero_le _)
     simp only [yj,Nat.zero_add] at this
     exact this
    have hk':M.z0y zco F (wd s2,rdr s (bk s2) 0) 0 (rdr s (bk s5) 0).gs (rdr s (bk s5) 0).gi (rdr s (bk s5) 0).ge=_:=hk
    rw [hk']
    cases hc:zhe (wd s5) with
    | none =>
     simp only [yb]
     have:M.q4t (q09.mk s (rdr s (bk s5) 0).gi 0) 190=some (rdr s (bk s5) 190):=zio (s:=s) (r:=bk s5)
     rw [this]
     exact ⟨by decide,_,_,hb5,rfl⟩
    | some k =>
     obtain ⟨hk9,_⟩:=z95 hc
     have h9:zco.length=9:=rfl
     have h7:(bk s5).drop (wd s5).length <:+ s:=(yi _ _).trans hb5
     have hv:=zwi (by omega) h7 hF
     simp only [Option.bind_assoc]
     rw [w64 (by omega) (by omega)]
     cases hvl:vl ((bk s5).drop (wd s5).length) with
     | pan c =>
      rw [hvl] at hv
      obtain ⟨hc0,x,r2,hr2,hx2⟩:=hv
      rw [hx2]
      exact ⟨hc0,_,r2,hr2,rfl⟩
     | ok v =>
      rw [hvl] at hv
      obtain ⟨hr2,hx2⟩:=hv
      rw [hx2]
      exact ⟨hr2,rfl⟩
theorem znw {s:List UInt8} (hs:s.length<1000000):∀ (m F d:Nat) (r:List UInt8),d+m=16→2*m+20≤F→r <:+ s→Ans s (z3d (m+1) d r) (M.q4p F (rdr s r 0) (d:Int)):=by
 intro m
 induction m with
 | zero =>
  intro F d r hd hF hr
  match F,hF with
  | F+2,hF=>exact zr8 hs (next:=z9s (z3d 0) d) (fun r hr=>zql hs (by omega) (fun h=>by omega) hr) (z9f (z8k 0 (d+1))) hr
 | succ m ih =>
  intro F d r hd hF hr
  match F,hF with
  | F+2,hF=>exact zr8 hs (next:=z9s (z3d (m+1)) d) (fun r hr=>zql hs (by omega) (fun h r hr=>ih F (d+1) r (by omega) (by omega) hr) hr) (z9f (z8k (m+1) (d+1))) hr
theorem zin (s:List UInt8) {f:Nat} (hf:200≤f):M.q3y f s=some (pP s):=by
 unfold M.q3y pP
 by_cases hl:1024<s.length
 ·have hl':(1024:Int)<(s.length:Int):=by omega
  simp [hl,hl',zE]
 ·have hl':¬(1024:Int)<(s.length:Int):=by omega
  have h:=znw (s:=s) (by omega) 16 f 0 s rfl (by omega) (List.suffix_refl s)
  have e0:rdr s s 0=⟨s,0,0⟩:=by simp [rdr]
  rw [e0] at h
  simp only [hl,hl',decide_false,yc,if_false,ya]
  cases hx:z3d 17 0 s with
  | pan c =>
   rw [hx] at h
   obtain ⟨hc,x,r2,hr2,hx2⟩:=h
   have hx2':M.q4p f ⟨s,0,0⟩ 0=some (x,rdr s r2 c):=hx2
   rw [hx2']
   simp only [yb]
   rw [zag (by omega) hr2]
   simp only [yb,zz0 hc]
   have hj:(if decide ((rdr s (bk r2) c).gi<(s.length:Int))=true then some ((rdr s (bk r2) c).gs,(rdr s (bk r2) c).gi,(rdr s (bk r2) c).ge) else some ((rdr s (bk r2) c).gs,(rdr s (bk r2) c).gi,(rdr s (bk r2) c).ge):Option (List UInt8 × Int × Int))=some (s,(rdr s (bk r2) c).gi,c):=by split<;>rfl
   rw [hj]
   simp [hc,zE]
  | ok x =>
   rw [hx] at h
   obtain ⟨hr2,hx2⟩:=h
   have hx2':M.q4p f ⟨s,0,0⟩ 0=some (x.1,rdr s x.2 0):=hx2
   rw [hx2']
   simp only [yb]
   rw [zag (by omega) hr2]
   simp only [yb,zio]
   have hbs:=((z8o x.2).trans hr2).length_le
   by_cases hb:bk x.2=[]
   ·have:¬((rdr s (bk x.2) 0).gi<(s.length:Int)):=by simp [rdr,hb]
    rw [if_pos hb]
    simp only [this,decide_false,yc,if_false,yb]
    rfl
   ·have hpos:0<(bk x.2).length:=List.length_pos_iff.2 hb
    have:((rdr s (bk x.2) 0).gi<(s.length:Int)):=by simp only [rdr];omega
    rw [if_neg hb]
    simp only [this,decide_true,if_true,yb]
    rfl
end Go.Sen
end
section
namespace Go.Sen
open _root_.List renaming getElem_mem → ya
open Go.Lk Go.Pe
theorem zml:∀ (f:Nat) (e:EX),e.sz≤f→z1b e→M.q45 f e e=some true
 | 0,e,hf,_=>by have:=e.z1n;omega
 | f+1,e,hf,hs=>by
  have hz:=e.z1n
  have hlen:=z5f e.zc
  have hs':=hs
  unfold z1b at hs'
  have hk:∀ (n i:Nat),e.zc.length - i=n→i≤e.zc.length→M.z1r e e (M.q45 f) (i:Int)=some (.go ()):=by
   intro n
   induction n with
   | zero =>
    intro i h1 h2
    have:i=e.zc.length:=by omega
    subst this
    rw [M.z1r]
    simp
   | succ n ih =>
    intro i h1 h2
    have hi:i<e.zc.length:=by omega
    have hm:=z3h (ya hi)
    rw [M.z1r]
    simp only [show ((i:Int)<(e.zc.length:Int)) by omega,decide_true,if_true,z2u,List.getElem?_eq_getElem hi,Option.bind_eq_bind,Option.bind_some,zml f _ (show q01.sz e.zc[i]≤f by omega) (hs.mem (ya hi)),Bool.not_true,Bool.false_eq_true,if_false]
    rw [w1 (by omega),ih (i+1) (by omega) (by omega)]
  have h0:=hk _ 0 rfl (Nat.zero_le _)
  have h0':M.z1r e e (M.q45 f) 0=some (.go ()):=h0
  unfold M.q45
  simp [h0']
theorem law_PathChecks {e:EX} {f:Nat} (h:e.sz≤1048576) (hf:20000000≤f):M.q15 f e=some true:=by
 have hs:z1b e:=by unfold z1b;omega
 unfold M.q15
 rw [z6y (by omega) hs,zbu (by omega) hs,zln hf,z4z (by omega) hs,zbt (by omega) hs]
 simp
end Go.Sen
end
section
namespace Go.Sen
open _root_.Bool renaming and_eq_true → ya
open Go.Lk Go.Pe
structure Inv (m:MP):Prop where
 nd:(m.map (·.1)).Nodup
 ok:∀ y∈m,isName y.1=true∧0<y.2.length∧sgl y.2=true
theorem z6c {x:ED} (h:z6q x=true):isName x.zi=true:=by
 unfold z6q at h
 simp only [ya] at h
 exact h.1.1.1.1.1
theorem zhl {x:ED} (h:z6q x=true):(x.zb=0∧x.z19=false∧0<x.zf.length)∨(x.zb=1∧x.zf=[])∨(x.zb=2∧0<x.zf.length):=by
 unfold z6q at h
 simp only [ya] at h
 have h:=h.2
 unfold edK at h
 split at h
 ·rename_i h0;simp only [ya,decide_eq_true_eq,Bool.not_eq_true'] at h;exact .inl ⟨h0,h.2,h.1⟩
 ·split at h
  ·rename_i h1;exact .inr (.inl ⟨h1,by simpa using h⟩)
  ·split at h
   ·rename_i h2;simp only [ya,decide_eq_true_eq] at h;exact .inr (.inr ⟨h2,h.1⟩)
   ·cases h
end Go.Sen
end
section
namespace Go.Sen
open _root_.Option renaming bind_eq_bind → ya, bind_some → yb
open _root_.List renaming all_eq_true → yc, getElem?_eq_getElem → yd
open Go.Lk Go.Pe
theorem zrm:∀ (a b:List (List UInt8)),a.length=b.length→(a.zip b).all (fun x=>decide (x.1=x.2))=decide (a=b)
 | [],[],_=>rfl
 | x::a,y::b,h=>by
  have ih:=zrm a b (by simpa using h)
  rw [List.zip_cons_cons,List.all_cons,ih,Bool.eq_iff_iff]
  simp
 | [],_::_,h=>by simp at h
 | _::_,[],h=>by simp at h
theorem zgq {a b:List (List UInt8)} (ha:a.length<1000000000):M.q3c a b=some (decide (a=b)):=by
 unfold M.q3c
 by_cases hl:a.length=b.length
 ·have hl':decide ((a.length:Int)=(b.length:Int))=true:=decide_eq_true (by omega)
  have hz:(a.zip b).length=a.length:=by rw [List.length_zip,←hl,Nat.min_self]
  have hk:M.z1u a b 0=some (match (a.zip b).findIdx? (fun x => !decide (x.1=x.2)) with|some i => .done ((fun _:Nat=>false) i)|none => .go ()):=by
   refine zcg (fun _=>false) () (by omega) (fun i h => ?_) ?_
   ·have h1:i<a.length:=by omega
    have h2:i<b.length:=by omega
    rw [M.z1u]
    simp only [show ((i:Int)<(a.length:Int)) by omega,decide_true,if_true,z2u,yd h1,yd h2,ya,yb,List.getElem_zip]
   ·rw [hz,M.z1u];simp
  have hza:=zrm a b hl
  simp only [hl',Bool.not_true,Bool.false_eq_true,if_false,hk,ya,yb]
  rcases z4o (a.zip b) (fun x=>decide (x.1=x.2)) with ⟨h1,h2⟩|⟨i,h1,h2⟩
  ·rw [h1,←hza,h2]
  ·rw [h1,←hza,h2]
 ·have hl':decide ((a.length:Int)=(b.length:Int))=false:=decide_eq_false (by omega)
  have hn:¬a=b:=fun e=>hl (by rw [e])
  simp [hl',hn]
theorem zcm {l:List ED}:z7m l=0↔l.length≤16∧(∀ x∈l,z6q x=true)∧(l.any fun x=>x.z19 && !decide (zbc x.zu=0))=false:=by
 unfold z7m
 by_cases h1:16<l.length
 ·rw [if_pos h1]
  exact ⟨fun h=>(by cases h),fun h=>by omega⟩
 ·rw [if_neg h1]
  cases h2:l.all z6q with
  | false =>
   rw [if_pos rfl]
   refine ⟨fun h=>(by cases h),fun h => ?_⟩
   rw [yc.2 h.2.1] at h2
   cases h2
  | true =>
   rw [if_neg (by decide)]
   cases h3:(l.any fun x=>x.z19 && !decide (zbc x.zu=0)) with
   | true =>
    rw [if_pos rfl]
    exact ⟨fun h=>(by cases h),fun h=>(by cases h.2.2)⟩
   | false =>
    rw [if_neg (by decide)]
    exact ⟨fun _=>⟨by omega,yc.1 h2,rfl⟩,fun _=>rfl⟩
theorem z8b {s:List UInt8} (h:isName s=true):s.length≤24:=by
 unfold isName at h
 split at h
 ·cases h
 ·simp only [Bool.and_eq_true,decide_eq_true_eq] at h
  omega
theorem zpl:∀ {l:List (List UInt8)},(∀ v∈l,v.length≤128)→kys l≤129*l.length
 | [],_=>by simp [kys]
 | v::l,h=>by
  have h1:=h v List.mem_cons_self
  have h2:=zpl (l:=l) fun u hu=>h u (List.mem_cons_of_mem _ hu)
  rw [z3y,List.length_cons]
  omega
end Go.Sen
end
section
namespace Go.Sen
open Go.Lk Go.Pe
end Go.Sen
end
