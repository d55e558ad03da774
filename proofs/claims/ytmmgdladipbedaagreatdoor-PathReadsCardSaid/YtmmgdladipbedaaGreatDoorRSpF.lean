import Derived.Test.YtmmgdladipbedaaGreatDoorRSpE
import Derived.Test.YtmmgdladipbedaaGreatDoorRSnS
import Derived.Test.YtmmgdladipbedaaGreatDoorRSpI
set_option linter.all false
section
namespace Go.Sen
open _root_.Option renaming bind_eq_bind → ya, bind_some → yb
open _root_.Bool renaming false_eq_true → yc, not_false → yd, not_true → ye
open _root_.List renaming append_assoc → yf, drop_append → yg, drop_succ_cons → yh, drop_suffix → yi, drop_zero → yj, getElem?_eq_getElem → yk, head?_cons → yl, length_append → ym, length_cons → yn, length_drop → yo, length_nil → yp, take_append → yq
open IntKind renaming wrap → yr
open Go.Lk Go.Pe
abbrev R19:=q09
def rdr (s r:List UInt8) (e:Int):R19:=⟨s,((s.length - r.length:Nat):Int),e⟩
theorem zu2 {t r:List UInt8}:(t++r).length - r.length=t.length:=by simp
theorem zc4 (t r:List UInt8) (e:Int):rdr (t++r) r e=⟨t++r,(t.length:Int),e⟩:=by unfold rdr;rw [zu2]
theorem z7e (r:List UInt8):bk r <:+ r:=List.dropWhile_suffix _
theorem zji (t:List UInt8) (e:Int):∀ (r u:List UInt8),(t++(u++r)).length<1000000000→∀ p0:R19,p0.gs=t++(u++r)→p0.ge=e→M.z0v p0 (((t++u).length:Nat):Int)=some (rdr (t++(u++r)) (bk r) e)
 | [],u,hl,p0,h1,h2=>by
  rw [M.z0v,h1,h2]
  have:¬(((t++u).length:Int)<((t++(u++[])).length:Int)):=by simp
  simp only [this,decide_false,yc,if_false,ya,yb]
  simp [rdr,bk]
 | c::r,u,hl,p0,h1,h2=>by
  rw [M.z0v,h1]
  have h3:(((t++u).length:Int)<((t++(u++c::r)).length:Int)):=by simp;omega
  have h4:(t++(u++c::r))[(t++u).length]? = some c:=by rw [←yf];simp
  simp only [h3,decide_true,if_true,z2r,h4,ya,yb]
  have e32:decide (((c.toNat:Nat):Int)=32)=decide (c=32):=by rw [decide_eq_decide];exact toNat_eq (n:=32) (by decide)
  rw [e32]
  by_cases hc:c=32
  ·simp only [hc,decide_true,if_true]
   have hlen:(t++u).length<4611686018427387904:=by simp at hl ⊢;omega
   rw [w1 hlen]
   have h5:(t++u).length+1=(t++(u++[32])).length:=by simp;omega
   have h6:t++(u++32::r)=t++((u++[32])++r):=by simp
   rw [h5,h6,zji t e r (u++[32]) (by rw [←h6,←hc];exact hl) p0 (by rw [h1,hc,h6]) h2]
   simp [bk]
  ·simp only [hc,decide_false,yc,if_false]
   have hb:bk (c::r)=c::r:=by simp [bk,hc]
   rw [hb,h2]
   simp only [rdr]
   congr 3
   simp
   omega
theorem z96 {s r:List UInt8} {e:Int} (hs:s.length<1000000000) (hr:r <:+ s):M.q4j (rdr s r e)=some (rdr s (bk r) e):=by
 obtain ⟨t,rfl⟩:=hr
 have:=zji t e r [] (by simpa using hs) (rdr (t++r) r e) rfl rfl
 unfold M.q4j
 rw [zc4] at this ⊢
 simpa using this
theorem zsi (t:List UInt8) (e:Int):∀ (r u:List UInt8),(t++(u++r)).length<1000000000→∀ p0:R19,p0.gs=t++(u++r)→M.z14 p0 (((t++u).length:Nat):Int)=some (((t++u).length+(r.takeWhile wch).length:Nat):Int)
 | [],u,hl,p0,h1=>by
  rw [M.z14,h1]
  have:¬(((t++u).length:Int)<((t++(u++[])).length:Int)):=by simp
  simp only [this,decide_false,yc,if_false,ya,yb]
  rfl
 | c::r,u,hl,p0,h1=>by
  rw [M.z14,h1]
  have h3:(((t++u).length:Int)<((t++(u++c::r)).length:Int)):=by simp;omega
  have h4:(t++(u++c::r))[(t++u).length]? = some c:=by rw [←yf];simp
  simp only [h3,decide_true,if_true,z2r,h4,ya,yb,letter_eq,List.takeWhile_cons]
  cases hc:wch c with
  | true =>
   simp only [if_true]
   have hlen:(t++u).length<4611686018427387904:=by simp at hl ⊢;omega
   rw [w1 hlen]
   have h5:(t++u).length+1=(t++(u++[c])).length:=by simp;omega
   have h6:t++(u++c::r)=t++((u++[c])++r):=by simp
   rw [h5,zsi t e r (u++[c]) (by rw [←h6];exact hl) p0 (by rw [h1,h6])]
   congr 2
   simp only [ym,yn,yp]
   omega
  | false=>simp
theorem zsc {s r:List UInt8} {e:Int} (hs:s.length<1000000000) (hr:r <:+ s):M.q4o (rdr s r e)=some (wd r,rdr s (bk r) e):=by
 unfold M.q4o
 rw [z96 hs hr]
 simp only [ya,yb]
 obtain ⟨t,rfl⟩:=(z7e r).trans hr
 rw [zc4]
 have:=zsi t e (bk r) [] (by simpa using hs) ⟨t++bk r,(t.length:Int),e⟩ rfl
 simp only [List.append_nil] at this
 rw [this]
 simp only [yb]
 have hw:((bk r).takeWhile wch).length≤(bk r).length:=zaf r
 rw [zj1 (by omega) (by simp only [ym];omega)]
 simp only [yb]
 have:((t++bk r).take (t.length+((bk r).takeWhile wch).length)).drop t.length=wd r:=by
  rw [yq,yg]
  unfold wd
  have h:=List.takeWhile_append_dropWhile (p:=wch) (l:=bk r)
  have h3:=List.take_left (l₁:=(bk r).takeWhile wch) (l₂:=(bk r).dropWhile wch)
  rw [h] at h3
  simp [h3]
 rw [this]
theorem zon {s b:List UInt8} {e:Int} {n:Nat} (hs:s.length<1000000000) (hb:b <:+ s) (hn:n≤b.length):yr .i64 ((rdr s b e).gi+(n:Int))=(rdr s (b.drop n) e).gi:=by
 have h1:=hb.length_le
 simp only [rdr,yo]
 rw [zwt (by omega)]
 congr 1
 omega
theorem zwi {s r p:List UInt8} {e:Int} (hs:s.length<1000000000) (hr:r <:+ s):M.q4m (rdr s r e) p=some (decide (wd r=p),rdr s (if wd r=p then (bk r).drop p.length else bk r) e):=by
 have hb:=(z7e r).trans hr
 have hw:=zaf r
 unfold M.q4m
 rw [zsc hs hr]
 simp only [ya,yb]
 by_cases h:wd r=p
 ·simp only [h,decide_true,if_true]
  rw [zon hs hb (by rw [←h];exact hw)]
  rfl
 ·simp [h]
theorem zc3 {s r p:List UInt8} {e:Int} (hs:s.length<1000000000) (hr:r <:+ s) (h1:p.all wch=true) (h2:¬p=[]):M.q4m (rdr s r e) p=some ((tk p r).1,rdr s (tk p r).2 e):=by
 rw [zwi hs hr]
 unfold tk
 rw [zf4 h1 h2]
 by_cases h:wd r=p<;>simp [h]
theorem zyr {s r:List UInt8} {e:Int} {c:UInt8} (hs:s.length<1000000000) (hr:r <:+ s) (hc:wch c=false):M.q4h (rdr s r e) (c.toNat:Int)=some ((tk [c] r).1,rdr s (tk [c] r).2 e):=by
 have hb:=(z7e r).trans hr
 unfold M.q4h
 rw [z96 hs hr]
 simp only [ya,yb]
 unfold tk
 rw [zrg hc]
 obtain ⟨t,ht⟩:=hb
 have hgi:(rdr s (bk r) e).gi=(t.length:Int):=by rw [←ht,zc4]
 have hgs:(rdr s (bk r) e).gs=t++bk r:=by rw [ht];rfl
 rw [hgi,hgs]
 cases hbk:bk r with
 | nil=>simp
 | cons d q =>
  have h3:((t.length:Int)<((t++d::q).length:Int)):=by simp;omega
  have h4:(t++d::q)[t.length]? = some d:=by simp
  have ed:decide (((d.toNat:Nat):Int)=((c.toNat:Nat):Int))=decide (d=c):=by
   rw [decide_eq_decide]
   constructor
   ·intro h;exact UInt8.toNat_inj.1 (by omega)
   ·intro h;rw [h]
  simp only [h3,decide_true,if_true,z2r,h4,yb,ed,yl,Option.some.injEq]
  by_cases hdc:d=c
  ·simp only [hdc,decide_true,if_true,yn,yp]
   have hs2:t.length<4611686018427387904:=by rw [←ht] at hs;simp at hs;omega
   rw [w1 hs2]
   have:rdr s ((c::q).drop (0+1)) e=⟨t++c::q,((t.length+1:Nat):Int),e⟩:=by
    have e1:s=(t++[c])++q:=by rw [←ht,hbk,hdc];simp
    simp only [yh,yj,Nat.zero_add]
    rw [e1,zc4]
    simp
   rw [this]
   rfl
  ·simp [hdc]
theorem ziq {s r:List UInt8} {e c:Int}:M.q4p (rdr s r e) c=some (rdr s r (if e=0 then c else e)):=by
 unfold M.q4p
 by_cases h:e=0<;>simp [rdr,h]
theorem zad (p r:List UInt8):(tk p r).2 <:+ r:=by
 unfold tk
 split
 ·exact (yi _ _).trans (z7e r)
 ·exact z7e r
theorem zoz {b:R19} (hb:b.gs.length<1000000000):∀ (n i:Nat),b.gs.length+2 - i=n→i≤b.gs.length+1→M.z0p b (i:Int)=some ((i+qsc (b.gs.drop i):Nat):Int):=by
 intro n
 induction n using Nat.strongRecOn with
 | ind n ih =>
  intro i h1 h2
  rw [M.z0p]
  by_cases hi:i<b.gs.length
  ·rw [z2k hi,zks]
   simp only [show ((i:Int)<(b.gs.length:Int)) by omega,decide_true,if_true,z2r,yk hi,ya,yb]
   have e34:decide (((b.gs[i].toNat:Nat):Int)=34)=decide (b.gs[i]=34):=by rw [decide_eq_decide];exact toNat_eq (n:=34) (by decide)
   have e92:decide (((b.gs[i].toNat:Nat):Int)=92)=decide (b.gs[i]=92):=by rw [decide_eq_decide];exact toNat_eq (n:=92) (by decide)
   rw [e34,e92]
   by_cases h34:b.gs[i]=34
   ·simp [h34]
   ·simp only [h34,decide_false,yd,if_true,if_false]
    rw [w1 (by omega)]
    by_cases h92:b.gs[i]=92
    ·simp only [h92,decide_true,if_true]
     rw [w1 (by omega),ih (b.gs.length+2 - (i+1+1)) (by omega) (i+1+1) rfl (by omega),List.drop_drop]
     congr 2
     omega
    ·simp only [h92,decide_false,yc,if_false]
     rw [ih (b.gs.length+2 - (i+1)) (by omega) (i+1) rfl (by omega)]
     congr 2
     omega
  ·have h3:¬((i:Int)<(b.gs.length:Int)):=by omega
   rw [List.drop_eq_nil_of_le (by omega)]
   simp [h3,qsc]
def Ans {α:Type} (s:List UInt8) (x:Rs (α × List UInt8)) (out:Option (α × R19)):Prop:=match x with
 | .ok a=>a.2 <:+ s∧out=some (a.1,rdr s a.2 0)
 | .pan c=>¬c=0∧∃ a r,r <:+ s∧out=some (a,rdr s r c)
theorem ztt {s r:List UInt8} (hs:s.length<1000000000) (hr:r <:+ s) {f:Nat} (hf:17≤f):Ans s (vl r) (M.q4n f (rdr s r 0)):=by
 have hb:=(z7e r).trans hr
 have hbl:=hb.length_le
 have hq:∀ p0:R19,p0.gs=s→∀ i:Nat,i≤s.length+1→M.z0p p0 (i:Int)=some ((i+qsc (s.drop i):Nat):Int):=fun p0 h i hi=>by
  rw [←h] at hs hi ⊢
  exact zoz hs _ i rfl hi
 unfold M.q4n
 rw [z96 hs hr]
 simp only [ya,yb]
 obtain ⟨t,ht⟩:=hb
 have hgi:(rdr s (bk r) 0).gi=(t.length:Int):=by rw [←ht,zc4]
 have hgs:(rdr s (bk r) 0).gs=s:=rfl
 have hlen:s.length=t.length+(bk r).length:=by rw [←ht];simp
 rw [hgi,hgs]
 have hw:∀ c:Int,M.q4p (rdr s (bk r) 0) c=some (rdr s (bk r) c):=fun c=>by rw [ziq];simp
 unfold vl
 have hsuf:bk r <:+ s:=(z7e r).trans hr
 cases hbk:bk r with
 | nil =>
  have h1:((s.length:Int)≤(t.length:Int)):=by rw [hlen,hbk];simp
  rw [hbk] at hw hsuf
  simp only [h1,decide_true,if_true,yb,hw,List.head?_nil,reduceCtorEq,if_false]
  exact ⟨by decide,_,_,hsuf,rfl⟩
 | cons d q =>
  have h1:¬((s.length:Int)≤(t.length:Int)):=by rw [hlen,hbk];simp;omega
  have h4:s[t.length]? = some d:=by rw [←ht,hbk];simp
  have e34:decide (((d.toNat:Nat):Int)=34)=decide (d=34):=by rw [decide_eq_decide];exact toNat_eq (n:=34) (by decide)
  rw [hbk] at hw hsuf hlen
  simp only [h1,decide_false,yc,if_false,z2r,h4,yb,e34,yl,Option.some.injEq]
  by_cases hd:d=34
  ·simp only [hd,decide_true,ye,yc,if_false,if_true,yh,yj]
   have hs1:s.drop (t.length+1)=q:=by
    rw [←ht,hbk]
    simp [yg]
   have hk:=hq (rdr s (bk r) 0) rfl (t.length+1) (by omega)
   simp only [yn] at hlen
   rw [hs1] at hk
   rw [hbk,hd] at hk
   rw [w1 (by omega),hk]
   simp only [yb]
   generalize hqq:qsc q=n at hk ⊢
   by_cases hl:1+n<(34::q).length
   ·have hl':¬((s.length:Int)≤((t.length+1+n:Nat):Int)):=by simp only [yn] at hl;omega
    simp only [hl',hl,decide_false,yc,if_false,if_true]
    have hl2:t.length+1+n<s.length:=by simp only [yn] at hl;omega
    rw [w1 (by omega),zj1 (by omega) (by omega)]
    have hsub:(s.take (t.length+1+n+1)).drop t.length=(34::q).take (2+n):=by
     rw [←ht,hbk,hd,yq,yg]
     have e2:t.length+1+n+1 - t.length=2+n:=by omega
     have e3:List.take (t.length+1+n+1) t=t:=List.take_of_length_le (by omega)
     rw [e2,e3]
     simp
    rw [hsub]
    simp only [yb,zgt _ hf]
    generalize parse ((34::q).take (2+n))=v
    have hend:∀ e:Int,(q09.mk s ((t.length+1+n+1:Nat):Int) e)=rdr s ((34::q).drop (2+n)) e:=fun e=>by
     simp only [rdr,yo,yn]
     congr 2
     simp only [yn] at hl
     omega
    have hsuf2:(34::q).drop (2+n) <:+ s:=by
     rw [hd] at hsuf
     exact (yi _ _).trans hsuf
    by_cases hv:v.2=0∧v.1.z0r.length≤128
    ·have hv':((!decide (v.2=0))||(decide (128<(v.1.z0r.length:Int))))=false:=by
      simp only [Bool.or_eq_false_iff,Bool.not_eq_false',decide_eq_true_eq,decide_eq_false_iff_not]
      omega
     rw [if_pos hv]
     simp only [hv',yc,if_false,yb]
     refine ⟨hsuf2,?_⟩
     have:=hend 0
     rw [←this]
     rfl
    ·have hv':((!decide (v.2=0))||(decide (128<(v.1.z0r.length:Int))))=true:=by
      simp only [Bool.or_eq_true,Bool.not_eq_true',decide_eq_true_eq,decide_eq_false_iff_not]
      omega
     rw [if_neg hv]
     have hw2:=hw 190
     rw [hd] at hw2
     simp only [hv',if_true,hw2,yb]
     refine ⟨by decide,v.1.z0r,(34::q).drop (2+n),hsuf2,?_⟩
     have:=hend 190
     rw [←this]
     rfl
   ·have hl':((s.length:Int)≤((t.length+1+n:Nat):Int)):=by simp only [yn] at hl;omega
    have hw2:=hw 190
    rw [hd] at hw2
    simp only [hl',hl,decide_true,if_true,if_false,hw2,yb]
    exact ⟨by decide,_,_,hsuf,by rw [hd]⟩
  ·simp only [hd,decide_false,yd,if_true,if_false,hw,yb]
   exact ⟨by decide,_,_,hsuf,rfl⟩
theorem z5a (k:Int) (l:List EX):M.q4e k l=some (zcn k l):=by
 unfold M.q4e
 match l with
 | []=>rfl
 | [x]=>rfl
 | x::y::l =>
  have:¬(((x::y::l).length:Int)=1):=by simp only [yn];omega
  rw [if_neg (by simpa using this)]
  rfl
def An4 (s:List UInt8) (x:Rs (List EX × List UInt8)) (out:Option (List EX × List UInt8 × Int × Int)):Prop:=match x with
 | .ok a=>a.2 <:+ s∧out=some (a.1,s,(rdr s a.2 0).gi,0)
 | .pan c=>¬c=0∧∃ l r,r <:+ s∧l.length≤s.length+3∧out=some (l,s,(rdr s r c).gi,c)
theorem zvw {s:List UInt8} (hs:s.length<1000000) {self:R19→Int→Option (EX × R19)} {next:List UInt8→Rs (EX × List UInt8)} {d:Int} (hself:∀ r,r <:+ s→Ans s (next r) (self (rdr s r 0) d)) (hle:Le next) :
  ∀ (f:Nat) (acc:List EX) (r:List UInt8),r.length<f→r <:+ s→acc.length+r.length≤s.length+2→An4 s (z9p z8g next f acc r) (M.z07 self d acc s (rdr s r 0).gi 0)
 | 0,acc,r,h,_,_=>by omega
 | f+1,acc,r,h,hr,ha=>by
  have hst:∀ (acc:List EX) (r:List UInt8) (c:Int),¬c=0→M.z07 self d acc s (rdr s r c).gi c=some (acc,s,(rdr s r c).gi,c):=fun acc r c hc=>by
   rw [M.z07]
   simp [hc]
  have ht:=zad z8g r
  rw [M.z07]
  unfold z9p
  have e1:M.q4m (q09.mk s (rdr s r 0).gi 0) [97,110,100]=some ((tk z8g r).1,rdr s (tk z8g r).2 0):=zc3 (p:=z8g) (by omega) hr (by decide) (by decide)
  simp only [decide_true,if_true,e1,ya,yb]
  by_cases hk:(tk z8g r).1=true
  ·rw [if_pos hk,if_pos hk]
   have hlt:=zj2 hk
   have h1:=hself _ (ht.trans hr)
   show An4 s _ ((self (rdr s (tk z8g r).2 0) d).bind _)
   cases hn:next (tk z8g r).2 with
   | pan c =>
    rw [hn] at h1
    obtain ⟨hc,x,r2,hr2,hx⟩:=h1
    rw [hx]
    simp only [yb,z4l]
    rw [z1v (by simp only [yn,yp];omega)]
    simp only [yb]
    have h3:=hst (acc++[x]) r2 c hc
    refine ⟨hc,acc++[x],r2,hr2,by simp;omega,?_⟩
    exact h3
   | ok x =>
    rw [hn] at h1
    obtain ⟨hr2,hx⟩:=h1
    have hl:=hle _ _ _ hn
    rw [hx]
    simp only [yb,z4l]
    rw [z1v (by simp only [yn,yp];omega)]
    simp only [yb]
    have hkl:z8g.length=3:=rfl
    exact zvw hs hself hle f (acc++[x.1]) x.2 (by omega) hr2 (by simp only [ym,yn,yp];omega)
  ·rw [if_neg hk,if_neg hk]
   exact ⟨ht.trans hr,rfl⟩
def zxl (word:List UInt8) (next:List UInt8→Rs (EX × List UInt8)) (f:Nat) (acc:List EX) (r:List UInt8):Rs (List EX × List UInt8):=match next r with
 | .pan c => .pan c
 | .ok x=>z9p word next f (acc++[x.1]) x.2
theorem zvu {s:List UInt8} (hs:s.length<1000000) {self:R19→Int→Option (EX × R19)} {next:List UInt8→Rs (EX × List UInt8)} {d:Int} (hself:∀ r,r <:+ s→Ans s (next r) (self (rdr s r 0) d)) (hle:Le next) :
  ∀ (f:Nat) (acc:List EX) (r:List UInt8),r.length<f→r <:+ s→acc.length+r.length≤s.length+2→An4 s (zxl kOr (row 0 z8g next) f acc r) (M.z0h self d acc true s (rdr s r 0).gi 0)
 | 0,acc,r,h,_,_=>by omega
 | f+1,acc,r,h,hr,ha=>by
  have hst:∀ (acc:List EX) (b:Bool) (i:Int) (c:Int),b=false∨¬c=0→M.z0h self d acc b s i c=some (acc,s,i,c):=fun acc b i c hc=>by
   rw [M.z0h]
   rcases hc with rfl|hc
   ·rfl
   ·cases b<;>simp [hc]
  rw [M.z0h]
  simp only [if_true,decide_true,ya,yb]
  have h1:=hself r hr
  show An4 s _ ((self (rdr s r 0) d).bind _)
  unfold zxl
  rw [zku 0]
  cases hn:next r with
  | pan c =>
   rw [hn] at h1
   obtain ⟨hc,x,r2,hr2,hx⟩:=h1
   rw [hx]
   simp only [yb,z4l]
   have hk2:M.z07 self d [x] s (rdr s r2 c).gi c=some ([x],s,(rdr s r2 c).gi,c):=by
    rw [M.z07]
    simp [hc]
   have hk2':M.z07 self d [x] (rdr s r2 c).gs (rdr s r2 c).gi (rdr s r2 c).ge=some ([x],s,(rdr s r2 c).gi,c):=hk2
   rw [hk2']
   simp only [yb,z5a,z4l]
   rw [z1v (by simp only [yn,yp];omega)]
   simp only [yb,hc,decide_false,yc,if_false]
   rw [hst _ _ _ _ (.inl rfl)]
   exact ⟨hc,_,r2,hr2,by simp;omega,rfl⟩
  | ok x =>
   rw [hn] at h1
   obtain ⟨hr2,hx⟩:=h1
   have hl:=hle _ _ _ hn
   have hsl:=hr2.length_le
   rw [hx]
   simp only [yb,z4l]
   have h2:An4 s (z9p z8g next (x.2.length+1) [x.1] x.2) (M.z07 self d [x.1] s (rdr s x.2 0).gi 0) :=
    zvw hs hself hle (x.2.length+1) [x.1] x.2 (by omega) hr2 (by simp;omega)
   have e2:M.z07 self d [x.1] (rdr s x.2 0).gs (rdr s x.2 0).gi (rdr s x.2 0).ge=M.z07 self d [x.1] s (rdr s x.2 0).gi 0:=rfl
   rw [e2]
   cases hp:z9p z8g next (x.2.length+1) [x.1] x.2 with
   | pan c =>
    rw [hp] at h2
    obtain ⟨hc,l,r3,hr3,hl3,hx3⟩:=h2
    rw [hx3]
    simp only [yb,z5a,z4l]
    rw [z1v (by simp only [yn,yp];omega)]
    simp only [yb,hc,decide_false,yc,if_false]
    rw [hst _ _ _ _ (.inl rfl)]
    exact ⟨hc,_,r3,hr3,by simp;omega,rfl⟩
   | ok y =>
    rw [hp] at h2
    obtain ⟨hr3,hx3⟩:=h2
    have hyl:=ziu hle _ _ _ _ _ hp
    rw [hx3]
    simp only [yb,z5a,z4l]
    rw [z1v (by simp only [yn,yp];omega)]
    simp only [yb,decide_true,if_true]
    have e3:M.q4m (q09.mk s (rdr s y.2 0).gi 0) [111,114]=some ((tk kOr y.2).1,rdr s (tk kOr y.2).2 0):=zc3 (p:=kOr) (by omega) hr3 (by decide) (by decide)
    rw [e3]
    simp only [yb]
    conv in z9p kOr _ (f+1) _ _=>unfold z9p
    have ht:=zad kOr y.2
    by_cases hk:(tk kOr y.2).1=true
    ·have hlt:=zj2 hk
     have hkl:kOr.length=2:=rfl
     rw [if_pos hk,hk]
     have:=zvu hs hself hle f (acc++[zcn 0 y.1]) (tk kOr y.2).2 (by omega) (ht.trans hr3) (by simp only [ym,yn,yp];omega)
     unfold zxl at this
     exact this
    ·have hk':(tk kOr y.2).1=false:=by simpa using hk
     rw [if_neg hk,hk']
     have:=hst (acc++[zcn 0 y.1]) false (rdr s (tk kOr y.2).2 0).gi 0 (.inl rfl)
     exact ⟨ht.trans hr3,this⟩
theorem zp4 {s:List UInt8} (hs:s.length<1000000) {F:Nat} {next:List UInt8→Rs (EX × List UInt8)} {d:Int} (hself:∀ r,r <:+ s→Ans s (next r) (M.q4k F (rdr s r 0) d)) (hle:Le next) {r:List UInt8} (hr:r <:+ s):Ans s (row 1 kOr (row 0 z8g next) r) (M.q4l (F+1) (rdr s r 0) d):=by
 have hrl:=hr.length_le
 have h:=zvu hs hself hle (r.length+1) [] r (by omega) hr (by simp;omega)
 unfold M.q4l
 have e1:M.z0h (M.q4k F) d [] true (rdr s r 0).gs (rdr s r 0).gi (rdr s r 0).ge=M.z0h (M.q4k F) d [] true s (rdr s r 0).gi 0:=rfl
 simp only [e1,ya]
 rw [zku 1]
 unfold zxl at h
 cases hx:row 0 z8g next r with
 | pan c =>
  rw [hx] at h
  obtain ⟨hc,l,r2,hr2,_,hx2⟩:=h
  rw [hx2]
  simp only [yb,z5a]
  exact ⟨hc,_,r2,hr2,rfl⟩
 | ok x =>
  rw [hx] at h
  simp only [List.nil_append] at h
  have hxl:=zdo hle _ _ _ hx
  have hfu:z9p kOr (row 0 z8g next) (r.length+1) [x.1] x.2=z9p kOr (row 0 z8g next) (x.2.length+1) [x.1] x.2:=zgy (by decide) (zdo hle) _ _ _ _ (by omega) (by omega)
  rw [hfu] at h
  show Ans s (match z9p kOr (row 0 z8g next) (x.2.length+1) [x.1] x.2 with
   | .pan e => .pan e
   | .ok l => .ok (zcn 1 l.1,l.2)) _
  cases hy:z9p kOr (row 0 z8g next) (x.2.length+1) [x.1] x.2 with
  | pan c =>
   rw [hy] at h
   obtain ⟨hc,l,r2,hr2,_,hx2⟩:=h
   rw [hx2]
   simp only [yb,z5a]
   exact ⟨hc,_,r2,hr2,rfl⟩
  | ok y =>
   rw [hy] at h
   obtain ⟨hr2,hx2⟩:=h
   rw [hx2]
   simp only [yb,z5a]
   exact ⟨hr2,rfl⟩
theorem zwh {s r:List UInt8} {e c:Int} (he:¬e=0):M.q4p (rdr s r e) c=some (rdr s r e):=by rw [ziq,if_neg he]
theorem zgx {s r:List UInt8} {c:Int}:M.q4p (rdr s r 0) c=some (rdr s r c):=by rw [ziq,if_pos rfl]
theorem zoq {s:List UInt8} (hs:s.length<1000000) {S:Nat→List UInt8→Rs (EX × List UInt8)} {F d:Nat} (hF:17≤F) (hS:d<16→∀ r,r <:+ s→Ans s (S (d+1) r) (M.q4l F (rdr s r 0) ((d+1:Nat):Int))) {r:List UInt8} (hr:r <:+ s):Ans s (zar S d r) (M.q4k (F+1) (rdr s r 0) (d:Int)):=by
 have h1:=(zad z5o r).trans hr
 have h2:=(zad [40] (tk z5o r).2).trans h1
 unfold M.q4k zar
 have e1:M.q4m (rdr s r 0) [110,111,116]=some ((tk z5o r).1,rdr s (tk z5o r).2 0):=zc3 (p:=z5o) (by omega) hr (by decide) (by decide)
 have e2:M.q4h (rdr s (tk z5o r).2 0) 40=some ((tk [40] (tk z5o r).2).1,rdr s (tk [40] (tk z5o r).2).2 0):=zyr (c:=40) (by omega) h1 (by decide)
 simp only [e1,e2,ya,yb]
 by_cases ho:(tk [40] (tk z5o r).2).1=true
 ·rw [if_pos ho,if_pos ho]
  by_cases hd:d<16
  ·have hd':¬((16:Int)≤(d:Int)):=by omega
   rw [if_pos hd]
   simp only [hd',decide_false,yc,if_false]
   rw [w1 (by omega)]
   have h3:=hS hd _ h2
   cases hx:S (d+1) (tk [40] (tk z5o r).2).2 with
   | pan c =>
    rw [hx] at h3
    obtain ⟨hc,x,r2,hr2,hx2⟩:=h3
    rw [hx2]
    simp only [yb]
    have e3:M.q4h (rdr s r2 c) 41=some ((tk [41] r2).1,rdr s (tk [41] r2).2 c):=zyr (c:=41) (by omega) hr2 (by decide)
    have hj:(if (!(tk [41] r2).1)=true then (M.q4p (rdr s (tk [41] r2).2 c) 190).bind fun a=>some (a.gs,a.gi,a.ge) else some ((rdr s (tk [41] r2).2 c).gs,(rdr s (tk [41] r2).2 c).gi,(rdr s (tk [41] r2).2 c).ge):Option (List UInt8 × Int × Int))=some (s,(rdr s (tk [41] r2).2 c).gi,c):=by
     rw [zwh hc]
     cases (tk [41] r2).1<;>rfl
    rw [e3]
    simp only [yb]
    rw [hj]
    simp only [yb]
    refine ⟨hc,?_⟩
    cases (tk z5o r).1 with
    | true=>exact ⟨_,(tk [41] r2).2,(zad _ _).trans hr2,rfl⟩
    | false=>exact ⟨_,(tk [41] r2).2,(zad _ _).trans hr2,rfl⟩
   | ok x =>
    rw [hx] at h3
    obtain ⟨hr2,hx2⟩:=h3
    rw [hx2]
    simp only [yb,z4l]
    have e3:M.q4h (rdr s x.2 0) 41=some ((tk [41] x.2).1,rdr s (tk [41] x.2).2 0):=zyr (c:=41) (by omega) hr2 (by decide)
    rw [e3]
    simp only [yb]
    have h5:=(zad [41] x.2).trans hr2
    by_cases hc:(tk [41] x.2).1=true
    ·simp only [hc,ye,yc,if_false,if_true,yb]
     cases (tk z5o r).1 with
     | true=>exact ⟨h5,rfl⟩
     | false=>exact ⟨h5,rfl⟩
    ·have hc':(tk [41] x.2).1=false:=by simpa using hc
     simp only [hc',yd,if_true,yc,if_false,zgx,yb]
     refine ⟨by decide,?_⟩
     cases (tk z5o r).1 with
     | true=>exact ⟨_,_,h5,rfl⟩
     | false=>exact ⟨_,_,h5,rfl⟩
  ·have hd':((16:Int)≤(d:Int)):=by omega
   rw [if_neg hd]
   simp only [hd',decide_true,if_true,zgx,yb]
   exact ⟨by decide,_,_,h2,rfl⟩
 ·rw [if_neg ho,if_neg ho]
  generalize (tk [40] (tk z5o r).2).2=s2 at h2 ⊢
  rw [zsc (by omega) h2]
  simp only [yb]
  have hb2:=(z7e s2).trans h2
  have hl2:=h2.length_le
  have hwl:=zaf s2
  have hbl:=z4g s2
  rw [zbz (by omega)]
  simp only [yb]
  unfold leaf
  have hj:(if (tk z5o r).1=true then some true else some (!isName (wd s2)):Option Bool)=some (!(!(tk z5o r).1&&isName (wd s2))):=by
   cases (tk z5o r).1<;>simp
  rw [hj]
  simp only [yb]
  cases hn:(!(tk z5o r).1&&isName (wd s2)) with
  | false =>
   simp only [yd,if_true,zgx,yb,yc,if_false]
   exact ⟨by decide,_,_,hb2,rfl⟩
  | true =>
   simp only [ye,yc,if_false,if_true]
   have h5:(bk s2).drop (wd s2).length <:+ s:=(yi _ _).trans hb2
   have e5:(q09.mk (rdr s (bk s2) 0).gs (yr .i64 ((rdr s (bk s2) 0).gi+((wd s2).length:Int))) (rdr s (bk s2) 0).ge)=rdr s ((bk s2).drop (wd s2).length) 0:=by
    rw [zon (by omega) hb2 hwl]
    rfl
   rw [e5]
   generalize (bk s2).drop (wd s2).length=s5 at h5 ⊢
   have e6:M.q4m (rdr s s5 0) [112,114]=some ((tk kPr s5).1,rdr s (tk kPr s5).2 0):=zc3 (p:=kPr) (by omega) h5 (by decide) (by decide)
   rw [e6]
   simp only [yb]
   by_cases hp:(tk kPr s5).1=true
   ·rw [if_pos hp,if_pos hp]
    exact ⟨(zad _ _).trans h5,rfl⟩
   ·rw [if_neg hp,if_neg hp]
    have ep:(tk kPr s5).2=bk s5:=by
     unfold tk at hp ⊢
     split
     ·rename_i h;rw [if_pos h] at hp;exact absurd rfl hp
     ·rfl
    have hb5:=(z7e s5).trans h5
    have hW:M.q4v=some zcf:=rfl
    rw [ep,hW]
    simp only [yb]
    have hk:M.z0s zcf F (wd s2,rdr s (bk s2) 0) 0 s (rdr s (bk s5) 0).gi 0=(match zfp (wd s5) with
      | some k=>(M.q4n F (rdr s ((bk s5).drop (wd s5).length) 0)).bind fun a=>some (.done ((q01.mk (yr .i64 (4+(k:Int))) (wd s2) a.1 []),a.2))
      | none=>some (.go (s,(rdr s (bk s5) 0).gi,0))):=by
     have key:∀ (n i:Nat),zcf.length - i=n→i≤zcf.length→M.z0s zcf F (wd s2,rdr s (bk s2) 0) (i:Int) s (rdr s (bk s5) 0).gi 0=(match (zcf.drop i).findIdx? (fun x=>decide (wd s5=x)) with
       | some k=>(M.q4n F (rdr s ((bk s5).drop (wd s5).length) 0)).bind fun a=>some (.done ((q01.mk (yr .i64 (4+((i+k:Nat):Int))) (wd s2) a.1 []),a.2))
       | none=>some (.go (s,(rdr s (bk s5) 0).gi,0))):=by
      intro n
      induction n with
      | zero =>
       intro i h1 h2
       have h9:zcf.length=9:=rfl
       have:i=zcf.length:=by omega
       subst this
       rw [M.z0s]
       simp
      | succ n ih =>
       intro i h1 h2
       have h9:zcf.length=9:=rfl
       have hi:i<zcf.length:=by omega
       obtain ⟨hw1,hw2⟩:=zfq _ (List.getElem_mem hi)
       rw [M.z0s,z2k hi,List.findIdx?_cons]
       have e7:M.q4m (q09.mk s (rdr s (bk s5) 0).gi 0) zcf[i]=some ((tk zcf[i] s5).1,rdr s (tk zcf[i] s5).2 0):=by
        have:=zc3 (e:=0) (p:=zcf[i]) (by omega) hb5 hw1 hw2
        rw [zrh] at this
        exact this
       simp only [show ((i:Int)<(zcf.length:Int)) by omega,decide_true,if_true,z2r,yk hi,ya,yb,e7]
       unfold tk
       rw [zf4 hw1 hw2]
       by_cases hx:wd s5=zcf[i]
       ·simp only [hx,decide_true,if_true]
        rfl
       ·simp only [hx,decide_false,yc,if_false]
        rw [w1 (by omega)]
        have:=ih (i+1) (by omega) (by omega)
        refine this.trans ?_
        cases (zcf.drop (i+1)).findIdx? (fun x=>decide (wd s5=x)) with
        | none=>rfl
        | some k=>simp only [Option.map_some,show i+1+k=i+(k+1) by omega]
     have:=key _ 0 rfl (Nat.zero_le _)
     simp only [yj,Nat.zero_add] at this
     exact this
    have hk':M.z0s zcf F (wd s2,rdr s (bk s2) 0) 0 (rdr s (bk s5) 0).gs (rdr s (bk s5) 0).gi (rdr s (bk s5) 0).ge=_:=hk
    rw [hk']
    cases hc:zfp (wd s5) with
    | none =>
     simp only [yb]
     have:M.q4p (q09.mk s (rdr s (bk s5) 0).gi 0) 190=some (rdr s (bk s5) 190):=zgx (s:=s) (r:=bk s5)
     rw [this]
     exact ⟨by decide,_,_,hb5,rfl⟩
    | some k =>
     obtain ⟨hk9,_⟩:=zbb hc
     have h9:zcf.length=9:=rfl
     have h7:(bk s5).drop (wd s5).length <:+ s:=(yi _ _).trans hb5
     have hv:=ztt (by omega) h7 hF
     simp only [Option.bind_assoc]
     rw [w64 (by omega) (by omega)]
     cases hvl:vl ((bk s5).drop (wd s5).length) with
     | pan c =>
      rw [hvl] at hv
      obtain ⟨hc0,x,r2,hr2,hx2⟩:=hv
      rw [hx2]
      exact ⟨hc0,_,r2,hr2,rfl⟩
     | ok v =>
      rw [hvl] at hv
      obtain ⟨hr2,hx2⟩:=hv
      rw [hx2]
      exact ⟨hr2,rfl⟩
theorem zm6 {s:List UInt8} (hs:s.length<1000000):∀ (m F d:Nat) (r:List UInt8),d+m=16→2*m+20≤F→r <:+ s→Ans s (z36 (m+1) d r) (M.q4l F (rdr s r 0) (d:Int)):=by
 intro m
 induction m with
 | zero =>
  intro F d r hd hF hr
  match F,hF with
  | F+2,hF=>exact zp4 hs (next:=zar (z36 0) d) (fun r hr=>zoq hs (by omega) (fun h=>by omega) hr) (z84 (z74 0 (d+1))) hr
 | succ m ih =>
  intro F d r hd hF hr
  match F,hF with
  | F+2,hF=>exact zp4 hs (next:=zar (z36 (m+1)) d) (fun r hr=>zoq hs (by omega) (fun h r hr=>ih F (d+1) r (by omega) (by omega) hr) hr) (z84 (z74 (m+1) (d+1))) hr
theorem zgv (s:List UInt8) {f:Nat} (hf:200≤f):M.q3u f s=some (pP s):=by
 unfold M.q3u pP
 by_cases hl:1024<s.length
 ·have hl':(1024:Int)<(s.length:Int):=by omega
  simp [hl,hl',zE]
 ·have hl':¬(1024:Int)<(s.length:Int):=by omega
  have h:=zm6 (s:=s) (by omega) 16 f 0 s rfl (by omega) (List.suffix_refl s)
  have e0:rdr s s 0=⟨s,0,0⟩:=by simp [rdr]
  rw [e0] at h
  simp only [hl,hl',decide_false,yc,if_false,ya]
  cases hx:z36 17 0 s with
  | pan c =>
   rw [hx] at h
   obtain ⟨hc,x,r2,hr2,hx2⟩:=h
   have hx2':M.q4l f ⟨s,0,0⟩ 0=some (x,rdr s r2 c):=hx2
   rw [hx2']
   simp only [yb]
   rw [z96 (by omega) hr2]
   simp only [yb,zwh hc]
   have hj:(if decide ((rdr s (bk r2) c).gi<(s.length:Int))=true then some ((rdr s (bk r2) c).gs,(rdr s (bk r2) c).gi,(rdr s (bk r2) c).ge) else some ((rdr s (bk r2) c).gs,(rdr s (bk r2) c).gi,(rdr s (bk r2) c).ge):Option (List UInt8 × Int × Int))=some (s,(rdr s (bk r2) c).gi,c):=by split<;>rfl
   rw [hj]
   simp [hc,zE]
  | ok x =>
   rw [hx] at h
   obtain ⟨hr2,hx2⟩:=h
   have hx2':M.q4l f ⟨s,0,0⟩ 0=some (x.1,rdr s x.2 0):=hx2
   rw [hx2']
   simp only [yb]
   rw [z96 (by omega) hr2]
   simp only [yb,zgx]
   have hbs:=((z7e x.2).trans hr2).length_le
   by_cases hb:bk x.2=[]
   ·have:¬((rdr s (bk x.2) 0).gi<(s.length:Int)):=by simp [rdr,hb]
    rw [if_pos hb]
    simp only [this,decide_false,yc,if_false,yb]
    rfl
   ·have hpos:0<(bk x.2).length:=List.length_pos_iff.2 hb
    have:((rdr s (bk x.2) 0).gi<(s.length:Int)):=by simp only [rdr];omega
    rw [if_neg hb]
    simp only [this,decide_true,if_true,yb]
    rfl
end Go.Sen
end
section
namespace Go.Sen
open _root_.Option renaming bind_eq_bind → ya, bind_some → yb
open _root_.List renaming getElem_mem → yc
open Go.Lk Go.Pe
theorem zkx:∀ (f:Nat) (e:EX),e.sz≤f→z15 e→M.q3z f e e=some true
 | 0,e,hf,_=>by have:=e.z2c;omega
 | f+1,e,hf,hs=>by
  have hz:=e.z2c
  have hlen:=z4s e.ze
  have hs':=hs
  unfold z15 at hs'
  have hk:∀ (n i:Nat),e.ze.length - i=n→i≤e.ze.length→M.z1a e e (M.q3z f) (i:Int)=some (.go ()):=by
   intro n
   induction n with
   | zero =>
    intro i h1 h2
    have:i=e.ze.length:=by omega
    subst this
    rw [M.z1a]
    simp
   | succ n ih =>
    intro i h1 h2
    have hi:i<e.ze.length:=by omega
    have hm:=z2o (yc hi)
    rw [M.z1a]
    simp only [show ((i:Int)<(e.ze.length:Int)) by omega,decide_true,if_true,z2r,List.getElem?_eq_getElem hi,ya,yb,zkx f _ (show q01.sz e.ze[i]≤f by omega) (hs.mem (yc hi)),Bool.not_true,Bool.false_eq_true,if_false]
    rw [w1 (by omega),ih (i+1) (by omega) (by omega)]
  have h0:=hk _ 0 rfl (Nat.zero_le _)
  have h0':M.z1a e e (M.q3z f) 0=some (.go ()):=h0
  unfold M.q3z
  simp [h0']
theorem law_PathChecks {e:EX} {f:Nat} (h:e.sz≤1048576) (hf:20000000≤f):M.q15 f e=some true:=by
 have hs:z15 e:=by unfold z15;omega
 unfold M.q15
 rw [z90 (by omega) hs,zgw (by omega) hs,zk0 hf,z3v (by omega) hs,zaa (by omega) hs]
 simp
theorem zef (s:List UInt8) {f:Nat} (hf:20000000≤f):M.q1b f s=some true:=by
 have hz:=zw9 s
 unfold M.q1b
 rw [z3w s (by omega),zgv s (by omega),zk0 hf]
 simp only [ya,yb,decide_true,Bool.and_self,if_true]
 rw [zkx f _ (by omega) (by unfold z15;omega)]
 rfl
end Go.Sen
end
