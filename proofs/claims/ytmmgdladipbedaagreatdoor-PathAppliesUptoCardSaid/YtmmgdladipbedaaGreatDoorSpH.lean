import Derived.Test.YtmmgdladipbedaaGreatDoorSpC
import Derived.Test.YtmmgdladipbedaaGreatDoorPaShelf2
import Derived.Test.YtmmgdladipbedaaGreatDoorSnG
set_option linter.all false
section
namespace Go.Sen
open _root_.Option renaming bind_eq_bind → ya, bind_some → yb, map_some → yc
open _root_.Bool renaming and_eq_true → yd, false_and → ye, false_eq_true → yf, not_false → yg, not_true → yh, true_and → yi
open _root_.List renaming drop_zero → yj, getElem?_eq_getElem → yk, getElem_mem → yl, length_cons → ym, length_nil → yn
open _root_.Nat renaming zero_le → yo
open IntKind renaming wrap → yp
open Go.Lk Go.Pe
abbrev ED:=q00
def sgl (l:List (List UInt8)):Bool:=decide (l.length≤64)&&decide l.Nodup&&l.all z1q
theorem zbz {l:List (List UInt8)} (h:l.length<1000000000):M.z1e l=some (sgl l):=by
 have hk:M.zw l 0=some (match l.findIdx? (fun x => !z1q x) with|some i => .done (i:Int)|none => .go ()):=by
  refine z9a (fun i:Nat=>(i:Int)) () (by omega) (fun i h => ?_) ?_
  ·rw [M.zw]
   simp only [show ((i:Int)<(l.length:Int)) by omega,decide_true,if_true,z3d,yk h,ya,yb,M.q2d,z9w]
  ·rw [M.zw]
   simp
 have hc:M.q3m l=some (!l.all z1q):=by
  unfold M.q3m M.q42
  rw [hk]
  rcases z3i l z1q with ⟨h1,h2⟩|⟨i,h1,h2⟩
  ·rw [h1,h2];rfl
  ·rw [h1,h2];simp
 have hs:=zh3 (l:=l) (by omega)
 unfold M.single at hs
 rw [z30 (by rw [decide_eq_true_iff];omega)] at hs
 simp only [ya,yb,Option.some.injEq] at hs
 unfold M.z1e sgl
 rw [z30 (by rw [decide_eq_true_iff];omega),hc]
 simp only [ya,yb,←hs]
 by_cases h1:l.length≤64
 ·by_cases h2:(Lib.compact (l.mergeSort fun x y=>decide (x≤y))).length=l.length
  ·simp [h1,h2]
  ·have h2':¬((Lib.compact (l.mergeSort fun x y=>decide (x≤y))).length:Int)=(l.length:Int):=by omega
   simp only [h1,h2,h2',if_true,if_false,decide_false,Bool.and_false,ye]
 ·simp [h1]
def z5z:Option (List UInt8)→List UInt8→Bool
 | none,_=>true
 | some q,n=>slt q n
def zdt:Option (List UInt8)→List q02→Bool
 | _,[]=>true
 | p,f::r=>isName f.zg&&z5z p f.zg && !decide (f.zf.length=0)&&sgl f.zf&&zdt (some f.zg) r
def zca (t:TH):Int:=if t.za.length≤32∧zdt none t.za=true then 0 else 194
theorem z3c {t:TH} (ht:z1o t):M.q17 t=some (zca t):=by
 obtain ⟨h1,_,_,h4⟩:=ht.parts
 have hk:∀ (n i:Nat),t.za.length - i=n→i≤t.za.length→M.z0k t (i:Int)=some (if zdt (if i=0 then none else (t.za[i - 1]?).map (·.zg)) (t.za.drop i)=true then .go () else .done 194):=by
  intro n
  induction n with
  | zero =>
   intro i h2 h3
   have:i=t.za.length:=by omega
   subst this
   rw [M.z0k]
   simp [zdt]
  | succ n ih =>
   intro i h2 h3
   have hi:i<t.za.length:=by omega
   have hv:=h4 _ (yl hi)
   rw [M.z0k,z13 hi]
   simp only [show ((i:Int)<(t.za.length:Int)) by omega,decide_true,if_true,z3d,yk hi,ya,yb,z3o,zbz hv.2.1]
   have hprev:(if (!isName t.za[i].zg)=true then some true else if decide ((0:Int)<(i:Int))=true then (ix t.za (yp .i64 ((i:Int) - 1))).bind fun x=>some (!slt x.zg t.za[i].zg) else some false:Option Bool) =
     some (!(isName t.za[i].zg&&z5z (if i=0 then none else (t.za[i - 1]?).map (·.zg)) t.za[i].zg)):=by
    cases isName t.za[i].zg with
    | false=>rfl
    | true =>
     by_cases h0:i=0
     ·subst h0;rfl
     ·have e:yp .i64 ((i:Int) - 1)=((i - 1:Nat):Int):=by rw [w64]<;>omega
      have hi1:i - 1<t.za.length:=by omega
      simp only [yh,yf,if_false,show ((0:Int)<(i:Int)) by omega,decide_true,if_true,e,z3d,yk hi1,yb,h0,yc,yi,z5z]
   rw [hprev]
   simp only [yb,zdt]
   have hlen:decide ((t.za[i].zf.length:Int)=0)=decide (t.za[i].zf.length=0):=by rw [decide_eq_decide];omega
   rw [hlen]
   have hih:=ih (i+1) (by omega) (by omega)
   have e1:(if i+1=0 then none else (t.za[i+1 - 1]?).map (·.zg):Option (List UInt8))=some t.za[i].zg:=by
    rw [if_neg (by omega),show i+1 - 1=i by omega,yk hi,yc]
   rw [e1] at hih
   obtain ⟨b1,hb1⟩:∃ b1,(isName t.za[i].zg&&z5z (if i=0 then none else (t.za[i - 1]?).map (·.zg)) t.za[i].zg)=b1:=⟨_,rfl⟩
   simp only [hb1]
   cases b1 with
   | false=>simp
   | true =>
    by_cases hz:t.za[i].zf.length=0
    ·simp [hz]
    ·simp only [yh,hz,decide_false,Bool.or_self,yf,if_false,yb,yg,Bool.and_self,yi]
     cases hs:sgl t.za[i].zf with
     | false=>simp
     | true =>
      simp only [yh,yf,if_false,yi]
      rw [w1 (by omega),hih]
 unfold M.q17 zca
 by_cases hl:t.za.length≤32
 ·have hl':¬((32:Int)<(t.za.length:Int)):=by omega
  have h0:=hk _ 0 rfl (yo _)
  have h0':M.z0k t 0=_:=h0
  simp only [hl',decide_false,yf,if_false,h0',ya,yb,if_true,yj,hl,true_and]
  cases zdt none t.za<;>rfl
 ·have hl':((32:Int)<(t.za.length:Int)):=by omega
  simp [hl,hl']
mutual
def aln:EX→Bool
 | ⟨k,n,_,l⟩=>if 2<k then decide (n=[118,97,108,117,101]) else zvc l
def zvc:List EX→Bool
 | []=>true
 | x::xs=>aln x&&zvc xs
end
theorem zrz (e:EX):aln e=if 2<e.zc then decide (e.zg=[118,97,108,117,101]) else zvc e.zh:=by cases e;simp only [aln]
theorem zdo:∀ l:List EX,zvc l=l.all aln
 | []=>rfl
 | x::l=>by simp [zvc,zdo l]
theorem z8n:∀ (f:Nat) (e:EX),4*e.sz≤f→z16 e→M.q1e f e=some (aln e)
 | 0,e,hf,_=>by have:=e.z2a;omega
 | f+1,e,hf,hs=>by
  have hz:=e.z2a
  have hlen:=z4g e.zh
  have hs':=hs
  unfold z16 at hs'
  have hself:∀ g,4*ezs e.zh+1≤g→g≤f→∀ x∈e.zh,M.q1f g x=some (!aln x):=fun g hg hgf x hx=>by
   have hm:=z36 hx
   match g,hg,hgf with
   | g+1,hg,hgf =>
    unfold M.q1f
    rw [z8n g x (by omega) (hs.mem hx)]
    rfl
  have hloop:M.q3e f e.zh=some (!zvc e.zh):=by
   match f,hf,hself with
   | g+2,hf,hself =>
    have hk:M.zt e.zh (M.q1f g) 0=some (match e.zh.findIdx? (fun x => !aln x) with|some i => .done (i:Int)|none => .go ()):=by
     refine z9a (fun i:Nat=>(i:Int)) () (by omega) (fun i h => ?_) ?_
     ·rw [M.zt]
      simp only [show ((i:Int)<(e.zh.length:Int)) by omega,decide_true,if_true,z3d,yk h,ya,yb,hself g (by omega) (by omega) _ (yl h)]
     ·rw [M.zt]
      simp
    unfold M.q3e M.q3q
    rw [hk,zdo]
    rcases z3i e.zh aln with ⟨h1,h2⟩|⟨i,h1,h2⟩
    ·rw [h1,h2];rfl
    ·rw [h1,h2];simp
   | 0,hf,_=>omega
   | 1,hf,_=>omega
  unfold M.q1e
  rw [zrz]
  by_cases h2:2<e.zc
  ·simp [h2]
  ·simp [h2,hloop]
termination_by f=>f
decreasing_by all_goals omega
def q00.sz (x:ED):Nat:=x.zg.length+x.z00.sz+kys x.zf+1
def z3t (x:ED):Prop:=x.sz<1000000000
theorem z3t.parts {x:ED} (h:z3t x):x.zg.length<1000000000∧z16 x.z00∧x.zf.length<1000000000∧∀ v∈x.zf,v.length<1000000000:=by
 unfold z3t q00.sz at h
 have:=z5b x.zf
 refine ⟨by omega,by unfold z16;omega,by omega,fun v hv => ?_⟩
 have:=zed hv
 omega
def zhd (e:EX):Bool:=decide (e.zc=0)&&decide (e.zg=[])&&decide (e.z07=[])&&decide (e.zh.length=0)
def edK (k:Int) (n:Nat) (s:Bool):Bool:=if k=0 then decide (0<n) && !s else if k=1 then decide (n=0) else if k=2 then decide (0<n)&&(decide (n=1) || !s) else false
def z5o (x:ED):Bool:=isName x.zg && !decide (x.zg=[105,100]) && !decide (x.zg=[116,97,103])&&sgl x.zf&&(if x.z0i=true then fm x.z00&&aln x.z00 else zhd x.z00)&&edK x.zc x.zf.length x.z0i
theorem z9v {x:ED} {f:Nat} (hf:4*x.sz≤f) (hx:z3t x):M.q1o f x=some (z5o x):=by
 obtain ⟨h1,h2,h3,h4⟩:=hx.parts
 have hsz:x.sz=x.zg.length+x.z00.sz+kys x.zf+1:=rfl
 have hwz:=x.z00.z2a
 have h2':=h2
 unfold z16 at h2'
 unfold M.q1o z5o
 rw [z3o,zbz h3,z5x f x.z00 (by omega) h2,z8n f x.z00 (by omega) h2]
 simp only [ya,yb]
 have hcat:cat x.z00.zg x.z00.z07=some (x.z00.zg++x.z00.z07):=z6u (by omega)
 rw [hcat]
 simp only [yb]
 have hcd:(decide (x.z00.zg++x.z00.z07=([]:List UInt8)))=(decide (x.z00.zg=[])&&decide (x.z00.z07=[])):=by rw [Bool.eq_iff_iff];simp
 have hn0:decide ((x.zf.length:Int)=0)=decide (x.zf.length=0):=by rw [decide_eq_decide];omega
 have hn1:decide ((x.zf.length:Int)=1)=decide (x.zf.length=1):=by rw [decide_eq_decide];omega
 have hnp:decide ((0:Int)<(x.zf.length:Int))=decide (0<x.zf.length):=by rw [decide_eq_decide];omega
 have hlp:decide ((0:Int)<(x.z00.zh.length:Int)) = !decide (x.z00.zh.length=0):=by rw [←decide_not,decide_eq_decide];omega
 rw [hcd,hn0,hn1,hnp,hlp]
 have hend:(if decide (x.zc=0)=true then some (decide (0<x.zf.length) && !x.z0i) else if decide (x.zc=1)=true then some (decide (x.zf.length=0)) else if decide (x.zc=2)=true then some (decide (0<x.zf.length)&&(decide (x.zf.length=1) || !x.z0i)) else some false:Option Bool)=some (edK x.zc x.zf.length x.z0i):=by
  unfold edK
  by_cases k0:x.zc=0
  ·simp [k0]
  ·by_cases k1:x.zc=1
   ·simp [k1]
   ·by_cases k2:x.zc=2
    ·simp [k2]
    ·simp [k0,k1,k2]
 rw [hend]
 generalize edK x.zc x.zf.length x.z0i=b5
 have hz:zhd x.z00=(decide (x.z00.zc=0)&&(decide (x.z00.zg=[])&&decide (x.z00.z07=[]))&&decide (x.z00.zh.length=0)):=by unfold zhd;rw [Bool.and_assoc (decide (x.z00.zc=0))]
 rw [hz]
 generalize (decide (x.z00.zg=[])&&decide (x.z00.z07=[]))=b6
 generalize decide (x.z00.zh.length=0)=b7
 generalize decide (x.z00.zc=0)=b8
 generalize sgl x.zf=b4
 generalize decide (x.zg=[105,100])=b2
 generalize decide (x.zg=[116,97,103])=b3
 generalize isName x.zg=b1
 generalize fm x.z00=b9
 generalize aln x.z00=b10
 cases b1<;>cases b2<;>cases b3<;>try (simp;done)
 cases b4
 ·simp
 ·cases x.z0i
  ·cases b6<;>cases b7<;>cases b8<;>simp
  ·cases b9<;>cases b10<;>simp
def z6y (l:List ED):Nat:=(l.map (·.sz)).sum
def z6s (l:List ED):Int:=if 16<l.length then 191 else if l.all z5o=false then 194 else if (l.any fun x=>x.z0i && !decide (zfa x.z00=0))=true then 193 else 0
theorem z8l {l:List ED} {f:Nat} (hf:4*z6y l+17≤f) (hl:z6y l<1000000000):M.q14 f l=some (z6s l):=by
 have hlen:l.length≤z6y l:=z9c (g:=fun x:ED=>x.sz) (fun x=>by unfold q00.sz;omega) l
 have hm:∀ x∈l,x.sz≤z6y l:=fun x hx=>z9d (g:=fun x:ED=>x.sz) hx
 have hw:∀ x:ED,x.z00.sz≤x.sz:=fun x=>by unfold q00.sz;omega
 have hk1:M.zm l f 0=some (match l.findIdx? (fun x => !z5o x) with|some i => .done (i:Int)|none => .go ()):=by
  refine z9a (fun i:Nat=>(i:Int)) () (by omega) (fun i h => ?_) ?_
  ·have:=hm _ (yl h)
   rw [M.zm]
   simp only [show ((i:Int)<(l.length:Int)) by omega,decide_true,if_true,z3d,yk h,ya,yb,M.q15,z9v (x:=l[i]) (f:=f) (by omega) (by unfold z3t;omega)]
  ·rw [M.zm]
   simp
 have hk2:M.zn l f 0=some (match l.findIdx? (fun x=>x.z0i && !decide (zfa x.z00=0)) with|some i => .done (i:Int)|none => .go ()):=by
  refine z9a (fun i:Nat=>(i:Int)) () (by omega) (fun i h => ?_) ?_
  ·have h1:=hm _ (yl h)
   have h2:=hw l[i]
   rw [M.zn]
   simp only [show ((i:Int)<(l.length:Int)) by omega,decide_true,if_true,z3d,yk h,ya,yb,M.q16,z5e (e:=l[i].z00) (f:=f) (by omega) (by unfold z16;omega)]
   cases l[i].z0i<;>simp
  ·rw [M.zn]
   simp
 unfold M.q14 z6s
 by_cases h16:16<l.length
 ·have h16':((16:Int)<(l.length:Int)):=by omega
  simp [h16,h16']
 ·have h16':¬((16:Int)<(l.length:Int)):=by omega
  unfold M.q3c M.q3o M.q3d M.q3p
  simp only [h16,h16',decide_false,yf,if_false,ya,hk1,hk2]
  rcases z3i l z5o with ⟨h1,h2⟩|⟨i,h1,h2⟩
  ·rw [h1,h2]
   simp only [yb,show decide ((0:Int) ≤ -1)=false from rfl,yf,if_false,Bool.true_eq_false]
   rcases z2l l (fun x=>x.z0i && !decide (zfa x.z00=0)) with ⟨h3,h4⟩|⟨i,h3,h4⟩
   ·rw [h3,h4];rfl
   ·rw [h3,h4];simp
  ·rw [h1,h2];simp
def zm9 (v:List UInt8):TH:=⟨[],[],[],[⟨[118,97,108,117,101],[v]⟩]⟩
def pick (x:ED) (v:List UInt8):Bool := !x.z0i||hdE (zm9 v) x.z00
theorem z8o {x:ED} {v:List UInt8} {f:Nat} (hf:4*x.sz≤f) (hx:z3t x) (hv:v.length<100000000) (hw:x.z0i=true→fm x.z00=true):M.q1z f x v=some (pick x v):=by
 have hsz:x.sz=x.zg.length+x.z00.sz+kys x.zf+1:=rfl
 have ht:z1o (zm9 v):=by
  unfold z1o q04.sz zm9
  simp [q02.sz,kys]
  omega
 unfold M.q1z pick
 cases hs:x.z0i with
 | false=>rfl
 | true =>
  have:=z3v ht f x.z00 (by omega) hx.parts.2.1 (hw hs)
  unfold zm9 at this
  simp only [yh,yf,if_false,this,ya,yb,Bool.false_or]
  rfl
def dnL (x:ED) (first:Nat):Nat→List (List UInt8)→List (List UInt8)
 | _,[]=>[]
 | i,v::r=>(if i=first∧x.zc=2 then [x.zf.head?.getD []] else if !pick x v&&(decide (x.zc=1) || !decide (v=x.zf.head?.getD [])) then [v] else [])++dnL x first (i+1) r
def dn (x:ED) (old:List (List UInt8)):List (List UInt8) × Int :=
 if x.zc=0 then (old++x.zf.filter (fun v => !old.contains v),0) else match x.z0i,old.findIdx? (pick x) with
  | false,_=>(x.zf,0)
  | true,none=>([],192)
  | true,some i=>(dnL x i 0 old,0)
theorem zym {x:ED} {old:List (List UInt8)} (ho:old.length<100000000) (hv:x.zf.length<1000000000):∀ (n i:Nat) (acc:List (List UInt8)),x.zf.length - i=n→i≤x.zf.length→acc.length≤i+old.length→M.z1h x old acc (i:Int)=some (acc++(x.zf.drop i).filter (fun v => !old.contains v)):=by
 intro n
 induction n with
 | zero =>
  intro i acc h1 h2 h3
  have:i=x.zf.length:=by omega
  subst this
  rw [M.z1h]
  simp
 | succ n ih =>
  intro i acc h1 h2 h3
  have hi:i<x.zf.length:=by omega
  rw [M.z1h,z13 hi]
  simp only [show ((i:Int)<(x.zf.length:Int)) by omega,decide_true,if_true,z3d,yk hi,ya,yb,z9j (l:=old) (by omega),List.filter_cons]
  cases hc:old.contains x.zf[i] with
  | true =>
   simp only [yh,yf,if_false]
   rw [w1 (by omega),ih (i+1) acc (by omega) (by omega) (by omega)]
  | false =>
   simp only [yg,if_true]
   rw [z2e (by simp only [ym,yn];omega)]
   simp only [yb]
   rw [w1 (by omega),ih (i+1) _ (by omega) (by omega) (by simp;omega)]
   simp
theorem zyn {x:ED} {old:List (List UInt8)} {f first:Nat} (ho:old.length<100000000) (hov:∀ v∈old,v.length<100000000) (hf:4*x.sz≤f) (hx:z3t x) (hw:x.z0i=true→fm x.z00=true) (hval:x.zc=1∨x.zc=2∧0<x.zf.length):∀ (n i:Nat) (acc:List (List UInt8)),old.length - i=n→i≤old.length→acc.length≤i→M.z1b old (first:Int) x f acc (i:Int)=some (acc++dnL x first i (old.drop i)):=by
 intro n
 induction n with
 | zero =>
  intro i acc h1 h2 h3
  have:i=old.length:=by omega
  subst this
  rw [M.z1b]
  simp [dnL]
 | succ n ih =>
  intro i acc h1 h2 h3
  have hi:i<old.length:=by omega
  have hif:decide ((i:Int)=(first:Int))=decide (i=first):=by rw [decide_eq_decide];omega
  have h0v:x.zc=2→ix x.zf 0=some (x.zf.head?.getD []):=fun hk=>by
   have:0<x.zf.length:=by
    rcases hval with h|h
    ·omega
    ·exact h.2
   rw [zjp]
   cases hvv:x.zf with
   | nil=>rw [hvv] at this;simp at this
   | cons a b=>rfl
  rw [M.z1b,z13 hi]
  simp only [show ((i:Int)<(old.length:Int)) by omega,decide_true,if_true,hif,dnL,z3d,yk hi,ya,yb]
  by_cases hc:i=first∧x.zc=2
  ·have hc':(decide (i=first)&&decide (x.zc=2))=true:=by simp [hc]
   rw [if_pos hc',if_pos hc]
   simp only [h0v hc.2,yb]
   rw [z2e (by simp only [ym,yn];omega)]
   simp only [yb]
   rw [w1 (by omega),ih (i+1) _ (by omega) (by omega) (by simp;omega)]
   simp
  ·have hc':¬(decide (i=first)&&decide (x.zc=2))=true:=by simpa using hc
   rw [if_neg hc',if_neg hc]
   simp only [yb,z8o hf hx (hov _ (yl hi)) hw]
   have hj:(if (!pick x old[i])=true then (if decide (x.zc=1)=true then some true else (ix x.zf 0).bind fun y=>some (!decide (old[i]=y))) else some false:Option Bool)=some (!pick x old[i]&&(decide (x.zc=1) || !decide (old[i]=x.zf.head?.getD []))):=by
    cases pick x old[i] with
    | true=>rfl
    | false =>
     by_cases k1:x.zc=1
     ·simp [k1]
     ·have k2:x.zc=2:=by
       rcases hval with h|h
       ·exact (k1 h).elim
       ·exact h.1
      rw [h0v k2]
      simp [k1]
   rw [hj]
   simp only [yb]
   cases hb:(!pick x old[i]&&(decide (x.zc=1) || !decide (old[i]=x.zf.head?.getD []))) with
   | true =>
    simp only [if_true]
    rw [z2e (by simp only [ym,yn];omega)]
    simp only [yb]
    rw [w1 (by omega),ih (i+1) _ (by omega) (by omega) (by simp;omega)]
    simp
   | false =>
    simp only [yf,if_false]
    rw [w1 (by omega),ih (i+1) _ (by omega) (by omega) (by omega)]
    simp
theorem zgs {x:ED} {old:List (List UInt8)} {f:Nat} (ho:old.length<100000000) (hov:∀ v∈old,v.length<100000000) (hf:4*x.sz≤f) (hx:z3t x) (he:z5o x=true):M.q1m f x old=some (dn x old):=by
 obtain ⟨p1,p2,p3,p4⟩:=hx.parts
 unfold z5o at he
 simp only [yd] at he
 have hek:=he.2
 have hw:x.z0i=true→fm x.z00=true:=fun hs=>by
  have:=he.1.2
  rw [if_pos hs,yd] at this
  exact this.1
 have hcl:∀ l:List (List UInt8),l.length<1000000000→M.z0s l=some l:=fun l hl=>by
  unfold M.z0s
  rw [z30 (by rw [decide_eq_true_iff];omega)]
  rfl
 unfold M.q1m dn
 by_cases k0:x.zc=0
 ·have h1:=zym (x:=x) (old:=old) ho p3 _ 0 old rfl (yo _) (by omega)
  have h1':M.z1h x old old 0=_:=h1
  simp only [k0,decide_true,if_true,hcl old (by omega),ya,yb,h1',yj]
 ·simp only [k0,decide_false,yf,if_false,ya,yb]
  have hk:M.z01 old f x 0=some (match old.findIdx? (pick x) with|some i => .done (i:Int)|none => .go ()):=by
   refine z9a (fun i:Nat=>(i:Int)) () (by omega) (fun i h => ?_) ?_
   ·rw [M.z01]
    simp only [show ((i:Int)<(old.length:Int)) by omega,decide_true,if_true,z3d,yk h,ya,yb,M.q1n,z8o hf hx (hov _ (yl h)) hw]
   ·rw [M.z01]
    simp
  unfold M.q3y
  simp only [hk,ya,yb]
  cases hs:x.z0i with
  | false =>
   simp only [ye,yf,if_false,yg,if_true,hcl x.zf (by omega)]
   cases old.findIdx? (pick x)<;>rfl
  | true =>
   cases hfi:old.findIdx? (pick x) with
   | none=>simp
   | some i =>
    have hval:x.zc=1∨x.zc=2∧0<x.zf.length:=by
     unfold edK at hek
     rw [if_neg k0] at hek
     by_cases k1:x.zc=1
     ·exact .inl k1
     ·rw [if_neg k1] at hek
      by_cases k2:x.zc=2
      ·rw [if_pos k2] at hek
       simp only [yd,decide_eq_true_eq] at hek
       exact .inr ⟨k2,hek.1⟩
      ·rw [if_neg k2] at hek;cases hek
    have h2:=zyn (first:=i) ho hov hf hx hw hval _ 0 [] rfl (yo _) (yo _)
    have h2':M.z1b old (i:Int) x f [] 0=_:=h2
    have hneg:¬((i:Int)<0):=by omega
    simp [hneg,h2']
end Go.Sen
end
section
namespace Go.Sen
open _root_.Option renaming bind_eq_bind → ya, bind_some → yb
open _root_.Bool renaming false_eq_true → yc
open _root_.List renaming getElem?_cons_succ → yd, getElem?_cons_zero → ye, length_cons → yf, length_nil → yg
open IntKind renaming wrap → yh
open Go.Lk Go.Pe
theorem zqj {ks:List (List UInt8)} {k:List UInt8} (hl:ks.length<1152921504606846976):∀ (n i:Nat),ks.length - i=n→i≤ks.length →
  M.z02 ks k (i:Int)=some (match (ks.drop i).findIdx? (fun x=>decide (k=x)) with|some j => .done ((i+j:Nat):Int)|none => .go ()):=by
 intro n
 induction n with
 | zero =>
  intro i hn hi
  rw [M.z02.eq_1]
  have:¬((i:Int)<(ks.length:Int)):=by omega
  rw [if_neg (by simpa using this),List.drop_eq_nil_of_le (by omega)]
  rfl
 | succ n ih =>
  intro i hn hi
  have hlt:i<ks.length:=by omega
  rw [M.z02.eq_1]
  have h1:((i:Int)<(ks.length:Int)):=by omega
  simp only [h1,decide_true,if_true,z3d,List.getElem?_eq_getElem hlt,ya,yb]
  rw [w1 (by omega),ih (i+1) (by omega) (by omega),List.drop_eq_getElem_cons hlt,List.findIdx?_cons]
  by_cases h:k=ks[i]
  ·simp [h]
  ·simp only [h,decide_false,yc,if_false]
   cases (ks.drop (i+1)).findIdx? (fun x=>decide (k=x)) with
   | none=>rfl
   | some j=>simp only [Option.map_some];congr 3;omega
theorem zjo {ks:List (List UInt8)} {k:List UInt8} (hl:ks.length<1152921504606846976):M.q43 ks k=some (match ks.findIdx? (fun x=>decide (k=x)) with|some j=>(j:Int)|none => -1):=by
 unfold M.q43
 have h:=zqj (k:=k) hl _ 0 rfl (Nat.zero_le _)
 have h:M.z02 ks k 0=_:=h
 rw [h,List.drop_zero]
 cases ks.findIdx? (fun x=>decide (k=x)) with
 | none=>rfl
 | some j=>simp
theorem contains_eq {ks:List (List UInt8)} {k:List UInt8} (hl:ks.length<1152921504606846976):M.q3n ks k=some (decide (k∈ks)):=by
 unfold M.q3n
 rw [zjo hl]
 simp only [ya,yb,Option.some.injEq]
 cases h:ks.findIdx? (fun x=>decide (k=x)) with
 | none =>
  rw [List.findIdx?_eq_none_iff] at h
  have:¬k∈ks:=fun hm=>by simpa using h k hm
  simp [this]
 | some j =>
  have h2:=List.findIdx?_eq_some_iff_getElem.1 h
  obtain ⟨hj,h3,_⟩:=h2
  have:k∈ks:=by simp at h3;rw [h3];exact List.getElem_mem hj
  simp [this]
abbrev J:=q03
abbrev Rd:=Rs (J × List UInt8)
def zqp (s:List UInt8) (ks:List (List UInt8)):Rs (List UInt8 × List (List UInt8)) :=
 match text s with
 | none => .pan 20
 | some (k,r)=>if k∈ks then .pan 20 else match take (z2w r) [58] with
  | none => .pan 20
  | some r2 => .ok (r2,ks++[k])
def items (vf:List UInt8→Rd) (o:Bool) (e:UInt8):Nat→List UInt8→List J→List (List UInt8)→Rd
 | 0,_,_,_ => .pan 20
 | f+1,s,l,ks=>match (if o=true then zqp s ks else .ok (s,ks)) with
  | .pan c => .pan c
  | .ok (s1,ks1)=>match vf s1 with
   | .pan c => .pan c
   | .ok (x,s2)=>match take s2 [e] with
    | some r => .ok (⟨if o=true then 6 else 5,[],l++[x],ks1⟩,r)
    | none=>match take s2 [44] with
     | none => .pan 20
     | some r=>items vf o e f r (l++[x]) ks1
def nest (vf:List UInt8→Rd) (o:Bool) (w:Nat) (s:List UInt8):Rd :=
 if 16≤w then .pan 21 else match take s [if o=true then 125 else 93] with
  | some r => .ok (⟨if o=true then 6 else 5,[],[],[]⟩,r)
  | none=>items vf o (if o=true then 125 else 93) (s.length+1) s [] []
def word (s:List UInt8):Rd :=
 match take s [110,117,108,108] with
 | some r => .ok (⟨0,[],[],[]⟩,r)
 | none=>match take s [102,97,108,115,101] with
  | some r => .ok (⟨1,[],[],[]⟩,r)
  | none=>match take s [116,114,117,101] with
   | some r => .ok (⟨2,[],[],[]⟩,r)
   | none=>if num s=0 then .pan 20 else .ok (⟨3,s.take (num s),[],[]⟩,z2w (s.drop (num s)))
def val:Nat→List UInt8→Nat→Rd
 | 0,_,_ => .pan 20
 | f+1,s,w=>match text s with
  | some (t,r) => .ok (⟨4,t,[],[]⟩,z2w r)
  | none=>if s.head? = some 34 then .pan 20 else match take s [91] with
   | some r=>nest (fun s=>val f s (w+1)) false w r
   | none=>match take s [123] with
    | some r=>nest (fun s=>val f s (w+1)) true w r
    | none=>word s
def cv (x:J × List UInt8):J × q05:=(x.1,⟨x.2⟩)
def mRs {α β:Type} (f:α→β):Rs α→Rs β
 | .ok a => .ok (f a)
 | .pan c => .pan c
theorem zqq {s:List UInt8} {ks:List (List UInt8)} {r:List UInt8} {ks2:List (List UInt8)} (h:zqp s ks = .ok (r,ks2)):r.length+3≤s.length∧ks2.length=ks.length+1:=by
 unfold zqp at h
 split at h
 ·cases h
 ·rename_i k r1 ht
  have h1:=z8s ht
  split at h
  ·cases h
  ·split at h
   ·cases h
   ·rename_i r2 ht2
    have h2:=take_len ht2
    have h3:=z2b r1
    cases h
    simp only [yf,yg] at h2
    exact ⟨by omega,by simp⟩
theorem zni {vf:List UInt8→Rd} {o:Bool} {e:UInt8} (hv:∀ s x r,vf s = .ok (x,r)→r.length+1≤s.length):∀ (f:Nat) (s:List UInt8) (l:List J) (ks:List (List UInt8)) (x:J) (r:List UInt8),items vf o e f s l ks = .ok (x,r)→r.length+1≤s.length:=by
 intro f
 induction f with
 | zero=>intro s l ks x r h;simp [items] at h
 | succ f ih =>
  intro s l ks x r h
  rw [items] at h
  split at h
  ·cases h
  ·rename_i s1 ks1 hk
   have h1:s1.length≤s.length:=by
    split at hk
    ·have:=zqq hk;omega
    ·cases hk;omega
   split at h
   ·cases h
   ·rename_i x2 s2 hx
    have h2:=hv _ _ _ hx
    split at h
    ·rename_i r2 ht
     have h3:=take_len ht
     cases h
     omega
    ·split at h
     ·cases h
     ·rename_i r2 ht
      have h3:=take_len ht
      have h4:=ih _ _ _ _ _ h
      omega
theorem zjw {vf:List UInt8→Rd} {o:Bool} {w:Nat} (hv:∀ s x r,vf s = .ok (x,r)→r.length+1≤s.length) {s r:List UInt8} {x:J} (h:nest vf o w s = .ok (x,r)):r.length+1≤s.length:=by
 unfold nest at h
 split at h
 ·cases h
 ·split at h
  ·rename_i r2 ht
   have:=take_len ht
   cases h
   simp only [yf,yg] at this
   omega
  ·exact zni hv _ _ _ _ _ _ h
theorem zkk {s r:List UInt8} {x:J} (h:word s = .ok (x,r)):r.length+1≤s.length:=by
 unfold word at h
 split at h
 ·rename_i r2 ht
  have:=take_len ht
  cases h
  simp only [yf,yg] at this
  omega
 ·split at h
  ·rename_i r2 ht
   have:=take_len ht
   cases h
   simp only [yf,yg] at this
   omega
  ·split at h
   ·rename_i r2 ht
    have:=take_len ht
    cases h
    simp only [yf,yg] at this
    omega
   ·split at h
    ·cases h
    ·rename_i hn
     cases h
     have h1:=z2b (s.drop (num s))
     have h2:=zk1 s
     rw [List.length_drop] at h1
     omega
theorem zv2:∀ (f:Nat) (s:List UInt8) (w:Nat) (x:J) (r:List UInt8),val f s w = .ok (x,r)→r.length+1≤s.length:=by
 intro f
 induction f with
 | zero=>intro s w x r h;simp [val] at h
 | succ f ih =>
  intro s w x r h
  rw [val] at h
  split at h
  ·rename_i t r2 ht
   have h1:=z8s ht
   have h2:=z2b r2
   cases h
   omega
  ·split at h
   ·cases h
   ·split at h
    ·rename_i r2 ht
     have h1:=take_len ht
     have h2:=zjw (fun s x r=>ih s (w+1) x r) h
     omega
    ·split at h
     ·rename_i r2 ht
      have h1:=take_len ht
      have h2:=zjw (fun s x r=>ih s (w+1) x r) h
      omega
     ·exact zkk h
theorem zv7 (s:List UInt8):M.z0a 0 s=some (match take s [110,117,108,108] with
  | some r => .done (.ok (⟨0,[],[],[]⟩,⟨r⟩))
  | none=>match take s [102,97,108,115,101] with
   | some r => .done (.ok (⟨1,[],[],[]⟩,⟨r⟩))
   | none=>match take s [116,114,117,101] with
    | some r => .done (.ok (⟨2,[],[],[]⟩,⟨r⟩))
    | none => .go s):=by
 have e0:yh .i64 (0+1)=1:=by decide
 have e1:yh .i64 (1+1)=2:=by decide
 have e2:yh .i64 (2+1)=3:=by decide
 have i2:∀ {α:Type} (l:List α),ix l 2=l[2]?:=fun l=>by simp [ix]
 rw [M.z0a.eq_1]
 have h0:(0:Int)<3:=by decide
 have h1:(1:Int)<3:=by decide
 have h2:(2:Int)<3:=by decide
 simp only [yf,yg,zjp,ye,ya,yb,z10,e0]
 rw [if_pos (by decide)]
 cases take s [110,117,108,108] with
 | some r=>rfl
 | none =>
  simp only [yc,if_false]
  rw [M.z0a.eq_1]
  simp only [yf,yg,zxu,ye,yd,ya,yb,z10,e1]
  rw [if_pos (by decide)]
  cases take s [102,97,108,115,101] with
  | some r=>rfl
  | none =>
   simp only [yc,if_false]
   rw [M.z0a.eq_1]
   simp only [yf,yg,i2,ye,yd,ya,yb,z10,e2]
   rw [if_pos (by decide)]
   cases take s [116,114,117,101] with
   | some r=>rfl
   | none =>
    simp only [yc,if_false]
    rw [M.z0a.eq_1]
    rw [if_neg (by decide)]
theorem zo5 {o:Bool} {w:Nat} (hw:w≤16) {self:q05→Int→Option (Rs (J × q05))} {vf:List UInt8→Rd} {N:Nat} (hN:N<900000000)
  (hs:∀ s:List UInt8,s.length≤N→self ⟨s⟩ ((w+1:Nat):Int)=some (mRs cv (vf s))) (hv:∀ s x r,vf s = .ok (x,r)→r.length+1≤s.length) :
  ∀ (f:Nat) (s:List UInt8) (l:List J) (ks:List (List UInt8)),s.length<f→s.length≤N→l.length+s.length≤N→ks.length+s.length≤N →
  M.z0e (if o=true then 6 else 5) self (w:Int) [if o=true then 125 else 93] s l ks=some (mRs cv (items vf o (if o=true then 125 else 93) f s l ks)):=by
 intro f
 induction f with
 | zero=>intro s l ks h;omega
 | succ f ih =>
  intro s l ks hf hn hl hk
  rw [M.z0e.eq_1,items]
  have step:∀ (s1:List UInt8) (ks1:List (List UInt8)),s1.length≤s.length→ks1.length+s1.length≤N→(do
    let a_209←self (q05.mk s1) (yh .i64 ((w:Int)+1))
    match a_209 with
    | .pan e_212=>some (.pan e_212)
    | .ok a_211 =>
     let l_213←app 72 l [(q03.mk a_211.1.zc a_211.1.z0q a_211.1.zh a_211.1.z0m)]
     let a_214←M.q0u a_211.2 [if o=true then 125 else 93]
     if a_214.1 then
      some (.ok ((q03.mk (if o=true then 6 else 5) ([]:List UInt8) l_213 ks1),a_214.2))
     else
      let a_216←M.q0u a_214.2 ([44]:List UInt8)
      let a_218←M.q0o a_216.1 20
      match a_218 with
      | .pan e_221=>some (.pan e_221)
      | .ok a_220=>M.z0e (if o=true then 6 else 5) self (w:Int) [if o=true then 125 else 93] a_216.2.gs l_213 ks1:Option (Rs (J × q05)))=some (mRs cv (match vf s1 with
   | .pan c => .pan c
   | .ok (x,s2)=>match take s2 [if o=true then 125 else 93] with
    | some r => .ok (⟨if o=true then 6 else 5,[],l++[x],ks1⟩,r)
    | none=>match take s2 [44] with
     | none => .pan 20
     | some r=>items vf o (if o=true then 125 else 93) f r (l++[x]) ks1)):=by
   intro s1 ks1 h1 h2
   rw [w1 (by omega),hs s1 (by omega)]
   simp only [ya,yb]
   cases hx:vf s1 with
   | pan c=>rfl
   | ok p =>
    obtain ⟨x,s2⟩:=p
    have h3:=hv _ _ _ hx
    have je:∀ y:J,(q03.mk y.zc y.z0q y.zh y.z0m)=y:=fun y=>by cases y;rfl
    simp only [mRs,cv,je]
    rw [z2e (by simp only [yf,yg];omega),z10]
    simp only [yb]
    cases ht:take s2 [if o=true then 125 else 93] with
    | some r=>simp
    | none =>
     simp only [yc,if_false]
     rw [z10]
     simp only [yb]
     cases ht2:take s2 [44] with
     | none=>simp [z1l]
     | some r =>
      have h4:=take_len ht2
      simp only [yf,yg] at h4
      simp only [zgn,yb]
      rw [ih r _ ks1 (by omega) (by omega) (by simp;omega) (by omega)]
      rfl
  cases o with
  | false =>
   have st:=step s ks (Nat.le_refl _) hk
   simp only [yc,if_false,ya] at st ⊢
   have e5:decide ((5:Int)=6)=false:=by decide
   simp only [e5,yc,if_false,yb]
   exact st
  | true =>
   simp only [if_true,ya] at step ⊢
   simp only [decide_true,if_true]
   rw [z9q _ (by omega)]
   simp only [yb]
   unfold zqp
   cases ht:text s with
   | none=>rfl
   | some p =>
    obtain ⟨k,r⟩:=p
    have h1:=z8s ht
    have h2:=z2b r
    simp only [oRs]
    rw [contains_eq (by omega)]
    simp only [yb]
    by_cases hm:k∈ks
    ·simp [hm,z1l,mRs]
    ·simp only [hm,decide_false,Bool.not_false,if_true,if_false]
     rw [z10]
     simp only [yb]
     cases ht2:take (z2w r) [58] with
     | none=>simp [z1l,mRs]
     | some r2 =>
      have h3:=take_len ht2
      simp only [yf,yg] at h3
      simp only [zgn,yb]
      rw [z2e (by simp only [yf,yg];omega)]
      simp only [yb]
      exact step r2 (ks++[k]) (by omega) (by simp;omega)
theorem zec {N:Nat} (hN:N<900000000):∀ (f F:Nat) (s:List UInt8) (w:Nat),w≤16→17≤f+w→2*f≤F→s.length≤N→M.q0x F ⟨s⟩ (w:Int)=some (mRs cv (val f s w)):=by
 intro f
 induction f with
 | zero=>intro F s w h1 h2;omega
 | succ f ih =>
  intro F s w hw hf hF hn
  obtain ⟨F',rfl⟩:∃ F',F=F'+2:=⟨F - 2,by omega⟩
  rw [M.q0x,val]
  rw [z1t,z4h]
  simp only [ya,yb]
  by_cases h34:s.head? = some 34
  ·simp only [h34,decide_true,if_true]
   rw [z9q _ (by omega)]
   simp only [yb]
   cases text s with
   | none=>rfl
   | some p=>rfl
  ·have ht:text s=none:=by
    unfold text
    cases s with
    | nil=>rfl
    | cons c r=>simp at h34;simp [h34]
   simp only [h34,decide_false,yc,if_false,ht]
   have nes:∀ (o:Bool) (r:List UInt8),r.length≤N→M.q0t (F'+1) ⟨r⟩ (if o=true then 6 else 5) (w:Int) [if o=true then 125 else 93]=some (mRs cv (nest (fun s=>val f s (w+1)) o w r)):=by
    intro o r hr
    rw [M.q0t]
    unfold nest
    by_cases h16:16≤w
    ·have:¬((w:Int)<16):=by omega
     simp [this,h16,z1l,mRs]
    ·have:((w:Int)<16):=by omega
     simp only [this,decide_true,zgn,ya,yb,h16,if_false,z10]
     cases hk:take r [if o=true then 125 else 93] with
     | some r2=>rfl
     | none =>
      simp only [yc,if_false]
      exact zo5 (o:=o) (w:=w) hw hN (fun s hs=>ih F' s (w+1) (by omega) (by omega) (by omega) hs) (fun s x r=>zv2 f s (w+1) x r) (r.length+1) r [] [] (by omega) hr (by simp;omega) (by simp;omega)
   rw [z10]
   simp only [yb]
   cases h91:take s [91] with
   | some r =>
    have hl:=take_len h91
    have hq:=nes false r (by simp at hl;omega)
    simp only [yc,if_false] at hq
    simp only [if_true,hq,yb]
    cases nest (fun s=>val f s (w+1)) false w r with
    | ok p=>rfl
    | pan c=>rfl
   | none =>
    simp only [yc,if_false,z10,yb]
    cases h123:take s [123] with
    | some r =>
     have hl:=take_len h123
     have hq:=nes true r (by simp at hl;omega)
     simp only [if_true] at hq
     simp only [if_true,hq,yb]
     cases nest (fun s=>val f s (w+1)) true w r with
     | ok p=>rfl
     | pan c=>rfl
    | none =>
     simp only [yc,if_false,zv7,yb]
     unfold word
     cases take s [110,117,108,108] with
     | some r=>rfl
     | none =>
      simp only
      cases take s [102,97,108,115,101] with
      | some r=>rfl
      | none =>
       simp only
       cases take s [116,114,117,101] with
       | some r=>rfl
       | none =>
        simp only
        rw [z73 (by omega)]
        simp only [yb]
        by_cases hz:num s=0
        ·simp [hz,z1l,mRs]
        ·have hp:(0:Int)<(num s:Int):=by omega
         have hl:=zk1 s
         have hd:take s (s.take (num s))=some (z2w (s.drop (num s))):=by
          unfold take
          have hpre:(s.take (num s)).isPrefixOf s=true:=by rw [List.isPrefixOf_iff_prefix];exact List.take_prefix _ _
          have hlen:(s.take (num s)).length=num s:=by rw [List.length_take];omega
          rw [if_pos hpre,hlen]
         simp only [hp,decide_true,zgn,yb,zit hl,z10,hd,hz,if_false]
         rfl
def parse (s:List UInt8):J × Int:=if 16384<s.length then (⟨0,[],[],[]⟩,22) else match val 17 (z2w s) 0 with
 | .pan c=>(⟨0,[],[],[]⟩,c)
 | .ok (x,r)=>if r=[] then (x,0) else (⟨0,[],[],[]⟩,20)
theorem z8e (s:List UInt8) {f:Nat} (hf:34≤f):M.q0h f s=some (parse s):=by
 unfold M.q0h parse
 by_cases hl:16384<s.length
 ·have:(16384:Int)<(s.length:Int):=by omega
  simp [hl,this]
 ·have:¬(16384:Int)<(s.length:Int):=by omega
  have hb:=z2b s
  have hq:=zec (N:=16384) (by omega) 17 f (z2w s) 0 (by omega) (by omega) (by omega) (by omega)
  have hq:M.q0x f ⟨z2w s⟩ 0=_:=hq
  simp only [this,decide_false,yc,if_false,hl,z71,ya,yb,hq]
  cases val 17 (z2w s) 0 with
  | pan c=>rfl
  | ok p =>
   obtain ⟨x,r⟩:=p
   simp only [mRs,cv]
   by_cases hr:r=[]
   ·simp [hr,z1l]
   ·simp [hr,z1l]
end Go.Sen
end
