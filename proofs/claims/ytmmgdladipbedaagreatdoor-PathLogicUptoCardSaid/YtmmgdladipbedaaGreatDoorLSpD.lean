import Derived.Test.YtmmgdladipbedaaGreatDoorLSpB
import Derived.Test.YtmmgdladipbedaaGreatDoorLPaShelf2
set_option linter.all false
section
namespace Go.Sen
open _root_.Option renaming bind_eq_bind → ya, bind_some → yb
open _root_.Bool renaming false_eq_true → yc
open _root_.List renaming getElem?_eq_getElem → yd, getElem_mem → ye, isSuffixOf_iff_suffix → yf, mem_singleton → yg
open IntKind renaming wrap → yh
open Go.Lk Go.Pe
abbrev TH:=q04
def q02.sz (f:q02):Nat:=f.zk.length+kys f.zt+1
def q04.sz (t:TH):Nat:=t.gId.length+t.zb.length+t.z68.length+(t.zl.map (·.sz)).sum+1
def z3d (t:TH):Prop:=t.sz<1000000000
theorem zds {α:Type} {g:α→Nat}:∀ {l:List α} {x:α},x∈l→g x≤(l.map g).sum
 | y::l,x,h=>by
  simp only [List.map_cons,List.sum_cons]
  rcases List.mem_cons.1 h with rfl|h
  ·omega
  ·have:=zds (g:=g) h;omega
theorem zdr {α:Type} {g:α→Nat} (hg:∀ x,1≤g x):∀ l:List α,l.length≤(l.map g).sum
 | []=>by simp
 | x::l=>by
  have:=zdr hg l
  have:=hg x
  simp only [List.map_cons,List.sum_cons,List.length_cons]
  omega
theorem z3d.parts {t:TH} (h:z3d t):t.zl.length<1000000000∧t.gId.length<1000000000∧t.z68.length<1000000000∧∀ f∈t.zl,f.zk.length<1000000000∧f.zt.length<1000000000∧∀ v∈f.zt,v.length<1000000000:=by
 unfold z3d q04.sz at h
 have h1:=zdr (g:=fun f:q02=>f.sz) (fun f=>by unfold q02.sz;omega) t.zl
 refine ⟨by omega,by omega,by omega,fun f hf => ?_⟩
 have h2:=zds (g:=fun f:q02=>f.sz) hf
 have e2:f.sz=f.zk.length+kys f.zt+1:=rfl
 simp only [e2] at h2
 have h3:=z4l f.zt
 refine ⟨by omega,by omega,fun v hv => ?_⟩
 have:=zd9 hv
 omega
def znj (t:TH) (n:List UInt8):List (List UInt8):=if n=[105,100] then [t.gId] else if n=[116,97,103] then [t.z68] else match t.zl.find? (fun f=>decide (f.zk=n)) with
 | some f=>f.zt
 | none=>[]
theorem za2 {α:Type} (p:α→Bool):∀ l:List α,l.find? p=(l.findIdx? p).bind fun i=>l[i]?
 | []=>rfl
 | x::l=>by
  rw [List.find?_cons,List.findIdx?_cons]
  cases h:p x with
  | true=>simp
  | false =>
   simp only [yc,if_false]
   rw [za2 p l]
   cases l.findIdx? p<;>simp
theorem zjn {α:Type} {p:α→Bool} {l:List α} {i:Nat} (h:l.findIdx? p=some i):∃ hi:i<l.length,p l[i]=true:=by
 rw [List.findIdx?_eq_some_iff_getElem] at h
 obtain ⟨h1,h2,_⟩:=h
 exact ⟨h1,h2⟩
theorem zbf {t:TH} {n:List UInt8} (hl:t.zl.length<1000000000):M.q2s t n=some (znj t n):=by
 unfold M.q2s znj
 by_cases h1:n=[105,100]
 ·simp [h1]
 ·by_cases h2:n=[116,97,103]
  ·simp [h2]
  ·have hk:M.zq t.zl n 0=some (match t.zl.findIdx? (fun f=>decide (f.zk=n)) with|some i => .done (i:Int)|none => .go ()):=by
    refine zfi (fun i:Nat=>(i:Int)) () (by omega) (fun i h => ?_) ?_
    ·rw [M.zq]
     simp [show ((i:Int)<(t.zl.length:Int)) by omega,z48,h,M.q2t]
    ·rw [M.zq]
     simp
   unfold M.q5a
   rw [hk,za2]
   simp only [h1,h2,decide_false,yc,if_false]
   cases h:t.zl.findIdx? (fun f=>decide (f.zk=n)) with
   | none=>simp
   | some i =>
    obtain ⟨hi,_⟩:=zjn h
    simp [z48,hi]
def fits (k:Int) (v w:List UInt8):Bool :=
 if k=3 then !decide (v=[]) else if k=4∨k=5 then decide (v=w) else if k=6 then Lib.contains v w else if k=7 then w.isPrefixOf v else if k=8 then w.isSuffixOf v else
 if k=9 then !(slt v w||decide (v=w)) else if k=10 then !slt v w else if k=11 then slt v w else slt v w||decide (v=w)
theorem zp6 {s p:List UInt8} (h:p.length≤s.length):decide (s.drop (s.length - p.length)=p)=p.isSuffixOf s:=by
 rw [Bool.eq_iff_iff,decide_eq_true_iff,yf,List.suffix_iff_eq_drop]
 exact ⟨fun h=>h.symm,fun h=>h.symm⟩
theorem zru {s p:List UInt8} (h:¬p.length≤s.length):p.isSuffixOf s=false:=by
 rw [Bool.eq_false_iff,Ne,yf]
 exact fun hs=>h hs.length_le
theorem zqq {s p:List UInt8} (hs:s.length<1152921504606846976):(do
  let j_3←(do
   if (decide ((p.length:Int)≤(s.length:Int))) then
    let s_4←sub s (yh .i64 ((s.length:Int) - (p.length:Int))) (s.length:Int)
    some (decide (s_4=p))
   else some false:Option Bool)
  some j_3)=some (p.isSuffixOf s):=by
 by_cases h:p.length≤s.length
 ·have h':(p.length:Int)≤(s.length:Int):=by omega
  have e:yh .i64 ((s.length:Int) - (p.length:Int))=((s.length - p.length:Nat):Int):=by rw [w64]<;>omega
  simp only [h',decide_true,if_true,e,z9c (l:=s) (a:=s.length - p.length) (by omega),ya,yb,zp6 h]
 ·have h':¬(p.length:Int)≤(s.length:Int):=by omega
  simp [h',zru h]
theorem z8t {s p:List UInt8} (hs:s.length<1152921504606846976):M.q5r s p=some (p.isSuffixOf s):=by
 have:=zqq (p:=p) hs
 unfold M.q5r M.q0h
 rw [this]
 rfl
theorem zb8 {v w:List UInt8} (hv:v.length<1000000000):M.contains v w=some (Lib.contains v w):=by
 unfold M.contains
 rw [z2g (by simp;omega)]
 rfl
theorem zjs {e:EX} (h1:3<e.zb) (h2:e.zb<13):∃ c:q06,(do let a←M.q1s;ix a (yh .i64 (e.zb - 4)))=some c∧∀ v:List UInt8,v.length<1000000000→M.q27 v c.zjp e=some (fits e.zb v e.z03):=by
 have:e.zb=4∨e.zb=5∨e.zb=6∨e.zb=7∨e.zb=8∨e.zb=9∨e.zb=10∨e.zb=11∨e.zb=12:=by omega
 rcases this with h|h|h|h|h|h|h|h|h<;>rw [h]<;>refine ⟨_,rfl,fun v hv => ?_⟩ <;>
  simp [M.q27,M.q0b,fits,M.q1t,M.q1u,M.q1v,M.q1w,M.q1x,zb8 hv,z1s,z8t (s:=v) (by omega),F.q1t,F.strings_Contains,F.q5q,F.q5r,F.q1u,F.q1v,F.q1w,F.q1x]
mutual
def hdE (t:TH):EX→Bool
 | ⟨k,n,v,l⟩=>if k=0 then (zqu t l).all id else if k=1 then (zqu t l).any id else if k=2 then !((zqu t l).head?.getD false) else if k=3 then (znj t n).any (fun x => !decide (x=[])) else !((znj t n).any (fun x=>fits k x v)==decide (k=5))
def zqu (t:TH):List EX→List Bool
 | []=>[]
 | x::xs=>hdE t x::zqu t xs
end
theorem zi7 (t:TH):∀ l,zqu t l=l.map (hdE t)
 | []=>by simp [zqu]
 | x::l=>by simp [zqu,zi7 t l]
theorem zc1 (t:TH) (e:EX):hdE t e=if e.zb=0 then e.zc.all (hdE t) else if e.zb=1 then e.zc.any (hdE t) else if e.zb=2 then !((e.zc.map (hdE t)).head?.getD false) else if e.zb=3 then (znj t e.zk).any (fun x => !decide (x=[])) else !((znj t e.zk).any (fun x=>fits e.zb x e.z03)==decide (e.zb=5)):=by
 cases e
 simp [hdE,zi7,List.all_map,List.any_map,Function.comp_def]
theorem zkh {t:TH} (ht:z3d t) (n:List UInt8):(znj t n).length<1000000000∧∀ v∈znj t n,v.length<1000000000:=by
 obtain ⟨h1,h2,h3,h4⟩:=ht.parts
 unfold znj
 split
 ·exact ⟨by simp,fun v hv=>by rw [yg] at hv;rw [hv];exact h2⟩
 ·split
  ·exact ⟨by simp,fun v hv=>by rw [yg] at hv;rw [hv];exact h3⟩
  ·split
   ·rename_i f hf
    exact (h4 f (List.mem_of_find?_eq_some hf)).2
   ·simp
theorem zqw {l:List (List UInt8)} (hl:l.length<1000000000):M.q4x l=some (l.any fun x => !decide (x=[])):=by
 have hk:M.zy l 0=some (match l.findIdx? (fun x => !decide (x=[])) with|some i => .done (i:Int)|none => .go ()):=by
  refine zfi (fun i:Nat=>(i:Int)) () (by omega) (fun i h => ?_) ?_
  ·rw [M.zy]
   simp [show ((i:Int)<(l.length:Int)) by omega,z48,h,M.q26]
  ·rw [M.zy]
   simp
 unfold M.q4x M.q5f
 rw [hk]
 rcases z5q l (fun x => !decide (x=[])) with ⟨h1,h2⟩|⟨i,h1,h2⟩
 ·rw [h1,h2];rfl
 ·rw [h1,h2];simp
theorem zqx {l:List (List UInt8)} {e:EX} {c:Nat} (hl:l.length<1000000000) (hs:∀ v∈l,M.q27 v c e=some (fits e.zb v e.z03)):M.q4y l c e=some (l.any fun x=>fits e.zb x e.z03):=by
 have hk:M.z00 l c e 0=some (match l.findIdx? (fun x=>fits e.zb x e.z03) with|some i => .done (i:Int)|none => .go ()):=by
  refine zfi (fun i:Nat=>(i:Int)) () (by omega) (fun i h => ?_) ?_
  ·rw [M.z00]
   simp only [show ((i:Int)<(l.length:Int)) by omega,decide_true,if_true,z48,yd h,ya,yb,hs _ (ye h)]
  ·rw [M.z00]
   simp
 unfold M.q4y M.q5g
 rw [hk]
 rcases z5q l (fun x=>fits e.zb x e.z03) with ⟨h1,h2⟩|⟨i,h1,h2⟩
 ·rw [h1,h2];rfl
 ·rw [h1,h2];simp
theorem z38 {t:TH} (ht:z3d t):∀ (f:Nat) (e:EX),4*e.sz≤f→z0n e→fm e=true→M.q23 f e t=some (hdE t e)
 | 0,e,hf,_,_=>by have:=e.z1k;omega
 | f+1,e,hf,hs,hfm=>by
  have hz:=e.z1k
  have hs':=hs
  unfold z0n at hs'
  have hlen:=z4i e.zc
  have hkk:=zcz hfm
  have hv:=zkh ht e.zk
  have hval:=zbf (t:=t) (n:=e.zk) ht.parts.1
  have h2:∀ g,4*ezs e.zc+1≤g→g≤f→∀ x∈e.zc,M.q25 g x t=some (!hdE t x,t):=fun g hg hgf x hx=>by
   have hm:=z2a hx
   match g,hg,hgf with
   | g+1,hg,hgf =>
    unfold M.q25
    rw [z38 ht g x (by omega) (hs.mem hx) (zby hfm hx)]
    rfl
  have h1:∀ g,4*ezs e.zc+1≤g→g≤f→∀ x∈e.zc,M.q24 g x t=some (hdE t x,t):=fun g hg hgf x hx=>by
   have hm:=z2a hx
   match g,hg,hgf with
   | g+1,hg,hgf =>
    unfold M.q24
    rw [z38 ht g x (by omega) (hs.mem hx) (zby hfm hx)]
    rfl
  unfold M.q23
  rw [zc1]
  by_cases k0:e.zb=0
  ·have:M.q4u f e.zc t=some (e.zc.any (fun x => !hdE t x),t):=by
    match f,hf with
    | g+2,hf =>
     have hk:M.zj e.zc (M.q25 g) 0 t.gId t.zb t.z68 t.zl=some (match e.zc.findIdx? (fun x => !hdE t x) with|some i => .done ((i:Int),t)|none => .go (t.gId,t.zb,t.z68,t.zl)):=by
      refine zfi (F:=fun i=>M.zj e.zc (M.q25 g) i t.gId t.zb t.z68 t.zl) (fun i:Nat=>((i:Int),t)) (t.gId,t.zb,t.z68,t.zl) (by omega) (fun i h => ?_) ?_
      ·show M.zj e.zc (M.q25 g) i t.gId t.zb t.z68 t.zl=_
       rw [M.zj]
       simp only [show ((i:Int)<(e.zc.length:Int)) by omega,decide_true,if_true,z48,yd h,ya,yb,show (q04.mk t.gId t.zb t.z68 t.zl)=t from rfl,h2 g (by omega) (by omega) _ (ye h)]
      ·show M.zj e.zc (M.q25 g) _ t.gId t.zb t.z68 t.zl=_
       rw [M.zj]
       simp
     unfold M.q4u M.q59
     rw [hk]
     rcases z5q e.zc (fun x => !hdE t x) with ⟨h1,h2⟩|⟨i,h1,h2⟩
     ·rw [h1,h2];rfl
     ·rw [h1,h2];simp
    | 0,hf=>omega
    | 1,hf=>omega
   simp only [k0,decide_true,if_true,this,ya,yb]
   rw [List.all_eq_not_any_not]
  by_cases k1:e.zb=1
  ·have:M.q4t f e.zc t=some (e.zc.any (fun x=>hdE t x),t):=by
    match f,hf with
    | g+2,hf =>
     have hk:M.zi e.zc (M.q24 g) 0 t.gId t.zb t.z68 t.zl=some (match e.zc.findIdx? (fun x=>hdE t x) with|some i => .done ((i:Int),t)|none => .go (t.gId,t.zb,t.z68,t.zl)):=by
      refine zfi (F:=fun i=>M.zi e.zc (M.q24 g) i t.gId t.zb t.z68 t.zl) (fun i:Nat=>((i:Int),t)) (t.gId,t.zb,t.z68,t.zl) (by omega) (fun i h => ?_) ?_
      ·show M.zi e.zc (M.q24 g) i t.gId t.zb t.z68 t.zl=_
       rw [M.zi]
       simp only [show ((i:Int)<(e.zc.length:Int)) by omega,decide_true,if_true,z48,yd h,ya,yb,show (q04.mk t.gId t.zb t.z68 t.zl)=t from rfl,h1 g (by omega) (by omega) _ (ye h)]
      ·show M.zi e.zc (M.q24 g) _ t.gId t.zb t.z68 t.zl=_
       rw [M.zi]
       simp
     unfold M.q4t M.q58
     rw [hk]
     rcases z5q e.zc (fun x=>hdE t x) with ⟨h1,h2⟩|⟨i,h1,h2⟩
     ·rw [h1,h2];rfl
     ·rw [h1,h2];simp
    | 0,hf=>omega
    | 1,hf=>omega
   simp only [k0,k1,decide_true,decide_false,yc,if_false,if_true,this,ya,yb,show ((1:Int)=0)=False from by decide]
  by_cases k2:e.zb=2
  ·obtain ⟨x,hx,_,_,_⟩:=zi6 hfm k2
   have hxm:x∈e.zc:=by rw [hx];exact yg.2 rfl
   have hm:=z2a hxm
   have:=x.z1k
   simp only [k2,decide_true,if_true,hx,zkj,List.getElem?_cons_zero,ya,yb,h2 f (by omega) (Nat.le_refl _) x hxm]
   simp
  by_cases k3:e.zb=3
  ·simp only [k3,decide_true,if_true,hval,ya,yb,zqw hv.1]
   simp
  ·obtain ⟨c,hc1,hc2⟩:=zjs (e:=e) (by omega) hkk.2
   simp only [k0,k1,k2,k3,decide_false,yc,if_false,ya,hval]
   have hc1':(M.q1s.bind fun a=>(ix a (yh .i64 (e.zb - 4))).bind fun x=>some x.zjp)=some c.zjp:=by
    rw [←Option.bind_assoc]
    have:(M.q1s.bind fun a=>ix a (yh .i64 (e.zb - 4)))=some c:=hc1
    rw [this];rfl
   rw [hc1']
   simp only [yb,zqx hv.1 (fun v hvm=>hc2 v (hv.2 v hvm))]
termination_by f=>f
decreasing_by all_goals omega
def mat (e:EX) (t:TH):Bool:=decide (z88 e=0)&&hdE t e
theorem z1i {e:EX} {t:TH} {f:Nat} (hf:4*e.sz+17≤f) (hs:z0n e) (ht:z3d t):M.q1k f e t=some (mat e t):=by
 unfold M.q1k mat
 rw [z19 hf hs]
 by_cases h:z88 e=0
 ·simp [h,z38 ht f e (by omega) hs (zcq h).1]
 ·simp [h]
end Go.Sen
end
section
namespace Go.Sen
open _root_.Option renaming bind_eq_bind → ya, bind_some → yb, map_some → yc
open _root_.Bool renaming and_eq_true → yd, false_and → ye, false_eq_true → yf, not_false → yg, not_true → yh, true_and → yi
open _root_.List renaming drop_zero → yj, getElem?_eq_getElem → yk, getElem_mem → yl, length_cons → ym, length_nil → yn
open _root_.Nat renaming zero_le → yo
open IntKind renaming wrap → yp
open Go.Lk Go.Pe
abbrev ED:=q00
def sgl (l:List (List UInt8)):Bool:=decide (l.length≤64)&&decide l.Nodup&&l.all z2n
theorem zax {l:List (List UInt8)} (h:l.length<1000000000):M.z13 l=some (sgl l):=by
 have hk:M.zx l 0=some (match l.findIdx? (fun x => !z2n x) with|some i => .done (i:Int)|none => .go ()):=by
  refine zfi (fun i:Nat=>(i:Int)) () (by omega) (fun i h => ?_) ?_
  ·rw [M.zx]
   simp only [show ((i:Int)<(l.length:Int)) by omega,decide_true,if_true,z48,yk h,ya,yb,M.q2p,z8z]
  ·rw [M.zx]
   simp
 have hc:M.q4z l=some (!l.all z2n):=by
  unfold M.q4z M.q5h
  rw [hk]
  rcases z5p l z2n with ⟨h1,h2⟩|⟨i,h1,h2⟩
  ·rw [h1,h2];rfl
  ·rw [h1,h2];simp
 have hs:=zfo (l:=l) (by omega)
 unfold M.single at hs
 rw [z2g (by rw [decide_eq_true_iff];omega)] at hs
 simp only [ya,yb,Option.some.injEq] at hs
 unfold M.z13 sgl
 rw [z2g (by rw [decide_eq_true_iff];omega),hc]
 simp only [ya,yb,←hs]
 by_cases h1:l.length≤64
 ·by_cases h2:(Lib.compact (l.mergeSort fun x y=>decide (x≤y))).length=l.length
  ·simp [h1,h2]
  ·have h2':¬((Lib.compact (l.mergeSort fun x y=>decide (x≤y))).length:Int)=(l.length:Int):=by omega
   simp only [h1,h2,h2',if_true,if_false,decide_false,Bool.and_false,ye]
 ·simp [h1]
def zin:Option (List UInt8)→List UInt8→Bool
 | none,_=>true
 | some q,n=>slt q n
def znx:Option (List UInt8)→List q02→Bool
 | _,[]=>true
 | p,f::r=>isName f.zk&&zin p f.zk && !decide (f.zt.length=0)&&sgl f.zt&&znx (some f.zk) r
def zqk (t:TH):Int:=if t.zl.length≤32∧znx none t.zl=true then 0 else 194
theorem z3m {t:TH} (ht:z3d t):M.q1j t=some (zqk t):=by
 obtain ⟨h1,_,_,h4⟩:=ht.parts
 have hk:∀ (n i:Nat),t.zl.length - i=n→i≤t.zl.length→M.z0j t (i:Int)=some (if znx (if i=0 then none else (t.zl[i - 1]?).map (·.zk)) (t.zl.drop i)=true then .go () else .done 194):=by
  intro n
  induction n with
  | zero =>
   intro i h2 h3
   have:i=t.zl.length:=by omega
   subst this
   rw [M.z0j]
   simp [znx]
  | succ n ih =>
   intro i h2 h3
   have hi:i<t.zl.length:=by omega
   have hv:=h4 _ (yl hi)
   rw [M.z0j,z2s hi]
   simp only [show ((i:Int)<(t.zl.length:Int)) by omega,decide_true,if_true,z48,yk hi,ya,yb,z2v,zax hv.2.1]
   have hprev:(if (!isName t.zl[i].zk)=true then some true else if decide ((0:Int)<(i:Int))=true then (ix t.zl (yp .i64 ((i:Int) - 1))).bind fun x=>some (!slt x.zk t.zl[i].zk) else some false:Option Bool) =
     some (!(isName t.zl[i].zk&&zin (if i=0 then none else (t.zl[i - 1]?).map (·.zk)) t.zl[i].zk)):=by
    cases isName t.zl[i].zk with
    | false=>rfl
    | true =>
     by_cases h0:i=0
     ·subst h0;rfl
     ·have e:yp .i64 ((i:Int) - 1)=((i - 1:Nat):Int):=by rw [w64]<;>omega
      have hi1:i - 1<t.zl.length:=by omega
      simp only [yh,yf,if_false,show ((0:Int)<(i:Int)) by omega,decide_true,if_true,e,z48,yk hi1,yb,h0,yc,yi,zin]
   rw [hprev]
   simp only [yb,znx]
   have hlen:decide ((t.zl[i].zt.length:Int)=0)=decide (t.zl[i].zt.length=0):=by rw [decide_eq_decide];omega
   rw [hlen]
   have hih:=ih (i+1) (by omega) (by omega)
   have e1:(if i+1=0 then none else (t.zl[i+1 - 1]?).map (·.zk):Option (List UInt8))=some t.zl[i].zk:=by
    rw [if_neg (by omega),show i+1 - 1=i by omega,yk hi,yc]
   rw [e1] at hih
   obtain ⟨b1,hb1⟩:∃ b1,(isName t.zl[i].zk&&zin (if i=0 then none else (t.zl[i - 1]?).map (·.zk)) t.zl[i].zk)=b1:=⟨_,rfl⟩
   simp only [hb1]
   cases b1 with
   | false=>simp
   | true =>
    by_cases hz:t.zl[i].zt.length=0
    ·simp [hz]
    ·simp only [yh,hz,decide_false,Bool.or_self,yf,if_false,yb,yg,Bool.and_self,yi]
     cases hs:sgl t.zl[i].zt with
     | false=>simp
     | true =>
      simp only [yh,yf,if_false,yi]
      rw [w1 (by omega),hih]
 unfold M.q1j zqk
 by_cases hl:t.zl.length≤32
 ·have hl':¬((32:Int)<(t.zl.length:Int)):=by omega
  have h0:=hk _ 0 rfl (yo _)
  have h0':M.z0j t 0=_:=h0
  simp only [hl',decide_false,yf,if_false,h0',ya,yb,if_true,yj,hl,true_and]
  cases znx none t.zl<;>rfl
 ·have hl':((32:Int)<(t.zl.length:Int)):=by omega
  simp [hl,hl']
mutual
def aln:EX→Bool
 | ⟨k,n,_,l⟩=>if 2<k then decide (n=[118,97,108,117,101]) else zsh l
def zsh:List EX→Bool
 | []=>true
 | x::xs=>aln x&&zsh xs
end
theorem zsv (e:EX):aln e=if 2<e.zb then decide (e.zk=[118,97,108,117,101]) else zsh e.zc:=by cases e;simp only [aln]
theorem zhk:∀ l:List EX,zsh l=l.all aln
 | []=>rfl
 | x::l=>by simp [zsh,zhk l]
theorem z7w:∀ (f:Nat) (e:EX),4*e.sz≤f→z0n e→M.q1q f e=some (aln e)
 | 0,e,hf,_=>by have:=e.z1k;omega
 | f+1,e,hf,hs=>by
  have hz:=e.z1k
  have hlen:=z4i e.zc
  have hs':=hs
  unfold z0n at hs'
  have hself:∀ g,4*ezs e.zc+1≤g→g≤f→∀ x∈e.zc,M.q1r g x=some (!aln x):=fun g hg hgf x hx=>by
   have hm:=z2a hx
   match g,hg,hgf with
   | g+1,hg,hgf =>
    unfold M.q1r
    rw [z7w g x (by omega) (hs.mem hx)]
    rfl
  have hloop:M.q4r f e.zc=some (!zsh e.zc):=by
   match f,hf,hself with
   | g+2,hf,hself =>
    have hk:M.zu e.zc (M.q1r g) 0=some (match e.zc.findIdx? (fun x => !aln x) with|some i => .done (i:Int)|none => .go ()):=by
     refine zfi (fun i:Nat=>(i:Int)) () (by omega) (fun i h => ?_) ?_
     ·rw [M.zu]
      simp only [show ((i:Int)<(e.zc.length:Int)) by omega,decide_true,if_true,z48,yk h,ya,yb,hself g (by omega) (by omega) _ (yl h)]
     ·rw [M.zu]
      simp
    unfold M.q4r M.q54
    rw [hk,zhk]
    rcases z5p e.zc aln with ⟨h1,h2⟩|⟨i,h1,h2⟩
    ·rw [h1,h2];rfl
    ·rw [h1,h2];simp
   | 0,hf,_=>omega
   | 1,hf,_=>omega
  unfold M.q1q
  rw [zsv]
  by_cases h2:2<e.zb
  ·simp [h2]
  ·simp [h2,hloop]
termination_by f=>f
decreasing_by all_goals omega
def q00.sz (x:ED):Nat:=x.zk.length+x.z07.sz+kys x.zt+1
def z63 (x:ED):Prop:=x.sz<1000000000
theorem z63.parts {x:ED} (h:z63 x):x.zk.length<1000000000∧z0n x.z07∧x.zt.length<1000000000∧∀ v∈x.zt,v.length<1000000000:=by
 unfold z63 q00.sz at h
 have:=z4l x.zt
 refine ⟨by omega,by unfold z0n;omega,by omega,fun v hv => ?_⟩
 have:=zd9 hv
 omega
def zsc (e:EX):Bool:=decide (e.zb=0)&&decide (e.zk=[])&&decide (e.z03=[])&&decide (e.zc.length=0)
def edK (k:Int) (n:Nat) (s:Bool):Bool:=if k=0 then decide (0<n) && !s else if k=1 then decide (n=0) else if k=2 then decide (0<n)&&(decide (n=1) || !s) else false
def zfw (x:ED):Bool:=isName x.zk && !decide (x.zk=[105,100]) && !decide (x.zk=[116,97,103])&&sgl x.zt&&(if x.z2i=true then fm x.z07&&aln x.z07 else zsc x.z07)&&edK x.zb x.zt.length x.z2i
theorem z8y {x:ED} {f:Nat} (hf:4*x.sz≤f) (hx:z63 x):M.q20 f x=some (zfw x):=by
 obtain ⟨h1,h2,h3,h4⟩:=hx.parts
 have hsz:x.sz=x.zk.length+x.z07.sz+kys x.zt+1:=rfl
 have hwz:=x.z07.z1k
 have h2':=h2
 unfold z0n at h2'
 unfold M.q20 zfw
 rw [z2v,zax h3,z5c f x.z07 (by omega) h2,z7w f x.z07 (by omega) h2]
 simp only [ya,yb]
 have hcat:cat x.z07.zk x.z07.z03=some (x.z07.zk++x.z07.z03):=z1q (by omega)
 rw [hcat]
 simp only [yb]
 have hcd:(decide (x.z07.zk++x.z07.z03=([]:List UInt8)))=(decide (x.z07.zk=[])&&decide (x.z07.z03=[])):=by rw [Bool.eq_iff_iff];simp
 have hn0:decide ((x.zt.length:Int)=0)=decide (x.zt.length=0):=by rw [decide_eq_decide];omega
 have hn1:decide ((x.zt.length:Int)=1)=decide (x.zt.length=1):=by rw [decide_eq_decide];omega
 have hnp:decide ((0:Int)<(x.zt.length:Int))=decide (0<x.zt.length):=by rw [decide_eq_decide];omega
 have hlp:decide ((0:Int)<(x.z07.zc.length:Int)) = !decide (x.z07.zc.length=0):=by rw [←decide_not,decide_eq_decide];omega
 rw [hcd,hn0,hn1,hnp,hlp]
 have hend:(if decide (x.zb=0)=true then some (decide (0<x.zt.length) && !x.z2i) else if decide (x.zb=1)=true then some (decide (x.zt.length=0)) else if decide (x.zb=2)=true then some (decide (0<x.zt.length)&&(decide (x.zt.length=1) || !x.z2i)) else some false:Option Bool)=some (edK x.zb x.zt.length x.z2i):=by
  unfold edK
  by_cases k0:x.zb=0
  ·simp [k0]
  ·by_cases k1:x.zb=1
   ·simp [k1]
   ·by_cases k2:x.zb=2
    ·simp [k2]
    ·simp [k0,k1,k2]
 rw [hend]
 generalize edK x.zb x.zt.length x.z2i=b5
 have hz:zsc x.z07=(decide (x.z07.zb=0)&&(decide (x.z07.zk=[])&&decide (x.z07.z03=[]))&&decide (x.z07.zc.length=0)):=by unfold zsc;rw [Bool.and_assoc (decide (x.z07.zb=0))]
 rw [hz]
 generalize (decide (x.z07.zk=[])&&decide (x.z07.z03=[]))=b6
 generalize decide (x.z07.zc.length=0)=b7
 generalize decide (x.z07.zb=0)=b8
 generalize sgl x.zt=b4
 generalize decide (x.zk=[105,100])=b2
 generalize decide (x.zk=[116,97,103])=b3
 generalize isName x.zk=b1
 generalize fm x.z07=b9
 generalize aln x.z07=b10
 cases b1<;>cases b2<;>cases b3<;>try (simp;done)
 cases b4
 ·simp
 ·cases x.z2i
  ·cases b6<;>cases b7<;>cases b8<;>simp
  ·cases b9<;>cases b10<;>simp
def zki (l:List ED):Nat:=(l.map (·.sz)).sum
def zec (l:List ED):Int:=if 16<l.length then 191 else if l.all zfw=false then 194 else if (l.any fun x=>x.z2i && !decide (z88 x.z07=0))=true then 193 else 0
theorem z7t {l:List ED} {f:Nat} (hf:4*zki l+17≤f) (hl:zki l<1000000000):M.q1g f l=some (zec l):=by
 have hlen:l.length≤zki l:=zdr (g:=fun x:ED=>x.sz) (fun x=>by unfold q00.sz;omega) l
 have hm:∀ x∈l,x.sz≤zki l:=fun x hx=>zds (g:=fun x:ED=>x.sz) hx
 have hw:∀ x:ED,x.z07.sz≤x.sz:=fun x=>by unfold q00.sz;omega
 have hk1:M.zm l f 0=some (match l.findIdx? (fun x => !zfw x) with|some i => .done (i:Int)|none => .go ()):=by
  refine zfi (fun i:Nat=>(i:Int)) () (by omega) (fun i h => ?_) ?_
  ·have:=hm _ (yl h)
   rw [M.zm]
   simp only [show ((i:Int)<(l.length:Int)) by omega,decide_true,if_true,z48,yk h,ya,yb,M.q1h,z8y (x:=l[i]) (f:=f) (by omega) (by unfold z63;omega)]
  ·rw [M.zm]
   simp
 have hk2:M.zn l f 0=some (match l.findIdx? (fun x=>x.z2i && !decide (z88 x.z07=0)) with|some i => .done (i:Int)|none => .go ()):=by
  refine zfi (fun i:Nat=>(i:Int)) () (by omega) (fun i h => ?_) ?_
  ·have h1:=hm _ (yl h)
   have h2:=hw l[i]
   rw [M.zn]
   simp only [show ((i:Int)<(l.length:Int)) by omega,decide_true,if_true,z48,yk h,ya,yb,M.q1i,z19 (e:=l[i].z07) (f:=f) (by omega) (by unfold z0n;omega)]
   cases l[i].z2i<;>simp
  ·rw [M.zn]
   simp
 unfold M.q1g zec
 by_cases h16:16<l.length
 ·have h16':((16:Int)<(l.length:Int)):=by omega
  simp [h16,h16']
 ·have h16':¬((16:Int)<(l.length:Int)):=by omega
  unfold M.q4p M.q51 M.q4q M.q52
  simp only [h16,h16',decide_false,yf,if_false,ya,hk1,hk2]
  rcases z5p l zfw with ⟨h1,h2⟩|⟨i,h1,h2⟩
  ·rw [h1,h2]
   simp only [yb,show decide ((0:Int) ≤ -1)=false from rfl,yf,if_false,Bool.true_eq_false]
   rcases z5q l (fun x=>x.z2i && !decide (z88 x.z07=0)) with ⟨h3,h4⟩|⟨i,h3,h4⟩
   ·rw [h3,h4];rfl
   ·rw [h3,h4];simp
  ·rw [h1,h2];simp
def zuu (v:List UInt8):TH:=⟨[],[],[],[⟨[118,97,108,117,101],[v]⟩]⟩
def pick (x:ED) (v:List UInt8):Bool := !x.z2i||hdE (zuu v) x.z07
theorem z7x {x:ED} {v:List UInt8} {f:Nat} (hf:4*x.sz≤f) (hx:z63 x) (hv:v.length<100000000) (hw:x.z2i=true→fm x.z07=true):M.q2b f x v=some (pick x v):=by
 have hsz:x.sz=x.zk.length+x.z07.sz+kys x.zt+1:=rfl
 have ht:z3d (zuu v):=by
  unfold z3d q04.sz zuu
  simp [q02.sz,kys]
  omega
 unfold M.q2b pick
 cases hs:x.z2i with
 | false=>rfl
 | true =>
  have:=z38 ht f x.z07 (by omega) hx.parts.2.1 (hw hs)
  unfold zuu at this
  simp only [yh,yf,if_false,this,ya,yb,Bool.false_or]
  rfl
def dnL (x:ED) (first:Nat):Nat→List (List UInt8)→List (List UInt8)
 | _,[]=>[]
 | i,v::r=>(if i=first∧x.zb=2 then [x.zt.head?.getD []] else if !pick x v&&(decide (x.zb=1) || !decide (v=x.zt.head?.getD [])) then [v] else [])++dnL x first (i+1) r
def dn (x:ED) (old:List (List UInt8)):List (List UInt8) × Int :=
 if x.zb=0 then (old++x.zt.filter (fun v => !old.contains v),0) else match x.z2i,old.findIdx? (pick x) with
  | false,_=>(x.zt,0)
  | true,none=>([],192)
  | true,some i=>(dnL x i 0 old,0)
theorem zve {x:ED} {old:List (List UInt8)} (ho:old.length<100000000) (hv:x.zt.length<1000000000):∀ (n i:Nat) (acc:List (List UInt8)),x.zt.length - i=n→i≤x.zt.length→acc.length≤i+old.length→M.z1a x old acc (i:Int)=some (acc++(x.zt.drop i).filter (fun v => !old.contains v)):=by
 intro n
 induction n with
 | zero =>
  intro i acc h1 h2 h3
  have:i=x.zt.length:=by omega
  subst this
  rw [M.z1a]
  simp
 | succ n ih =>
  intro i acc h1 h2 h3
  have hi:i<x.zt.length:=by omega
  rw [M.z1a,z2s hi]
  simp only [show ((i:Int)<(x.zt.length:Int)) by omega,decide_true,if_true,z48,yk hi,ya,yb,z8p (l:=old) (by omega),List.filter_cons]
  cases hc:old.contains x.zt[i] with
  | true =>
   simp only [yh,yf,if_false]
   rw [w1 (by omega),ih (i+1) acc (by omega) (by omega) (by omega)]
  | false =>
   simp only [yg,if_true]
   rw [z3l (by simp only [ym,yn];omega)]
   simp only [yb]
   rw [w1 (by omega),ih (i+1) _ (by omega) (by omega) (by simp;omega)]
   simp
theorem zvf {x:ED} {old:List (List UInt8)} {f first:Nat} (ho:old.length<100000000) (hov:∀ v∈old,v.length<100000000) (hf:4*x.sz≤f) (hx:z63 x) (hw:x.z2i=true→fm x.z07=true) (hval:x.zb=1∨x.zb=2∧0<x.zt.length):∀ (n i:Nat) (acc:List (List UInt8)),old.length - i=n→i≤old.length→acc.length≤i→M.z10 old (first:Int) x f acc (i:Int)=some (acc++dnL x first i (old.drop i)):=by
 intro n
 induction n with
 | zero =>
  intro i acc h1 h2 h3
  have:i=old.length:=by omega
  subst this
  rw [M.z10]
  simp [dnL]
 | succ n ih =>
  intro i acc h1 h2 h3
  have hi:i<old.length:=by omega
  have hif:decide ((i:Int)=(first:Int))=decide (i=first):=by rw [decide_eq_decide];omega
  have h0v:x.zb=2→ix x.zt 0=some (x.zt.head?.getD []):=fun hk=>by
   have:0<x.zt.length:=by
    rcases hval with h|h
    ·omega
    ·exact h.2
   rw [zkj]
   cases hvv:x.zt with
   | nil=>rw [hvv] at this;simp at this
   | cons a b=>rfl
  rw [M.z10,z2s hi]
  simp only [show ((i:Int)<(old.length:Int)) by omega,decide_true,if_true,hif,dnL,z48,yk hi,ya,yb]
  by_cases hc:i=first∧x.zb=2
  ·have hc':(decide (i=first)&&decide (x.zb=2))=true:=by simp [hc]
   rw [if_pos hc',if_pos hc]
   simp only [h0v hc.2,yb]
   rw [z3l (by simp only [ym,yn];omega)]
   simp only [yb]
   rw [w1 (by omega),ih (i+1) _ (by omega) (by omega) (by simp;omega)]
   simp
  ·have hc':¬(decide (i=first)&&decide (x.zb=2))=true:=by simpa using hc
   rw [if_neg hc',if_neg hc]
   simp only [yb,z7x hf hx (hov _ (yl hi)) hw]
   have hj:(if (!pick x old[i])=true then (if decide (x.zb=1)=true then some true else (ix x.zt 0).bind fun y=>some (!decide (old[i]=y))) else some false:Option Bool)=some (!pick x old[i]&&(decide (x.zb=1) || !decide (old[i]=x.zt.head?.getD []))):=by
    cases pick x old[i] with
    | true=>rfl
    | false =>
     by_cases k1:x.zb=1
     ·simp [k1]
     ·have k2:x.zb=2:=by
       rcases hval with h|h
       ·exact (k1 h).elim
       ·exact h.1
      rw [h0v k2]
      simp [k1]
   rw [hj]
   simp only [yb]
   cases hb:(!pick x old[i]&&(decide (x.zb=1) || !decide (old[i]=x.zt.head?.getD []))) with
   | true =>
    simp only [if_true]
    rw [z3l (by simp only [ym,yn];omega)]
    simp only [yb]
    rw [w1 (by omega),ih (i+1) _ (by omega) (by omega) (by simp;omega)]
    simp
   | false =>
    simp only [yf,if_false]
    rw [w1 (by omega),ih (i+1) _ (by omega) (by omega) (by omega)]
    simp
theorem zfb {x:ED} {old:List (List UInt8)} {f:Nat} (ho:old.length<100000000) (hov:∀ v∈old,v.length<100000000) (hf:4*x.sz≤f) (hx:z63 x) (he:zfw x=true):M.q1y f x old=some (dn x old):=by
 obtain ⟨p1,p2,p3,p4⟩:=hx.parts
 unfold zfw at he
 simp only [yd] at he
 have hek:=he.2
 have hw:x.z2i=true→fm x.z07=true:=fun hs=>by
  have:=he.1.2
  rw [if_pos hs,yd] at this
  exact this.1
 have hcl:∀ l:List (List UInt8),l.length<1000000000→M.z0s l=some l:=fun l hl=>by
  unfold M.z0s
  rw [z2g (by rw [decide_eq_true_iff];omega)]
  rfl
 unfold M.q1y dn
 by_cases k0:x.zb=0
 ·have h1:=zve (x:=x) (old:=old) ho p3 _ 0 old rfl (yo _) (by omega)
  have h1':M.z1a x old old 0=_:=h1
  simp only [k0,decide_true,if_true,hcl old (by omega),ya,yb,h1',yj]
 ·simp only [k0,decide_false,yf,if_false,ya,yb]
  have hk:M.z01 old f x 0=some (match old.findIdx? (pick x) with|some i => .done (i:Int)|none => .go ()):=by
   refine zfi (fun i:Nat=>(i:Int)) () (by omega) (fun i h => ?_) ?_
   ·rw [M.z01]
    simp only [show ((i:Int)<(old.length:Int)) by omega,decide_true,if_true,z48,yk h,ya,yb,M.q1z,z7x hf hx (hov _ (yl h)) hw]
   ·rw [M.z01]
    simp
  unfold M.q5e
  simp only [hk,ya,yb]
  cases hs:x.z2i with
  | false =>
   simp only [ye,yf,if_false,yg,if_true,hcl x.zt (by omega)]
   cases old.findIdx? (pick x)<;>rfl
  | true =>
   cases hfi:old.findIdx? (pick x) with
   | none=>simp
   | some i =>
    have hval:x.zb=1∨x.zb=2∧0<x.zt.length:=by
     unfold edK at hek
     rw [if_neg k0] at hek
     by_cases k1:x.zb=1
     ·exact .inl k1
     ·rw [if_neg k1] at hek
      by_cases k2:x.zb=2
      ·rw [if_pos k2] at hek
       simp only [yd,decide_eq_true_eq] at hek
       exact .inr ⟨k2,hek.1⟩
      ·rw [if_neg k2] at hek;cases hek
    have h2:=zvf (first:=i) ho hov hf hx hw hval _ 0 [] rfl (yo _) (yo _)
    have h2':M.z10 old (i:Int) x f [] 0=_:=h2
    have hneg:¬((i:Int)<0):=by omega
    simp [hneg,h2']
end Go.Sen
end
