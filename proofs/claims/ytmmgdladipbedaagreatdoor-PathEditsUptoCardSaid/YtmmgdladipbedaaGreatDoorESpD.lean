import Derived.Test.YtmmgdladipbedaaGreatDoorESpB
import Derived.Test.YtmmgdladipbedaaGreatDoorEPaShelf2
set_option linter.all false
section
namespace Go.Sen
open _root_.Option renaming bind_eq_bind → ya, bind_some → yb
open _root_.Bool renaming false_eq_true → yc
open _root_.List renaming getElem?_eq_getElem → yd, getElem_mem → ye, isSuffixOf_iff_suffix → yf, mem_singleton → yg
open IntKind renaming wrap → yh
open Go.Lk Go.Pe
abbrev TH:=q04
def q02.sz (f:q02):Nat:=f.zi.length+kys f.zf+1
def q04.sz (t:TH):Nat:=t.gId.length+t.zb.length+t.z8m.length+(t.zl.map (·.sz)).sum+1
def z69 (t:TH):Prop:=t.sz<1000000000
theorem z81 {α:Type} {g:α→Nat}:∀ {l:List α} {x:α},x∈l→g x≤(l.map g).sum
 | y::l,x,h=>by
  simp only [List.map_cons,List.sum_cons]
  rcases List.mem_cons.1 h with rfl|h
  ·omega
  ·have:=z81 (g:=g) h;omega
theorem z7z {α:Type} {g:α→Nat} (hg:∀ x,1≤g x):∀ l:List α,l.length≤(l.map g).sum
 | []=>by simp
 | x::l=>by
  have:=z7z hg l
  have:=hg x
  simp only [List.map_cons,List.sum_cons,List.length_cons]
  omega
theorem z69.parts {t:TH} (h:z69 t):t.zl.length<1000000000∧t.gId.length<1000000000∧t.z8m.length<1000000000∧∀ f∈t.zl,f.zi.length<1000000000∧f.zf.length<1000000000∧∀ v∈f.zf,v.length<1000000000:=by
 unfold z69 q04.sz at h
 have h1:=z7z (g:=fun f:q02=>f.sz) (fun f=>by unfold q02.sz;omega) t.zl
 refine ⟨by omega,by omega,by omega,fun f hf => ?_⟩
 have h2:=z81 (g:=fun f:q02=>f.sz) hf
 have e2:f.sz=f.zi.length+kys f.zf+1:=rfl
 simp only [e2] at h2
 have h3:=z4m f.zf
 refine ⟨by omega,by omega,fun v hv => ?_⟩
 have:=zg3 hv
 omega
def ztw (t:TH) (n:List UInt8):List (List UInt8):=if n=[105,100] then [t.gId] else if n=[116,97,103] then [t.z8m] else match t.zl.find? (fun f=>decide (f.zi=n)) with
 | some f=>f.zf
 | none=>[]
theorem zcz {α:Type} (p:α→Bool):∀ l:List α,l.find? p=(l.findIdx? p).bind fun i=>l[i]?
 | []=>rfl
 | x::l=>by
  rw [List.find?_cons,List.findIdx?_cons]
  cases h:p x with
  | true=>simp
  | false =>
   simp only [yc,if_false]
   rw [zcz p l]
   cases l.findIdx? p<;>simp
theorem znb {α:Type} {p:α→Bool} {l:List α} {i:Nat} (h:l.findIdx? p=some i):∃ hi:i<l.length,p l[i]=true:=by
 rw [List.findIdx?_eq_some_iff_getElem] at h
 obtain ⟨h1,h2,_⟩:=h
 exact ⟨h1,h2⟩
theorem zec {t:TH} {n:List UInt8} (hl:t.zl.length<1000000000):M.q30 t n=some (ztw t n):=by
 unfold M.q30 ztw
 by_cases h1:n=[105,100]
 ·simp [h1]
 ·by_cases h2:n=[116,97,103]
  ·simp [h2]
  ·have hk:M.zt t.zl n 0=some (match t.zl.findIdx? (fun f=>decide (f.zi=n)) with|some i => .done (i:Int)|none => .go ()):=by
    refine zcg (fun i:Nat=>(i:Int)) () (by omega) (fun i h => ?_) ?_
    ·rw [M.zt]
     simp [show ((i:Int)<(t.zl.length:Int)) by omega,z2u,h,M.q31]
    ·rw [M.zt]
     simp
   unfold M.q5p
   rw [hk,zcz]
   simp only [h1,h2,decide_false,yc,if_false]
   cases h:t.zl.findIdx? (fun f=>decide (f.zi=n)) with
   | none=>simp
   | some i =>
    obtain ⟨hi,_⟩:=znb h
    simp [z2u,hi]
def fits (k:Int) (v w:List UInt8):Bool :=
 if k=3 then !decide (v=[]) else if k=4∨k=5 then decide (v=w) else if k=6 then Lib.contains v w else if k=7 then w.isPrefixOf v else if k=8 then w.isSuffixOf v else
 if k=9 then !(slt v w||decide (v=w)) else if k=10 then !slt v w else if k=11 then slt v w else slt v w||decide (v=w)
theorem ztk {s p:List UInt8} (h:p.length≤s.length):decide (s.drop (s.length - p.length)=p)=p.isSuffixOf s:=by
 rw [Bool.eq_iff_iff,decide_eq_true_iff,yf,List.suffix_iff_eq_drop]
 exact ⟨fun h=>h.symm,fun h=>h.symm⟩
theorem zwp {s p:List UInt8} (h:¬p.length≤s.length):p.isSuffixOf s=false:=by
 rw [Bool.eq_false_iff,Ne,yf]
 exact fun hs=>h hs.length_le
theorem zvd {s p:List UInt8} (hs:s.length<1152921504606846976):(do
  let j_3←(do
   if (decide ((p.length:Int)≤(s.length:Int))) then
    let s_4←sub s (yh .i64 ((s.length:Int) - (p.length:Int))) (s.length:Int)
    some (decide (s_4=p))
   else some false:Option Bool)
  some j_3)=some (p.isSuffixOf s):=by
 by_cases h:p.length≤s.length
 ·have h':(p.length:Int)≤(s.length:Int):=by omega
  have e:yh .i64 ((s.length:Int) - (p.length:Int))=((s.length - p.length:Nat):Int):=by rw [w64]<;>omega
  simp only [h',decide_true,if_true,e,z9o (l:=s) (a:=s.length - p.length) (by omega),ya,yb,ztk h]
 ·have h':¬(p.length:Int)≤(s.length:Int):=by omega
  simp [h',zwp h]
theorem zbi {s p:List UInt8} (hs:s.length<1152921504606846976):M.q68 s p=some (p.isSuffixOf s):=by
 have:=zvd (p:=p) hs
 unfold M.q68 M.q0h
 rw [this]
 rfl
theorem ze4 {v w:List UInt8} (hv:v.length<1000000000):M.contains v w=some (Lib.contains v w):=by
 unfold M.contains
 rw [z48 (by simp;omega)]
 rfl
theorem znf {e:EX} (h1:3<e.zb) (h2:e.zb<13):∃ c:q06,(do let a←M.q1u;ix a (yh .i64 (e.zb - 4)))=some c∧∀ v:List UInt8,v.length<1000000000→M.q2e v c.znd e=some (fits e.zb v e.z08):=by
 have:e.zb=4∨e.zb=5∨e.zb=6∨e.zb=7∨e.zb=8∨e.zb=9∨e.zb=10∨e.zb=11∨e.zb=12:=by omega
 rcases this with h|h|h|h|h|h|h|h|h<;>rw [h]<;>refine ⟨_,rfl,fun v hv => ?_⟩ <;>
  simp [M.q2e,M.q0b,fits,M.q1v,M.q1w,M.q1x,M.q1y,M.q1z,ze4 hv,z3k,zbi (s:=v) (by omega),F.q1v,F.strings_Contains,F.q67,F.q68,F.q1w,F.q1x,F.q1y,F.q1z]
mutual
def hdE (t:TH):EX→Bool
 | ⟨k,n,v,l⟩=>if k=0 then (zvh t l).all id else if k=1 then (zvh t l).any id else if k=2 then !((zvh t l).head?.getD false) else if k=3 then (ztw t n).any (fun x => !decide (x=[])) else !((ztw t n).any (fun x=>fits k x v)==decide (k=5))
def zvh (t:TH):List EX→List Bool
 | []=>[]
 | x::xs=>hdE t x::zvh t xs
end
theorem zlr (t:TH):∀ l,zvh t l=l.map (hdE t)
 | []=>by simp [zvh]
 | x::l=>by simp [zvh,zlr t l]
theorem zya (t:TH) (e:EX):hdE t e=if e.zb=0 then e.zc.all (hdE t) else if e.zb=1 then e.zc.any (hdE t) else if e.zb=2 then !((e.zc.map (hdE t)).head?.getD false) else if e.zb=3 then (ztw t e.zi).any (fun x => !decide (x=[])) else !((ztw t e.zi).any (fun x=>fits e.zb x e.z08)==decide (e.zb=5)):=by
 cases e
 simp [hdE,zlr,List.all_map,List.any_map,Function.comp_def]
theorem zo7 {t:TH} (ht:z69 t) (n:List UInt8):(ztw t n).length<1000000000∧∀ v∈ztw t n,v.length<1000000000:=by
 obtain ⟨h1,h2,h3,h4⟩:=ht.parts
 unfold ztw
 split
 ·exact ⟨by simp,fun v hv=>by rw [yg] at hv;rw [hv];exact h2⟩
 ·split
  ·exact ⟨by simp,fun v hv=>by rw [yg] at hv;rw [hv];exact h3⟩
  ·split
   ·rename_i f hf
    exact (h4 f (List.mem_of_find?_eq_some hf)).2
   ·simp
theorem zvk {l:List (List UInt8)} (hl:l.length<1000000000):M.q5e l=some (l.any fun x => !decide (x=[])):=by
 have hk:M.z00 l 0=some (match l.findIdx? (fun x => !decide (x=[])) with|some i => .done (i:Int)|none => .go ()):=by
  refine zcg (fun i:Nat=>(i:Int)) () (by omega) (fun i h => ?_) ?_
  ·rw [M.z00]
   simp [show ((i:Int)<(l.length:Int)) by omega,z2u,h,M.q2d]
  ·rw [M.z00]
   simp
 unfold M.q5e M.q5u
 rw [hk]
 rcases z4x l (fun x => !decide (x=[])) with ⟨h1,h2⟩|⟨i,h1,h2⟩
 ·rw [h1,h2];rfl
 ·rw [h1,h2];simp
theorem zvl {l:List (List UInt8)} {e:EX} {c:Nat} (hl:l.length<1000000000) (hs:∀ v∈l,M.q2e v c e=some (fits e.zb v e.z08)):M.q5f l c e=some (l.any fun x=>fits e.zb x e.z08):=by
 have hk:M.z01 l c e 0=some (match l.findIdx? (fun x=>fits e.zb x e.z08) with|some i => .done (i:Int)|none => .go ()):=by
  refine zcg (fun i:Nat=>(i:Int)) () (by omega) (fun i h => ?_) ?_
  ·rw [M.z01]
   simp only [show ((i:Int)<(l.length:Int)) by omega,decide_true,if_true,z2u,yd h,ya,yb,hs _ (ye h)]
  ·rw [M.z01]
   simp
 unfold M.q5f M.q5v
 rw [hk]
 rcases z4x l (fun x=>fits e.zb x e.z08) with ⟨h1,h2⟩|⟨i,h1,h2⟩
 ·rw [h1,h2];rfl
 ·rw [h1,h2];simp
theorem z52 {t:TH} (ht:z69 t):∀ (f:Nat) (e:EX),4*e.sz≤f→z1b e→fm e=true→M.q2a f e t=some (hdE t e)
 | 0,e,hf,_,_=>by have:=e.z1n;omega
 | f+1,e,hf,hs,hfm=>by
  have hz:=e.z1n
  have hs':=hs
  unfold z1b at hs'
  have hlen:=z5f e.zc
  have hkk:=zd2 hfm
  have hv:=zo7 ht e.zi
  have hval:=zec (t:=t) (n:=e.zi) ht.parts.1
  have h2:∀ g,4*ezs e.zc+1≤g→g≤f→∀ x∈e.zc,M.q2c g x t=some (!hdE t x,t):=fun g hg hgf x hx=>by
   have hm:=z3h hx
   match g,hg,hgf with
   | g+1,hg,hgf =>
    unfold M.q2c
    rw [z52 ht g x (by omega) (hs.mem hx) (zez hfm hx)]
    rfl
  have h1:∀ g,4*ezs e.zc+1≤g→g≤f→∀ x∈e.zc,M.q2b g x t=some (hdE t x,t):=fun g hg hgf x hx=>by
   have hm:=z3h hx
   match g,hg,hgf with
   | g+1,hg,hgf =>
    unfold M.q2b
    rw [z52 ht g x (by omega) (hs.mem hx) (zez hfm hx)]
    rfl
  unfold M.q2a
  rw [zya]
  by_cases k0:e.zb=0
  ·have:M.q5b f e.zc t=some (e.zc.any (fun x => !hdE t x),t):=by
    match f,hf with
    | g+2,hf =>
     have hk:M.zk e.zc (M.q2c g) 0 t.gId t.zb t.z8m t.zl=some (match e.zc.findIdx? (fun x => !hdE t x) with|some i => .done ((i:Int),t)|none => .go (t.gId,t.zb,t.z8m,t.zl)):=by
      refine zcg (F:=fun i=>M.zk e.zc (M.q2c g) i t.gId t.zb t.z8m t.zl) (fun i:Nat=>((i:Int),t)) (t.gId,t.zb,t.z8m,t.zl) (by omega) (fun i h => ?_) ?_
      ·show M.zk e.zc (M.q2c g) i t.gId t.zb t.z8m t.zl=_
       rw [M.zk]
       simp only [show ((i:Int)<(e.zc.length:Int)) by omega,decide_true,if_true,z2u,yd h,ya,yb,show (q04.mk t.gId t.zb t.z8m t.zl)=t from rfl,h2 g (by omega) (by omega) _ (ye h)]
      ·show M.zk e.zc (M.q2c g) _ t.gId t.zb t.z8m t.zl=_
       rw [M.zk]
       simp
     unfold M.q5b M.q5o
     rw [hk]
     rcases z4x e.zc (fun x => !hdE t x) with ⟨h1,h2⟩|⟨i,h1,h2⟩
     ·rw [h1,h2];rfl
     ·rw [h1,h2];simp
    | 0,hf=>omega
    | 1,hf=>omega
   simp only [k0,decide_true,if_true,this,ya,yb]
   rw [List.all_eq_not_any_not]
  by_cases k1:e.zb=1
  ·have:M.q5a f e.zc t=some (e.zc.any (fun x=>hdE t x),t):=by
    match f,hf with
    | g+2,hf =>
     have hk:M.zj e.zc (M.q2b g) 0 t.gId t.zb t.z8m t.zl=some (match e.zc.findIdx? (fun x=>hdE t x) with|some i => .done ((i:Int),t)|none => .go (t.gId,t.zb,t.z8m,t.zl)):=by
      refine zcg (F:=fun i=>M.zj e.zc (M.q2b g) i t.gId t.zb t.z8m t.zl) (fun i:Nat=>((i:Int),t)) (t.gId,t.zb,t.z8m,t.zl) (by omega) (fun i h => ?_) ?_
      ·show M.zj e.zc (M.q2b g) i t.gId t.zb t.z8m t.zl=_
       rw [M.zj]
       simp only [show ((i:Int)<(e.zc.length:Int)) by omega,decide_true,if_true,z2u,yd h,ya,yb,show (q04.mk t.gId t.zb t.z8m t.zl)=t from rfl,h1 g (by omega) (by omega) _ (ye h)]
      ·show M.zj e.zc (M.q2b g) _ t.gId t.zb t.z8m t.zl=_
       rw [M.zj]
       simp
     unfold M.q5a M.q5n
     rw [hk]
     rcases z4x e.zc (fun x=>hdE t x) with ⟨h1,h2⟩|⟨i,h1,h2⟩
     ·rw [h1,h2];rfl
     ·rw [h1,h2];simp
    | 0,hf=>omega
    | 1,hf=>omega
   simp only [k0,k1,decide_true,decide_false,yc,if_false,if_true,this,ya,yb,show ((1:Int)=0)=False from by decide]
  by_cases k2:e.zb=2
  ·obtain ⟨x,hx,_,_,_⟩:=zhq hfm k2
   have hxm:x∈e.zc:=by rw [hx];exact yg.2 rfl
   have hm:=z3h hxm
   have:=x.z1n
   simp only [k2,decide_true,if_true,hx,zni,List.getElem?_cons_zero,ya,yb,h2 f (by omega) (Nat.le_refl _) x hxm]
   simp
  by_cases k3:e.zb=3
  ·simp only [k3,decide_true,if_true,hval,ya,yb,zvk hv.1]
   simp
  ·obtain ⟨c,hc1,hc2⟩:=znf (e:=e) (by omega) hkk.2
   simp only [k0,k1,k2,k3,decide_false,yc,if_false,ya,hval]
   have hc1':(M.q1u.bind fun a=>(ix a (yh .i64 (e.zb - 4))).bind fun x=>some x.znd)=some c.znd:=by
    rw [←Option.bind_assoc]
    have:(M.q1u.bind fun a=>ix a (yh .i64 (e.zb - 4)))=some c:=hc1
    rw [this];rfl
   rw [hc1']
   simp only [yb,zvl hv.1 (fun v hvm=>hc2 v (hv.2 v hvm))]
termination_by f=>f
decreasing_by all_goals omega
def mat (e:EX) (t:TH):Bool:=decide (zbc e=0)&&hdE t e
theorem zgd {e:EX} {t:TH} {f:Nat} (hf:4*e.sz+17≤f) (hs:z1b e) (ht:z69 t):M.q1m f e t=some (mat e t):=by
 unfold M.q1m mat
 rw [z4z hf hs]
 by_cases h:zbc e=0
 ·simp [h,z52 ht f e (by omega) hs (zjc h).1]
 ·simp [h]
end Go.Sen
end
section
namespace Go.Sen
open _root_.Option renaming bind_eq_bind → ya, bind_some → yb, map_some → yc
open _root_.Bool renaming and_eq_true → yd, false_and → ye, false_eq_true → yf, not_false → yg, not_true → yh, true_and → yi
open _root_.List renaming drop_zero → yj, getElem?_eq_getElem → yk, getElem_mem → yl, length_cons → ym, length_nil → yn
open _root_.Nat renaming zero_le → yo
open IntKind renaming wrap → yp
open Go.Lk Go.Pe
abbrev ED:=q00
def sgl (l:List (List UInt8)):Bool:=decide (l.length≤64)&&decide l.Nodup&&l.all z2x
theorem zdy {l:List (List UInt8)} (h:l.length<1000000000):M.z2e l=some (sgl l):=by
 have hk:M.zy l 0=some (match l.findIdx? (fun x => !z2x x) with|some i => .done (i:Int)|none => .go ()):=by
  refine zcg (fun i:Nat=>(i:Int)) () (by omega) (fun i h => ?_) ?_
  ·rw [M.zy]
   simp only [show ((i:Int)<(l.length:Int)) by omega,decide_true,if_true,z2u,yk h,ya,yb,M.q2x,zbq]
  ·rw [M.zy]
   simp
 have hc:M.q5g l=some (!l.all z2x):=by
  unfold M.q5g M.q5w
  rw [hk]
  rcases z4o l z2x with ⟨h1,h2⟩|⟨i,h1,h2⟩
  ·rw [h1,h2];rfl
  ·rw [h1,h2];simp
 have hs:=zix (l:=l) (by omega)
 unfold M.single at hs
 rw [z48 (by rw [decide_eq_true_iff];omega)] at hs
 simp only [ya,yb,Option.some.injEq] at hs
 unfold M.z2e sgl
 rw [z48 (by rw [decide_eq_true_iff];omega),hc]
 simp only [ya,yb,←hs]
 by_cases h1:l.length≤64
 ·by_cases h2:(Lib.compact (l.mergeSort fun x y=>decide (x≤y))).length=l.length
  ·simp [h1,h2]
  ·have h2':¬((Lib.compact (l.mergeSort fun x y=>decide (x≤y))).length:Int)=(l.length:Int):=by omega
   simp only [h1,h2,h2',if_true,if_false,decide_false,Bool.and_false,ye]
 ·simp [h1]
def zmb:Option (List UInt8)→List UInt8→Bool
 | none,_=>true
 | some q,n=>slt q n
def zs7:Option (List UInt8)→List q02→Bool
 | _,[]=>true
 | p,f::r=>isName f.zi&&zmb p f.zi && !decide (f.zf.length=0)&&sgl f.zf&&zs7 (some f.zi) r
def zv7 (t:TH):Int:=if t.zl.length≤32∧zs7 none t.zl=true then 0 else 194
theorem z5s {t:TH} (ht:z69 t):M.q1l t=some (zv7 t):=by
 obtain ⟨h1,_,_,h4⟩:=ht.parts
 have hk:∀ (n i:Nat),t.zl.length - i=n→i≤t.zl.length→M.z14 t (i:Int)=some (if zs7 (if i=0 then none else (t.zl[i - 1]?).map (·.zi)) (t.zl.drop i)=true then .go () else .done 194):=by
  intro n
  induction n with
  | zero =>
   intro i h2 h3
   have:i=t.zl.length:=by omega
   subst this
   rw [M.z14]
   simp [zs7]
  | succ n ih =>
   intro i h2 h3
   have hi:i<t.zl.length:=by omega
   have hv:=h4 _ (yl hi)
   rw [M.z14,z1x hi]
   simp only [show ((i:Int)<(t.zl.length:Int)) by omega,decide_true,if_true,z2u,yk hi,ya,yb,z4t,zdy hv.2.1]
   have hprev:(if (!isName t.zl[i].zi)=true then some true else if decide ((0:Int)<(i:Int))=true then (ix t.zl (yp .i64 ((i:Int) - 1))).bind fun x=>some (!slt x.zi t.zl[i].zi) else some false:Option Bool) =
     some (!(isName t.zl[i].zi&&zmb (if i=0 then none else (t.zl[i - 1]?).map (·.zi)) t.zl[i].zi)):=by
    cases isName t.zl[i].zi with
    | false=>rfl
    | true =>
     by_cases h0:i=0
     ·subst h0;rfl
     ·have e:yp .i64 ((i:Int) - 1)=((i - 1:Nat):Int):=by rw [w64]<;>omega
      have hi1:i - 1<t.zl.length:=by omega
      simp only [yh,yf,if_false,show ((0:Int)<(i:Int)) by omega,decide_true,if_true,e,z2u,yk hi1,yb,h0,yc,yi,zmb]
   rw [hprev]
   simp only [yb,zs7]
   have hlen:decide ((t.zl[i].zf.length:Int)=0)=decide (t.zl[i].zf.length=0):=by rw [decide_eq_decide];omega
   rw [hlen]
   have hih:=ih (i+1) (by omega) (by omega)
   have e1:(if i+1=0 then none else (t.zl[i+1 - 1]?).map (·.zi):Option (List UInt8))=some t.zl[i].zi:=by
    rw [if_neg (by omega),show i+1 - 1=i by omega,yk hi,yc]
   rw [e1] at hih
   obtain ⟨b1,hb1⟩:∃ b1,(isName t.zl[i].zi&&zmb (if i=0 then none else (t.zl[i - 1]?).map (·.zi)) t.zl[i].zi)=b1:=⟨_,rfl⟩
   simp only [hb1]
   cases b1 with
   | false=>simp
   | true =>
    by_cases hz:t.zl[i].zf.length=0
    ·simp [hz]
    ·simp only [yh,hz,decide_false,Bool.or_self,yf,if_false,yb,yg,Bool.and_self,yi]
     cases hs:sgl t.zl[i].zf with
     | false=>simp
     | true =>
      simp only [yh,yf,if_false,yi]
      rw [w1 (by omega),hih]
 unfold M.q1l zv7
 by_cases hl:t.zl.length≤32
 ·have hl':¬((32:Int)<(t.zl.length:Int)):=by omega
  have h0:=hk _ 0 rfl (yo _)
  have h0':M.z14 t 0=_:=h0
  simp only [hl',decide_false,yf,if_false,h0',ya,yb,if_true,yj,hl,true_and]
  cases zs7 none t.zl<;>rfl
 ·have hl':((32:Int)<(t.zl.length:Int)):=by omega
  simp [hl,hl']
mutual
def aln:EX→Bool
 | ⟨k,n,_,l⟩=>if 2<k then decide (n=[118,97,108,117,101]) else zxc l
def zxc:List EX→Bool
 | []=>true
 | x::xs=>aln x&&zxc xs
end
theorem zu3 (e:EX):aln e=if 2<e.zb then decide (e.zi=[118,97,108,117,101]) else zxc e.zc:=by cases e;simp only [aln]
theorem zfl:∀ l:List EX,zxc l=l.all aln
 | []=>rfl
 | x::l=>by simp [zxc,zfl l]
theorem zac:∀ (f:Nat) (e:EX),4*e.sz≤f→z1b e→M.q1s f e=some (aln e)
 | 0,e,hf,_=>by have:=e.z1n;omega
 | f+1,e,hf,hs=>by
  have hz:=e.z1n
  have hlen:=z5f e.zc
  have hs':=hs
  unfold z1b at hs'
  have hself:∀ g,4*ezs e.zc+1≤g→g≤f→∀ x∈e.zc,M.q1t g x=some (!aln x):=fun g hg hgf x hx=>by
   have hm:=z3h hx
   match g,hg,hgf with
   | g+1,hg,hgf =>
    unfold M.q1t
    rw [zac g x (by omega) (hs.mem hx)]
    rfl
  have hloop:M.q58 f e.zc=some (!zxc e.zc):=by
   match f,hf,hself with
   | g+2,hf,hself =>
    have hk:M.zv e.zc (M.q1t g) 0=some (match e.zc.findIdx? (fun x => !aln x) with|some i => .done (i:Int)|none => .go ()):=by
     refine zcg (fun i:Nat=>(i:Int)) () (by omega) (fun i h => ?_) ?_
     ·rw [M.zv]
      simp only [show ((i:Int)<(e.zc.length:Int)) by omega,decide_true,if_true,z2u,yk h,ya,yb,hself g (by omega) (by omega) _ (yl h)]
     ·rw [M.zv]
      simp
    unfold M.q58 M.q5l
    rw [hk,zfl]
    rcases z4o e.zc aln with ⟨h1,h2⟩|⟨i,h1,h2⟩
    ·rw [h1,h2];rfl
    ·rw [h1,h2];simp
   | 0,hf,_=>omega
   | 1,hf,_=>omega
  unfold M.q1s
  rw [zu3]
  by_cases h2:2<e.zb
  ·simp [h2]
  ·simp [h2,hloop]
termination_by f=>f
decreasing_by all_goals omega
def q00.sz (x:ED):Nat:=x.zi.length+x.zu.sz+kys x.zf+1
def z4a (x:ED):Prop:=x.sz<1000000000
theorem z4a.parts {x:ED} (h:z4a x):x.zi.length<1000000000∧z1b x.zu∧x.zf.length<1000000000∧∀ v∈x.zf,v.length<1000000000:=by
 unfold z4a q00.sz at h
 have:=z4m x.zf
 refine ⟨by omega,by unfold z1b;omega,by omega,fun v hv => ?_⟩
 have:=zg3 hv
 omega
def zj6 (e:EX):Bool:=decide (e.zb=0)&&decide (e.zi=[])&&decide (e.z08=[])&&decide (e.zc.length=0)
def edK (k:Int) (n:Nat) (s:Bool):Bool:=if k=0 then decide (0<n) && !s else if k=1 then decide (n=0) else if k=2 then decide (0<n)&&(decide (n=1) || !s) else false
def z6q (x:ED):Bool:=isName x.zi && !decide (x.zi=[105,100]) && !decide (x.zi=[116,97,103])&&sgl x.zf&&(if x.z19=true then fm x.zu&&aln x.zu else zj6 x.zu)&&edK x.zb x.zf.length x.z19
theorem zbp {x:ED} {f:Nat} (hf:4*x.sz≤f) (hx:z4a x):M.q24 f x=some (z6q x):=by
 obtain ⟨h1,h2,h3,h4⟩:=hx.parts
 have hsz:x.sz=x.zi.length+x.zu.sz+kys x.zf+1:=rfl
 have hwz:=x.zu.z1n
 have h2':=h2
 unfold z1b at h2'
 unfold M.q24 z6q
 rw [z4t,zdy h3,z7t f x.zu (by omega) h2,zac f x.zu (by omega) h2]
 simp only [ya,yb]
 have hcat:cat x.zu.zi x.zu.z08=some (x.zu.zi++x.zu.z08):=z2h (by omega)
 rw [hcat]
 simp only [yb]
 have hcd:(decide (x.zu.zi++x.zu.z08=([]:List UInt8)))=(decide (x.zu.zi=[])&&decide (x.zu.z08=[])):=by rw [Bool.eq_iff_iff];simp
 have hn0:decide ((x.zf.length:Int)=0)=decide (x.zf.length=0):=by rw [decide_eq_decide];omega
 have hn1:decide ((x.zf.length:Int)=1)=decide (x.zf.length=1):=by rw [decide_eq_decide];omega
 have hnp:decide ((0:Int)<(x.zf.length:Int))=decide (0<x.zf.length):=by rw [decide_eq_decide];omega
 have hlp:decide ((0:Int)<(x.zu.zc.length:Int)) = !decide (x.zu.zc.length=0):=by rw [←decide_not,decide_eq_decide];omega
 rw [hcd,hn0,hn1,hnp,hlp]
 have hend:(if decide (x.zb=0)=true then some (decide (0<x.zf.length) && !x.z19) else if decide (x.zb=1)=true then some (decide (x.zf.length=0)) else if decide (x.zb=2)=true then some (decide (0<x.zf.length)&&(decide (x.zf.length=1) || !x.z19)) else some false:Option Bool)=some (edK x.zb x.zf.length x.z19):=by
  unfold edK
  by_cases k0:x.zb=0
  ·simp [k0]
  ·by_cases k1:x.zb=1
   ·simp [k1]
   ·by_cases k2:x.zb=2
    ·simp [k2]
    ·simp [k0,k1,k2]
 rw [hend]
 generalize edK x.zb x.zf.length x.z19=b5
 have hz:zj6 x.zu=(decide (x.zu.zb=0)&&(decide (x.zu.zi=[])&&decide (x.zu.z08=[]))&&decide (x.zu.zc.length=0)):=by unfold zj6;rw [Bool.and_assoc (decide (x.zu.zb=0))]
 rw [hz]
 generalize (decide (x.zu.zi=[])&&decide (x.zu.z08=[]))=b6
 generalize decide (x.zu.zc.length=0)=b7
 generalize decide (x.zu.zb=0)=b8
 generalize sgl x.zf=b4
 generalize decide (x.zi=[105,100])=b2
 generalize decide (x.zi=[116,97,103])=b3
 generalize isName x.zi=b1
 generalize fm x.zu=b9
 generalize aln x.zu=b10
 cases b1<;>cases b2<;>cases b3<;>try (simp;done)
 cases b4
 ·simp
 ·cases x.z19
  ·cases b6<;>cases b7<;>cases b8<;>simp
  ·cases b9<;>cases b10<;>simp
def z5b (l:List ED):Nat:=(l.map (·.sz)).sum
def z7m (l:List ED):Int:=if 16<l.length then 191 else if l.all z6q=false then 194 else if (l.any fun x=>x.z19 && !decide (zbc x.zu=0))=true then 193 else 0
theorem z4g {l:List ED} {f:Nat} (hf:4*z5b l+17≤f) (hl:z5b l<1000000000):M.q1h f l=some (z7m l):=by
 have hlen:l.length≤z5b l:=z7z (g:=fun x:ED=>x.sz) (fun x=>by unfold q00.sz;omega) l
 have hm:∀ x∈l,x.sz≤z5b l:=fun x hx=>z81 (g:=fun x:ED=>x.sz) hx
 have hw:∀ x:ED,x.zu.sz≤x.sz:=fun x=>by unfold q00.sz;omega
 have hk1:M.zn l f 0=some (match l.findIdx? (fun x => !z6q x) with|some i => .done (i:Int)|none => .go ()):=by
  refine zcg (fun i:Nat=>(i:Int)) () (by omega) (fun i h => ?_) ?_
  ·have:=hm _ (yl h)
   rw [M.zn]
   simp only [show ((i:Int)<(l.length:Int)) by omega,decide_true,if_true,z2u,yk h,ya,yb,M.q1j,zbp (x:=l[i]) (f:=f) (by omega) (by unfold z4a;omega)]
  ·rw [M.zn]
   simp
 have hk2:M.zo l f 0=some (match l.findIdx? (fun x=>x.z19 && !decide (zbc x.zu=0)) with|some i => .done (i:Int)|none => .go ()):=by
  refine zcg (fun i:Nat=>(i:Int)) () (by omega) (fun i h => ?_) ?_
  ·have h1:=hm _ (yl h)
   have h2:=hw l[i]
   rw [M.zo]
   simp only [show ((i:Int)<(l.length:Int)) by omega,decide_true,if_true,z2u,yk h,ya,yb,M.q1k,z4z (e:=l[i].zu) (f:=f) (by omega) (by unfold z1b;omega)]
   cases l[i].z19<;>simp
  ·rw [M.zo]
   simp
 unfold M.q1h z7m
 by_cases h16:16<l.length
 ·have h16':((16:Int)<(l.length:Int)):=by omega
  simp [h16,h16']
 ·have h16':¬((16:Int)<(l.length:Int)):=by omega
  unfold M.q54 M.q5j M.q56 M.q5k
  simp only [h16,h16',decide_false,yf,if_false,ya,hk1,hk2]
  rcases z4o l z6q with ⟨h1,h2⟩|⟨i,h1,h2⟩
  ·rw [h1,h2]
   simp only [yb,show decide ((0:Int) ≤ -1)=false from rfl,yf,if_false,Bool.true_eq_false]
   rcases z4x l (fun x=>x.z19 && !decide (zbc x.zu=0)) with ⟨h3,h4⟩|⟨i,h3,h4⟩
   ·rw [h3,h4];rfl
   ·rw [h3,h4];simp
  ·rw [h1,h2];simp
def oneT (v:List UInt8):TH:=⟨[],[],[],[⟨[118,97,108,117,101],[v]⟩]⟩
def pick (x:ED) (v:List UInt8):Bool := !x.z19||hdE (oneT v) x.zu
theorem zad {x:ED} {v:List UInt8} {f:Nat} (hf:4*x.sz≤f) (hx:z4a x) (hv:v.length<100000000) (hw:x.z19=true→fm x.zu=true):M.q2j f x v=some (pick x v):=by
 have hsz:x.sz=x.zi.length+x.zu.sz+kys x.zf+1:=rfl
 have ht:z69 (oneT v):=by
  unfold z69 q04.sz oneT
  simp [q02.sz,kys]
  omega
 unfold M.q2j pick
 cases hs:x.z19 with
 | false=>rfl
 | true =>
  have:=z52 ht f x.zu (by omega) hx.parts.2.1 (hw hs)
  unfold oneT at this
  simp only [yh,yf,if_false,this,ya,yb,Bool.false_or]
  rfl
def dnL (x:ED) (first:Nat):Nat→List (List UInt8)→List (List UInt8)
 | _,[]=>[]
 | i,v::r=>(if i=first∧x.zb=2 then [x.zf.head?.getD []] else if !pick x v&&(decide (x.zb=1) || !decide (v=x.zf.head?.getD [])) then [v] else [])++dnL x first (i+1) r
def dn (x:ED) (old:List (List UInt8)):List (List UInt8) × Int :=
 if x.zb=0 then (old++x.zf.filter (fun v => !old.contains v),0) else match x.z19,old.findIdx? (pick x) with
  | false,_=>(x.zf,0)
  | true,none=>([],192)
  | true,some i=>(dnL x i 0 old,0)
theorem dn_k1 {x:ED} {old:List (List UInt8)} (ho:old.length<100000000) (hv:x.zf.length<1000000000):∀ (n i:Nat) (acc:List (List UInt8)),x.zf.length - i=n→i≤x.zf.length→acc.length≤i+old.length→M.z2m x old acc (i:Int)=some (acc++(x.zf.drop i).filter (fun v => !old.contains v)):=by
 intro n
 induction n with
 | zero =>
  intro i acc h1 h2 h3
  have:i=x.zf.length:=by omega
  subst this
  rw [M.z2m]
  simp
 | succ n ih =>
  intro i acc h1 h2 h3
  have hi:i<x.zf.length:=by omega
  rw [M.z2m,z1x hi]
  simp only [show ((i:Int)<(x.zf.length:Int)) by omega,decide_true,if_true,z2u,yk hi,ya,yb,zbd (l:=old) (by omega),List.filter_cons]
  cases hc:old.contains x.zf[i] with
  | true =>
   simp only [yh,yf,if_false]
   rw [w1 (by omega),ih (i+1) acc (by omega) (by omega) (by omega)]
  | false =>
   simp only [yg,if_true]
   rw [z0w (by simp only [ym,yn];omega)]
   simp only [yb]
   rw [w1 (by omega),ih (i+1) _ (by omega) (by omega) (by simp;omega)]
   simp
theorem dn_k2 {x:ED} {old:List (List UInt8)} {f first:Nat} (ho:old.length<100000000) (hov:∀ v∈old,v.length<100000000) (hf:4*x.sz≤f) (hx:z4a x) (hw:x.z19=true→fm x.zu=true) (hval:x.zb=1∨x.zb=2∧0<x.zf.length):∀ (n i:Nat) (acc:List (List UInt8)),old.length - i=n→i≤old.length→acc.length≤i→M.z2b old (first:Int) x f acc (i:Int)=some (acc++dnL x first i (old.drop i)):=by
 intro n
 induction n with
 | zero =>
  intro i acc h1 h2 h3
  have:i=old.length:=by omega
  subst this
  rw [M.z2b]
  simp [dnL]
 | succ n ih =>
  intro i acc h1 h2 h3
  have hi:i<old.length:=by omega
  have hif:decide ((i:Int)=(first:Int))=decide (i=first):=by rw [decide_eq_decide];omega
  have h0v:x.zb=2→ix x.zf 0=some (x.zf.head?.getD []):=fun hk=>by
   have:0<x.zf.length:=by
    rcases hval with h|h
    ·omega
    ·exact h.2
   rw [zni]
   cases hvv:x.zf with
   | nil=>rw [hvv] at this;simp at this
   | cons a b=>rfl
  rw [M.z2b,z1x hi]
  simp only [show ((i:Int)<(old.length:Int)) by omega,decide_true,if_true,hif,dnL,z2u,yk hi,ya,yb]
  by_cases hc:i=first∧x.zb=2
  ·have hc':(decide (i=first)&&decide (x.zb=2))=true:=by simp [hc]
   rw [if_pos hc',if_pos hc]
   simp only [h0v hc.2,yb]
   rw [z0w (by simp only [ym,yn];omega)]
   simp only [yb]
   rw [w1 (by omega),ih (i+1) _ (by omega) (by omega) (by simp;omega)]
   simp
  ·have hc':¬(decide (i=first)&&decide (x.zb=2))=true:=by simpa using hc
   rw [if_neg hc',if_neg hc]
   simp only [yb,zad hf hx (hov _ (yl hi)) hw]
   have hj:(if (!pick x old[i])=true then (if decide (x.zb=1)=true then some true else (ix x.zf 0).bind fun y=>some (!decide (old[i]=y))) else some false:Option Bool)=some (!pick x old[i]&&(decide (x.zb=1) || !decide (old[i]=x.zf.head?.getD []))):=by
    cases pick x old[i] with
    | true=>rfl
    | false =>
     by_cases k1:x.zb=1
     ·simp [k1]
     ·have k2:x.zb=2:=by
       rcases hval with h|h
       ·exact (k1 h).elim
       ·exact h.1
      rw [h0v k2]
      simp [k1]
   rw [hj]
   simp only [yb]
   cases hb:(!pick x old[i]&&(decide (x.zb=1) || !decide (old[i]=x.zf.head?.getD []))) with
   | true =>
    simp only [if_true]
    rw [z0w (by simp only [ym,yn];omega)]
    simp only [yb]
    rw [w1 (by omega),ih (i+1) _ (by omega) (by omega) (by simp;omega)]
    simp
   | false =>
    simp only [yf,if_false]
    rw [w1 (by omega),ih (i+1) _ (by omega) (by omega) (by omega)]
    simp
theorem zif {x:ED} {old:List (List UInt8)} {f:Nat} (ho:old.length<100000000) (hov:∀ v∈old,v.length<100000000) (hf:4*x.sz≤f) (hx:z4a x) (he:z6q x=true):M.q21 f x old=some (dn x old):=by
 obtain ⟨p1,p2,p3,p4⟩:=hx.parts
 unfold z6q at he
 simp only [yd] at he
 have hek:=he.2
 have hw:x.z19=true→fm x.zu=true:=fun hs=>by
  have:=he.1.2
  rw [if_pos hs,yd] at this
  exact this.1
 have hcl:∀ l:List (List UInt8),l.length<1000000000→M.z1o l=some l:=fun l hl=>by
  unfold M.z1o
  rw [z48 (by rw [decide_eq_true_iff];omega)]
  rfl
 unfold M.q21 dn
 by_cases k0:x.zb=0
 ·have h1:=dn_k1 (x:=x) (old:=old) ho p3 _ 0 old rfl (yo _) (by omega)
  have h1':M.z2m x old old 0=_:=h1
  simp only [k0,decide_true,if_true,hcl old (by omega),ya,yb,h1',yj]
 ·simp only [k0,decide_false,yf,if_false,ya,yb]
  have hk:M.z02 old f x 0=some (match old.findIdx? (pick x) with|some i => .done (i:Int)|none => .go ()):=by
   refine zcg (fun i:Nat=>(i:Int)) () (by omega) (fun i h => ?_) ?_
   ·rw [M.z02]
    simp only [show ((i:Int)<(old.length:Int)) by omega,decide_true,if_true,z2u,yk h,ya,yb,M.q22,zad hf hx (hov _ (yl h)) hw]
   ·rw [M.z02]
    simp
  unfold M.q5t
  simp only [hk,ya,yb]
  cases hs:x.z19 with
  | false =>
   simp only [ye,yf,if_false,yg,if_true,hcl x.zf (by omega)]
   cases old.findIdx? (pick x)<;>rfl
  | true =>
   cases hfi:old.findIdx? (pick x) with
   | none=>simp
   | some i =>
    have hval:x.zb=1∨x.zb=2∧0<x.zf.length:=by
     unfold edK at hek
     rw [if_neg k0] at hek
     by_cases k1:x.zb=1
     ·exact .inl k1
     ·rw [if_neg k1] at hek
      by_cases k2:x.zb=2
      ·rw [if_pos k2] at hek
       simp only [yd,decide_eq_true_eq] at hek
       exact .inr ⟨k2,hek.1⟩
      ·rw [if_neg k2] at hek;cases hek
    have h2:=dn_k2 (first:=i) ho hov hf hx hw hval _ 0 [] rfl (yo _) (yo _)
    have h2':M.z2b old (i:Int) x f [] 0=_:=h2
    have hneg:¬((i:Int)<0):=by omega
    simp [hneg,h2']
end Go.Sen
end
