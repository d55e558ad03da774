import Derived.Test.YtmmgdladipbedaaGreatDoorRSpB
import Derived.Test.YtmmgdladipbedaaGreatDoorRPaG
set_option linter.all false
section
namespace Go.Sen
open _root_.Option renaming bind_eq_bind → ya, bind_some → yb
open _root_.Bool renaming false_eq_true → yc
open _root_.List renaming getElem?_eq_getElem → yd, getElem_mem → ye, isSuffixOf_iff_suffix → yf, mem_singleton → yg
open IntKind renaming wrap → yh
open Go.Lk Go.Pe
abbrev TH:=q04
def q02.sz (f:q02):Nat:=f.zk.length+kys f.zq+1
def q04.sz (t:TH):Nat:=t.gId.length+t.zc.length+t.z7b.length+(t.zj.map (·.sz)).sum+1
def z4y (t:TH):Prop:=t.sz<1000000000
theorem zf2 {α:Type} {g:α→Nat}:∀ {l:List α} {x:α},x∈l→g x≤(l.map g).sum
 | y::l,x,h=>by
  simp only [List.map_cons,List.sum_cons]
  rcases List.mem_cons.1 h with rfl|h
  ·omega
  ·have:=zf2 (g:=g) h;omega
theorem zf1 {α:Type} {g:α→Nat} (hg:∀ x,1≤g x):∀ l:List α,l.length≤(l.map g).sum
 | []=>by simp
 | x::l=>by
  have:=zf1 hg l
  have:=hg x
  simp only [List.map_cons,List.sum_cons,List.length_cons]
  omega
theorem z4y.parts {t:TH} (h:z4y t):t.zj.length<1000000000∧t.gId.length<1000000000∧t.z7b.length<1000000000∧∀ f∈t.zj,f.zk.length<1000000000∧f.zq.length<1000000000∧∀ v∈f.zq,v.length<1000000000:=by
 unfold z4y q04.sz at h
 have h1:=zf1 (g:=fun f:q02=>f.sz) (fun f=>by unfold q02.sz;omega) t.zj
 refine ⟨by omega,by omega,by omega,fun f hf => ?_⟩
 have h2:=zf2 (g:=fun f:q02=>f.sz) hf
 have e2:f.sz=f.zk.length+kys f.zq+1:=rfl
 simp only [e2] at h2
 have h3:=z5q f.zq
 refine ⟨by omega,by omega,fun v hv => ?_⟩
 have:=zee hv
 omega
def zro (t:TH) (n:List UInt8):List (List UInt8):=if n=[105,100] then [t.gId] else if n=[116,97,103] then [t.z7b] else match t.zj.find? (fun f=>decide (f.zk=n)) with
 | some f=>f.zq
 | none=>[]
theorem zbc {α:Type} (p:α→Bool):∀ l:List α,l.find? p=(l.findIdx? p).bind fun i=>l[i]?
 | []=>rfl
 | x::l=>by
  rw [List.find?_cons,List.findIdx?_cons]
  cases h:p x with
  | true=>simp
  | false =>
   simp only [yc,if_false]
   rw [zbc p l]
   cases l.findIdx? p<;>simp
theorem zlm {α:Type} {p:α→Bool} {l:List α} {i:Nat} (h:l.findIdx? p=some i):∃ hi:i<l.length,p l[i]=true:=by
 rw [List.findIdx?_eq_some_iff_getElem] at h
 obtain ⟨h1,h2,_⟩:=h
 exact ⟨h1,h2⟩
theorem zcr {t:TH} {n:List UInt8} (hl:t.zj.length<1000000000):M.q2x t n=some (zro t n):=by
 unfold M.q2x zro
 by_cases h1:n=[105,100]
 ·simp [h1]
 ·by_cases h2:n=[116,97,103]
  ·simp [h2]
  ·have hk:M.zp t.zj n 0=some (match t.zj.findIdx? (fun f=>decide (f.zk=n)) with|some i => .done (i:Int)|none => .go ()):=by
    refine zh1 (fun i:Nat=>(i:Int)) () (by omega) (fun i h => ?_) ?_
    ·rw [M.zp]
     simp [show ((i:Int)<(t.zj.length:Int)) by omega,z2r,h,M.q2y]
    ·rw [M.zp]
     simp
   unfold M.q5k
   rw [hk,zbc]
   simp only [h1,h2,decide_false,yc,if_false]
   cases h:t.zj.findIdx? (fun f=>decide (f.zk=n)) with
   | none=>simp
   | some i =>
    obtain ⟨hi,_⟩:=zlm h
    simp [z2r,hi]
def fits (k:Int) (v w:List UInt8):Bool :=
 if k=3 then !decide (v=[]) else if k=4∨k=5 then decide (v=w) else if k=6 then Lib.contains v w else if k=7 then w.isPrefixOf v else if k=8 then w.isSuffixOf v else
 if k=9 then !(slt v w||decide (v=w)) else if k=10 then !slt v w else if k=11 then slt v w else slt v w||decide (v=w)
theorem zrc {s p:List UInt8} (h:p.length≤s.length):decide (s.drop (s.length - p.length)=p)=p.isSuffixOf s:=by
 rw [Bool.eq_iff_iff,decide_eq_true_iff,yf,List.suffix_iff_eq_drop]
 exact ⟨fun h=>h.symm,fun h=>h.symm⟩
theorem zu1 {s p:List UInt8} (h:¬p.length≤s.length):p.isSuffixOf s=false:=by
 rw [Bool.eq_false_iff,Ne,yf]
 exact fun hs=>h hs.length_le
theorem zsw {s p:List UInt8} (hs:s.length<1152921504606846976):(do
  let j_3←(do
   if (decide ((p.length:Int)≤(s.length:Int))) then
    let s_4←sub s (yh .i64 ((s.length:Int) - (p.length:Int))) (s.length:Int)
    some (decide (s_4=p))
   else some false:Option Bool)
  some j_3)=some (p.isSuffixOf s):=by
 by_cases h:p.length≤s.length
 ·have h':(p.length:Int)≤(s.length:Int):=by omega
  have e:yh .i64 ((s.length:Int) - (p.length:Int))=((s.length - p.length:Nat):Int):=by rw [w64]<;>omega
  simp only [h',decide_true,if_true,e,z8b (l:=s) (a:=s.length - p.length) (by omega),ya,yb,zrc h]
 ·have h':¬(p.length:Int)≤(s.length:Int):=by omega
  simp [h',zu1 h]
theorem za1 {s p:List UInt8} (hs:s.length<1152921504606846976):M.q61 s p=some (p.isSuffixOf s):=by
 have:=zsw (p:=p) hs
 unfold M.q61 M.q0h
 rw [this]
 rfl
theorem zck {v w:List UInt8} (hv:v.length<1000000000):M.contains v w=some (Lib.contains v w):=by
 unfold M.contains
 rw [z2z (by simp;omega)]
 rfl
theorem zlq {e:EX} (h1:3<e.zc) (h2:e.zc<13):∃ c:q06,(do let a←M.q1t;ix a (yh .i64 (e.zc - 4)))=some c∧∀ v:List UInt8,v.length<1000000000→M.q2b v c.zlo e=some (fits e.zc v e.z06):=by
 have:e.zc=4∨e.zc=5∨e.zc=6∨e.zc=7∨e.zc=8∨e.zc=9∨e.zc=10∨e.zc=11∨e.zc=12:=by omega
 rcases this with h|h|h|h|h|h|h|h|h<;>rw [h]<;>refine ⟨_,rfl,fun v hv => ?_⟩ <;>
  simp [M.q2b,M.q0b,fits,M.q1u,M.q1v,M.q1w,M.q1x,M.q1y,zck hv,z2g,za1 (s:=v) (by omega),F.q1u,F.strings_Contains,F.q60,F.q61,F.q1v,F.q1w,F.q1x,F.q1y]
mutual
def hdE (t:TH):EX→Bool
 | ⟨k,n,v,l⟩=>if k=0 then (zsz t l).all id else if k=1 then (zsz t l).any id else if k=2 then !((zsz t l).head?.getD false) else if k=3 then (zro t n).any (fun x => !decide (x=[])) else !((zro t n).any (fun x=>fits k x v)==decide (k=5))
def zsz (t:TH):List EX→List Bool
 | []=>[]
 | x::xs=>hdE t x::zsz t xs
end
theorem zk4 (t:TH):∀ l,zsz t l=l.map (hdE t)
 | []=>by simp [zsz]
 | x::l=>by simp [zsz,zk4 t l]
theorem zvq (t:TH) (e:EX):hdE t e=if e.zc=0 then e.ze.all (hdE t) else if e.zc=1 then e.ze.any (hdE t) else if e.zc=2 then !((e.ze.map (hdE t)).head?.getD false) else if e.zc=3 then (zro t e.zk).any (fun x => !decide (x=[])) else !((zro t e.zk).any (fun x=>fits e.zc x e.z06)==decide (e.zc=5)):=by
 cases e
 simp [hdE,zk4,List.all_map,List.any_map,Function.comp_def]
theorem zmi {t:TH} (ht:z4y t) (n:List UInt8):(zro t n).length<1000000000∧∀ v∈zro t n,v.length<1000000000:=by
 obtain ⟨h1,h2,h3,h4⟩:=ht.parts
 unfold zro
 split
 ·exact ⟨by simp,fun v hv=>by rw [yg] at hv;rw [hv];exact h2⟩
 ·split
  ·exact ⟨by simp,fun v hv=>by rw [yg] at hv;rw [hv];exact h3⟩
  ·split
   ·rename_i f hf
    exact (h4 f (List.mem_of_find?_eq_some hf)).2
   ·simp
theorem zt2 {l:List (List UInt8)} (hl:l.length<1000000000):M.q59 l=some (l.any fun x => !decide (x=[])):=by
 have hk:M.zx l 0=some (match l.findIdx? (fun x => !decide (x=[])) with|some i => .done (i:Int)|none => .go ()):=by
  refine zh1 (fun i:Nat=>(i:Int)) () (by omega) (fun i h => ?_) ?_
  ·rw [M.zx]
   simp [show ((i:Int)<(l.length:Int)) by omega,z2r,h,M.q2a]
  ·rw [M.zx]
   simp
 unfold M.q59 M.q5p
 rw [hk]
 rcases z6u l (fun x => !decide (x=[])) with ⟨h1,h2⟩|⟨i,h1,h2⟩
 ·rw [h1,h2];rfl
 ·rw [h1,h2];simp
theorem zt3 {l:List (List UInt8)} {e:EX} {c:Nat} (hl:l.length<1000000000) (hs:∀ v∈l,M.q2b v c e=some (fits e.zc v e.z06)):M.q5a l c e=some (l.any fun x=>fits e.zc x e.z06):=by
 have hk:M.zy l c e 0=some (match l.findIdx? (fun x=>fits e.zc x e.z06) with|some i => .done (i:Int)|none => .go ()):=by
  refine zh1 (fun i:Nat=>(i:Int)) () (by omega) (fun i h => ?_) ?_
  ·rw [M.zy]
   simp only [show ((i:Int)<(l.length:Int)) by omega,decide_true,if_true,z2r,yd h,ya,yb,hs _ (ye h)]
  ·rw [M.zy]
   simp
 unfold M.q5a M.q5q
 rw [hk]
 rcases z6u l (fun x=>fits e.zc x e.z06) with ⟨h1,h2⟩|⟨i,h1,h2⟩
 ·rw [h1,h2];rfl
 ·rw [h1,h2];simp
theorem z3x {t:TH} (ht:z4y t):∀ (f:Nat) (e:EX),4*e.sz≤f→z15 e→fm e=true→M.q24 f e t=some (hdE t e)
 | 0,e,hf,_,_=>by have:=e.z2c;omega
 | f+1,e,hf,hs,hfm=>by
  have hz:=e.z2c
  have hs':=hs
  unfold z15 at hs'
  have hlen:=z4s e.ze
  have hkk:=ze2 hfm
  have hv:=zmi ht e.zk
  have hval:=zcr (t:=t) (n:=e.zk) ht.parts.1
  have h2:∀ g,4*ezs e.ze+1≤g→g≤f→∀ x∈e.ze,M.q28 g x t=some (!hdE t x,t):=fun g hg hgf x hx=>by
   have hm:=z2o hx
   match g,hg,hgf with
   | g+1,hg,hgf =>
    unfold M.q28
    rw [z3x ht g x (by omega) (hs.mem hx) (zg0 hfm hx)]
    rfl
  have h1:∀ g,4*ezs e.ze+1≤g→g≤f→∀ x∈e.ze,M.q25 g x t=some (hdE t x,t):=fun g hg hgf x hx=>by
   have hm:=z2o hx
   match g,hg,hgf with
   | g+1,hg,hgf =>
    unfold M.q25
    rw [z3x ht g x (by omega) (hs.mem hx) (zg0 hfm hx)]
    rfl
  unfold M.q24
  rw [zvq]
  by_cases k0:e.zc=0
  ·have:M.q54 f e.ze t=some (e.ze.any (fun x => !hdE t x),t):=by
    match f,hf with
    | g+2,hf =>
     have hk:M.zi e.ze (M.q28 g) 0 t.gId t.zc t.z7b t.zj=some (match e.ze.findIdx? (fun x => !hdE t x) with|some i => .done ((i:Int),t)|none => .go (t.gId,t.zc,t.z7b,t.zj)):=by
      refine zh1 (F:=fun i=>M.zi e.ze (M.q28 g) i t.gId t.zc t.z7b t.zj) (fun i:Nat=>((i:Int),t)) (t.gId,t.zc,t.z7b,t.zj) (by omega) (fun i h => ?_) ?_
      ·show M.zi e.ze (M.q28 g) i t.gId t.zc t.z7b t.zj=_
       rw [M.zi]
       simp only [show ((i:Int)<(e.ze.length:Int)) by omega,decide_true,if_true,z2r,yd h,ya,yb,show (q04.mk t.gId t.zc t.z7b t.zj)=t from rfl,h2 g (by omega) (by omega) _ (ye h)]
      ·show M.zi e.ze (M.q28 g) _ t.gId t.zc t.z7b t.zj=_
       rw [M.zi]
       simp
     unfold M.q54 M.q5j
     rw [hk]
     rcases z6u e.ze (fun x => !hdE t x) with ⟨h1,h2⟩|⟨i,h1,h2⟩
     ·rw [h1,h2];rfl
     ·rw [h1,h2];simp
    | 0,hf=>omega
    | 1,hf=>omega
   simp only [k0,decide_true,if_true,this,ya,yb]
   rw [List.all_eq_not_any_not]
  by_cases k1:e.zc=1
  ·have:M.q51 f e.ze t=some (e.ze.any (fun x=>hdE t x),t):=by
    match f,hf with
    | g+2,hf =>
     have hk:M.zh e.ze (M.q25 g) 0 t.gId t.zc t.z7b t.zj=some (match e.ze.findIdx? (fun x=>hdE t x) with|some i => .done ((i:Int),t)|none => .go (t.gId,t.zc,t.z7b,t.zj)):=by
      refine zh1 (F:=fun i=>M.zh e.ze (M.q25 g) i t.gId t.zc t.z7b t.zj) (fun i:Nat=>((i:Int),t)) (t.gId,t.zc,t.z7b,t.zj) (by omega) (fun i h => ?_) ?_
      ·show M.zh e.ze (M.q25 g) i t.gId t.zc t.z7b t.zj=_
       rw [M.zh]
       simp only [show ((i:Int)<(e.ze.length:Int)) by omega,decide_true,if_true,z2r,yd h,ya,yb,show (q04.mk t.gId t.zc t.z7b t.zj)=t from rfl,h1 g (by omega) (by omega) _ (ye h)]
      ·show M.zh e.ze (M.q25 g) _ t.gId t.zc t.z7b t.zj=_
       rw [M.zh]
       simp
     unfold M.q51 M.q5h
     rw [hk]
     rcases z6u e.ze (fun x=>hdE t x) with ⟨h1,h2⟩|⟨i,h1,h2⟩
     ·rw [h1,h2];rfl
     ·rw [h1,h2];simp
    | 0,hf=>omega
    | 1,hf=>omega
   simp only [k0,k1,decide_true,decide_false,yc,if_false,if_true,this,ya,yb,show ((1:Int)=0)=False from by decide]
  by_cases k2:e.zc=2
  ·obtain ⟨x,hx,_,_,_⟩:=zk3 hfm k2
   have hxm:x∈e.ze:=by rw [hx];exact yg.2 rfl
   have hm:=z2o hxm
   have:=x.z2c
   simp only [k2,decide_true,if_true,hx,zlt,List.getElem?_cons_zero,ya,yb,h2 f (by omega) (Nat.le_refl _) x hxm]
   simp
  by_cases k3:e.zc=3
  ·simp only [k3,decide_true,if_true,hval,ya,yb,zt2 hv.1]
   simp
  ·obtain ⟨c,hc1,hc2⟩:=zlq (e:=e) (by omega) hkk.2
   simp only [k0,k1,k2,k3,decide_false,yc,if_false,ya,hval]
   have hc1':(M.q1t.bind fun a=>(ix a (yh .i64 (e.zc - 4))).bind fun x=>some x.zlo)=some c.zlo:=by
    rw [←Option.bind_assoc]
    have:(M.q1t.bind fun a=>ix a (yh .i64 (e.zc - 4)))=some c:=hc1
    rw [this];rfl
   rw [hc1']
   simp only [yb,zt3 hv.1 (fun v hvm=>hc2 v (hv.2 v hvm))]
termination_by f=>f
decreasing_by all_goals omega
def mat (e:EX) (t:TH):Bool:=decide (zho e=0)&&hdE t e
theorem zep {e:EX} {t:TH} {f:Nat} (hf:4*e.sz+17≤f) (hs:z15 e) (ht:z4y t):M.q1l f e t=some (mat e t):=by
 unfold M.q1l mat
 rw [z3v hf hs]
 by_cases h:zho e=0
 ·simp [h,z3x ht f e (by omega) hs (zhp h).1]
 ·simp [h]
end Go.Sen
end
section
namespace Go.Sen
open _root_.Option renaming bind_eq_bind → ya, bind_some → yb, map_some → yc
open _root_.Bool renaming and_eq_true → yd, false_and → ye, false_eq_true → yf, not_false → yg, not_true → yh, true_and → yi
open _root_.List renaming drop_zero → yj, getElem?_eq_getElem → yk, getElem_mem → yl, length_cons → ym, length_nil → yn
open _root_.Nat renaming zero_le → yo
open IntKind renaming wrap → yp
open Go.Lk Go.Pe
abbrev ED:=q00
def sgl (l:List (List UInt8)):Bool:=decide (l.length≤64)&&decide l.Nodup&&l.all z3f
theorem zc8 {l:List (List UInt8)} (h:l.length<1000000000):M.z1k l=some (sgl l):=by
 have hk:M.zw l 0=some (match l.findIdx? (fun x => !z3f x) with|some i => .done (i:Int)|none => .go ()):=by
  refine zh1 (fun i:Nat=>(i:Int)) () (by omega) (fun i h => ?_) ?_
  ·rw [M.zw]
   simp only [show ((i:Int)<(l.length:Int)) by omega,decide_true,if_true,z2r,yk h,ya,yb,M.q2u,za9]
  ·rw [M.zw]
   simp
 have hc:M.q5b l=some (!l.all z3f):=by
  unfold M.q5b M.q5r
  rw [hk]
  rcases z6t l z3f with ⟨h1,h2⟩|⟨i,h1,h2⟩
  ·rw [h1,h2];rfl
  ·rw [h1,h2];simp
 have hs:=zh7 (l:=l) (by omega)
 unfold M.single at hs
 rw [z2z (by rw [decide_eq_true_iff];omega)] at hs
 simp only [ya,yb,Option.some.injEq] at hs
 unfold M.z1k sgl
 rw [z2z (by rw [decide_eq_true_iff];omega),hc]
 simp only [ya,yb,←hs]
 by_cases h1:l.length≤64
 ·by_cases h2:(Lib.compact (l.mergeSort fun x y=>decide (x≤y))).length=l.length
  ·simp [h1,h2]
  ·have h2':¬((Lib.compact (l.mergeSort fun x y=>decide (x≤y))).length:Int)=(l.length:Int):=by omega
   simp only [h1,h2,h2',if_true,if_false,decide_false,Bool.and_false,ye]
 ·simp [h1]
def zkn:Option (List UInt8)→List UInt8→Bool
 | none,_=>true
 | some q,n=>slt q n
def zpz:Option (List UInt8)→List q02→Bool
 | _,[]=>true
 | p,f::r=>isName f.zk&&zkn p f.zk && !decide (f.zq.length=0)&&sgl f.zq&&zpz (some f.zk) r
def zss (t:TH):Int:=if t.zj.length≤32∧zpz none t.zj=true then 0 else 194
theorem z4m {t:TH} (ht:z4y t):M.q1k t=some (zss t):=by
 obtain ⟨h1,_,_,h4⟩:=ht.parts
 have hk:∀ (n i:Nat),t.zj.length - i=n→i≤t.zj.length→M.z0w t (i:Int)=some (if zpz (if i=0 then none else (t.zj[i - 1]?).map (·.zk)) (t.zj.drop i)=true then .go () else .done 194):=by
  intro n
  induction n with
  | zero =>
   intro i h2 h3
   have:i=t.zj.length:=by omega
   subst this
   rw [M.z0w]
   simp [zpz]
  | succ n ih =>
   intro i h2 h3
   have hi:i<t.zj.length:=by omega
   have hv:=h4 _ (yl hi)
   rw [M.z0w,z2k hi]
   simp only [show ((i:Int)<(t.zj.length:Int)) by omega,decide_true,if_true,z2r,yk hi,ya,yb,z3p,zc8 hv.2.1]
   have hprev:(if (!isName t.zj[i].zk)=true then some true else if decide ((0:Int)<(i:Int))=true then (ix t.zj (yp .i64 ((i:Int) - 1))).bind fun x=>some (!slt x.zk t.zj[i].zk) else some false:Option Bool) =
     some (!(isName t.zj[i].zk&&zkn (if i=0 then none else (t.zj[i - 1]?).map (·.zk)) t.zj[i].zk)):=by
    cases isName t.zj[i].zk with
    | false=>rfl
    | true =>
     by_cases h0:i=0
     ·subst h0;rfl
     ·have e:yp .i64 ((i:Int) - 1)=((i - 1:Nat):Int):=by rw [w64]<;>omega
      have hi1:i - 1<t.zj.length:=by omega
      simp only [yh,yf,if_false,show ((0:Int)<(i:Int)) by omega,decide_true,if_true,e,z2r,yk hi1,yb,h0,yc,yi,zkn]
   rw [hprev]
   simp only [yb,zpz]
   have hlen:decide ((t.zj[i].zq.length:Int)=0)=decide (t.zj[i].zq.length=0):=by rw [decide_eq_decide];omega
   rw [hlen]
   have hih:=ih (i+1) (by omega) (by omega)
   have e1:(if i+1=0 then none else (t.zj[i+1 - 1]?).map (·.zk):Option (List UInt8))=some t.zj[i].zk:=by
    rw [if_neg (by omega),show i+1 - 1=i by omega,yk hi,yc]
   rw [e1] at hih
   obtain ⟨b1,hb1⟩:∃ b1,(isName t.zj[i].zk&&zkn (if i=0 then none else (t.zj[i - 1]?).map (·.zk)) t.zj[i].zk)=b1:=⟨_,rfl⟩
   simp only [hb1]
   cases b1 with
   | false=>simp
   | true =>
    by_cases hz:t.zj[i].zq.length=0
    ·simp [hz]
    ·simp only [yh,hz,decide_false,Bool.or_self,yf,if_false,yb,yg,Bool.and_self,yi]
     cases hs:sgl t.zj[i].zq with
     | false=>simp
     | true =>
      simp only [yh,yf,if_false,yi]
      rw [w1 (by omega),hih]
 unfold M.q1k zss
 by_cases hl:t.zj.length≤32
 ·have hl':¬((32:Int)<(t.zj.length:Int)):=by omega
  have h0:=hk _ 0 rfl (yo _)
  have h0':M.z0w t 0=_:=h0
  simp only [hl',decide_false,yf,if_false,h0',ya,yb,if_true,yj,hl,true_and]
  cases zpz none t.zj<;>rfl
 ·have hl':((32:Int)<(t.zj.length:Int)):=by omega
  simp [hl,hl']
mutual
def aln:EX→Bool
 | ⟨k,n,_,l⟩=>if 2<k then decide (n=[118,97,108,117,101]) else zup l
def zup:List EX→Bool
 | []=>true
 | x::xs=>aln x&&zup xs
end
theorem zv6 (e:EX):aln e=if 2<e.zc then decide (e.zk=[118,97,108,117,101]) else zup e.ze:=by cases e;simp only [aln]
theorem zjg:∀ l:List EX,zup l=l.all aln
 | []=>rfl
 | x::l=>by simp [zup,zjg l]
theorem z92:∀ (f:Nat) (e:EX),4*e.sz≤f→z15 e→M.q1r f e=some (aln e)
 | 0,e,hf,_=>by have:=e.z2c;omega
 | f+1,e,hf,hs=>by
  have hz:=e.z2c
  have hlen:=z4s e.ze
  have hs':=hs
  unfold z15 at hs'
  have hself:∀ g,4*ezs e.ze+1≤g→g≤f→∀ x∈e.ze,M.q1s g x=some (!aln x):=fun g hg hgf x hx=>by
   have hm:=z2o hx
   match g,hg,hgf with
   | g+1,hg,hgf =>
    unfold M.q1s
    rw [z92 g x (by omega) (hs.mem hx)]
    rfl
  have hloop:M.q4z f e.ze=some (!zup e.ze):=by
   match f,hf,hself with
   | g+2,hf,hself =>
    have hk:M.zt e.ze (M.q1s g) 0=some (match e.ze.findIdx? (fun x => !aln x) with|some i => .done (i:Int)|none => .go ()):=by
     refine zh1 (fun i:Nat=>(i:Int)) () (by omega) (fun i h => ?_) ?_
     ·rw [M.zt]
      simp only [show ((i:Int)<(e.ze.length:Int)) by omega,decide_true,if_true,z2r,yk h,ya,yb,hself g (by omega) (by omega) _ (yl h)]
     ·rw [M.zt]
      simp
    unfold M.q4z M.q5f
    rw [hk,zjg]
    rcases z6t e.ze aln with ⟨h1,h2⟩|⟨i,h1,h2⟩
    ·rw [h1,h2];rfl
    ·rw [h1,h2];simp
   | 0,hf,_=>omega
   | 1,hf,_=>omega
  unfold M.q1r
  rw [zv6]
  by_cases h2:2<e.zc
  ·simp [h2]
  ·simp [h2,hloop]
termination_by f=>f
decreasing_by all_goals omega
def q00.sz (x:ED):Nat:=x.zk.length+x.z09.sz+kys x.zq+1
def z7d (x:ED):Prop:=x.sz<1000000000
theorem z7d.parts {x:ED} (h:z7d x):x.zk.length<1000000000∧z15 x.z09∧x.zq.length<1000000000∧∀ v∈x.zq,v.length<1000000000:=by
 unfold z7d q00.sz at h
 have:=z5q x.zq
 refine ⟨by omega,by unfold z15;omega,by omega,fun v hv => ?_⟩
 have:=zee hv
 omega
def zuk (e:EX):Bool:=decide (e.zc=0)&&decide (e.zk=[])&&decide (e.z06=[])&&decide (e.ze.length=0)
def edK (k:Int) (n:Nat) (s:Bool):Bool:=if k=0 then decide (0<n) && !s else if k=1 then decide (n=0) else if k=2 then decide (0<n)&&(decide (n=1) || !s) else false
def zhg (x:ED):Bool:=isName x.zk && !decide (x.zk=[105,100]) && !decide (x.zk=[116,97,103])&&sgl x.zq&&(if x.z3b=true then fm x.z09&&aln x.z09 else zuk x.z09)&&edK x.zc x.zq.length x.z3b
theorem za8 {x:ED} {f:Nat} (hf:4*x.sz≤f) (hx:z7d x):M.q21 f x=some (zhg x):=by
 obtain ⟨h1,h2,h3,h4⟩:=hx.parts
 have hsz:x.sz=x.zk.length+x.z09.sz+kys x.zq+1:=rfl
 have hwz:=x.z09.z2c
 have h2':=h2
 unfold z15 at h2'
 unfold M.q21 zhg
 rw [z3p,zc8 h3,z6h f x.z09 (by omega) h2,z92 f x.z09 (by omega) h2]
 simp only [ya,yb]
 have hcat:cat x.z09.zk x.z09.z06=some (x.z09.zk++x.z09.z06):=z2e (by omega)
 rw [hcat]
 simp only [yb]
 have hcd:(decide (x.z09.zk++x.z09.z06=([]:List UInt8)))=(decide (x.z09.zk=[])&&decide (x.z09.z06=[])):=by rw [Bool.eq_iff_iff];simp
 have hn0:decide ((x.zq.length:Int)=0)=decide (x.zq.length=0):=by rw [decide_eq_decide];omega
 have hn1:decide ((x.zq.length:Int)=1)=decide (x.zq.length=1):=by rw [decide_eq_decide];omega
 have hnp:decide ((0:Int)<(x.zq.length:Int))=decide (0<x.zq.length):=by rw [decide_eq_decide];omega
 have hlp:decide ((0:Int)<(x.z09.ze.length:Int)) = !decide (x.z09.ze.length=0):=by rw [←decide_not,decide_eq_decide];omega
 rw [hcd,hn0,hn1,hnp,hlp]
 have hend:(if decide (x.zc=0)=true then some (decide (0<x.zq.length) && !x.z3b) else if decide (x.zc=1)=true then some (decide (x.zq.length=0)) else if decide (x.zc=2)=true then some (decide (0<x.zq.length)&&(decide (x.zq.length=1) || !x.z3b)) else some false:Option Bool)=some (edK x.zc x.zq.length x.z3b):=by
  unfold edK
  by_cases k0:x.zc=0
  ·simp [k0]
  ·by_cases k1:x.zc=1
   ·simp [k1]
   ·by_cases k2:x.zc=2
    ·simp [k2]
    ·simp [k0,k1,k2]
 rw [hend]
 generalize edK x.zc x.zq.length x.z3b=b5
 have hz:zuk x.z09=(decide (x.z09.zc=0)&&(decide (x.z09.zk=[])&&decide (x.z09.z06=[]))&&decide (x.z09.ze.length=0)):=by unfold zuk;rw [Bool.and_assoc (decide (x.z09.zc=0))]
 rw [hz]
 generalize (decide (x.z09.zk=[])&&decide (x.z09.z06=[]))=b6
 generalize decide (x.z09.ze.length=0)=b7
 generalize decide (x.z09.zc=0)=b8
 generalize sgl x.zq=b4
 generalize decide (x.zk=[105,100])=b2
 generalize decide (x.zk=[116,97,103])=b3
 generalize isName x.zk=b1
 generalize fm x.z09=b9
 generalize aln x.z09=b10
 cases b1<;>cases b2<;>cases b3<;>try (simp;done)
 cases b4
 ·simp
 ·cases x.z3b
  ·cases b6<;>cases b7<;>cases b8<;>simp
  ·cases b9<;>cases b10<;>simp
def zdz (l:List ED):Nat:=(l.map (·.sz)).sum
def zfm (l:List ED):Int:=if 16<l.length then 191 else if l.all zhg=false then 194 else if (l.any fun x=>x.z3b && !decide (zho x.z09=0))=true then 193 else 0
theorem z8y {l:List ED} {f:Nat} (hf:4*zdz l+17≤f) (hl:zdz l<1000000000):M.q1g f l=some (zfm l):=by
 have hlen:l.length≤zdz l:=zf1 (g:=fun x:ED=>x.sz) (fun x=>by unfold q00.sz;omega) l
 have hm:∀ x∈l,x.sz≤zdz l:=fun x hx=>zf2 (g:=fun x:ED=>x.sz) hx
 have hw:∀ x:ED,x.z09.sz≤x.sz:=fun x=>by unfold q00.sz;omega
 have hk1:M.zl l f 0=some (match l.findIdx? (fun x => !zhg x) with|some i => .done (i:Int)|none => .go ()):=by
  refine zh1 (fun i:Nat=>(i:Int)) () (by omega) (fun i h => ?_) ?_
  ·have:=hm _ (yl h)
   rw [M.zl]
   simp only [show ((i:Int)<(l.length:Int)) by omega,decide_true,if_true,z2r,yk h,ya,yb,M.q1h,za8 (x:=l[i]) (f:=f) (by omega) (by unfold z7d;omega)]
  ·rw [M.zl]
   simp
 have hk2:M.zm l f 0=some (match l.findIdx? (fun x=>x.z3b && !decide (zho x.z09=0)) with|some i => .done (i:Int)|none => .go ()):=by
  refine zh1 (fun i:Nat=>(i:Int)) () (by omega) (fun i h => ?_) ?_
  ·have h1:=hm _ (yl h)
   have h2:=hw l[i]
   rw [M.zm]
   simp only [show ((i:Int)<(l.length:Int)) by omega,decide_true,if_true,z2r,yk h,ya,yb,M.q1j,z3v (e:=l[i].z09) (f:=f) (by omega) (by unfold z15;omega)]
   cases l[i].z3b<;>simp
  ·rw [M.zm]
   simp
 unfold M.q1g zfm
 by_cases h16:16<l.length
 ·have h16':((16:Int)<(l.length:Int)):=by omega
  simp [h16,h16']
 ·have h16':¬((16:Int)<(l.length:Int)):=by omega
  unfold M.q4x M.q5d M.q4y M.q5e
  simp only [h16,h16',decide_false,yf,if_false,ya,hk1,hk2]
  rcases z6t l zhg with ⟨h1,h2⟩|⟨i,h1,h2⟩
  ·rw [h1,h2]
   simp only [yb,show decide ((0:Int) ≤ -1)=false from rfl,yf,if_false,Bool.true_eq_false]
   rcases z6u l (fun x=>x.z3b && !decide (zho x.z09=0)) with ⟨h3,h4⟩|⟨i,h3,h4⟩
   ·rw [h3,h4];rfl
   ·rw [h3,h4];simp
  ·rw [h1,h2];simp
def zxh (v:List UInt8):TH:=⟨[],[],[],[⟨[118,97,108,117,101],[v]⟩]⟩
def pick (x:ED) (v:List UInt8):Bool := !x.z3b||hdE (zxh v) x.z09
theorem z94 {x:ED} {v:List UInt8} {f:Nat} (hf:4*x.sz≤f) (hx:z7d x) (hv:v.length<100000000) (hw:x.z3b=true→fm x.z09=true):M.q2f f x v=some (pick x v):=by
 have hsz:x.sz=x.zk.length+x.z09.sz+kys x.zq+1:=rfl
 have ht:z4y (zxh v):=by
  unfold z4y q04.sz zxh
  simp [q02.sz,kys]
  omega
 unfold M.q2f pick
 cases hs:x.z3b with
 | false=>rfl
 | true =>
  have:=z3x ht f x.z09 (by omega) hx.parts.2.1 (hw hs)
  unfold zxh at this
  simp only [yh,yf,if_false,this,ya,yb,Bool.false_or]
  rfl
def dnL (x:ED) (first:Nat):Nat→List (List UInt8)→List (List UInt8)
 | _,[]=>[]
 | i,v::r=>(if i=first∧x.zc=2 then [x.zq.head?.getD []] else if !pick x v&&(decide (x.zc=1) || !decide (v=x.zq.head?.getD [])) then [v] else [])++dnL x first (i+1) r
def dn (x:ED) (old:List (List UInt8)):List (List UInt8) × Int :=
 if x.zc=0 then (old++x.zq.filter (fun v => !old.contains v),0) else match x.z3b,old.findIdx? (pick x) with
  | false,_=>(x.zq,0)
  | true,none=>([],192)
  | true,some i=>(dnL x i 0 old,0)
theorem zy3 {x:ED} {old:List (List UInt8)} (ho:old.length<100000000) (hv:x.zq.length<1000000000):∀ (n i:Nat) (acc:List (List UInt8)),x.zq.length - i=n→i≤x.zq.length→acc.length≤i+old.length→M.z1q x old acc (i:Int)=some (acc++(x.zq.drop i).filter (fun v => !old.contains v)):=by
 intro n
 induction n with
 | zero =>
  intro i acc h1 h2 h3
  have:i=x.zq.length:=by omega
  subst this
  rw [M.z1q]
  simp
 | succ n ih =>
  intro i acc h1 h2 h3
  have hi:i<x.zq.length:=by omega
  rw [M.z1q,z2k hi]
  simp only [show ((i:Int)<(x.zq.length:Int)) by omega,decide_true,if_true,z2r,yk hi,ya,yb,z9w (l:=old) (by omega),List.filter_cons]
  cases hc:old.contains x.zq[i] with
  | true =>
   simp only [yh,yf,if_false]
   rw [w1 (by omega),ih (i+1) acc (by omega) (by omega) (by omega)]
  | false =>
   simp only [yg,if_true]
   rw [z1v (by simp only [ym,yn];omega)]
   simp only [yb]
   rw [w1 (by omega),ih (i+1) _ (by omega) (by omega) (by simp;omega)]
   simp
theorem zy4 {x:ED} {old:List (List UInt8)} {f first:Nat} (ho:old.length<100000000) (hov:∀ v∈old,v.length<100000000) (hf:4*x.sz≤f) (hx:z7d x) (hw:x.z3b=true→fm x.z09=true) (hval:x.zc=1∨x.zc=2∧0<x.zq.length):∀ (n i:Nat) (acc:List (List UInt8)),old.length - i=n→i≤old.length→acc.length≤i→M.z1h old (first:Int) x f acc (i:Int)=some (acc++dnL x first i (old.drop i)):=by
 intro n
 induction n with
 | zero =>
  intro i acc h1 h2 h3
  have:i=old.length:=by omega
  subst this
  rw [M.z1h]
  simp [dnL]
 | succ n ih =>
  intro i acc h1 h2 h3
  have hi:i<old.length:=by omega
  have hif:decide ((i:Int)=(first:Int))=decide (i=first):=by rw [decide_eq_decide];omega
  have h0v:x.zc=2→ix x.zq 0=some (x.zq.head?.getD []):=fun hk=>by
   have:0<x.zq.length:=by
    rcases hval with h|h
    ·omega
    ·exact h.2
   rw [zlt]
   cases hvv:x.zq with
   | nil=>rw [hvv] at this;simp at this
   | cons a b=>rfl
  rw [M.z1h,z2k hi]
  simp only [show ((i:Int)<(old.length:Int)) by omega,decide_true,if_true,hif,dnL,z2r,yk hi,ya,yb]
  by_cases hc:i=first∧x.zc=2
  ·have hc':(decide (i=first)&&decide (x.zc=2))=true:=by simp [hc]
   rw [if_pos hc',if_pos hc]
   simp only [h0v hc.2,yb]
   rw [z1v (by simp only [ym,yn];omega)]
   simp only [yb]
   rw [w1 (by omega),ih (i+1) _ (by omega) (by omega) (by simp;omega)]
   simp
  ·have hc':¬(decide (i=first)&&decide (x.zc=2))=true:=by simpa using hc
   rw [if_neg hc',if_neg hc]
   simp only [yb,z94 hf hx (hov _ (yl hi)) hw]
   have hj:(if (!pick x old[i])=true then (if decide (x.zc=1)=true then some true else (ix x.zq 0).bind fun y=>some (!decide (old[i]=y))) else some false:Option Bool)=some (!pick x old[i]&&(decide (x.zc=1) || !decide (old[i]=x.zq.head?.getD []))):=by
    cases pick x old[i] with
    | true=>rfl
    | false =>
     by_cases k1:x.zc=1
     ·simp [k1]
     ·have k2:x.zc=2:=by
       rcases hval with h|h
       ·exact (k1 h).elim
       ·exact h.1
      rw [h0v k2]
      simp [k1]
   rw [hj]
   simp only [yb]
   cases hb:(!pick x old[i]&&(decide (x.zc=1) || !decide (old[i]=x.zq.head?.getD []))) with
   | true =>
    simp only [if_true]
    rw [z1v (by simp only [ym,yn];omega)]
    simp only [yb]
    rw [w1 (by omega),ih (i+1) _ (by omega) (by omega) (by simp;omega)]
    simp
   | false =>
    simp only [yf,if_false]
    rw [w1 (by omega),ih (i+1) _ (by omega) (by omega) (by omega)]
    simp
theorem zgq {x:ED} {old:List (List UInt8)} {f:Nat} (ho:old.length<100000000) (hov:∀ v∈old,v.length<100000000) (hf:4*x.sz≤f) (hx:z7d x) (he:zhg x=true):M.q1z f x old=some (dn x old):=by
 obtain ⟨p1,p2,p3,p4⟩:=hx.parts
 unfold zhg at he
 simp only [yd] at he
 have hek:=he.2
 have hw:x.z3b=true→fm x.z09=true:=fun hs=>by
  have:=he.1.2
  rw [if_pos hs,yd] at this
  exact this.1
 have hcl:∀ l:List (List UInt8),l.length<1000000000→M.z16 l=some l:=fun l hl=>by
  unfold M.z16
  rw [z2z (by rw [decide_eq_true_iff];omega)]
  rfl
 unfold M.q1z dn
 by_cases k0:x.zc=0
 ·have h1:=zy3 (x:=x) (old:=old) ho p3 _ 0 old rfl (yo _) (by omega)
  have h1':M.z1q x old old 0=_:=h1
  simp only [k0,decide_true,if_true,hcl old (by omega),ya,yb,h1',yj]
 ·simp only [k0,decide_false,yf,if_false,ya,yb]
  have hk:M.z00 old f x 0=some (match old.findIdx? (pick x) with|some i => .done (i:Int)|none => .go ()):=by
   refine zh1 (fun i:Nat=>(i:Int)) () (by omega) (fun i h => ?_) ?_
   ·rw [M.z00]
    simp only [show ((i:Int)<(old.length:Int)) by omega,decide_true,if_true,z2r,yk h,ya,yb,M.q20,z94 hf hx (hov _ (yl h)) hw]
   ·rw [M.z00]
    simp
  unfold M.q5o
  simp only [hk,ya,yb]
  cases hs:x.z3b with
  | false =>
   simp only [ye,yf,if_false,yg,if_true,hcl x.zq (by omega)]
   cases old.findIdx? (pick x)<;>rfl
  | true =>
   cases hfi:old.findIdx? (pick x) with
   | none=>simp
   | some i =>
    have hval:x.zc=1∨x.zc=2∧0<x.zq.length:=by
     unfold edK at hek
     rw [if_neg k0] at hek
     by_cases k1:x.zc=1
     ·exact .inl k1
     ·rw [if_neg k1] at hek
      by_cases k2:x.zc=2
      ·rw [if_pos k2] at hek
       simp only [yd,decide_eq_true_eq] at hek
       exact .inr ⟨k2,hek.1⟩
      ·rw [if_neg k2] at hek;cases hek
    have h2:=zy4 (first:=i) ho hov hf hx hw hval _ 0 [] rfl (yo _) (yo _)
    have h2':M.z1h old (i:Int) x f [] 0=_:=h2
    have hneg:¬((i:Int)<0):=by omega
    simp [hneg,h2']
end Go.Sen
end
