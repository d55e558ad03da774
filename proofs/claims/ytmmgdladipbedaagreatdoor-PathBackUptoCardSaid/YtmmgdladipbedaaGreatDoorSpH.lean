import Derived.Test.YtmmgdladipbedaaGreatDoorSpD
import Derived.Test.YtmmgdladipbedaaGreatDoorPaG
set_option linter.all false
namespace Go.Sen
open Go.Lk Go.Pe
abbrev ED:=q00
def sgl (l:List (List UInt8)):Bool:=decide (l.length≤64)&&decide l.Nodup&&l.all z2n
theorem zdu {l:List (List UInt8)} (h:l.length<1000000000):M.z1l l=some (sgl l):=by
 have hk:M.zx l 0=some (match l.findIdx? (fun x => !z2n x) with|some i => .done (i:Int)|none => .go ()):=by
  refine zef (fun i:Nat=>(i:Int)) () (by omega) (fun i h => ?_) ?_
  ·rw [M.zx]
   simp only [show ((i:Int)<(l.length:Int)) by omega,decide_true,if_true,z4a,List.getElem?_eq_getElem h,Option.bind_eq_bind,Option.bind_some,M.q2s,zbf]
  ·rw [M.zx]
   simp
 have hc:M.q56 l=some (!l.all z2n):=by
  unfold M.q56 M.q5m
  rw [hk]
  rcases z5a l z2n with ⟨h1,h2⟩|⟨i,h1,h2⟩
  ·rw [h1,h2];rfl
  ·rw [h1,h2];simp
 have hs:=zj6 (l:=l) (by omega)
 unfold M.single at hs
 rw [z3i (by rw [decide_eq_true_iff];omega)] at hs
 simp only [Option.bind_eq_bind,Option.bind_some,Option.some.injEq] at hs
 unfold M.z1l sgl
 rw [z3i (by rw [decide_eq_true_iff];omega),hc]
 simp only [Option.bind_eq_bind,Option.bind_some,←hs]
 by_cases h1:l.length≤64
 ·by_cases h2:(Lib.compact (l.mergeSort fun x y=>decide (x≤y))).length=l.length
  ·simp [h1,h2]
  ·have h2':¬((Lib.compact (l.mergeSort fun x y=>decide (x≤y))).length:Int)=(l.length:Int):=by omega
   simp only [h1,h2,h2',if_true,if_false,decide_false,Bool.and_false,Bool.false_and]
 ·simp [h1]
/-! Things. -/
def zfe:Option (List UInt8)→List UInt8→Bool
 | none,_=>true
 | some q,n=>slt q n
def zjn:Option (List UInt8)→List q02→Bool
 | _,[]=>true
 | p,f::r=>isName f.zg&&zfe p f.zg && !decide (f.zh.length=0)&&sgl f.zh&&zjn (some f.zg) r
def zjh (t:TH):Int:=if t.ze.length≤32∧zjn none t.ze=true then 0 else 194
theorem z3m {t:TH} (ht:z1b t):M.q1j t=some (zjh t):=by
 obtain ⟨h1,_,_,h4⟩:=ht.parts
 have hk:∀ (n i:Nat),t.ze.length - i=n→i≤t.ze.length→M.z0o t (i:Int)=some (if zjn (if i=0 then none else (t.ze[i - 1]?).map (·.zg)) (t.ze.drop i)=true then .go () else .done 194):=by
  intro n
  induction n with
  | zero =>
   intro i h2 h3
   have:i=t.ze.length:=by omega
   subst this
   rw [M.z0o]
   simp [zjn]
  | succ n ih =>
   intro i h2 h3
   have hi:i<t.ze.length:=by omega
   have hv:=h4 _ (List.getElem_mem hi)
   rw [M.z0o,z1y hi]
   simp only [show ((i:Int)<(t.ze.length:Int)) by omega,decide_true,if_true,z4a,List.getElem?_eq_getElem hi,Option.bind_eq_bind,Option.bind_some,z4c,zdu hv.2.1]
   have hprev:(if (!isName t.ze[i].zg)=true then some true else if decide ((0:Int)<(i:Int))=true then (ix t.ze (IntKind.wrap .i64 ((i:Int) - 1))).bind fun x=>some (!slt x.zg t.ze[i].zg) else some false:Option Bool) =
     some (!(isName t.ze[i].zg&&zfe (if i=0 then none else (t.ze[i - 1]?).map (·.zg)) t.ze[i].zg)):=by
    cases isName t.ze[i].zg with
    | false=>rfl
    | true =>
     by_cases h0:i=0
     ·subst h0;rfl
     ·have e:IntKind.wrap .i64 ((i:Int) - 1)=((i - 1:Nat):Int):=by rw [w64]<;>omega
      have hi1:i - 1<t.ze.length:=by omega
      simp only [Bool.not_true,Bool.false_eq_true,if_false,show ((0:Int)<(i:Int)) by omega,decide_true,if_true,e,z4a,List.getElem?_eq_getElem hi1,Option.bind_some,h0,Option.map_some,Bool.true_and,zfe]
   rw [hprev]
   simp only [Option.bind_some,zjn]
   have hlen:decide ((t.ze[i].zh.length:Int)=0)=decide (t.ze[i].zh.length=0):=by rw [decide_eq_decide];omega
   rw [hlen]
   have hih:=ih (i+1) (by omega) (by omega)
   have e1:(if i+1=0 then none else (t.ze[i+1 - 1]?).map (·.zg):Option (List UInt8))=some t.ze[i].zg:=by
    rw [if_neg (by omega),show i+1 - 1=i by omega,List.getElem?_eq_getElem hi,Option.map_some]
   rw [e1] at hih
   obtain ⟨b1,hb1⟩:∃ b1,(isName t.ze[i].zg&&zfe (if i=0 then none else (t.ze[i - 1]?).map (·.zg)) t.ze[i].zg)=b1:=⟨_,rfl⟩
   simp only [hb1]
   cases b1 with
   | false=>simp
   | true =>
    by_cases hz:t.ze[i].zh.length=0
    ·simp [hz]
    ·simp only [Bool.not_true,hz,decide_false,Bool.or_self,Bool.false_eq_true,if_false,Option.bind_some,Bool.not_false,Bool.and_self,Bool.true_and]
     cases hs:sgl t.ze[i].zh with
     | false=>simp
     | true =>
      simp only [Bool.not_true,Bool.false_eq_true,if_false,Bool.true_and]
      rw [w1 (by omega),hih]
 unfold M.q1j zjh
 by_cases hl:t.ze.length≤32
 ·have hl':¬((32:Int)<(t.ze.length:Int)):=by omega
  have h0:=hk _ 0 rfl (Nat.zero_le _)
  have h0':M.z0o t 0=_:=h0
  simp only [hl',decide_false,Bool.false_eq_true,if_false,h0',Option.bind_eq_bind,Option.bind_some,if_true,List.drop_zero,hl,true_and]
  cases zjn none t.ze<;>rfl
 ·have hl':((32:Int)<(t.ze.length:Int)):=by omega
  simp [hl,hl']
/-! Edits. -/
mutual
def aln:EX→Bool
 | ⟨k,n,_,l⟩=>if 2<k then decide (n=[118,97,108,117,101]) else zya l
def zya:List EX→Bool
 | []=>true
 | x::xs=>aln x&&zya xs
end
theorem zym (e:EX):aln e=if 2<e.za then decide (e.zg=[118,97,108,117,101]) else zya e.zf:=by cases e;simp only [aln]
theorem zlb:∀ l:List EX,zya l=l.all aln
 | []=>rfl
 | x::l=>by simp [zya,zlb l]
theorem z9q:∀ (f:Nat) (e:EX),4*e.sz≤f→z0l e→M.q1q f e=some (aln e)
 | 0,e,hf,_=>by have:=e.z1m;omega
 | f+1,e,hf,hs=>by
  have hz:=e.z1m
  have hlen:=z4v e.zf
  have hs':=hs
  unfold z0l at hs'
  have hself:∀ g,4*ezs e.zf+1≤g→g≤f→∀ x∈e.zf,M.q1r g x=some (!aln x):=fun g hg hgf x hx=>by
   have hm:=z2k hx
   match g,hg,hgf with
   | g+1,hg,hgf =>
    unfold M.q1r
    rw [z9q g x (by omega) (hs.mem hx)]
    rfl
  have hloop:M.q4v f e.zf=some (!zya e.zf):=by
   match f,hf,hself with
   | g+2,hf,hself =>
    have hk:M.zt e.zf (M.q1r g) 0=some (match e.zf.findIdx? (fun x => !aln x) with|some i => .done (i:Int)|none => .go ()):=by
     refine zef (fun i:Nat=>(i:Int)) () (by omega) (fun i h => ?_) ?_
     ·rw [M.zt]
      simp only [show ((i:Int)<(e.zf.length:Int)) by omega,decide_true,if_true,z4a,List.getElem?_eq_getElem h,Option.bind_eq_bind,Option.bind_some,hself g (by omega) (by omega) _ (List.getElem_mem h)]
     ·rw [M.zt]
      simp
    unfold M.q4v M.q5b
    rw [hk,zlb]
    rcases z5a e.zf aln with ⟨h1,h2⟩|⟨i,h1,h2⟩
    ·rw [h1,h2];rfl
    ·rw [h1,h2];simp
   | 0,hf,_=>omega
   | 1,hf,_=>omega
  unfold M.q1q
  rw [zym]
  by_cases h2:2<e.za
  ·simp [h2]
  ·simp [h2,hloop]
termination_by f=>f
decreasing_by all_goals omega
def q00.sz (x:ED):Nat:=x.zg.length+x.zw.sz+kys x.zh+1
def z52 (x:ED):Prop:=x.sz<1000000000
theorem z52.parts {x:ED} (h:z52 x):x.zg.length<1000000000∧z0l x.zw∧x.zh.length<1000000000∧∀ v∈x.zh,v.length<1000000000:=by
 unfold z52 q00.sz at h
 have:=z69 x.zh
 refine ⟨by omega,by unfold z0l;omega,by omega,fun v hv => ?_⟩
 have:=zg5 hv
 omega
def zrz (e:EX):Bool:=decide (e.za=0)&&decide (e.zg=[])&&decide (e.z04=[])&&decide (e.zf.length=0)
def edK (k:Int) (n:Nat) (s:Bool):Bool:=if k=0 then decide (0<n) && !s else if k=1 then decide (n=0) else if k=2 then decide (0<n)&&(decide (n=1) || !s) else false
def z5j (x:ED):Bool:=isName x.zg && !decide (x.zg=[105,100]) && !decide (x.zg=[116,97,103])&&sgl x.zh&&(if x.z0t=true then fm x.zw&&aln x.zw else zrz x.zw)&&edK x.za x.zh.length x.z0t
theorem zbe {x:ED} {f:Nat} (hf:4*x.sz≤f) (hx:z52 x):M.q20 f x=some (z5j x):=by
 obtain ⟨h1,h2,h3,h4⟩:=hx.parts
 have hsz:x.sz=x.zg.length+x.zw.sz+kys x.zh+1:=rfl
 have hwz:=x.zw.z1m
 have h2':=h2
 unfold z0l at h2'
 unfold M.q20 z5j
 rw [z4c,zdu h3,z74 f x.zw (by omega) h2,z9q f x.zw (by omega) h2]
 simp only [Option.bind_eq_bind,Option.bind_some]
 have hcat:cat x.zw.zg x.zw.z04=some (x.zw.zg++x.zw.z04):=z2a (by omega)
 rw [hcat]
 simp only [Option.bind_some]
 have hcd:(decide (x.zw.zg++x.zw.z04=([]:List UInt8)))=(decide (x.zw.zg=[])&&decide (x.zw.z04=[])):=by rw [Bool.eq_iff_iff];simp
 have hn0:decide ((x.zh.length:Int)=0)=decide (x.zh.length=0):=by rw [decide_eq_decide];omega
 have hn1:decide ((x.zh.length:Int)=1)=decide (x.zh.length=1):=by rw [decide_eq_decide];omega
 have hnp:decide ((0:Int)<(x.zh.length:Int))=decide (0<x.zh.length):=by rw [decide_eq_decide];omega
 have hlp:decide ((0:Int)<(x.zw.zf.length:Int)) = !decide (x.zw.zf.length=0):=by rw [←decide_not,decide_eq_decide];omega
 rw [hcd,hn0,hn1,hnp,hlp]
 have hend:(if decide (x.za=0)=true then some (decide (0<x.zh.length) && !x.z0t) else if decide (x.za=1)=true then some (decide (x.zh.length=0)) else if decide (x.za=2)=true then some (decide (0<x.zh.length)&&(decide (x.zh.length=1) || !x.z0t)) else some false:Option Bool)=some (edK x.za x.zh.length x.z0t):=by
  unfold edK
  by_cases k0:x.za=0
  ·simp [k0]
  ·by_cases k1:x.za=1
   ·simp [k1]
   ·by_cases k2:x.za=2
    ·simp [k2]
    ·simp [k0,k1,k2]
 rw [hend]
 generalize edK x.za x.zh.length x.z0t=b5
 have hz:zrz x.zw=(decide (x.zw.za=0)&&(decide (x.zw.zg=[])&&decide (x.zw.z04=[]))&&decide (x.zw.zf.length=0)):=by unfold zrz;rw [Bool.and_assoc (decide (x.zw.za=0))]
 rw [hz]
 generalize (decide (x.zw.zg=[])&&decide (x.zw.z04=[]))=b6
 generalize decide (x.zw.zf.length=0)=b7
 generalize decide (x.zw.za=0)=b8
 generalize sgl x.zh=b4
 generalize decide (x.zg=[105,100])=b2
 generalize decide (x.zg=[116,97,103])=b3
 generalize isName x.zg=b1
 generalize fm x.zw=b9
 generalize aln x.zw=b10
 cases b1<;>cases b2<;>cases b3<;>try (simp;done)
 cases b4
 ·simp
 ·cases x.z0t
  ·cases b6<;>cases b7<;>cases b8<;>simp
  ·cases b9<;>cases b10<;>simp
def z4g (l:List ED):Nat:=(l.map (·.sz)).sum
def z4y (l:List ED):Int:=if 16<l.length then 191 else if l.all z5j=false then 194 else if (l.any fun x=>x.z0t && !decide (z6n x.zw=0))=true then 193 else 0
theorem z2o {l:List ED} {f:Nat} (hf:4*z4g l+17≤f) (hl:z4g l<1000000000):M.q1g f l=some (z4y l):=by
 have hlen:l.length≤z4g l:=z7l (g:=fun x:ED=>x.sz) (fun x=>by unfold q00.sz;omega) l
 have hm:∀ x∈l,x.sz≤z4g l:=fun x hx=>zaq (g:=fun x:ED=>x.sz) hx
 have hw:∀ x:ED,x.zw.sz≤x.sz:=fun x=>by unfold q00.sz;omega
 have hk1:M.zm l f 0=some (match l.findIdx? (fun x => !z5j x) with|some i => .done (i:Int)|none => .go ()):=by
  refine zef (fun i:Nat=>(i:Int)) () (by omega) (fun i h => ?_) ?_
  ·have:=hm _ (List.getElem_mem h)
   rw [M.zm]
   simp only [show ((i:Int)<(l.length:Int)) by omega,decide_true,if_true,z4a,List.getElem?_eq_getElem h,Option.bind_eq_bind,Option.bind_some,M.q1h,zbe (x:=l[i]) (f:=f) (by omega) (by unfold z52;omega)]
  ·rw [M.zm]
   simp
 have hk2:M.zn l f 0=some (match l.findIdx? (fun x=>x.z0t && !decide (z6n x.zw=0)) with|some i => .done (i:Int)|none => .go ()):=by
  refine zef (fun i:Nat=>(i:Int)) () (by omega) (fun i h => ?_) ?_
  ·have h1:=hm _ (List.getElem_mem h)
   have h2:=hw l[i]
   rw [M.zn]
   simp only [show ((i:Int)<(l.length:Int)) by omega,decide_true,if_true,z4a,List.getElem?_eq_getElem h,Option.bind_eq_bind,Option.bind_some,M.q1i,z2v (e:=l[i].zw) (f:=f) (by omega) (by unfold z0l;omega)]
   cases l[i].z0t<;>simp
  ·rw [M.zn]
   simp
 unfold M.q1g z4y
 by_cases h16:16<l.length
 ·have h16':((16:Int)<(l.length:Int)):=by omega
  simp [h16,h16']
 ·have h16':¬((16:Int)<(l.length:Int)):=by omega
  unfold M.q4t M.q59 M.q4u M.q5a
  simp only [h16,h16',decide_false,Bool.false_eq_true,if_false,Option.bind_eq_bind,hk1,hk2]
  rcases z5a l z5j with ⟨h1,h2⟩|⟨i,h1,h2⟩
  ·rw [h1,h2]
   simp only [Option.bind_some,show decide ((0:Int) ≤ -1)=false from rfl,Bool.false_eq_true,if_false,Bool.true_eq_false]
   rcases z3y l (fun x=>x.z0t && !decide (z6n x.zw=0)) with ⟨h3,h4⟩|⟨i,h3,h4⟩
   ·rw [h3,h4];rfl
   ·rw [h3,h4];simp
  ·rw [h1,h2];simp
/-! What an edit does. -/
def zzm (v:List UInt8):TH:=⟨[],[],[],[⟨[118,97,108,117,101],[v]⟩]⟩
def pick (x:ED) (v:List UInt8):Bool := !x.z0t||hdE (zzm v) x.zw
theorem z9r {x:ED} {v:List UInt8} {f:Nat} (hf:4*x.sz≤f) (hx:z52 x) (hv:v.length<100000000) (hw:x.z0t=true→fm x.zw=true):M.q2e f x v=some (pick x v):=by
 have hsz:x.sz=x.zg.length+x.zw.sz+kys x.zh+1:=rfl
 have ht:z1b (zzm v):=by
  unfold z1b q04.sz zzm
  simp [q02.sz,kys]
  omega
 unfold M.q2e pick
 cases hs:x.z0t with
 | false=>rfl
 | true =>
  have:=z4k ht f x.zw (by omega) hx.parts.2.1 (hw hs)
  unfold zzm at this
  simp only [Bool.not_true,Bool.false_eq_true,if_false,this,Option.bind_eq_bind,Option.bind_some,Bool.false_or]
  rfl
def dnL (x:ED) (first:Nat):Nat→List (List UInt8)→List (List UInt8)
 | _,[]=>[]
 | i,v::r=>(if i=first∧x.za=2 then [x.zh.head?.getD []] else if !pick x v&&(decide (x.za=1) || !decide (v=x.zh.head?.getD [])) then [v] else [])++dnL x first (i+1) r
def dn (x:ED) (old:List (List UInt8)):List (List UInt8) × Int :=
 if x.za=0 then (old++x.zh.filter (fun v => !old.contains v),0) else match x.z0t,old.findIdx? (pick x) with
  | false,_=>(x.zh,0)
  | true,none=>([],192)
  | true,some i=>(dnL x i 0 old,0)
theorem dn_k1 {x:ED} {old:List (List UInt8)} (ho:old.length<100000000) (hv:x.zh.length<1000000000):∀ (n i:Nat) (acc:List (List UInt8)),x.zh.length - i=n→i≤x.zh.length→acc.length≤i+old.length→M.z1v x old acc (i:Int)=some (acc++(x.zh.drop i).filter (fun v => !old.contains v)):=by
 intro n
 induction n with
 | zero =>
  intro i acc h1 h2 h3
  have:i=x.zh.length:=by omega
  subst this
  rw [M.z1v]
  simp
 | succ n ih =>
  intro i acc h1 h2 h3
  have hi:i<x.zh.length:=by omega
  rw [M.z1v,z1y hi]
  simp only [show ((i:Int)<(x.zh.length:Int)) by omega,decide_true,if_true,z4a,List.getElem?_eq_getElem hi,Option.bind_eq_bind,Option.bind_some,zb2 (l:=old) (by omega),List.filter_cons]
  cases hc:old.contains x.zh[i] with
  | true =>
   simp only [Bool.not_true,Bool.false_eq_true,if_false]
   rw [w1 (by omega),ih (i+1) acc (by omega) (by omega) (by omega)]
  | false =>
   simp only [Bool.not_false,if_true]
   rw [z3g (by simp only [List.length_cons,List.length_nil];omega)]
   simp only [Option.bind_some]
   rw [w1 (by omega),ih (i+1) _ (by omega) (by omega) (by simp;omega)]
   simp
theorem dn_k2 {x:ED} {old:List (List UInt8)} {f first:Nat} (ho:old.length<100000000) (hov:∀ v∈old,v.length<100000000) (hf:4*x.sz≤f) (hx:z52 x) (hw:x.z0t=true→fm x.zw=true) (hval:x.za=1∨x.za=2∧0<x.zh.length):∀ (n i:Nat) (acc:List (List UInt8)),old.length - i=n→i≤old.length→acc.length≤i→M.z1j old (first:Int) x f acc (i:Int)=some (acc++dnL x first i (old.drop i)):=by
 intro n
 induction n with
 | zero =>
  intro i acc h1 h2 h3
  have:i=old.length:=by omega
  subst this
  rw [M.z1j]
  simp [dnL]
 | succ n ih =>
  intro i acc h1 h2 h3
  have hi:i<old.length:=by omega
  have hif:decide ((i:Int)=(first:Int))=decide (i=first):=by rw [decide_eq_decide];omega
  have h0v:x.za=2→ix x.zh 0=some (x.zh.head?.getD []):=fun hk=>by
   have:0<x.zh.length:=by
    rcases hval with h|h
    ·omega
    ·exact h.2
   rw [znq]
   cases hvv:x.zh with
   | nil=>rw [hvv] at this;simp at this
   | cons a b=>rfl
  rw [M.z1j,z1y hi]
  simp only [show ((i:Int)<(old.length:Int)) by omega,decide_true,if_true,hif,dnL,z4a,List.getElem?_eq_getElem hi,Option.bind_eq_bind,Option.bind_some]
  by_cases hc:i=first∧x.za=2
  ·have hc':(decide (i=first)&&decide (x.za=2))=true:=by simp [hc]
   rw [if_pos hc',if_pos hc]
   simp only [h0v hc.2,Option.bind_some]
   rw [z3g (by simp only [List.length_cons,List.length_nil];omega)]
   simp only [Option.bind_some]
   rw [w1 (by omega),ih (i+1) _ (by omega) (by omega) (by simp;omega)]
   simp
  ·have hc':¬(decide (i=first)&&decide (x.za=2))=true:=by simpa using hc
   rw [if_neg hc',if_neg hc]
   simp only [Option.bind_some,z9r hf hx (hov _ (List.getElem_mem hi)) hw]
   have hj:(if (!pick x old[i])=true then (if decide (x.za=1)=true then some true else (ix x.zh 0).bind fun y=>some (!decide (old[i]=y))) else some false:Option Bool)=some (!pick x old[i]&&(decide (x.za=1) || !decide (old[i]=x.zh.head?.getD []))):=by
    cases pick x old[i] with
    | true=>rfl
    | false =>
     by_cases k1:x.za=1
     ·simp [k1]
     ·have k2:x.za=2:=by
       rcases hval with h|h
       ·exact (k1 h).elim
       ·exact h.1
      rw [h0v k2]
      simp [k1]
   rw [hj]
   simp only [Option.bind_some]
   cases hb:(!pick x old[i]&&(decide (x.za=1) || !decide (old[i]=x.zh.head?.getD []))) with
   | true =>
    simp only [if_true]
    rw [z3g (by simp only [List.length_cons,List.length_nil];omega)]
    simp only [Option.bind_some]
    rw [w1 (by omega),ih (i+1) _ (by omega) (by omega) (by simp;omega)]
    simp
   | false =>
    simp only [Bool.false_eq_true,if_false]
    rw [w1 (by omega),ih (i+1) _ (by omega) (by omega) (by omega)]
    simp
theorem ziu {x:ED} {old:List (List UInt8)} {f:Nat} (ho:old.length<100000000) (hov:∀ v∈old,v.length<100000000) (hf:4*x.sz≤f) (hx:z52 x) (he:z5j x=true):M.q1y f x old=some (dn x old):=by
 obtain ⟨p1,p2,p3,p4⟩:=hx.parts
 unfold z5j at he
 simp only [Bool.and_eq_true] at he
 have hek:=he.2
 have hw:x.z0t=true→fm x.zw=true:=fun hs=>by
  have:=he.1.2
  rw [if_pos hs,Bool.and_eq_true] at this
  exact this.1
 have hcl:∀ l:List (List UInt8),l.length<1000000000→M.z16 l=some l:=fun l hl=>by
  unfold M.z16
  rw [z3i (by rw [decide_eq_true_iff];omega)]
  rfl
 unfold M.q1y dn
 by_cases k0:x.za=0
 ·have h1:=dn_k1 (x:=x) (old:=old) ho p3 _ 0 old rfl (Nat.zero_le _) (by omega)
  have h1':M.z1v x old old 0=_:=h1
  simp only [k0,decide_true,if_true,hcl old (by omega),Option.bind_eq_bind,Option.bind_some,h1',List.drop_zero]
 ·simp only [k0,decide_false,Bool.false_eq_true,if_false,Option.bind_eq_bind,Option.bind_some]
  have hk:M.z01 old f x 0=some (match old.findIdx? (pick x) with|some i => .done (i:Int)|none => .go ()):=by
   refine zef (fun i:Nat=>(i:Int)) () (by omega) (fun i h => ?_) ?_
   ·rw [M.z01]
    simp only [show ((i:Int)<(old.length:Int)) by omega,decide_true,if_true,z4a,List.getElem?_eq_getElem h,Option.bind_eq_bind,Option.bind_some,M.q1z,z9r hf hx (hov _ (List.getElem_mem h)) hw]
   ·rw [M.z01]
    simp
  unfold M.q5j
  simp only [hk,Option.bind_eq_bind,Option.bind_some]
  cases hs:x.z0t with
  | false =>
   simp only [Bool.false_and,Bool.false_eq_true,if_false,Bool.not_false,if_true,hcl x.zh (by omega)]
   cases old.findIdx? (pick x)<;>rfl
  | true =>
   cases hfi:old.findIdx? (pick x) with
   | none=>simp
   | some i =>
    have hval:x.za=1∨x.za=2∧0<x.zh.length:=by
     unfold edK at hek
     rw [if_neg k0] at hek
     by_cases k1:x.za=1
     ·exact .inl k1
     ·rw [if_neg k1] at hek
      by_cases k2:x.za=2
      ·rw [if_pos k2] at hek
       simp only [Bool.and_eq_true,decide_eq_true_eq] at hek
       exact .inr ⟨k2,hek.1⟩
      ·rw [if_neg k2] at hek;cases hek
    have h2:=dn_k2 (first:=i) ho hov hf hx hw hval _ 0 [] rfl (Nat.zero_le _) (Nat.zero_le _)
    have h2':M.z1j old (i:Int) x f [] 0=_:=h2
    have hneg:¬((i:Int)<0):=by omega
    simp [hneg,h2']
end Go.Sen
