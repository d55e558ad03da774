import Derived.Test.YtfdoofnmjehecaaGreatDoorRHnE
import Derived.Test.YtfdoofnmjehecaaGreatDoorRHnA
import Derived.Lib.AtoiAllCases
import Derived.Lib.MapLaws
import Derived.Lib.TrimAscii
import Derived.Lib.TrimU
set_option linter.all false
section
namespace Go.Sen
open _root_.Option renaming bind_eq_bind → ya, bind_some → yb
open _root_.Bool renaming false_eq_true → yc
open _root_.List renaming drop_eq_getElem_cons → yd, drop_eq_nil_of_le → ye, drop_zero → yf, eq_nil_of_length_eq_zero → yg, getElem?_cons_succ → yh, getElem?_cons_zero → yi, getElem?_eq_getElem → yj, getElem_mem → yk, length_append → yl, length_cons → ym, length_nil → yn
open Go.Lk Go.Pe
mutual
def prJ:q04→Z
 | ⟨k,t,l,ks⟩=>if k=0 then [110,117,108,108] else if k=1 then [102,97,108,115,101] else if k=2 then [116,114,117,101] else if k=3 then t else if k=4 then qt t
  else (if k=6 then 123 else 91)::prL (decide (k=6)) l ks true++[if k=6 then 125 else 93]
def prL (o:Bool):List q04→List Z→Bool→Z
 | [],_,_=>[]
 | x::xs,ks,f=>(if f=true then [] else [44])++((if o=true then qt (ks.head?.getD [])++[58] else [])++(prJ x++prL o xs ks.tail false))
end
theorem zng (v:q04):prJ v=if v.zh=0 then [110,117,108,108] else if v.zh=1 then [102,97,108,115,101] else if v.zh=2 then [116,114,117,101] else if v.zh=3 then v.zq else if v.zh=4 then qt v.zq
  else (if v.zh=6 then 123 else 91)::prL (decide (v.zh=6)) v.zk v.zn true++[if v.zh=6 then 125 else 93]:=by cases v;simp only [prJ]
theorem zb6 (o:Bool) (x:q04) (xs:List q04) (ks:List Z) (f:Bool):prL o (x::xs) ks f=(if f=true then [] else [44])++((if o=true then qt (ks.head?.getD [])++[58] else [])++(prJ x++prL o xs ks.tail false)):=by simp only [prL]
theorem zhz (ks:List Z):(qt (ks.head?.getD [])).length≤2+6*(kys ks - kys ks.tail)∧kys ks.tail≤kys ks:=by
 cases ks with
 | nil=>simp [qt,qbs]
 | cons k ks =>
  have:=zk1 k
  rw [z5r]
  simp only [List.head?_cons,Option.getD_some,List.tail_cons]
  omega
mutual
theorem zem:∀ v:q04,(prJ v).length≤7*v.sz
 | ⟨k,t,l,ks⟩=>by
  have h1:=zen (decide (k=6)) l ks true
  have h2:=zk1 t
  simp only [prJ,q04.sz]
  repeat' split
  all_goals try simp only [yl,ym,yn]
  all_goals omega
theorem zen:∀ (o:Bool) (l:List q04) (ks:List Z) (f:Bool),(prL o l ks f).length≤7*szs l+7*kys ks
 | _,[],_,_=>by simp [prL]
 | o,x::xs,ks,f=>by
  have h1:=zem x
  have h2:=zen o xs ks.tail false
  obtain ⟨h3,h4⟩:=zhz ks
  simp only [prL,szs]
  repeat' split
  all_goals simp only [yl,ym,yn]
  all_goals omega
end
theorem tail_drop {α:Type} (l:List α) (i:Nat):(l.drop i).tail=l.drop (i+1):=by simp
theorem ztm {v:q04} {self:List Int→q04→Option (List Int)} (hl:v.zk.length<1152921504606846976) (hk:v.zh=6→v.zn.length=v.zk.length)
  (hs:∀ x∈v.zk,∀ a:List Int,a.length+7*x.sz<90000000000→self a x=some (a++unb (prJ x))):∀ (n i:Nat) (acc:List Int),v.zk.length - i=n→i≤v.zk.length →
  acc.length+7*szs (v.zk.drop i)+7*kys (v.zn.drop i)<90000000000→M.z0n v self (i:Int) acc=some (acc++unb (prL (decide (v.zh=6)) (v.zk.drop i) (v.zn.drop i) (decide (i=0)))):=by
 intro n
 induction n with
 | zero =>
  intro i acc hn hi ha
  rw [M.z0n.eq_1]
  have:¬((i:Int)<(v.zk.length:Int)):=by omega
  rw [if_neg (by simpa using this),(ye (by omega):v.zk.drop i=[])]
  simp [prL,unb]
 | succ n ih =>
  intro i acc hn hi ha
  have hlt:i<v.zk.length:=by omega
  have h1:((i:Int)<(v.zk.length:Int)):=by omega
  rw [M.z0n.eq_1]
  simp only [h1,decide_true,if_true,z6m,yj hlt,ya,yb]
  rw [w1 (by omega)]
  have e0:v.zk.drop i=v.zk[i]::v.zk.drop (i+1):=yd hlt
  have hsz:szs (v.zk.drop i)=(v.zk[i]).sz+szs (v.zk.drop (i+1))+1:=by rw [e0];simp only [szs]
  have hkd:kys (v.zn.drop (i+1))≤kys (v.zn.drop i):=by rw [←tail_drop];exact (zhz _).2
  have ej:(if decide (0<(i:Int))=true then (M.q71 acc 44).bind fun a_119=>some a_119 else some acc)=some (acc++unb (if decide (i=0)=true then [] else [44])):=by
   by_cases hz:i=0
   ·simp [hz,unb]
   ·have:0<(i:Int):=by omega
    rw [z2t (by omega)]
    simp [hz,this,unb]
  rw [ej]
  simp only [yb]
  have hc:(if decide (i=0)=true then ([]:Z) else [44]).length≤1:=by split<;>simp
  generalize hcm:(if decide (i=0)=true then ([]:Z) else [44])=cm at ej hc
  have hx:=hs _ (yk hlt)
  have hpl:=zem v.zk[i]
  by_cases h6:v.zh=6
  ·have hlk:i<v.zn.length:=by rw [hk h6];exact hlt
   have e1:v.zn.drop i=v.zn[i]::v.zn.drop (i+1):=yd hlk
   have hks:kys (v.zn.drop i)=(v.zn[i]).length+1+kys (v.zn.drop (i+1)):=by rw [e1,z5r]
   have hql:=zk1 v.zn[i]
   simp only [h6,decide_true,if_true,yj hlk,yb]
   rw [z8r (by simp [unb];omega)]
   simp only [yb]
   rw [z2t (by simp [unb];omega)]
   simp only [yb]
   rw [hx _ (by simp [unb];omega)]
   simp only [yb]
   rw [ih (i+1) _ (by omega) (by omega) (by simp [unb];omega),e0,zb6,hcm,e1]
   have e58:([58]:List Int)=unb [58]:=rfl
   rw [e58]
   simp [h6,z3o,yj hlk]
   rw [←z3o,←z3o]
   rfl
  ·rw [if_neg (by simpa using h6)]
   rw [hx _ (by simp [unb];omega)]
   simp only [yb]
   rw [ih (i+1) _ (by omega) (by omega) (by simp [unb];omega),e0,zb6,hcm,tail_drop]
   simp [h6,z3o]
theorem ze1:∀ {l:List q04} {w:Nat},zkp l w=0→∀ x∈l,zao x w=0
 | y::l,w,h,x,hx=>by
  rw [zbe] at h
  by_cases hc:zao y w=0
  ·rw [if_pos hc] at h
   rcases List.mem_cons.1 hx with rfl|hx
   ·exact hc
   ·exact ze1 h x hx
  ·rw [if_neg hc] at h;exact absurd h hc
theorem zdc {v:q04} {w:Nat} (h:zao v w=0):¬((v.zh=5∨v.zh=6)∧16≤w)∧frm v.zh v.zq v.zk.length v.zn=true∧zkp v.zk (w+1)=0:=by
 rw [zhl] at h
 split at h
 ·cases h
 ·rename_i h1
  split at h
  ·cases h
  ·rename_i h2
   exact ⟨h1,by simpa using h2,h⟩
theorem zjl {k:Int} {t:Z} {n:Nat} {ks:List Z} (h:frm k t n ks=true):(k=6→ks.length=n)∧(¬(k=5∨k=6)→n=0)∧(0≤k∧k<7):=by
 rw [zbw (.inr trivial)] at h
 simp only [Bool.and_eq_true,Bool.or_eq_true,decide_eq_true_eq] at h
 obtain ⟨h1,h2,h3,_⟩:=h
 refine ⟨fun e => ?_,fun e => ?_,h1⟩
 ·rcases h3 with h3|h3
  ·omega
  ·simp [e] at h3
 ·rcases h2 with h2|h2
  ·exact absurd h2 e
  ·omega
theorem zga:∀ (f:Nat) (v:q04) (w:Nat),w≤16→17≤f+w→zao v w=0→∀ a:List Int,a.length+7*v.sz<90000000000→M.q3d f a v=some (a++unb (prJ v)):=by
 intro f
 induction f with
 | zero=>intro v w h1 h2;omega
 | succ f ih =>
  intro v w hw hf hc a ha
  obtain ⟨c1,c2,c3⟩:=zdc hc
  obtain ⟨d1,d2,d3⟩:=zjl c2
  have hsz:=q04.zd1 v
  have hpl:=zem v
  rw [M.q3d,zng]
  rw [zng] at hpl
  by_cases h0:v.zh=0
  ·have hq:M.q72 a ([110,117,108,108]:Z)=_:=z3q (by simp;omega)
   simp [h0,hq]
  by_cases h1:v.zh=1
  ·have hq:M.q72 a ([102,97,108,115,101]:Z)=_:=z3q (by simp;omega)
   simp [h1,hq]
  by_cases h2:v.zh=2
  ·have hq:M.q72 a ([116,114,117,101]:Z)=_:=z3q (by simp;omega)
   simp [h2,hq]
  by_cases h3:v.zh=3
  ·have hq:=z3q (a:=a) (b:=v.zq) (by omega)
   simp [h3,hq]
  by_cases h4:v.zh=4
  ·have hq:=z8r (s:=v.zq) (acc:=a) (by omega)
   simp [h4,hq]
  have hl:v.zk=[]∨w<16:=by
   by_cases h56:v.zh=5∨v.zh=6
   ·exact .inr (by omega)
   ·exact .inl (yg (d2 h56))
  have hlen:=zez v.zk
  have hk1:=fun (acc:List Int) (hacc:acc.length≤a.length+1)=>ztm (v:=v) (self:=M.q3d f) (by omega) d1 (fun x hx b hb=>by
   rcases hl with h|h
   ·rw [h] at hx;cases hx
   ·exact ih x (w+1) (by omega) (by omega) (ze1 c3 x hx) b hb) _ 0 acc rfl (Nat.zero_le _) (by simp only [yf];omega)
  have hpl2:=zen (decide (v.zh=6)) v.zk v.zn true
  rw [if_neg (by simpa using h0),if_neg (by simpa using h1),if_neg (by simpa using h2),if_neg (by simpa using h3),if_neg (by simpa using h4),if_neg h0,if_neg h1,if_neg h2,if_neg h3,if_neg h4]
  by_cases h6:v.zh=6
  ·simp only [h6,decide_true,if_true,ya,yb,zz2,zzy,yi,yh]
   rw [z2t (by omega)]
   simp only [yb]
   have hq:=hk1 (a++[123]) (by simp)
   have hq:M.z0n v (M.q3d f) 0 (a++[123])=_:=hq
   simp only [yf,decide_true,h6] at hq
   have e:(((123:UInt8).toNat:Nat):Int)=123:=rfl
   rw [e,hq]
   simp only [yb]
   simp only [h6,decide_true] at hpl2
   rw [z2t (by simp [unb];omega)]
   simp [unb]
  ·simp only [h6,decide_false,if_false,ya,yb,zz2,zzy,yi,yh,yc]
   rw [z2t (by omega)]
   simp only [yb]
   have hq:=hk1 (a++[91]) (by simp)
   have hq:M.z0n v (M.q3d f) 0 (a++[91])=_:=hq
   simp only [yf,decide_true,decide_false,h6] at hq
   have e:(((91:UInt8).toNat:Nat):Int)=91:=rfl
   rw [e,hq]
   simp only [yb]
   simp only [h6,decide_false] at hpl2
   rw [z2t (by simp [unb];omega)]
   simp [unb]
theorem zsq {v:q04} {self:q04→Option (List Int)} (hl:v.zk.length<1152921504606846976) (hk:v.zh=6→v.zn.length=v.zk.length)
  (hs:∀ x∈v.zk,self x=some (unb (prJ x))):∀ (n i:Nat) (acc:List Int),v.zk.length - i=n→i≤v.zk.length →
  acc.length+7*szs (v.zk.drop i)+7*kys (v.zn.drop i)<90000000000→M.z3k v self acc (i:Int)=some (acc++unb (prL (decide (v.zh=6)) (v.zk.drop i) (v.zn.drop i) (decide (i=0)))):=by
 intro n
 induction n with
 | zero =>
  intro i acc hn hi ha
  rw [M.z3k.eq_1]
  have:¬((i:Int)<(v.zk.length:Int)):=by omega
  rw [if_neg (by simpa using this),(ye (by omega):v.zk.drop i=[])]
  simp [prL,unb]
 | succ n ih =>
  intro i acc hn hi ha
  have hlt:i<v.zk.length:=by omega
  have h1:((i:Int)<(v.zk.length:Int)):=by omega
  rw [M.z3k.eq_1]
  simp only [h1,decide_true,if_true,z6m,yj hlt,ya,yb]
  rw [w1 (by omega)]
  have e0:v.zk.drop i=v.zk[i]::v.zk.drop (i+1):=yd hlt
  have hsz:szs (v.zk.drop i)=(v.zk[i]).sz+szs (v.zk.drop (i+1))+1:=by rw [e0];simp only [szs]
  have hkd:kys (v.zn.drop (i+1))≤kys (v.zn.drop i):=by rw [←tail_drop];exact (zhz _).2
  have ej:(if decide (0<(i:Int))=true then (app 1 acc [44]).bind fun a_119=>some a_119 else some acc)=some (acc++unb (if decide (i=0)=true then [] else [44])):=by
   by_cases hz:i=0
   ·simp [hz,unb]
   ·have:0<(i:Int):=by omega
    rw [z2p (by simp;omega)]
    simp [hz,this,unb]
  rw [ej]
  simp only [yb]
  have hc:(if decide (i=0)=true then ([]:Z) else [44]).length≤1:=by split<;>simp
  generalize hcm:(if decide (i=0)=true then ([]:Z) else [44])=cm at ej hc
  have hx:=hs _ (yk hlt)
  have hpl:=zem v.zk[i]
  by_cases h6:v.zh=6
  ·have hlk:i<v.zn.length:=by rw [hk h6];exact hlt
   have e1:v.zn.drop i=v.zn[i]::v.zn.drop (i+1):=yd hlk
   have hks:kys (v.zn.drop i)=(v.zn[i]).length+1+kys (v.zn.drop (i+1)):=by rw [e1,z5r]
   have hql:=zk1 v.zn[i]
   have hkl:=z3y (v.zn.drop i)
   simp only [h6,decide_true,if_true,yj hlk,yb]
   rw [zcg (by omega)]
   simp only [yb]
   rw [z2p (by simp [unb];omega)]
   simp only [yb]
   rw [z2p (by simp [unb];omega)]
   simp only [yb]
   rw [hx]
   simp only [yb]
   rw [z2p (by simp [unb];omega)]
   simp only [yb]
   rw [ih (i+1) _ (by omega) (by omega) (by simp [unb];omega),e0,zb6,hcm,e1]
   have e58:([58]:List Int)=unb [58]:=rfl
   rw [e58]
   simp [h6,z3o,yj hlk]
   rw [←z3o,←z3o]
   rfl
  ·rw [if_neg (by simpa using h6)]
   simp only [yb]
   rw [hx]
   simp only [yb]
   rw [z2p (by simp [unb];omega)]
   simp only [yb]
   rw [ih (i+1) _ (by omega) (by omega) (by simp [unb];omega),e0,zb6,hcm,tail_drop]
   simp [h6,z3o]
theorem zih:∀ (f:Nat) (v:q04) (w:Nat),w≤16→17≤f+w→zao v w=0→7*v.sz<80000000000→M.q4g f v=some (unb (prJ v)):=by
 intro f
 induction f with
 | zero=>intro v w h1 h2;omega
 | succ f ih =>
  intro v w hw hf hc ha
  obtain ⟨c1,c2,c3⟩:=zdc hc
  obtain ⟨d1,d2,d3⟩:=zjl c2
  have hsz:=q04.zd1 v
  rw [M.q4g,zng]
  have ap:∀ l:Z,l.length<80000000000→app 1 ([]:List Int) (unb l)=some (unb l):=fun l hl=>by rw [z2p (by simp [unb];omega)];rfl
  by_cases h0:v.zh=0
  ·have hq:=ap ([110,117,108,108]:Z) (by simp)
   simp [h0,hq]
  by_cases h1:v.zh=1
  ·have hq:=ap ([102,97,108,115,101]:Z) (by simp)
   simp [h1,hq]
  by_cases h2:v.zh=2
  ·have hq:=ap ([116,114,117,101]:Z) (by simp)
   simp [h2,hq]
  by_cases h3:v.zh=3
  ·have hq:=ap v.zq (by omega)
   simp [h3,hq]
  by_cases h4:v.zh=4
  ·have hq:=zcg (s:=v.zq) (by omega)
   simp [h4,hq]
  have hl:v.zk=[]∨w<16:=by
   by_cases h56:v.zh=5∨v.zh=6
   ·exact .inr (by omega)
   ·exact .inl (yg (d2 h56))
  have hlen:=zez v.zk
  have hk1:=fun (acc:List Int) (hacc:acc.length≤1)=>zsq (v:=v) (self:=M.q4g f) (by omega) d1 (fun x hx=>by
   have hxs:=zix hx
   rcases hl with h|h
   ·rw [h] at hx;cases hx
   ·exact ih x (w+1) (by omega) (by omega) (ze1 c3 x hx) (by omega)) _ 0 acc rfl (Nat.zero_le _) (by simp only [yf];omega)
  have hpl2:=zen (decide (v.zh=6)) v.zk v.zn true
  rw [if_neg (by simpa using h0),if_neg (by simpa using h1),if_neg (by simpa using h2),if_neg (by simpa using h3),if_neg (by simpa using h4),if_neg h0,if_neg h1,if_neg h2,if_neg h3,if_neg h4]
  by_cases h6:v.zh=6
  ·simp only [h6,decide_true,if_true,ya,yb]
   rw [z2p (by simp)]
   simp only [yb]
   have hq:=hk1 ([]++[123]) (by simp)
   have hq:M.z3k v (M.q4g f) ([]++[123]) 0=_:=hq
   simp only [yf,decide_true,h6] at hq
   rw [hq]
   simp only [yb]
   simp only [h6,decide_true] at hpl2
   rw [z2p (by simp [unb];omega)]
   simp [unb]
  ·simp only [h6,decide_false,if_false,ya,yb,yc]
   rw [z2p (by simp)]
   simp only [yb]
   have hq:=hk1 ([]++[91]) (by simp)
   have hq:M.z3k v (M.q4g f) ([]++[91]) 0=_:=hq
   simp only [yf,decide_true,decide_false,h6] at hq
   rw [hq]
   simp only [yb]
   simp only [h6,decide_false] at hpl2
   rw [z2p (by simp [unb];omega)]
   simp [unb]
def print (v:q04):Z × Int:=if zao v 0=0 then (if 16384<(prJ v).length then ([],22) else (prJ v,0)) else ([],zao v 0)
theorem zef {v:q04} {f:Nat} (hf:17≤f) (h:Small v):M.q37 f v=some (print v):=by
 unfold M.q37 print
 rw [zee hf h]
 simp only [ya,yb]
 by_cases hc:zao v 0=0
 ·unfold Small at h
  have hl:=zga f v 0 (by omega) (by omega) hc [] (by simp;omega)
  rw [List.nil_append] at hl
  simp only [hc,decide_true,Bool.not_true,yc,if_false,if_true,hl,yb,builderLen_eq,zaj]
  by_cases h2:16384<(prJ v).length
  ·have:(16384:Int)<((prJ v).length:Int):=by omega
   simp [h2,this]
  ·have:¬(16384:Int)<((prJ v).length:Int):=by omega
   simp [h2,this,zb1]
 ·simp [hc]
theorem zgs {v:q04} {f:Nat} (hf:17≤f) (h:Small v):M.q4k f v=some (print v):=by
 unfold M.q4k print
 rw [zgr hf h]
 simp only [ya,yb]
 by_cases hc:zao v 0=0
 ·unfold Small at h
  have hl:=zih f v 0 (by omega) (by omega) hc (by omega)
  simp only [hc,decide_true,Bool.not_true,yc,if_false,if_true,hl,yb,zhi]
  by_cases h2:16384<(prJ v).length
  ·have:(16384:Int)<((prJ v).length:Int):=by omega
   simp [h2,this]
  ·have:¬(16384:Int)<((prJ v).length:Int):=by omega
   simp [h2,this]
 ·simp [hc]
end Go.Sen
end
section
namespace Go.Sen
open Go.Lk Go.Pe
def bl (b:UInt8):Bool:=([32,9,10,13]:Z).contains b
def blanks (s:Z):Z:=s.dropWhile bl
def take (s p:Z):Option Z:=if p.isPrefixOf s=true then some (blanks (s.drop p.length)) else none
def hexv (c:UInt8):Option Nat:=if isD c=true then some (c.toNat - 48) else if 97≤c.toNat∧c.toNat≤102 then some (c.toNat - 87) else if 65≤c.toNat∧c.toNat≤70 then some (c.toNat - 55) else none
theorem dropWhile_nil {α:Type} (p:α→Bool):∀ l:List α,l.dropWhile p=[]↔∀ b∈l,p b=true
 | []=>by simp
 | a::l=>by
  rw [List.dropWhile_cons]
  cases h:p a with
  | false=>simp [h]
  | true=>simp [h,dropWhile_nil p l]
theorem zox (l cs:Z):Lib.trimS l cs=[]↔∀ b∈l,cs.contains b=true:=by
 unfold Lib.trimS Lib.trimLeftS Lib.trimRightS
 rw [dropWhile_nil]
 constructor
 ·intro h
  have h2:l.reverse.dropWhile (cs.contains ·)=[]:=by
   cases hd:l.reverse.dropWhile (cs.contains ·) with
   | nil=>rfl
   | cons a r =>
    have h3:¬cs.contains a=true:=by
     have:=List.head?_dropWhile_not (cs.contains ·) l.reverse
     rw [hd] at this
     simpa using this
    exact absurd (h a (by rw [hd];simp)) h3
  rw [dropWhile_nil] at h2
  exact fun b hb=>h2 b (by simpa using hb)
 ·intro h b hb
  rw [List.mem_reverse] at hb
  exact h b (by simpa using (List.dropWhile_sublist _).subset hb)
def unit (s:Z):Option (Nat × Z) :=
 match s with
 | x::y::a::b::c::d::r=>if x=92∧y=117 then (hexv a).bind fun ha=>(hexv b).bind fun hb=>(hexv c).bind fun hc=>(hexv d).bind fun hd=>some (16*(16*(16*ha+hb)+hc)+hd,r) else none
 | _=>none
def esc1 (c:UInt8):Option UInt8:=if c=34 then some 34 else if c=92 then some 92 else if c=47 then some 47 else if c=98 then some 8 else if c=102 then some 12 else if c=110 then some 10 else if c=114 then some 13 else if c=116 then some 9 else none
def lowS (n:Nat):Bool:=decide (56320≤n)&&decide (n≤57343)
def highS (n:Nat):Bool:=decide (55296≤n)&&decide (n≤57343)
def escd (s:Z):Option (Z × Z) :=
 match s with
 | a::c::r=>match esc1 c with
  | some x=>some ([x],r)
  | none=>match unit (a::c::r) with
   | none=>none
   | some (n,r1)=>if lowS n=true then none else if highS n=false then some (encS (n:Int),r1) else match unit r1 with
    | none=>none
    | some (m,r2)=>if lowS m=true then some (encS (65536+((n:Int) - 55296)*1024+(m:Int) - 56320),r2) else none
 | _=>none
def txt:Nat→Z→Z→Option (Z × Z)
 | 0,_,_=>none
 | _+1,[],_=>none
 | f+1,c::r,acc=>if c.toNat<32 then none else if c=34 then (if Lib.validD acc=true then some (acc,r) else none)
  else if c=92 then match escd (c::r) with
   | none=>none
   | some (t,r2)=>txt f r2 (acc++t)
  else txt f r (acc++[c])
def text (s:Z):Option (Z × Z) :=
 match s with
 | c::r=>if c=34 then txt (r.length+1) r [] else none
 | []=>none
end Go.Sen
end
section
namespace Go.Sen
open _root_.Option renaming bind_eq_bind → ya, bind_some → yb
open Go.Lk Go.Pe
theorem zpy {ks:List Z} {k:Z} (hl:ks.length<1152921504606846976):∀ (n i:Nat),ks.length - i=n→i≤ks.length →
  M.zi ks k (i:Int)=some (match (ks.drop i).findIdx? (fun x=>decide (k=x)) with|some j => .done ((i+j:Nat):Int)|none => .go ()):=by
 intro n
 induction n with
 | zero =>
  intro i hn hi
  rw [M.zi.eq_1]
  have:¬((i:Int)<(ks.length:Int)):=by omega
  rw [if_neg (by simpa using this),List.drop_eq_nil_of_le (by omega)]
  rfl
 | succ n ih =>
  intro i hn hi
  have hlt:i<ks.length:=by omega
  rw [M.zi.eq_1]
  have h1:((i:Int)<(ks.length:Int)):=by omega
  simp only [h1,decide_true,if_true,z6m,List.getElem?_eq_getElem hlt,ya,yb]
  rw [w1 (by omega),ih (i+1) (by omega) (by omega),List.drop_eq_getElem_cons hlt,List.findIdx?_cons]
  by_cases h:k=ks[i]
  ·simp [h]
  ·simp only [h,decide_false,Bool.false_eq_true,if_false]
   cases (ks.drop (i+1)).findIdx? (fun x=>decide (k=x)) with
   | none=>rfl
   | some j=>simp only [Option.map_some];congr 3;omega
theorem zpx {ks:List Z} {k:Z} (hl:ks.length<1152921504606846976):M.q6y ks k=some (match ks.findIdx? (fun x=>decide (k=x)) with|some j=>(j:Int)|none => -1):=by
 unfold M.q6y
 have h:=zpy (k:=k) hl _ 0 rfl (Nat.zero_le _)
 have h:M.zi ks k 0=_:=h
 rw [h,List.drop_zero]
 cases ks.findIdx? (fun x=>decide (k=x)) with
 | none=>rfl
 | some j=>simp
theorem contains_eq {ks:List Z} {k:Z} (hl:ks.length<1152921504606846976):M.q6t ks k=some (decide (k∈ks)):=by
 unfold M.q6t
 rw [zpx hl]
 simp only [ya,yb,Option.some.injEq]
 cases h:ks.findIdx? (fun x=>decide (k=x)) with
 | none =>
  rw [List.findIdx?_eq_none_iff] at h
  have:¬k∈ks:=fun hm=>by simpa using h k hm
  simp [this]
 | some j =>
  have h2:=List.findIdx?_eq_some_iff_getElem.1 h
  obtain ⟨hj,h3,_⟩:=h2
  have:k∈ks:=by simp at h3;rw [h3];exact List.getElem_mem hj
  simp [this]
abbrev J:=q04
abbrev Rd:=Rs (J × Z)
def key1 (s:Z) (ks:List Z):Rs (Z × List Z) :=
 match text s with
 | none => .pan 20
 | some (k,r)=>if k∈ks then .pan 20 else match take (blanks r) [58] with
  | none => .pan 20
  | some r2 => .ok (r2,ks++[k])
def items (vf:Z→Rd) (o:Bool) (e:UInt8):Nat→Z→List J→List Z→Rd
 | 0,_,_,_ => .pan 20
 | f+1,s,l,ks=>match (if o=true then key1 s ks else .ok (s,ks)) with
  | .pan c => .pan c
  | .ok (s1,ks1)=>match vf s1 with
   | .pan c => .pan c
   | .ok (x,s2)=>match take s2 [e] with
    | some r => .ok (⟨if o=true then 6 else 5,[],l++[x],ks1⟩,r)
    | none=>match take s2 [44] with
     | none => .pan 20
     | some r=>items vf o e f r (l++[x]) ks1
def nest (vf:Z→Rd) (o:Bool) (w:Nat) (s:Z):Rd :=
 if 16≤w then .pan 21 else match take s [if o=true then 125 else 93] with
  | some r => .ok (⟨if o=true then 6 else 5,[],[],[]⟩,r)
  | none=>items vf o (if o=true then 125 else 93) (s.length+1) s [] []
def word (s:Z):Rd :=
 match take s [110,117,108,108] with
 | some r => .ok (⟨0,[],[],[]⟩,r)
 | none=>match take s [102,97,108,115,101] with
  | some r => .ok (⟨1,[],[],[]⟩,r)
  | none=>match take s [116,114,117,101] with
   | some r => .ok (⟨2,[],[],[]⟩,r)
   | none=>if num s=0 then .pan 20 else .ok (⟨3,s.take (num s),[],[]⟩,blanks (s.drop (num s)))
def val:Nat→Z→Nat→Rd
 | 0,_,_ => .pan 20
 | f+1,s,w=>match text s with
  | some (t,r) => .ok (⟨4,t,[],[]⟩,blanks r)
  | none=>if s.head? = some 34 then .pan 20 else match take s [91] with
   | some r=>nest (fun s=>val f s (w+1)) false w r
   | none=>match take s [123] with
    | some r=>nest (fun s=>val f s (w+1)) true w r
    | none=>word s
end Go.Sen
end
section
namespace Go.Sen
open Go.Lk Go.Pe
def nch (c:UInt8):Bool:=isD c||decide (c=46)||decide (c=101)||decide (c=69)||decide (c=43)||decide (c=45)
def stop (r:Z):Prop := ∀ c,r.head? = some c→nch c=false
end Go.Sen
end
section
namespace Go.Sen
open Go.Lk Go.Pe
end Go.Sen
end
section
namespace Go.Sen
open Go.Lk Go.Pe Go.RowKit
end Go.Sen
end
section
namespace Go.Sen
open Go.Lk Go.Pe
theorem zit (l:List Z) (hl:l.length<1000000000):∀ (n i:Nat),l.length - i=n→i≤l.length→M.z1w l l (i:Int)=some (.go ()):=by
 intro n
 induction n with
 | zero =>
  intro i hn hi
  rw [M.z1w.eq_1]
  have:¬((i:Int)<(l.length:Int)):=by omega
  rw [if_neg (by simp [this])]
 | succ n ih =>
  intro i hn hi
  have hlt:i<l.length:=by omega
  rw [M.z1w.eq_1]
  have h1:((i:Int)<(l.length:Int)):=by omega
  simp only [h1,decide_true,if_true,z6m,List.getElem?_eq_getElem hlt,Option.bind_eq_bind,Option.bind_some,Bool.not_true,Bool.false_eq_true,if_false]
  rw [w1 (by omega),ih (i+1) (by omega) (by omega)]
theorem zh1 {l:List Z} (hl:l.length<1000000000):M.q4l l l=some true:=by
 unfold M.q4l
 have:M.z1w l l 0=some (.go ()):=zit l hl _ 0 rfl (Nat.zero_le _)
 simp [this]
def dstep (a:Nat) (c:UInt8):Nat:=10*a+(c.toNat - 48)
def dval (a:Nat) (l:Z):Nat:=l.foldl dstep a
def mag (t:Z):Z:=if t.head? = some 45 then t.drop 1 else t
def way (t:Z):Int:=if t.head? = some 45 then -1 else 1
def canon (t:Z):Bool := !decide (mag t=[])&&(mag t).all isD&&decide ((mag t).length≤15) && !(decide ((mag t).head? = some 48)&&(decide (1<(mag t).length)||decide (way t<0)))
def intOf (v:J):Int × Bool:=if v.zh=3∧canon v.zq=true then (way v.zq*(dval 0 (mag v.zq):Int),true) else (0,false)
end Go.Sen
end
section
namespace Go.Sen
open Go.Lk Go.Pe
theorem zzi {α R X:Type} {l:List α} {p:α→Bool} {F:Int→Option (Jn R X)} (d:Nat→R) (x0:X) (hl:l.length<1152921504606846976)
  (hF:∀ (i:Nat) (h:i<l.length),F (i:Int)=if p l[i]=true then some (.done (d i)) else F (IntKind.wrap .i64 ((i:Int)+1))) (hE:F (l.length:Int)=some (.go x0)) :
  F 0=some (match l.findIdx? p with|some i => .done (d i)|none => .go x0):=by
 have key:∀ (n i:Nat),l.length - i=n→i≤l.length→F (i:Int)=some (match (l.drop i).findIdx? p with|some k => .done (d (i+k))|none => .go x0):=by
  intro n
  induction n with
  | zero =>
   intro i h1 h2
   have:i=l.length:=by omega
   subst this
   simp [hE]
  | succ n ih =>
   intro i h1 h2
   have hi:i<l.length:=by omega
   rw [hF i hi,zpn hi,List.findIdx?_cons]
   cases hp:p l[i] with
   | true=>simp
   | false =>
    rw [w1 (by omega),ih (i+1) (by omega) (by omega)]
    simp only [Bool.false_eq_true,if_false]
    cases (l.drop (i+1)).findIdx? p with
    | none=>rfl
    | some k=>simp [Nat.add_assoc,Nat.add_comm 1 k]
 have:=key _ 0 rfl (Nat.zero_le _)
 simpa using this
theorem zji {α:Type} (l:List α) (p:α→Bool):(l.findIdx? (fun x => !p x)=none∧l.all p=true)∨∃ i,l.findIdx? (fun x => !p x)=some i∧l.all p=false:=by
 have e:l.all p = !(l.any fun x => !p x):=by rw [List.all_eq_not_any_not]
 have:=List.findIdx?_isSome (xs:=l) (p:=fun x => !p x)
 cases h:l.findIdx? (fun x => !p x) with
 | none=>rw [h] at this;exact .inl ⟨rfl,by rw [e,←this];rfl⟩
 | some i=>rw [h] at this;exact .inr ⟨i,rfl,by rw [e,←this];rfl⟩
theorem zow {l cs:Z}:decide (Lib.trimS l cs=[])=l.all cs.contains:=by
 rw [Bool.eq_iff_iff,decide_eq_true_iff,zox,List.all_eq_true]
theorem zvr {l cs:Z} (hl:l.length≤9223372036854775807) (hc:(decide (cs.length<4294967281)&&cs.all fun b=>decide (b.toNat<128))=true):M.trim l cs=some (Lib.trimS l cs):=by
 unfold M.trim
 rw [zap]
 ·rfl
 ·simp only [Bool.and_eq_true] at hc ⊢
  exact ⟨by simpa using hl,hc⟩
def isA (b:UInt8):Bool:=decide (65≤b.toNat)&&decide (b.toNat≤90)
def caps:Z:=[65,66,67,68,69,70,71,72,73,74,75,76,77,78,79,80,81,82,83,84,85,86,87,88,89,90]
def bare (s:Z):Z:=Lib.trimS s [32]
theorem zjo (n:Nat):Lib.itoa (n:Int)=Lib.decDigits n:=by unfold Lib.itoa;rw [if_neg (by omega)];simp
theorem zru {n:Nat} (h:n<1000000000000000000):M.itoa (n:Int)=some (Lib.decDigits n):=by
 unfold M.itoa
 rw [zap (by simp;omega),zjo]
 rfl
end Go.Sen
end
section
namespace Go.Sen
open Go.Lk Go.Pe
end Go.Sen
end
section
namespace Go.Sen
open _root_.Bool renaming and_eq_true → ya
open Go.Lk Go.Pe
def lowB (b:UInt8):UInt8:=if isA b=true then b+32 else b
def low (s:Z):Z:=s.map lowB
theorem decode_high (b:UInt8) (r:Z) (h:¬b.toNat<128):128≤(Lib.decodeL (b::r)).1:=by
 have e:(⟨(b::r).toArray⟩:ByteArray).get! 0=b:=by simp [ByteArray.get!]
 unfold Lib.decodeL Utf8.decode
 simp only [Nat.add_zero,e,Nat.zero_add]
 rw [if_neg (by omega)]
 split
 ·split
  ·rename_i h1;simpa using h1
  ·simp [Utf8.runeError]
 ·split
  ·split
   ·rename_i h1
    simp only [ya,decide_eq_true_eq] at h1
    simp only
    omega
   ·simp [Utf8.runeError]
  ·split
   ·split
    ·rename_i h1
     simp only [ya,decide_eq_true_eq] at h1
     simp only
     omega
    ·simp [Utf8.runeError]
   ·simp [Utf8.runeError]
end Go.Sen
end
section
namespace Go.Sen
open Go.Lk Go.Pe
end Go.Sen
end
