import Derived.Test.YtmmgdladipbedaaGreatDoorESnE
set_option linter.all false
section
namespace Go.Sen
open _root_.Option renaming bind_eq_bind → ya, bind_some → yb
open _root_.Bool renaming false_eq_true → yc
open _root_.List renaming drop_eq_getElem_cons → yd, drop_eq_nil_of_le → ye, drop_zero → yf, eq_nil_of_length_eq_zero → yg, getElem?_cons_succ → yh, getElem?_cons_zero → yi, getElem?_eq_getElem → yj, getElem_mem → yk, length_append → yl, length_cons → ym, length_nil → yn
open Go.Lk Go.Pe
mutual
def prJ:q03→List UInt8
 | ⟨k,t,l,ks⟩=>if k=0 then [110,117,108,108] else if k=1 then [102,97,108,115,101] else if k=2 then [116,114,117,101] else if k=3 then t else if k=4 then qt t
  else (if k=6 then 123 else 91)::prL (decide (k=6)) l ks true++[if k=6 then 125 else 93]
def prL (o:Bool):List q03→List (List UInt8)→Bool→List UInt8
 | [],_,_=>[]
 | x::xs,ks,f=>(if f=true then [] else [44])++((if o=true then qt (ks.head?.getD [])++[58] else [])++(prJ x++prL o xs ks.tail false))
end
theorem zqa (v:q03):prJ v=if v.zb=0 then [110,117,108,108] else if v.zb=1 then [102,97,108,115,101] else if v.zb=2 then [116,114,117,101] else if v.zb=3 then v.z03 else if v.zb=4 then qt v.z03
  else (if v.zb=6 then 123 else 91)::prL (decide (v.zb=6)) v.zc v.z05 true++[if v.zb=6 then 125 else 93]:=by cases v;simp only [prJ]
theorem zce (o:Bool) (x:q03) (xs:List q03) (ks:List (List UInt8)) (f:Bool):prL o (x::xs) ks f=(if f=true then [] else [44])++((if o=true then qt (ks.head?.getD [])++[58] else [])++(prJ x++prL o xs ks.tail false)):=by simp only [prL]
theorem zjq (ks:List (List UInt8)):(qt (ks.head?.getD [])).length≤2+6*(kys ks - kys ks.tail)∧kys ks.tail≤kys ks:=by
 cases ks with
 | nil=>simp [qt,qbs]
 | cons k ks =>
  have:=zbr k
  rw [z3y]
  simp only [List.head?_cons,Option.getD_some,List.tail_cons]
  omega
mutual
theorem zgf:∀ v:q03,(prJ v).length≤7*v.sz
 | ⟨k,t,l,ks⟩=>by
  have h1:=zgg (decide (k=6)) l ks true
  have h2:=zbr t
  simp only [prJ,q03.sz]
  repeat' split
  all_goals try simp only [yl,ym,yn]
  all_goals omega
theorem zgg:∀ (o:Bool) (l:List q03) (ks:List (List UInt8)) (f:Bool),(prL o l ks f).length≤7*szs l+7*kys ks
 | _,[],_,_=>by simp [prL]
 | o,x::xs,ks,f=>by
  have h1:=zgf x
  have h2:=zgg o xs ks.tail false
  obtain ⟨h3,h4⟩:=zjq ks
  simp only [prL,szs]
  repeat' split
  all_goals simp only [yl,ym,yn]
  all_goals omega
end
theorem tail_drop {α:Type} (l:List α) (i:Nat):(l.drop i).tail=l.drop (i+1):=by simp
theorem zvu {v:q03} {self:List Int→q03→Option (List Int)} (hl:v.zc.length<1152921504606846976) (hk:v.zb=6→v.z05.length=v.zc.length)
  (hs:∀ x∈v.zc,∀ a:List Int,a.length+7*x.sz<90000000000→self a x=some (a++unb (prJ x))):∀ (n i:Nat) (acc:List Int),v.zc.length - i=n→i≤v.zc.length →
  acc.length+7*szs (v.zc.drop i)+7*kys (v.z05.drop i)<90000000000→M.z2a v self (i:Int) acc=some (acc++unb (prL (decide (v.zb=6)) (v.zc.drop i) (v.z05.drop i) (decide (i=0)))):=by
 intro n
 induction n with
 | zero =>
  intro i acc hn hi ha
  rw [M.z2a.eq_1]
  have:¬((i:Int)<(v.zc.length:Int)):=by omega
  rw [if_neg (by simpa using this),ye (as:=v.zc) (by omega)]
  simp [prL,unb]
 | succ n ih =>
  intro i acc hn hi ha
  have hlt:i<v.zc.length:=by omega
  have h1:((i:Int)<(v.zc.length:Int)):=by omega
  rw [M.z2a.eq_1]
  simp only [h1,decide_true,if_true,z2u,yj hlt,ya,yb]
  rw [w1 (by omega)]
  have e0:v.zc.drop i=v.zc[i]::v.zc.drop (i+1):=yd hlt
  have hsz:szs (v.zc.drop i)=(v.zc[i]).sz+szs (v.zc.drop (i+1))+1:=by rw [e0];simp only [szs]
  have hkd:kys (v.z05.drop (i+1))≤kys (v.z05.drop i):=by rw [←tail_drop];exact (zjq _).2
  have ej:(if decide (0<(i:Int))=true then (M.q61 acc 44).bind fun a_119=>some a_119 else some acc)=some (acc++unb (if decide (i=0)=true then [] else [44])):=by
   by_cases hz:i=0
   ·simp [hz,unb]
   ·have:0<(i:Int):=by omega
    rw [z2c (by omega)]
    simp [hz,this,unb]
  rw [ej]
  simp only [yb]
  have hc:(if decide (i=0)=true then ([]:List UInt8) else [44]).length≤1:=by split<;>simp
  generalize hcm:(if decide (i=0)=true then ([]:List UInt8) else [44])=cm at ej hc
  have hx:=hs _ (yk hlt)
  have hpl:=zgf v.zc[i]
  by_cases h6:v.zb=6
  ·have hlk:i<v.z05.length:=by rw [hk h6];exact hlt
   have e1:v.z05.drop i=v.z05[i]::v.z05.drop (i+1):=yd hlk
   have hks:kys (v.z05.drop i)=(v.z05[i]).length+1+kys (v.z05.drop (i+1)):=by rw [e1,z3y]
   have hql:=zbr v.z05[i]
   simp only [h6,decide_true,if_true,yj hlk,yb]
   rw [z8u (by simp [unb];omega)]
   simp only [yb]
   rw [z2c (by simp [unb];omega)]
   simp only [yb]
   rw [hx _ (by simp [unb];omega)]
   simp only [yb]
   rw [ih (i+1) _ (by omega) (by omega) (by simp [unb];omega),e0,zce,hcm,e1]
   have e58:([58]:List Int)=unb [58]:=rfl
   rw [e58]
   simp [h6,z2g,yj hlk]
   rw [←z2g,←z2g]
   rfl
  ·rw [if_neg (by simpa using h6)]
   rw [hx _ (by simp [unb];omega)]
   simp only [yb]
   rw [ih (i+1) _ (by omega) (by omega) (by simp [unb];omega),e0,zce,hcm,tail_drop]
   simp [h6,z2g]
theorem zfp:∀ {l:List q03} {w:Nat},zc3 l w=0→∀ x∈l,z7h x w=0
 | y::l,w,h,x,hx=>by
  rw [z9v] at h
  by_cases hc:z7h y w=0
  ·rw [if_pos hc] at h
   rcases List.mem_cons.1 hx with rfl|hx
   ·exact hc
   ·exact zfp h x hx
  ·rw [if_neg hc] at h;exact absurd h hc
theorem zep {v:q03} {w:Nat} (h:z7h v w=0):¬((v.zb=5∨v.zb=6)∧16≤w)∧frm v.zb v.z03 v.zc.length v.z05=true∧zc3 v.zc (w+1)=0:=by
 rw [z5x] at h
 split at h
 ·cases h
 ·rename_i h1
  split at h
  ·cases h
  ·rename_i h2
   exact ⟨h1,by simpa using h2,h⟩
theorem zlq {k:Int} {t:List UInt8} {n:Nat} {ks:List (List UInt8)} (h:frm k t n ks=true):(k=6→ks.length=n)∧(¬(k=5∨k=6)→n=0)∧(0≤k∧k<7):=by
 rw [zdc (.inr trivial)] at h
 simp only [Bool.and_eq_true,Bool.or_eq_true,decide_eq_true_eq] at h
 obtain ⟨h1,h2,h3,_⟩:=h
 refine ⟨fun e => ?_,fun e => ?_,h1⟩
 ·rcases h3 with h3|h3
  ·omega
  ·simp [e] at h3
 ·rcases h2 with h2|h2
  ·exact absurd h2 e
  ·omega
theorem zhz:∀ (f:Nat) (v:q03) (w:Nat),w≤16→17≤f+w→z7h v w=0→∀ a:List Int,a.length+7*v.sz<90000000000→M.q0q f a v=some (a++unb (prJ v)):=by
 intro f
 induction f with
 | zero=>intro v w h1 h2;omega
 | succ f ih =>
  intro v w hw hf hc a ha
  obtain ⟨c1,c2,c3⟩:=zep hc
  obtain ⟨d1,d2,d3⟩:=zlq c2
  have hsz:=q03.z1n v
  have hpl:=zgf v
  rw [M.q0q,zqa]
  rw [zqa] at hpl
  by_cases h0:v.zb=0
  ·have hq:M.q62 a ([110,117,108,108]:List UInt8)=_:=z2t (by simp;omega)
   simp [h0,hq]
  by_cases h1:v.zb=1
  ·have hq:M.q62 a ([102,97,108,115,101]:List UInt8)=_:=z2t (by simp;omega)
   simp [h1,hq]
  by_cases h2:v.zb=2
  ·have hq:M.q62 a ([116,114,117,101]:List UInt8)=_:=z2t (by simp;omega)
   simp [h2,hq]
  by_cases h3:v.zb=3
  ·have hq:=z2t (a:=a) (b:=v.z03) (by omega)
   simp [h3,hq]
  by_cases h4:v.zb=4
  ·have hq:=z8u (s:=v.z03) (acc:=a) (by omega)
   simp [h4,hq]
  have hl:v.zc=[]∨w<16:=by
   by_cases h56:v.zb=5∨v.zb=6
   ·exact .inr (by omega)
   ·exact .inl (yg (d2 h56))
  have hlen:=z83 v.zc
  have hk1:=fun (acc:List Int) (hacc:acc.length≤a.length+1)=>zvu (v:=v) (self:=M.q0q f) (by omega) d1 (fun x hx b hb=>by
   rcases hl with h|h
   ·rw [h] at hx;cases hx
   ·exact ih x (w+1) (by omega) (by omega) (zfp c3 x hx) b hb) _ 0 acc rfl (Nat.zero_le _) (by simp only [yf];omega)
  have hpl2:=zgg (decide (v.zb=6)) v.zc v.z05 true
  rw [if_neg (by simpa using h0),if_neg (by simpa using h1),if_neg (by simpa using h2),if_neg (by simpa using h3),if_neg (by simpa using h4),if_neg h0,if_neg h1,if_neg h2,if_neg h3,if_neg h4]
  by_cases h6:v.zb=6
  ·simp only [h6,decide_true,if_true,ya,yb,zni,zzv,yi,yh]
   rw [z2c (by omega)]
   simp only [yb]
   have hq:=hk1 (a++[123]) (by simp)
   have hq:M.z2a v (M.q0q f) 0 (a++[123])=_:=hq
   simp only [yf,decide_true,h6] at hq
   have e:(((123:UInt8).toNat:Nat):Int)=123:=rfl
   rw [e,hq]
   simp only [yb]
   simp only [h6,decide_true] at hpl2
   rw [z2c (by simp [unb];omega)]
   simp [unb]
  ·simp only [h6,decide_false,if_false,ya,yb,zni,zzv,yi,yh,yc]
   rw [z2c (by omega)]
   simp only [yb]
   have hq:=hk1 (a++[91]) (by simp)
   have hq:M.z2a v (M.q0q f) 0 (a++[91])=_:=hq
   simp only [yf,decide_true,decide_false,h6] at hq
   have e:(((91:UInt8).toNat:Nat):Int)=91:=rfl
   rw [e,hq]
   simp only [yb]
   simp only [h6,decide_false] at hpl2
   rw [z2c (by simp [unb];omega)]
   simp [unb]
theorem zux {v:q03} {self:q03→Option (List Int)} (hl:v.zc.length<1152921504606846976) (hk:v.zb=6→v.z05.length=v.zc.length)
  (hs:∀ x∈v.zc,self x=some (unb (prJ x))):∀ (n i:Nat) (acc:List Int),v.zc.length - i=n→i≤v.zc.length →
  acc.length+7*szs (v.zc.drop i)+7*kys (v.z05.drop i)<90000000000→M.z3a v self acc (i:Int)=some (acc++unb (prL (decide (v.zb=6)) (v.zc.drop i) (v.z05.drop i) (decide (i=0)))):=by
 intro n
 induction n with
 | zero =>
  intro i acc hn hi ha
  rw [M.z3a.eq_1]
  have:¬((i:Int)<(v.zc.length:Int)):=by omega
  rw [if_neg (by simpa using this),ye (as:=v.zc) (by omega)]
  simp [prL,unb]
 | succ n ih =>
  intro i acc hn hi ha
  have hlt:i<v.zc.length:=by omega
  have h1:((i:Int)<(v.zc.length:Int)):=by omega
  rw [M.z3a.eq_1]
  simp only [h1,decide_true,if_true,z2u,yj hlt,ya,yb]
  rw [w1 (by omega)]
  have e0:v.zc.drop i=v.zc[i]::v.zc.drop (i+1):=yd hlt
  have hsz:szs (v.zc.drop i)=(v.zc[i]).sz+szs (v.zc.drop (i+1))+1:=by rw [e0];simp only [szs]
  have hkd:kys (v.z05.drop (i+1))≤kys (v.z05.drop i):=by rw [←tail_drop];exact (zjq _).2
  have ej:(if decide (0<(i:Int))=true then (app 1 acc [44]).bind fun a_119=>some a_119 else some acc)=some (acc++unb (if decide (i=0)=true then [] else [44])):=by
   by_cases hz:i=0
   ·simp [hz,unb]
   ·have:0<(i:Int):=by omega
    rw [z0w (by simp;omega)]
    simp [hz,this,unb]
  rw [ej]
  simp only [yb]
  have hc:(if decide (i=0)=true then ([]:List UInt8) else [44]).length≤1:=by split<;>simp
  generalize hcm:(if decide (i=0)=true then ([]:List UInt8) else [44])=cm at ej hc
  have hx:=hs _ (yk hlt)
  have hpl:=zgf v.zc[i]
  by_cases h6:v.zb=6
  ·have hlk:i<v.z05.length:=by rw [hk h6];exact hlt
   have e1:v.z05.drop i=v.z05[i]::v.z05.drop (i+1):=yd hlk
   have hks:kys (v.z05.drop i)=(v.z05[i]).length+1+kys (v.z05.drop (i+1)):=by rw [e1,z3y]
   have hql:=zbr v.z05[i]
   have hkl:=z4m (v.z05.drop i)
   simp only [h6,decide_true,if_true,yj hlk,yb]
   rw [z9h (by omega)]
   simp only [yb]
   rw [z0w (by simp [unb];omega)]
   simp only [yb]
   rw [z0w (by simp [unb];omega)]
   simp only [yb]
   rw [hx]
   simp only [yb]
   rw [z0w (by simp [unb];omega)]
   simp only [yb]
   rw [ih (i+1) _ (by omega) (by omega) (by simp [unb];omega),e0,zce,hcm,e1]
   have e58:([58]:List Int)=unb [58]:=rfl
   rw [e58]
   simp [h6,z2g,yj hlk]
   rw [←z2g,←z2g]
   rfl
  ·rw [if_neg (by simpa using h6)]
   simp only [yb]
   rw [hx]
   simp only [yb]
   rw [z0w (by simp [unb];omega)]
   simp only [yb]
   rw [ih (i+1) _ (by omega) (by omega) (by simp [unb];omega),e0,zce,hcm,tail_drop]
   simp [h6,z2g]
theorem zk6:∀ (f:Nat) (v:q03) (w:Nat),w≤16→17≤f+w→z7h v w=0→7*v.sz<80000000000→M.q35 f v=some (unb (prJ v)):=by
 intro f
 induction f with
 | zero=>intro v w h1 h2;omega
 | succ f ih =>
  intro v w hw hf hc ha
  obtain ⟨c1,c2,c3⟩:=zep hc
  obtain ⟨d1,d2,d3⟩:=zlq c2
  have hsz:=q03.z1n v
  rw [M.q35,zqa]
  have ap:∀ l:List UInt8,l.length<80000000000→app 1 ([]:List Int) (unb l)=some (unb l):=fun l hl=>by rw [z0w (by simp [unb];omega)];rfl
  by_cases h0:v.zb=0
  ·have hq:=ap ([110,117,108,108]:List UInt8) (by simp)
   simp [h0,hq]
  by_cases h1:v.zb=1
  ·have hq:=ap ([102,97,108,115,101]:List UInt8) (by simp)
   simp [h1,hq]
  by_cases h2:v.zb=2
  ·have hq:=ap ([116,114,117,101]:List UInt8) (by simp)
   simp [h2,hq]
  by_cases h3:v.zb=3
  ·have hq:=ap v.z03 (by omega)
   simp [h3,hq]
  by_cases h4:v.zb=4
  ·have hq:=z9h (s:=v.z03) (by omega)
   simp [h4,hq]
  have hl:v.zc=[]∨w<16:=by
   by_cases h56:v.zb=5∨v.zb=6
   ·exact .inr (by omega)
   ·exact .inl (yg (d2 h56))
  have hlen:=z83 v.zc
  have hk1:=fun (acc:List Int) (hacc:acc.length≤1)=>zux (v:=v) (self:=M.q35 f) (by omega) d1 (fun x hx=>by
   have hxs:=zb5 hx
   rcases hl with h|h
   ·rw [h] at hx;cases hx
   ·exact ih x (w+1) (by omega) (by omega) (zfp c3 x hx) (by omega)) _ 0 acc rfl (Nat.zero_le _) (by simp only [yf];omega)
  have hpl2:=zgg (decide (v.zb=6)) v.zc v.z05 true
  rw [if_neg (by simpa using h0),if_neg (by simpa using h1),if_neg (by simpa using h2),if_neg (by simpa using h3),if_neg (by simpa using h4),if_neg h0,if_neg h1,if_neg h2,if_neg h3,if_neg h4]
  by_cases h6:v.zb=6
  ·simp only [h6,decide_true,if_true,ya,yb]
   rw [z0w (by simp)]
   simp only [yb]
   have hq:=hk1 ([]++[123]) (by simp)
   have hq:M.z3a v (M.q35 f) ([]++[123]) 0=_:=hq
   simp only [yf,decide_true,h6] at hq
   rw [hq]
   simp only [yb]
   simp only [h6,decide_true] at hpl2
   rw [z0w (by simp [unb];omega)]
   simp [unb]
  ·simp only [h6,decide_false,if_false,ya,yb,yc]
   rw [z0w (by simp)]
   simp only [yb]
   have hq:=hk1 ([]++[91]) (by simp)
   have hq:M.z3a v (M.q35 f) ([]++[91]) 0=_:=hq
   simp only [yf,decide_true,decide_false,h6] at hq
   rw [hq]
   simp only [yb]
   simp only [h6,decide_false] at hpl2
   rw [z0w (by simp [unb];omega)]
   simp [unb]
def print (v:q03):List UInt8 × Int:=if z7h v 0=0 then (if 16384<(prJ v).length then ([],22) else (prJ v,0)) else ([],z7h v 0)
theorem za4 {v:q03} {f:Nat} (hf:17≤f) (h:Small v):M.q0l f v=some (print v):=by
 unfold M.q0l print
 rw [zfy hf h]
 simp only [ya,yb]
 by_cases hc:z7h v 0=0
 ·unfold Small at h
  have hl:=zhz f v 0 (by omega) (by omega) hc [] (by simp;omega)
  rw [List.nil_append] at hl
  simp only [hc,decide_true,Bool.not_true,yc,if_false,if_true,hl,yb,builderLen_eq,z1t]
  by_cases h2:16384<(prJ v).length
  ·have:(16384:Int)<((prJ v).length:Int):=by omega
   simp [h2,this]
  ·have:¬(16384:Int)<((prJ v).length:Int):=by omega
   simp [h2,this,z7e]
 ·simp [hc]
theorem zij {v:q03} {f:Nat} (hf:17≤f) (h:Small v):M.q3b f v=some (print v):=by
 unfold M.q3b print
 rw [zii hf h]
 simp only [ya,yb]
 by_cases hc:z7h v 0=0
 ·unfold Small at h
  have hl:=zk6 f v 0 (by omega) (by omega) hc (by omega)
  simp only [hc,decide_true,Bool.not_true,yc,if_false,if_true,hl,yb,zap]
  by_cases h2:16384<(prJ v).length
  ·have:(16384:Int)<((prJ v).length:Int):=by omega
   simp [h2,this]
  ·have:¬(16384:Int)<((prJ v).length:Int):=by omega
   simp [h2,this]
 ·simp [hc]
end Go.Sen
end
section
namespace Go.Sen
open _root_.Option renaming bind_eq_bind → ya, bind_eq_some_iff → yb, bind_some → yc
open _root_.Bool renaming and_eq_true → yd, eq_iff_iff → ye, false_eq_true → yf, not_eq_true → yg, not_eq_true' → yh, not_false → yi, or_eq_true → yj
open _root_.List renaming dropWhile_sublist → yk, drop_succ_cons → yl, drop_zero → ym, getElem?_cons_zero → yn, isPrefixOf → yo, length_append → yp, length_cons → yq, length_nil → yr
open IntKind renaming wrap → ys
open Go.Lk Go.Pe
def bl (b:UInt8):Bool:=([32,9,10,13]:List UInt8).contains b
def z0g (s:List UInt8):List UInt8:=s.dropWhile bl
theorem z2d (s:List UInt8):(z0g s).length≤s.length:=(yk _).length_le
theorem z8s (s:List UInt8):M.q0u ⟨s⟩=some ⟨z0g s⟩:=by
 unfold M.q0u M.trimLeft
 rw [z48 (by decide)]
 rfl
def take (s p:List UInt8):Option (List UInt8):=if p.isPrefixOf s=true then some (z0g (s.drop p.length)) else none
theorem z1q (s p:List UInt8):M.q0x ⟨s⟩ p=some (match take s p with|some r=>(true,⟨r⟩)|none=>(false,⟨s⟩)):=by
 unfold M.q0x take
 rw [z7n]
 cases h:p.isPrefixOf s with
 | false=>rfl
 | true=>simp [z8s]
theorem take_one (c:UInt8) (s:List UInt8):take s [c]=match s with|[]=>none|d::r=>if d=c then some (z0g r) else none:=by
 unfold take
 cases s with
 | nil=>rfl
 | cons d r =>
  by_cases h:c=d
  ·subst h;simp [yo]
  ·have:¬d=c:=fun e=>h e.symm
   simp [yo,h,this]
theorem take_len {s p r:List UInt8} (h:take s p=some r):r.length+p.length≤s.length:=by
 unfold take at h
 split at h
 ·rename_i hp
  cases h
  have h1:=z2d (s.drop p.length)
  have h2:=z6z hp
  rw [List.length_drop] at h1
  omega
 ·cases h
def z6e (c:UInt8):Option Nat:=if isD c=true then some (c.toNat - 48) else if 97≤c.toNat∧c.toNat≤102 then some (c.toNat - 87) else if 65≤c.toNat∧c.toNat≤70 then some (c.toNat - 55) else none
def zud:List UInt8:=[48,49,50,51,52,53,54,55,56,57,97,98,99,100,101,102,65,66,67,68,69,70]
theorem zne:∀ c:UInt8,zud.contains c=(z6e c).isSome:=zbg (by decide +kernel)
theorem z4l:∀ c:UInt8,∀ d,z6e c=some d→d<16:=by
 intro c d h
 unfold z6e isD at h
 have:=za8 (b:=c)
 split at h
 ·rename_i hc
  simp only [yd,decide_eq_true_eq] at hc
  cases h
  omega
 ·split at h
  ·cases h;omega
  ·split at h
   ·cases h;omega
   ·cases h
theorem dropWhile_nil {α:Type} (p:α→Bool):∀ l:List α,l.dropWhile p=[]↔∀ b∈l,p b=true
 | []=>by simp
 | a::l=>by
  rw [List.dropWhile_cons]
  cases h:p a with
  | false=>simp [h]
  | true=>simp [h,dropWhile_nil p l]
theorem zrf (l cs:List UInt8):Lib.trimS l cs=[]↔∀ b∈l,cs.contains b=true:=by
 unfold Lib.trimS Lib.trimLeftS Lib.trimRightS
 rw [dropWhile_nil]
 constructor
 ·intro h
  have h2:l.reverse.dropWhile (cs.contains ·)=[]:=by
   cases hd:l.reverse.dropWhile (cs.contains ·) with
   | nil=>rfl
   | cons a r =>
    have h3:¬cs.contains a=true:=by
     have:=List.head?_dropWhile_not (cs.contains ·) l.reverse
     rw [hd] at this
     simpa using this
    exact absurd (h a (by rw [hd];simp)) h3
  rw [dropWhile_nil] at h2
  exact fun b hb=>h2 b (by simpa using hb)
 ·intro h b hb
  rw [List.mem_reverse] at hb
  exact h b (by simpa using (yk _).subset hb)
def zwg (x:Int):Option Int :=
 if ((decide (48≤x))&&(decide (x≤57)))=true then some (ys .u8 (x - 48))
 else if ((decide (97≤orI .u8 x 32))&&(decide (orI .u8 x 32≤122)))=true then some (ys .u8 ((ys .u8 (orI .u8 x 32 - 97))+10)) else none
theorem zqc:∀ c:UInt8,∀ d,z6e c=some d→zwg (c.toNat:Int)=some (d:Int):=by
 have:∀ c:UInt8,(match z6e c with|some d=>decide (zwg (c.toNat:Int)=some (d:Int))|none=>true)=true:=zbg (by decide +kernel)
 intro c d h
 have h2:=this c
 rw [h] at h2
 simpa using h2
theorem z8h {s:List UInt8} {i n d:Nat} {c:UInt8} (hi:s[i]? = some c) (hl:s.length<1000000) (hd:z6e c=some d) (hn:n<4096) :
  M.zx (s,16) 16 1152921504606846976 16 false (n:Int) (i:Int)=M.zx (s,16) 16 1152921504606846976 16 false ((16*n+d:Nat):Int) ((i+1:Nat):Int):=by
 have hlt:i<s.length:=by
  rcases Nat.lt_or_ge i s.length with h|h
  ·exact h
  ·rw [List.getElem?_eq_none h] at hi;cases hi
 have hd16:=z4l c d hd
 conv=>lhs;rw [M.zx.eq_1]
 have h1:((i:Int)<((unb s).length:Int)):=by rw [z1t];omega
 have h16:¬((16:Int)=0):=by decide
 have h95:(decide ((c.toNat:Int)=95)&&decide ((16:Int)=0))=false:=by simp
 simp only [h1,decide_true,if_true,z2u,zku,hi,Option.map_some,ya,yc,h95,yf,if_false]
 have e0:M.q0d (c.toNat:Int)=some (orI .u8 (c.toNat:Int) 32):=rfl
 simp only [e0,yc]
 have hp:=zqc c d hd
 unfold zwg at hp
 have fin:∀ q:Option (Jn (Jn (Int × Bool) (Bool × Int)) Int),q=some (.go (d:Int))→(q.bind fun q_381=>match q_381 with
   | .done r=>some r
   | .go j_381=>if decide (ys .u8 16≤j_381)=true then some (.done (0,false)) else if decide (1152921504606846976≤(n:Int))=true then some (.done ((ys .u64 ((z5w .u64 1 (ys .u64 16)) - 1)),false)) else
    if (decide ((ys .u64 ((ys .u64 ((n:Int)*(ys .u64 16)))+(ys .u64 j_381)))<(ys .u64 ((n:Int)*(ys .u64 16))))||decide ((ys .u64 ((z5w .u64 1 (ys .u64 16)) - 1))<(ys .u64 ((ys .u64 ((n:Int)*(ys .u64 16)))+(ys .u64 j_381)))))=true then
     some (.done ((ys .u64 ((z5w .u64 1 (ys .u64 16)) - 1)),false))
    else M.zx (s,16) 16 1152921504606846976 16 false (ys .u64 ((ys .u64 ((n:Int)*(ys .u64 16)))+(ys .u64 j_381))) (ys .i64 ((i:Int)+1)))=M.zx (s,16) 16 1152921504606846976 16 false ((16*n+d:Nat):Int) ((i+1:Nat):Int):=by
  rintro q rfl
  simp only [yc]
  have u16:ys .u8 16=16:=by decide
  have v16:ys .u64 16=16:=by decide
  have m16:ys .u64 ((z5w .u64 1 16) - 1)=65535:=by decide
  rw [u16,v16,m16,zx7 (x:=(n:Int)*16) (by omega) (by omega),zx7 (x:=(d:Int)) (by omega) (by omega),zx7 (x:=(n:Int)*16+(d:Int)) (by omega) (by omega),w1 (by omega)]
  rw [if_neg (by simp;omega),if_neg (by simp;omega),if_neg (by simp;omega)]
  congr 1
  omega
 refine fin _ ?_
 by_cases cd:((decide (48≤(c.toNat:Int)))&&(decide ((c.toNat:Int)≤57)))=true
 ·rw [if_pos cd] at hp ⊢
  simp only [Option.some.injEq] at hp
  rw [hp]
 ·rw [if_neg cd] at hp ⊢
  have ej:(if decide (97≤orI .u8 (c.toNat:Int) 32)=true then some (decide (orI .u8 (c.toNat:Int) 32≤122)) else some false)=some ((decide (97≤orI .u8 (c.toNat:Int) 32))&&(decide (orI .u8 (c.toNat:Int) 32≤122))):=by
   cases decide (97≤orI .u8 (c.toNat:Int) 32)<;>simp
  rw [ej]
  simp only [yc]
  by_cases cl:((decide (97≤orI .u8 (c.toNat:Int) 32))&&(decide (orI .u8 (c.toNat:Int) 32≤122)))=true
  ·rw [if_pos cl] at hp ⊢
   simp only [Option.some.injEq] at hp
   rw [hp]
  ·rw [if_neg cl] at hp;cases hp
theorem zns {a b c d:UInt8} {ha hb hc hd:Nat} (h1:z6e a=some ha) (h2:z6e b=some hb) (h3:z6e c=some hc) (h4:z6e d=some hd) :
  M.q5z [a,b,c,d] 16 16=some ((((16*(16*(16*ha+hb)+hc)+hd:Nat)):Int),true):=by
 have l1:=z4l a ha h1
 have l2:=z4l b hb h2
 have l3:=z4l c hc h3
 have l4:=z4l d hd h4
 have s1:=z8h (s:=[a,b,c,d]) (i:=0) (n:=0) (d:=ha) (c:=a) rfl (by simp) h1 (by omega)
 have s2:=z8h (s:=[a,b,c,d]) (i:=1) (n:=16*0+ha) (d:=hb) (c:=b) rfl (by simp) h2 (by omega)
 have s3:=z8h (s:=[a,b,c,d]) (i:=2) (n:=16*(16*0+ha)+hb) (d:=hc) (c:=c) rfl (by simp) h3 (by omega)
 have s4:=z8h (s:=[a,b,c,d]) (i:=3) (n:=16*(16*(16*0+ha)+hb)+hc) (d:=hd) (c:=d) rfl (by simp) h4 (by omega)
 have s5:M.zx ([a,b,c,d],16) 16 1152921504606846976 16 false ((16*(16*(16*(16*0+ha)+hb)+hc)+hd:Nat):Int) ((3+1:Nat):Int)=some (.go (false,((16*(16*(16*(16*0+ha)+hb)+hc)+hd:Nat):Int))):=by
  rw [M.zx.eq_1]
  simp [unb]
 have s6:M.zx ([a,b,c,d],16) 16 1152921504606846976 16 false 0 0=_:=s1.trans (s2.trans (s3.trans (s4.trans s5)))
 unfold M.q5z M.q0c
 have e1:ys .u64 16=16:=by decide
 simp [e1,z48,s6]
def unit (s:List UInt8):Option (Nat × List UInt8) :=
 match s with
 | x::y::a::b::c::d::r=>if x=92∧y=117 then (z6e a).bind fun ha=>(z6e b).bind fun hb=>(z6e c).bind fun hc=>(z6e d).bind fun hd=>some (16*(16*(16*ha+hb)+hc)+hd,r) else none
 | _=>none
def oRs {α β:Type} (f:α→β):Option α→Rs β
 | some a => .ok (f a)
 | none => .pan 20
theorem z86 {s r:List UInt8} {n:Nat} (h:unit s=some (n,r)):n<65536∧r.length+6=s.length:=by
 unfold unit at h
 split at h
 ·rename_i x y a b c d r'
  split at h
  ·obtain ⟨ha,h1,h⟩:=yb.1 h
   obtain ⟨hb,h2,h⟩:=yb.1 h
   obtain ⟨hc,h3,h⟩:=yb.1 h
   obtain ⟨hd,h4,h⟩:=yb.1 h
   have l1:=z4l _ _ h1
   have l2:=z4l _ _ h2
   have l3:=z4l _ _ h3
   have l4:=z4l _ _ h4
   cases h
   exact ⟨by omega,by simp⟩
  ·cases h
 ·cases h
theorem zbl (s:List UInt8) (hs:s.length<1000000000):M.q0z ⟨s⟩=some (oRs (fun x=>(((x.1:Nat):Int),(⟨x.2⟩:q05))) (unit s)):=by
 unfold M.q0z
 rw [z7n]
 have shp:(∃ t,s=92::117::t)∨((([92,117]:List UInt8).isPrefixOf s)=false∧unit s=none):=by
  match s with
  | []=>exact .inr ⟨rfl,rfl⟩
  | [x]=>exact .inr ⟨by simp [yo],rfl⟩
  | x::y::t =>
   by_cases hx:x=92∧y=117
   ·obtain ⟨rfl,rfl⟩:=hx;exact .inl ⟨t,rfl⟩
   ·refine .inr ⟨?_,?_⟩
    ·simp only [yo,Bool.and_true,Bool.and_eq_false_iff,beq_eq_false_iff_ne]
     by_cases h1:x=92
     ·exact .inr fun e=>hx ⟨h1,e.symm⟩
     ·exact .inl fun e=>h1 e.symm
    ·unfold unit
     split
     ·rename_i h;injection h with e1 e2;injection e2 with e3 e4;subst e1 e3;rw [if_neg hx]
     ·rfl
 rcases shp with ⟨t,rfl⟩|⟨h1,h2⟩
 ·have hp:([92,117]:List UInt8).isPrefixOf (92::117::t)=true:=by simp [yo]
  simp only [hp,if_true,yq,yr,yl,ym,ya,yc,Bool.true_and]
  match t with
  | a::b::c::d::r =>
   have hl:(4:Int)≤(((a::b::c::d::r).length:Nat):Int):=by simp only [yq];omega
   have hs4:sub (a::b::c::d::r) 0 4=some [a,b,c,d]:=zkp (a:=4) (by simp)
   have hs5:sub (a::b::c::d::r) 4 (((a::b::c::d::r).length:Nat):Int)=some r:=z9o (a:=4) (by simp)
   simp only [hl,decide_true,if_true,hs4,hs5,yc]
   unfold M.trim
   rw [z48 (by simp)]
   have ee:((decide (Lib.trimS [a,b,c,d] [48,49,50,51,52,53,54,55,56,57,97,98,99,100,101,102,65,66,67,68,69,70]=([]:List UInt8))))=((z6e a).isSome&&((z6e b).isSome&&((z6e c).isSome&&(z6e d).isSome))):=by
    rw [ye,decide_eq_true_iff,zrf]
    have ht:=zne
    unfold zud at ht
    simp only [ht,List.mem_cons,List.not_mem_nil,or_false,forall_eq_or_imp,forall_eq,yd]
   simp only [ya,yc,ee,z2q]
   unfold unit
   cases h1:z6e a with
   | none=>simp [oRs,h1]
   | some ha =>
    cases h2:z6e b with
    | none=>simp [oRs,h1,h2]
    | some hb =>
     cases h3:z6e c with
     | none=>simp [oRs,h1,h2,h3]
     | some hc =>
      cases h4:z6e d with
      | none=>simp [oRs,h1,h2,h3,h4]
      | some hd =>
       have l1:=z4l a ha h1
       have l2:=z4l b hb h2
       have l3:=z4l c hc h3
       have l4:=z4l d hd h4
       have hw:ys .i32 ((16*(16*(16*ha+hb)+hc)+hd:Nat):Int)=((16*(16*(16*ha+hb)+hc)+hd:Nat):Int):=w32 (by omega) (by omega)
       have hq:=zns h1 h2 h3 h4
       generalize hN:16*(16*(16*ha+hb)+hc)+hd=N at hw hq
       simp only [Option.isSome_some,Bool.true_and,if_true,hq,yc,hw,h1,h2,h3,h4,and_self]
       simp [oRs]
       omega
  | []=>simp [unit,oRs,z2q]
  | [_]=>simp [unit,oRs,z2q]
  | [_,_]=>simp [unit,oRs,z2q]
  | [_,_,_]=>simp [unit,oRs,z2q]
 ·rw [h1,h2]
  simp [oRs,z2q]
def zxf (c:UInt8):Option UInt8:=if c=34 then some 34 else if c=92 then some 92 else if c=47 then some 47 else if c=98 then some 8 else if c=102 then some 12 else if c=110 then some 10 else if c=114 then some 13 else if c=116 then some 9 else none
def zly (n:Nat):Bool:=decide (56320≤n)&&decide (n≤57343)
def zfw (n:Nat):Bool:=decide (55296≤n)&&decide (n≤57343)
def zc4 (s:List UInt8):Option (List UInt8 × List UInt8) :=
 match s with
 | a::c::r=>match zxf c with
  | some x=>some ([x],r)
  | none=>match unit (a::c::r) with
   | none=>none
   | some (n,r1)=>if zly n=true then none else if zfw n=false then some (encS (n:Int),r1) else match unit r1 with
    | none=>none
    | some (m,r2)=>if zly m=true then some (encS (65536+((n:Int) - 55296)*1024+(m:Int) - 56320),r2) else none
 | _=>none
theorem zsc:∀ c:UInt8,(match zxf c with
  | some x=>decide (0≤Lib.indexByte [34,92,47,98,102,110,114,116] (c.toNat:Int).toNat.toUInt8∧sub ([34,92,47,8,12,10,13,9]:List UInt8) (Lib.indexByte [34,92,47,98,102,110,114,116] (c.toNat:Int).toNat.toUInt8) (ys .i64 (Lib.indexByte [34,92,47,98,102,110,114,116] (c.toNat:Int).toNat.toUInt8+1))=some [x])
  | none=>decide (¬0≤Lib.indexByte [34,92,47,98,102,110,114,116] (c.toNat:Int).toNat.toUInt8))=true:=zbg (by decide +kernel)
theorem zlh (n:Int):(encS n).length≤4:=by
 unfold encS Utf8.encode
 repeat' split
 all_goals (try simp)
 all_goals (repeat' split)
 all_goals (simp [ByteArray.size])
theorem zca {s t r:List UInt8} (h:zc4 s=some (t,r)):t.length≤4∧r.length+2≤s.length:=by
 unfold zc4 at h
 split at h
 ·rename_i a c r'
  split at h
  ·cases h;simp
  ·split at h
   ·cases h
   ·rename_i n r1 hu
    have:=z86 hu
    split at h
    ·cases h
    ·split at h
     ·simp only [Option.some.injEq,Prod.mk.injEq] at h
      obtain ⟨rfl,rfl⟩:=h
      have h9:=zlh (n:Int)
      simp only [yq] at *
      exact ⟨h9,by omega⟩
     ·split at h
      ·cases h
      ·rename_i m r2 hu2
       have:=z86 hu2
       split at h
       ·simp only [Option.some.injEq,Prod.mk.injEq] at h
        obtain ⟨rfl,rfl⟩:=h
        have h9:=zlh (65536+((n:Int) - 55296)*1024+(m:Int) - 56320)
        simp only [yq] at *
        exact ⟨h9,by omega⟩
       ·cases h
 ·cases h
theorem zwr {n m:Int} (h1:55296≤n) (h2:n≤57343) (h3:56320≤m) (h4:m≤57343) :
  ys .i32 (ys .i32 (ys .i32 (65536+z5w .i32 (ys .i32 (n - 55296)) 10)+m) - 56320)=65536+(n - 55296)*1024+m - 56320:=by
 have s2:z5w .i32 (n - 55296) 10=(n - 55296)*1024:=by
  unfold z5w
  have:min (10:Int).toNat IntKind.i32.bits=10:=by decide
  have h10:(2:Int) ^ 10=1024:=by decide
  rw [this,h10,w32 (by omega) (by omega)]
 rw [w32 (x:=n - 55296) (by omega) (by omega),s2,w32 (x:=65536+(n - 55296)*1024) (by omega) (by omega),w32 (x:=65536+(n - 55296)*1024+m) (by omega) (by omega),w32 (by omega) (by omega)]
theorem rng1 (n:Nat):(decide ((n:Int)<56320)||decide (57343<(n:Int))) = !zly n:=by
 unfold zly
 rw [ye,yj,yh,←yg,yd];simp only [decide_eq_true_eq];omega
theorem rng2 (n:Nat):(decide ((n:Int)<55296)||decide (57343<(n:Int))) = !zfw n:=by
 unfold zfw
 rw [ye,yj,yh,←yg,yd];simp only [decide_eq_true_eq];omega
theorem rng3 (m:Nat):(decide (56320≤(m:Int))&&decide ((m:Int)≤57343))=zly m:=by
 unfold zly
 rw [ye,yd,yd];simp only [decide_eq_true_eq];omega
theorem zpb {n:Nat} (h:zfw n=true):55296≤(n:Int)∧(n:Int)≤57343:=by
 unfold zfw at h
 rw [yd] at h;simp only [decide_eq_true_eq] at h;omega
theorem zuk {n:Nat} (h:zly n=true):56320≤(n:Int)∧(n:Int)≤57343:=by
 unfold zly at h
 rw [yd] at h;simp only [decide_eq_true_eq] at h;omega
theorem zdb (s:List UInt8) (hs:s.length<1000000000):M.q0v ⟨s⟩=some (oRs (fun x=>(x.1,(⟨x.2⟩:q05))) (zc4 s)):=by
 unfold M.q0v
 match s with
 | []=>simp [z2q,zc4,oRs]
 | [_]=>simp [z2q,zc4,oRs]
 | a::c::r =>
  have hl:(2:Int)≤(((a::c::r).length:Nat):Int):=by simp only [yq];omega
  have hsub:sub (a::c::r) 2 (((a::c::r).length:Nat):Int)=some r:=z9o (a:=2) (by simp)
  simp only [hl,decide_true,zi8,if_true,ya,yc,zzv,List.getElem?_cons_succ,yn]
  unfold zc4
  have ht:=zsc c
  unfold M.indexByte
  simp only [yc]
  cases he:zxf c with
  | some x =>
   rw [he] at ht
   simp only [decide_eq_true_eq] at ht
   rw [if_pos (by simpa using ht.1),hsub]
   simp only [yc]
   rw [ht.2]
   simp [oRs]
  | none =>
   rw [he] at ht
   simp only [decide_eq_true_eq] at ht
   rw [if_neg (by simpa using ht),zbl _ hs]
   simp only [yc]
   cases hu:unit (a::c::r) with
   | none=>simp [oRs]
   | some p =>
    obtain ⟨n,r1⟩:=p
    obtain ⟨u1,u2⟩:=z86 hu
    simp only [oRs]
    rw [rng1,z2q,rng2]
    simp only [yc]
    cases c1:zly n with
    | true=>simp
    | false =>
     simp only [yi,if_true,yf,if_false]
     cases c2:zfw n with
     | false=>simp
     | true =>
      simp only [Bool.not_true,yf,if_false,Bool.true_eq_false]
      rw [zbl _ (by omega)]
      simp only [yc]
      cases hu2:unit r1 with
      | none=>simp [oRs]
      | some p2 =>
       obtain ⟨m,r2⟩:=p2
       obtain ⟨u3,u4⟩:=z86 hu2
       simp only [oRs]
       rw [rng3,z2q]
       simp only [yc]
       cases c3:zly m with
       | true =>
        obtain ⟨q1,q2⟩:=zpb c2
        obtain ⟨q3,q4⟩:=zuk c3
        simp only [if_true]
        rw [zwr q1 q2 q3 q4]
       | false=>simp
def txt:Nat→List UInt8→List UInt8→Option (List UInt8 × List UInt8)
 | 0,_,_=>none
 | _+1,[],_=>none
 | f+1,c::r,acc=>if c.toNat<32 then none else if c=34 then (if Lib.validD acc=true then some (acc,r) else none)
  else if c=92 then match zc4 (c::r) with
   | none=>none
   | some (t,r2)=>txt f r2 (acc++t)
  else txt f r (acc++[c])
def text (s:List UInt8):Option (List UInt8 × List UInt8) :=
 match s with
 | c::r=>if c=34 then txt (r.length+1) r [] else none
 | []=>none
theorem zkt:∀ (f:Nat) (s acc t r:List UInt8),txt f s acc=some (t,r)→r.length+1≤s.length∧t.length≤acc.length+4*s.length
 | 0,_,_,_,_,h=>by simp [txt] at h
 | _+1,[],_,_,_,h=>by simp [txt] at h
 | f+1,c::s,acc,t,r,h=>by
  rw [txt] at h
  split at h
  ·cases h
  ·split at h
   ·split at h
    ·cases h;simp
    ·cases h
   ·split at h
    ·split at h
     ·cases h
     ·rename_i t1 r1 he
      have h1:=zca he
      have h2:=zkt f _ _ _ _ h
      simp only [yp,yq] at *
      omega
    ·have h2:=zkt f _ _ _ _ h
     simp only [yp,yq,yr] at *
     omega
theorem zaj {s t r:List UInt8} (h:text s=some (t,r)):r.length+2≤s.length∧t.length≤4*s.length:=by
 unfold text at h
 split at h
 ·split at h
  ·have:=zkt _ _ _ _ _ h
   simp only [yq,yr] at *
   omega
  ·cases h
 ·cases h
theorem zi0:∀ (f:Nat) (s acc:List UInt8),s.length<f→acc.length+4*s.length<4000000000→s.length<1000000000 →
  M.z1a s (unb acc)=some (oRs (fun x=>(x.1,(⟨z0g x.2⟩:q05))) (txt f s acc)):=by
 intro f
 induction f with
 | zero=>intro s acc h;omega
 | succ f ih =>
  intro s acc hf ha hs
  rw [M.z1a.eq_1]
  cases s with
  | nil=>rfl
  | cons c r =>
   simp only [yq] at hf ha hs
   have e1:(decide ((c::r)=([]:List UInt8)))=false:=by simp
   have e2:decide (32≤(c.toNat:Int))=decide (¬c.toNat<32):=decide_eq_decide.2 (by omega)
   have t34:((c.toNat:Int)=34)↔c=34:=toNat_eq (n:=34) (by omega)
   have t92:((c.toNat:Int)=92)↔c=92:=toNat_eq (n:=92) (by omega)
   simp only [e1,yi,if_true,zni,yn,ya,yc,e2,z2q,t34,t92]
   rw [txt]
   by_cases c32:c.toNat<32
   ·simp [c32,oRs]
   ·simp only [c32,not_false_eq_true,decide_true,if_true,if_false]
    by_cases c34:c=34
    ·subst c34
     have hq:M.z0f (unb acc)=some acc:=z7e acc
     simp only [decide_true,if_true,hq,yc]
     rw [z2s (by omega)]
     simp only [yc]
     by_cases hv:Lib.validD acc=true
     ·simp only [hv,if_true]
      rw [z1q,take_one]
      simp [oRs]
     ·simp [hv,oRs]
    ·simp only [c34,decide_false,yf,if_false]
     by_cases c92:c=92
     ·simp only [c92,decide_true,if_true]
      rw [zdb _ (by simp only [yq];omega)]
      simp only [yc]
      cases he:zc4 (92::r) with
      | none=>rfl
      | some p =>
       obtain ⟨t,r2⟩:=p
       have hl:=zca he
       simp only [yq] at hl
       simp only [oRs]
       rw [z2t (by simp [unb];omega)]
       simp only [yc]
       rw [←z2g,ih r2 (acc++t) (by omega) (by simp;omega) (by omega)]
       rfl
     ·simp only [c92,decide_false,yf,if_false]
      rw [z2c (by simp [unb];omega)]
      simp only [yc]
      have hsub:sub (c::r) 1 (((c::r).length:Nat):Int)=some r:=z9o (a:=1) (by simp)
      rw [hsub]
      simp only [yc]
      have e:unb acc++[(c.toNat:Int)]=unb (acc++[c]):=by simp [unb]
      rw [e,ih r (acc++[c]) (by omega) (by simp;omega) (by omega)]
theorem zbk (s:List UInt8) (hs:s.length<900000000):M.q0y ⟨s⟩=some (oRs (fun x=>(x.1,(⟨z0g x.2⟩:q05))) (text s)):=by
 unfold M.q0y
 rw [z7n,z4p]
 cases s with
 | nil=>rfl
 | cons c r =>
  by_cases h:c=34
  ·subst h
   simp only [List.head?_cons,decide_true,if_true,yq,yr,yl,ym,ya,yc,z2q]
   simp only [yq] at hs
   exact zi0 (r.length+1) r [] (by omega) (by simp;omega) (by omega)
  ·simp [h,z2q,oRs,text]
end Go.Sen
end
