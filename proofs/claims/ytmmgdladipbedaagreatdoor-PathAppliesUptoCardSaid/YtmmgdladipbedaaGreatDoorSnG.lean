import Derived.Test.YtmmgdladipbedaaGreatDoorPaL6
set_option linter.all false
section
namespace Go.Sen
open _root_.Option renaming bind_eq_bind → ya, bind_some → yb
open _root_.Bool renaming false_eq_true → yc
open _root_.List renaming drop_eq_getElem_cons → yd, drop_zero → ye, getElem?_cons_succ → yf, getElem?_cons_zero → yg, getElem?_eq_getElem → yh, length_append → yi, length_cons → yj, length_nil → yk
open Go.Lk Go.Pe
mutual
def prJ:q03→List UInt8
 | ⟨k,t,l,ks⟩=>if k=0 then [110,117,108,108] else if k=1 then [102,97,108,115,101] else if k=2 then [116,114,117,101] else if k=3 then t else if k=4 then qt t
  else (if k=6 then 123 else 91)::prL (decide (k=6)) l ks true++[if k=6 then 125 else 93]
def prL (o:Bool):List q03→List (List UInt8)→Bool→List UInt8
 | [],_,_=>[]
 | x::xs,ks,f=>(if f=true then [] else [44])++((if o=true then qt (ks.head?.getD [])++[58] else [])++(prJ x++prL o xs ks.tail false))
end
theorem zso (v:q03):prJ v=if v.zc=0 then [110,117,108,108] else if v.zc=1 then [102,97,108,115,101] else if v.zc=2 then [116,114,117,101] else if v.zc=3 then v.z0q else if v.zc=4 then qt v.z0q
  else (if v.zc=6 then 123 else 91)::prL (decide (v.zc=6)) v.zh v.z0m true++[if v.zc=6 then 125 else 93]:=by cases v;simp only [prJ]
theorem zk6 (o:Bool) (x:q03) (xs:List q03) (ks:List (List UInt8)) (f:Bool):prL o (x::xs) ks f=(if f=true then [] else [44])++((if o=true then qt (ks.head?.getD [])++[58] else [])++(prJ x++prL o xs ks.tail false)):=by simp only [prL]
theorem znn (ks:List (List UInt8)):(qt (ks.head?.getD [])).length≤2+6*(kys ks - kys ks.tail)∧kys ks.tail≤kys ks:=by
 cases ks with
 | nil=>simp [qt,qbs]
 | cons k ks =>
  have:=zdf k
  rw [z3j]
  simp only [List.head?_cons,Option.getD_some,List.tail_cons]
  omega
mutual
theorem zid:∀ v:q03,(prJ v).length≤7*v.sz
 | ⟨k,t,l,ks⟩=>by
  have h1:=zie (decide (k=6)) l ks true
  have h2:=zdf t
  simp only [prJ,q03.sz]
  repeat' split
  all_goals try simp only [yi,yj,yk]
  all_goals omega
theorem zie:∀ (o:Bool) (l:List q03) (ks:List (List UInt8)) (f:Bool),(prL o l ks f).length≤7*szs l+7*kys ks
 | _,[],_,_=>by simp [prL]
 | o,x::xs,ks,f=>by
  have h1:=zid x
  have h2:=zie o xs ks.tail false
  obtain ⟨h3,h4⟩:=znn ks
  simp only [prL,szs]
  repeat' split
  all_goals simp only [yi,yj,yk]
  all_goals omega
end
theorem tail_drop {α:Type} (l:List α) (i:Nat):(l.drop i).tail=l.drop (i+1):=by simp
theorem ztw {v:q03} {self:List Int→q03→Option (List Int)} (hl:v.zh.length<1152921504606846976) (hk:v.zc=6→v.z0m.length=v.zh.length)
  (hs:∀ x∈v.zh,∀ a:List Int,a.length+7*x.sz<90000000000→self a x=some (a++unb (prJ x))):∀ (n i:Nat) (acc:List Int),v.zh.length - i=n→i≤v.zh.length →
  acc.length+7*szs (v.zh.drop i)+7*kys (v.z0m.drop i)<90000000000→M.z1a v self (i:Int) acc=some (acc++unb (prL (decide (v.zc=6)) (v.zh.drop i) (v.z0m.drop i) (decide (i=0)))):=by
 intro n
 induction n with
 | zero =>
  intro i acc hn hi ha
  rw [M.z1a.eq_1]
  have:¬((i:Int)<(v.zh.length:Int)):=by omega
  rw [if_neg (by simpa using this),(List.drop_eq_nil_of_le (by omega):v.zh.drop i=[])]
  simp [prL,unb]
 | succ n ih =>
  intro i acc hn hi ha
  have hlt:i<v.zh.length:=by omega
  have h1:((i:Int)<(v.zh.length:Int)):=by omega
  rw [M.z1a.eq_1]
  simp only [h1,decide_true,if_true,z3d,yh hlt,ya,yb]
  rw [w1 (by omega)]
  have e0:v.zh.drop i=v.zh[i]::v.zh.drop (i+1):=yd hlt
  have hsz:szs (v.zh.drop i)=(v.zh[i]).sz+szs (v.zh.drop (i+1))+1:=by rw [e0];simp only [szs]
  have hkd:kys (v.z0m.drop (i+1))≤kys (v.z0m.drop i):=by rw [←tail_drop];exact (znn _).2
  have ej:(if decide (0<(i:Int))=true then (M.q48 acc 44).bind fun a_119=>some a_119 else some acc)=some (acc++unb (if decide (i=0)=true then [] else [44])):=by
   by_cases hz:i=0
   ·simp [hz,unb]
   ·have:0<(i:Int):=by omega
    rw [z1d (by omega)]
    simp [hz,this,unb]
  rw [ej]
  simp only [yb]
  have hc:(if decide (i=0)=true then ([]:List UInt8) else [44]).length≤1:=by split<;>simp
  generalize hcm:(if decide (i=0)=true then ([]:List UInt8) else [44])=cm at ej hc
  have hx:=hs _ (List.getElem_mem hlt)
  have hpl:=zid v.zh[i]
  by_cases h6:v.zc=6
  ·have hlk:i<v.z0m.length:=by rw [hk h6];exact hlt
   have e1:v.z0m.drop i=v.z0m[i]::v.z0m.drop (i+1):=yd hlk
   have hks:kys (v.z0m.drop i)=(v.z0m[i]).length+1+kys (v.z0m.drop (i+1)):=by rw [e1,z3j]
   have hql:=zdf v.z0m[i]
   simp only [h6,decide_true,if_true,yh hlk,yb]
   rw [z74 (by simp [unb];omega)]
   simp only [yb]
   rw [z1d (by simp [unb];omega)]
   simp only [yb]
   rw [hx _ (by simp [unb];omega)]
   simp only [yb]
   rw [ih (i+1) _ (by omega) (by omega) (by simp [unb];omega),e0,zk6,hcm,e1]
   have e58:([58]:List Int)=unb [58]:=rfl
   rw [e58]
   simp [h6,z3y,yh hlk]
   rw [←z3y,←z3y]
   rfl
  ·rw [if_neg (by simpa using h6)]
   rw [hx _ (by simp [unb];omega)]
   simp only [yb]
   rw [ih (i+1) _ (by omega) (by omega) (by simp [unb];omega),e0,zk6,hcm,tail_drop]
   simp [h6,z3y]
theorem zj9:∀ {l:List q03} {w:Nat},zc5 l w=0→∀ x∈l,z7z x w=0
 | y::l,w,h,x,hx=>by
  rw [zam] at h
  by_cases hc:z7z y w=0
  ·rw [if_pos hc] at h
   rcases List.mem_cons.1 hx with rfl|hx
   ·exact hc
   ·exact zj9 h x hx
  ·rw [if_neg hc] at h;exact absurd h hc
theorem zkx {v:q03} {w:Nat} (h:z7z v w=0):¬((v.zc=5∨v.zc=6)∧16≤w)∧frm v.zc v.z0q v.zh.length v.z0m=true∧zc5 v.zh (w+1)=0:=by
 rw [z4x] at h
 split at h
 ·cases h
 ·rename_i h1
  split at h
  ·cases h
  ·rename_i h2
   exact ⟨h1,by simpa using h2,h⟩
theorem zqd {k:Int} {t:List UInt8} {n:Nat} {ks:List (List UInt8)} (h:frm k t n ks=true):(k=6→ks.length=n)∧(¬(k=5∨k=6)→n=0)∧(0≤k∧k<7):=by
 rw [zgd (.inr trivial)] at h
 simp only [Bool.and_eq_true,Bool.or_eq_true,decide_eq_true_eq] at h
 obtain ⟨h1,h2,h3,_⟩:=h
 refine ⟨fun e => ?_,fun e => ?_,h1⟩
 ·rcases h3 with h3|h3
  ·omega
  ·simp [e] at h3
 ·rcases h2 with h2|h2
  ·exact absurd h2 e
  ·omega
theorem zge:∀ (f:Nat) (v:q03) (w:Nat),w≤16→17≤f+w→z7z v w=0→∀ a:List Int,a.length+7*v.sz<90000000000→M.q0n f a v=some (a++unb (prJ v)):=by
 intro f
 induction f with
 | zero=>intro v w h1 h2;omega
 | succ f ih =>
  intro v w hw hf hc a ha
  obtain ⟨c1,c2,c3⟩:=zkx hc
  obtain ⟨d1,d2,d3⟩:=zqd c2
  have hsz:=q03.z2a v
  have hpl:=zid v
  rw [M.q0n,zso]
  rw [zso] at hpl
  by_cases h0:v.zc=0
  ·have hq:M.q4a a ([110,117,108,108]:List UInt8)=_:=z1n (by simp;omega)
   simp [h0,hq]
  by_cases h1:v.zc=1
  ·have hq:M.q4a a ([102,97,108,115,101]:List UInt8)=_:=z1n (by simp;omega)
   simp [h1,hq]
  by_cases h2:v.zc=2
  ·have hq:M.q4a a ([116,114,117,101]:List UInt8)=_:=z1n (by simp;omega)
   simp [h2,hq]
  by_cases h3:v.zc=3
  ·have hq:=z1n (a:=a) (b:=v.z0q) (by omega)
   simp [h3,hq]
  by_cases h4:v.zc=4
  ·have hq:=z74 (s:=v.z0q) (acc:=a) (by omega)
   simp [h4,hq]
  have hl:v.zh=[]∨w<16:=by
   by_cases h56:v.zc=5∨v.zc=6
   ·exact .inr (by omega)
   ·exact .inl (List.eq_nil_of_length_eq_zero (d2 h56))
  have hlen:=zc1 v.zh
  have hk1:=fun (acc:List Int) (hacc:acc.length≤a.length+1)=>ztw (v:=v) (self:=M.q0n f) (by omega) d1 (fun x hx b hb=>by
   rcases hl with h|h
   ·rw [h] at hx;cases hx
   ·exact ih x (w+1) (by omega) (by omega) (zj9 c3 x hx) b hb) _ 0 acc rfl (Nat.zero_le _) (by simp only [ye];omega)
  have hpl2:=zie (decide (v.zc=6)) v.zh v.z0m true
  rw [if_neg (by simpa using h0),if_neg (by simpa using h1),if_neg (by simpa using h2),if_neg (by simpa using h3),if_neg (by simpa using h4),if_neg h0,if_neg h1,if_neg h2,if_neg h3,if_neg h4]
  by_cases h6:v.zc=6
  ·simp only [h6,decide_true,if_true,ya,yb,zjp,zxu,yg,yf]
   rw [z1d (by omega)]
   simp only [yb]
   have hq:=hk1 (a++[123]) (by simp)
   have hq:M.z1a v (M.q0n f) 0 (a++[123])=_:=hq
   simp only [ye,decide_true,h6] at hq
   have e:(((123:UInt8).toNat:Nat):Int)=123:=rfl
   rw [e,hq]
   simp only [yb]
   simp only [h6,decide_true] at hpl2
   rw [z1d (by simp [unb];omega)]
   simp [unb]
  ·simp only [h6,decide_false,if_false,ya,yb,zjp,zxu,yg,yf,yc]
   rw [z1d (by omega)]
   simp only [yb]
   have hq:=hk1 (a++[91]) (by simp)
   have hq:M.z1a v (M.q0n f) 0 (a++[91])=_:=hq
   simp only [ye,decide_true,decide_false,h6] at hq
   have e:(((91:UInt8).toNat:Nat):Int)=91:=rfl
   rw [e,hq]
   simp only [yb]
   simp only [h6,decide_false] at hpl2
   rw [z1d (by simp [unb];omega)]
   simp [unb]
def print (v:q03):List UInt8 × Int:=if z7z v 0=0 then (if 16384<(prJ v).length then ([],22) else (prJ v,0)) else ([],z7z v 0)
theorem zea {v:q03} {f:Nat} (hf:17≤f) (h:Small v):M.q0i f v=some (print v):=by
 unfold M.q0i print
 rw [ze9 hf h]
 simp only [ya,yb]
 by_cases hc:z7z v 0=0
 ·unfold Small at h
  have hl:=zge f v 0 (by omega) (by omega) hc [] (by simp;omega)
  rw [List.nil_append] at hl
  simp only [hc,decide_true,Bool.not_true,yc,if_false,if_true,hl,yb,builderLen_eq,z6q]
  by_cases h2:16384<(prJ v).length
  ·have:(16384:Int)<((prJ v).length:Int):=by omega
   simp [h2,this]
  ·have:¬(16384:Int)<((prJ v).length:Int):=by omega
   simp [h2,this,z5i]
 ·simp [hc]
end Go.Sen
end
section
namespace Go.Sen
open _root_.Option renaming bind_eq_bind → ya, bind_eq_some_iff → yb, bind_some → yc
open _root_.Bool renaming and_eq_true → yd, eq_iff_iff → ye, false_eq_true → yf, not_eq_true → yg, not_eq_true' → yh, not_false → yi, or_eq_true → yj
open _root_.List renaming dropWhile_sublist → yk, drop_succ_cons → yl, drop_zero → ym, getElem?_cons_zero → yn, isPrefixOf → yo, length_append → yp, length_cons → yq, length_nil → yr
open IntKind renaming wrap → ys
open Go.Lk Go.Pe
def bl (b:UInt8):Bool:=([32,9,10,13]:List UInt8).contains b
def z2w (s:List UInt8):List UInt8:=s.dropWhile bl
theorem z2b (s:List UInt8):(z2w s).length≤s.length:=(yk _).length_le
theorem z71 (s:List UInt8):M.q0r ⟨s⟩=some ⟨z2w s⟩:=by
 unfold M.q0r M.trimLeft
 rw [z30 (by decide)]
 rfl
def take (s p:List UInt8):Option (List UInt8):=if p.isPrefixOf s=true then some (z2w (s.drop p.length)) else none
theorem z10 (s p:List UInt8):M.q0u ⟨s⟩ p=some (match take s p with|some r=>(true,⟨r⟩)|none=>(false,⟨s⟩)):=by
 unfold M.q0u take
 rw [z5q]
 cases h:p.isPrefixOf s with
 | false=>rfl
 | true=>simp [z71]
theorem take_one (c:UInt8) (s:List UInt8):take s [c]=match s with|[]=>none|d::r=>if d=c then some (z2w r) else none:=by
 unfold take
 cases s with
 | nil=>rfl
 | cons d r =>
  by_cases h:c=d
  ·subst h;simp [yo]
  ·have:¬d=c:=fun e=>h e.symm
   simp [yo,h,this]
theorem take_len {s p r:List UInt8} (h:take s p=some r):r.length+p.length≤s.length:=by
 unfold take at h
 split at h
 ·rename_i hp
  cases h
  have h1:=z2b (s.drop p.length)
  have h2:=zbn hp
  rw [List.length_drop] at h1
  omega
 ·cases h
def zc6 (c:UInt8):Option Nat:=if isD c=true then some (c.toNat - 48) else if 97≤c.toNat∧c.toNat≤102 then some (c.toNat - 87) else if 65≤c.toNat∧c.toNat≤70 then some (c.toNat - 55) else none
def zsc:List UInt8:=[48,49,50,51,52,53,54,55,56,57,97,98,99,100,101,102,65,66,67,68,69,70]
theorem zl9:∀ c:UInt8,zsc.contains c=(zc6 c).isSome:=zaz (by decide +kernel)
theorem z3f:∀ c:UInt8,∀ d,zc6 c=some d→d<16:=by
 intro c d h
 unfold zc6 isD at h
 have:=zo3 (b:=c)
 split at h
 ·rename_i hc
  simp only [yd,decide_eq_true_eq] at hc
  cases h
  omega
 ·split at h
  ·cases h;omega
  ·split at h
   ·cases h;omega
   ·cases h
theorem dropWhile_nil {α:Type} (p:α→Bool):∀ l:List α,l.dropWhile p=[]↔∀ b∈l,p b=true
 | []=>by simp
 | a::l=>by
  rw [List.dropWhile_cons]
  cases h:p a with
  | false=>simp [h]
  | true=>simp [h,dropWhile_nil p l]
theorem zp4 (l cs:List UInt8):Lib.trimS l cs=[]↔∀ b∈l,cs.contains b=true:=by
 unfold Lib.trimS Lib.trimLeftS Lib.trimRightS
 rw [dropWhile_nil]
 constructor
 ·intro h
  have h2:l.reverse.dropWhile (cs.contains ·)=[]:=by
   cases hd:l.reverse.dropWhile (cs.contains ·) with
   | nil=>rfl
   | cons a r =>
    have h3:¬cs.contains a=true:=by
     have:=List.head?_dropWhile_not (cs.contains ·) l.reverse
     rw [hd] at this
     simpa using this
    exact absurd (h a (by rw [hd];simp)) h3
  rw [dropWhile_nil] at h2
  exact fun b hb=>h2 b (by simpa using hb)
 ·intro h b hb
  rw [List.mem_reverse] at hb
  exact h b (by simpa using (yk _).subset hb)
def zuc (x:Int):Option Int :=
 if ((decide (48≤x))&&(decide (x≤57)))=true then some (ys .u8 (x - 48))
 else if ((decide (97≤orI .u8 x 32))&&(decide (orI .u8 x 32≤122)))=true then some (ys .u8 ((ys .u8 (orI .u8 x 32 - 97))+10)) else none
theorem zoe:∀ c:UInt8,∀ d,zc6 c=some d→zuc (c.toNat:Int)=some (d:Int):=by
 have:∀ c:UInt8,(match zc6 c with|some d=>decide (zuc (c.toNat:Int)=some (d:Int))|none=>true)=true:=zaz (by decide +kernel)
 intro c d h
 have h2:=this c
 rw [h] at h2
 simpa using h2
theorem z6o {s:List UInt8} {i n d:Nat} {c:UInt8} (hi:s[i]? = some c) (hl:s.length<1000000) (hd:zc6 c=some d) (hn:n<4096) :
  M.zv (s,16) 16 1152921504606846976 16 false (n:Int) (i:Int)=M.zv (s,16) 16 1152921504606846976 16 false ((16*n+d:Nat):Int) ((i+1:Nat):Int):=by
 have hlt:i<s.length:=by
  rcases Nat.lt_or_ge i s.length with h|h
  ·exact h
  ·rw [List.getElem?_eq_none h] at hi;cases hi
 have hd16:=z3f c d hd
 conv=>lhs;rw [M.zv.eq_1]
 have h1:((i:Int)<((unb s).length:Int)):=by rw [z6q];omega
 have h16:¬((16:Int)=0):=by decide
 have h95:(decide ((c.toNat:Int)=95)&&decide ((16:Int)=0))=false:=by simp
 simp only [h1,decide_true,if_true,z3d,zp7,hi,Option.map_some,ya,yc,h95,yf,if_false]
 have e0:M.q0a (c.toNat:Int)=some (orI .u8 (c.toNat:Int) 32):=rfl
 simp only [e0,yc]
 have hp:=zoe c d hd
 unfold zuc at hp
 have fin:∀ q:Option (Jn (Jn (Int × Bool) (Bool × Int)) Int),q=some (.go (d:Int))→(q.bind fun q_381=>match q_381 with
   | .done r=>some r
   | .go j_381=>if decide (ys .u8 16≤j_381)=true then some (.done (0,false)) else if decide (1152921504606846976≤(n:Int))=true then some (.done ((ys .u64 ((zcn .u64 1 (ys .u64 16)) - 1)),false)) else
    if (decide ((ys .u64 ((ys .u64 ((n:Int)*(ys .u64 16)))+(ys .u64 j_381)))<(ys .u64 ((n:Int)*(ys .u64 16))))||decide ((ys .u64 ((zcn .u64 1 (ys .u64 16)) - 1))<(ys .u64 ((ys .u64 ((n:Int)*(ys .u64 16)))+(ys .u64 j_381)))))=true then
     some (.done ((ys .u64 ((zcn .u64 1 (ys .u64 16)) - 1)),false))
    else M.zv (s,16) 16 1152921504606846976 16 false (ys .u64 ((ys .u64 ((n:Int)*(ys .u64 16)))+(ys .u64 j_381))) (ys .i64 ((i:Int)+1)))=M.zv (s,16) 16 1152921504606846976 16 false ((16*n+d:Nat):Int) ((i+1:Nat):Int):=by
  rintro q rfl
  simp only [yc]
  have u16:ys .u8 16=16:=by decide
  have v16:ys .u64 16=16:=by decide
  have m16:ys .u64 ((zcn .u64 1 16) - 1)=65535:=by decide
  rw [u16,v16,m16,zzl (x:=(n:Int)*16) (by omega) (by omega),zzl (x:=(d:Int)) (by omega) (by omega),zzl (x:=(n:Int)*16+(d:Int)) (by omega) (by omega),w1 (by omega)]
  rw [if_neg (by simp;omega),if_neg (by simp;omega),if_neg (by simp;omega)]
  congr 1
  omega
 refine fin _ ?_
 by_cases cd:((decide (48≤(c.toNat:Int)))&&(decide ((c.toNat:Int)≤57)))=true
 ·rw [if_pos cd] at hp ⊢
  simp only [Option.some.injEq] at hp
  rw [hp]
 ·rw [if_neg cd] at hp ⊢
  have ej:(if decide (97≤orI .u8 (c.toNat:Int) 32)=true then some (decide (orI .u8 (c.toNat:Int) 32≤122)) else some false)=some ((decide (97≤orI .u8 (c.toNat:Int) 32))&&(decide (orI .u8 (c.toNat:Int) 32≤122))):=by
   cases decide (97≤orI .u8 (c.toNat:Int) 32)<;>simp
  rw [ej]
  simp only [yc]
  by_cases cl:((decide (97≤orI .u8 (c.toNat:Int) 32))&&(decide (orI .u8 (c.toNat:Int) 32≤122)))=true
  ·rw [if_pos cl] at hp ⊢
   simp only [Option.some.injEq] at hp
   rw [hp]
  ·rw [if_neg cl] at hp;cases hp
theorem zlr {a b c d:UInt8} {ha hb hc hd:Nat} (h1:zc6 a=some ha) (h2:zc6 b=some hb) (h3:zc6 c=some hc) (h4:zc6 d=some hd) :
  M.q45 [a,b,c,d] 16 16=some ((((16*(16*(16*ha+hb)+hc)+hd:Nat)):Int),true):=by
 have l1:=z3f a ha h1
 have l2:=z3f b hb h2
 have l3:=z3f c hc h3
 have l4:=z3f d hd h4
 have s1:=z6o (s:=[a,b,c,d]) (i:=0) (n:=0) (d:=ha) (c:=a) rfl (by simp) h1 (by omega)
 have s2:=z6o (s:=[a,b,c,d]) (i:=1) (n:=16*0+ha) (d:=hb) (c:=b) rfl (by simp) h2 (by omega)
 have s3:=z6o (s:=[a,b,c,d]) (i:=2) (n:=16*(16*0+ha)+hb) (d:=hc) (c:=c) rfl (by simp) h3 (by omega)
 have s4:=z6o (s:=[a,b,c,d]) (i:=3) (n:=16*(16*(16*0+ha)+hb)+hc) (d:=hd) (c:=d) rfl (by simp) h4 (by omega)
 have s5:M.zv ([a,b,c,d],16) 16 1152921504606846976 16 false ((16*(16*(16*(16*0+ha)+hb)+hc)+hd:Nat):Int) ((3+1:Nat):Int)=some (.go (false,((16*(16*(16*(16*0+ha)+hb)+hc)+hd:Nat):Int))):=by
  rw [M.zv.eq_1]
  simp [unb]
 have s6:M.zv ([a,b,c,d],16) 16 1152921504606846976 16 false 0 0=_:=s1.trans (s2.trans (s3.trans (s4.trans s5)))
 unfold M.q45 M.q09
 have e1:ys .u64 16=16:=by decide
 simp [e1,z30,s6]
def unit (s:List UInt8):Option (Nat × List UInt8) :=
 match s with
 | x::y::a::b::c::d::r=>if x=92∧y=117 then (zc6 a).bind fun ha=>(zc6 b).bind fun hb=>(zc6 c).bind fun hc=>(zc6 d).bind fun hd=>some (16*(16*(16*ha+hb)+hc)+hd,r) else none
 | _=>none
def oRs {α β:Type} (f:α→β):Option α→Rs β
 | some a => .ok (f a)
 | none => .pan 20
theorem zf6 {s r:List UInt8} {n:Nat} (h:unit s=some (n,r)):n<65536∧r.length+6=s.length:=by
 unfold unit at h
 split at h
 ·rename_i x y a b c d r'
  split at h
  ·obtain ⟨ha,h1,h⟩:=yb.1 h
   obtain ⟨hb,h2,h⟩:=yb.1 h
   obtain ⟨hc,h3,h⟩:=yb.1 h
   obtain ⟨hd,h4,h⟩:=yb.1 h
   have l1:=z3f _ _ h1
   have l2:=z3f _ _ h2
   have l3:=z3f _ _ h3
   have l4:=z3f _ _ h4
   cases h
   exact ⟨by omega,by simp⟩
  ·cases h
 ·cases h
theorem z9r (s:List UInt8) (hs:s.length<1000000000):M.q0w ⟨s⟩=some (oRs (fun x=>(((x.1:Nat):Int),(⟨x.2⟩:q05))) (unit s)):=by
 unfold M.q0w
 rw [z5q]
 have shp:(∃ t,s=92::117::t)∨((([92,117]:List UInt8).isPrefixOf s)=false∧unit s=none):=by
  match s with
  | []=>exact .inr ⟨rfl,rfl⟩
  | [x]=>exact .inr ⟨by simp [yo],rfl⟩
  | x::y::t =>
   by_cases hx:x=92∧y=117
   ·obtain ⟨rfl,rfl⟩:=hx;exact .inl ⟨t,rfl⟩
   ·refine .inr ⟨?_,?_⟩
    ·simp only [yo,Bool.and_true,Bool.and_eq_false_iff,beq_eq_false_iff_ne]
     by_cases h1:x=92
     ·exact .inr fun e=>hx ⟨h1,e.symm⟩
     ·exact .inl fun e=>h1 e.symm
    ·unfold unit
     split
     ·rename_i h;injection h with e1 e2;injection e2 with e3 e4;subst e1 e3;rw [if_neg hx]
     ·rfl
 rcases shp with ⟨t,rfl⟩|⟨h1,h2⟩
 ·have hp:([92,117]:List UInt8).isPrefixOf (92::117::t)=true:=by simp [yo]
  simp only [hp,if_true,yq,yr,yl,ym,ya,yc,Bool.true_and]
  match t with
  | a::b::c::d::r =>
   have hl:(4:Int)≤(((a::b::c::d::r).length:Nat):Int):=by simp only [yq];omega
   have hs4:sub (a::b::c::d::r) 0 4=some [a,b,c,d]:=zit (a:=4) (by simp)
   have hs5:sub (a::b::c::d::r) 4 (((a::b::c::d::r).length:Nat):Int)=some r:=za9 (a:=4) (by simp)
   simp only [hl,decide_true,if_true,hs4,hs5,yc]
   unfold M.trim
   rw [z30 (by simp)]
   have ee:((decide (Lib.trimS [a,b,c,d] [48,49,50,51,52,53,54,55,56,57,97,98,99,100,101,102,65,66,67,68,69,70]=([]:List UInt8))))=((zc6 a).isSome&&((zc6 b).isSome&&((zc6 c).isSome&&(zc6 d).isSome))):=by
    rw [ye,decide_eq_true_iff,zp4]
    have ht:=zl9
    unfold zsc at ht
    simp only [ht,List.mem_cons,List.not_mem_nil,or_false,forall_eq_or_imp,forall_eq,yd]
   simp only [ya,yc,ee,z1l]
   unfold unit
   cases h1:zc6 a with
   | none=>simp [oRs,h1]
   | some ha =>
    cases h2:zc6 b with
    | none=>simp [oRs,h1,h2]
    | some hb =>
     cases h3:zc6 c with
     | none=>simp [oRs,h1,h2,h3]
     | some hc =>
      cases h4:zc6 d with
      | none=>simp [oRs,h1,h2,h3,h4]
      | some hd =>
       have l1:=z3f a ha h1
       have l2:=z3f b hb h2
       have l3:=z3f c hc h3
       have l4:=z3f d hd h4
       have hw:ys .i32 ((16*(16*(16*ha+hb)+hc)+hd:Nat):Int)=((16*(16*(16*ha+hb)+hc)+hd:Nat):Int):=w32 (by omega) (by omega)
       have hq:=zlr h1 h2 h3 h4
       generalize hN:16*(16*(16*ha+hb)+hc)+hd=N at hw hq
       simp only [Option.isSome_some,Bool.true_and,if_true,hq,yc,hw,h1,h2,h3,h4,and_self]
       simp [oRs]
       omega
  | []=>simp [unit,oRs,z1l]
  | [_]=>simp [unit,oRs,z1l]
  | [_,_]=>simp [unit,oRs,z1l]
  | [_,_,_]=>simp [unit,oRs,z1l]
 ·rw [h1,h2]
  simp [oRs,z1l]
def zyp (c:UInt8):Option UInt8:=if c=34 then some 34 else if c=92 then some 92 else if c=47 then some 47 else if c=98 then some 8 else if c=102 then some 12 else if c=110 then some 10 else if c=114 then some 13 else if c=116 then some 9 else none
def zph (n:Nat):Bool:=decide (56320≤n)&&decide (n≤57343)
def zla (n:Nat):Bool:=decide (55296≤n)&&decide (n≤57343)
def zs9 (s:List UInt8):Option (List UInt8 × List UInt8) :=
 match s with
 | a::c::r=>match zyp c with
  | some x=>some ([x],r)
  | none=>match unit (a::c::r) with
   | none=>none
   | some (n,r1)=>if zph n=true then none else if zla n=false then some (encS (n:Int),r1) else match unit r1 with
    | none=>none
    | some (m,r2)=>if zph m=true then some (encS (65536+((n:Int) - 55296)*1024+(m:Int) - 56320),r2) else none
 | _=>none
theorem zq8:∀ c:UInt8,(match zyp c with
  | some x=>decide (0≤Lib.indexByte [34,92,47,98,102,110,114,116] (c.toNat:Int).toNat.toUInt8∧sub ([34,92,47,8,12,10,13,9]:List UInt8) (Lib.indexByte [34,92,47,98,102,110,114,116] (c.toNat:Int).toNat.toUInt8) (ys .i64 (Lib.indexByte [34,92,47,98,102,110,114,116] (c.toNat:Int).toNat.toUInt8+1))=some [x])
  | none=>decide (¬0≤Lib.indexByte [34,92,47,98,102,110,114,116] (c.toNat:Int).toNat.toUInt8))=true:=zaz (by decide +kernel)
theorem zje (n:Int):(encS n).length≤4:=by
 unfold encS Utf8.encode
 repeat' split
 all_goals (try simp)
 all_goals (repeat' split)
 all_goals (simp [ByteArray.size])
theorem ze1 {s t r:List UInt8} (h:zs9 s=some (t,r)):t.length≤4∧r.length+2≤s.length:=by
 unfold zs9 at h
 split at h
 ·rename_i a c r'
  split at h
  ·cases h;simp
  ·split at h
   ·cases h
   ·rename_i n r1 hu
    have:=zf6 hu
    split at h
    ·cases h
    ·split at h
     ·simp only [Option.some.injEq,Prod.mk.injEq] at h
      obtain ⟨rfl,rfl⟩:=h
      have h9:=zje (n:Int)
      simp only [yq] at *
      exact ⟨h9,by omega⟩
     ·split at h
      ·cases h
      ·rename_i m r2 hu2
       have:=zf6 hu2
       split at h
       ·simp only [Option.some.injEq,Prod.mk.injEq] at h
        obtain ⟨rfl,rfl⟩:=h
        have h9:=zje (65536+((n:Int) - 55296)*1024+(m:Int) - 56320)
        simp only [yq] at *
        exact ⟨h9,by omega⟩
       ·cases h
 ·cases h
theorem zus {n m:Int} (h1:55296≤n) (h2:n≤57343) (h3:56320≤m) (h4:m≤57343) :
  ys .i32 (ys .i32 (ys .i32 (65536+zcn .i32 (ys .i32 (n - 55296)) 10)+m) - 56320)=65536+(n - 55296)*1024+m - 56320:=by
 have s2:zcn .i32 (n - 55296) 10=(n - 55296)*1024:=by
  unfold zcn
  have:min (10:Int).toNat IntKind.i32.bits=10:=by decide
  have h10:(2:Int) ^ 10=1024:=by decide
  rw [this,h10,w32 (by omega) (by omega)]
 rw [w32 (x:=n - 55296) (by omega) (by omega),s2,w32 (x:=65536+(n - 55296)*1024) (by omega) (by omega),w32 (x:=65536+(n - 55296)*1024+m) (by omega) (by omega),w32 (by omega) (by omega)]
theorem rng1 (n:Nat):(decide ((n:Int)<56320)||decide (57343<(n:Int))) = !zph n:=by
 unfold zph
 rw [ye,yj,yh,←yg,yd];simp only [decide_eq_true_eq];omega
theorem rng2 (n:Nat):(decide ((n:Int)<55296)||decide (57343<(n:Int))) = !zla n:=by
 unfold zla
 rw [ye,yj,yh,←yg,yd];simp only [decide_eq_true_eq];omega
theorem rng3 (m:Nat):(decide (56320≤(m:Int))&&decide ((m:Int)≤57343))=zph m:=by
 unfold zph
 rw [ye,yd,yd];simp only [decide_eq_true_eq];omega
theorem ztm {n:Nat} (h:zla n=true):55296≤(n:Int)∧(n:Int)≤57343:=by
 unfold zla at h
 rw [yd] at h;simp only [decide_eq_true_eq] at h;omega
theorem zwh {n:Nat} (h:zph n=true):56320≤(n:Int)∧(n:Int)≤57343:=by
 unfold zph at h
 rw [yd] at h;simp only [decide_eq_true_eq] at h;omega
theorem zb9 (s:List UInt8) (hs:s.length<1000000000):M.q0s ⟨s⟩=some (oRs (fun x=>(x.1,(⟨x.2⟩:q05))) (zs9 s)):=by
 unfold M.q0s
 match s with
 | []=>simp [z1l,zs9,oRs]
 | [_]=>simp [z1l,zs9,oRs]
 | a::c::r =>
  have hl:(2:Int)≤(((a::c::r).length:Nat):Int):=by simp only [yq];omega
  have hsub:sub (a::c::r) 2 (((a::c::r).length:Nat):Int)=some r:=za9 (a:=2) (by simp)
  simp only [hl,decide_true,zgn,if_true,ya,yc,zxu,List.getElem?_cons_succ,yn]
  unfold zs9
  have ht:=zq8 c
  unfold M.indexByte
  simp only [yc]
  cases he:zyp c with
  | some x =>
   rw [he] at ht
   simp only [decide_eq_true_eq] at ht
   rw [if_pos (by simpa using ht.1),hsub]
   simp only [yc]
   rw [ht.2]
   simp [oRs]
  | none =>
   rw [he] at ht
   simp only [decide_eq_true_eq] at ht
   rw [if_neg (by simpa using ht),z9r _ hs]
   simp only [yc]
   cases hu:unit (a::c::r) with
   | none=>simp [oRs]
   | some p =>
    obtain ⟨n,r1⟩:=p
    obtain ⟨u1,u2⟩:=zf6 hu
    simp only [oRs]
    rw [rng1,z1l,rng2]
    simp only [yc]
    cases c1:zph n with
    | true=>simp
    | false =>
     simp only [yi,if_true,yf,if_false]
     cases c2:zla n with
     | false=>simp
     | true =>
      simp only [Bool.not_true,yf,if_false,Bool.true_eq_false]
      rw [z9r _ (by omega)]
      simp only [yc]
      cases hu2:unit r1 with
      | none=>simp [oRs]
      | some p2 =>
       obtain ⟨m,r2⟩:=p2
       obtain ⟨u3,u4⟩:=zf6 hu2
       simp only [oRs]
       rw [rng3,z1l]
       simp only [yc]
       cases c3:zph m with
       | true =>
        obtain ⟨q1,q2⟩:=ztm c2
        obtain ⟨q3,q4⟩:=zwh c3
        simp only [if_true]
        rw [zus q1 q2 q3 q4]
       | false=>simp
def txt:Nat→List UInt8→List UInt8→Option (List UInt8 × List UInt8)
 | 0,_,_=>none
 | _+1,[],_=>none
 | f+1,c::r,acc=>if c.toNat<32 then none else if c=34 then (if Lib.validD acc=true then some (acc,r) else none)
  else if c=92 then match zs9 (c::r) with
   | none=>none
   | some (t,r2)=>txt f r2 (acc++t)
  else txt f r (acc++[c])
def text (s:List UInt8):Option (List UInt8 × List UInt8) :=
 match s with
 | c::r=>if c=34 then txt (r.length+1) r [] else none
 | []=>none
theorem ziw:∀ (f:Nat) (s acc t r:List UInt8),txt f s acc=some (t,r)→r.length+1≤s.length∧t.length≤acc.length+4*s.length
 | 0,_,_,_,_,h=>by simp [txt] at h
 | _+1,[],_,_,_,h=>by simp [txt] at h
 | f+1,c::s,acc,t,r,h=>by
  rw [txt] at h
  split at h
  ·cases h
  ·split at h
   ·split at h
    ·cases h;simp
    ·cases h
   ·split at h
    ·split at h
     ·cases h
     ·rename_i t1 r1 he
      have h1:=ze1 he
      have h2:=ziw f _ _ _ _ h
      simp only [yp,yq] at *
      omega
    ·have h2:=ziw f _ _ _ _ h
     simp only [yp,yq,yr] at *
     omega
theorem z8s {s t r:List UInt8} (h:text s=some (t,r)):r.length+2≤s.length∧t.length≤4*s.length:=by
 unfold text at h
 split at h
 ·split at h
  ·have:=ziw _ _ _ _ _ h
   simp only [yq,yr] at *
   omega
  ·cases h
 ·cases h
theorem zgf:∀ (f:Nat) (s acc:List UInt8),s.length<f→acc.length+4*s.length<4000000000→s.length<1000000000 →
  M.z0o s (unb acc)=some (oRs (fun x=>(x.1,(⟨z2w x.2⟩:q05))) (txt f s acc)):=by
 intro f
 induction f with
 | zero=>intro s acc h;omega
 | succ f ih =>
  intro s acc hf ha hs
  rw [M.z0o.eq_1]
  cases s with
  | nil=>rfl
  | cons c r =>
   simp only [yq] at hf ha hs
   have e1:(decide ((c::r)=([]:List UInt8)))=false:=by simp
   have e2:decide (32≤(c.toNat:Int))=decide (¬c.toNat<32):=decide_eq_decide.2 (by omega)
   have t34:((c.toNat:Int)=34)↔c=34:=toNat_eq (n:=34) (by omega)
   have t92:((c.toNat:Int)=92)↔c=92:=toNat_eq (n:=92) (by omega)
   simp only [e1,yi,if_true,zjp,yn,ya,yc,e2,z1l,t34,t92]
   rw [txt]
   by_cases c32:c.toNat<32
   ·simp [c32,oRs]
   ·simp only [c32,not_false_eq_true,decide_true,if_true,if_false]
    by_cases c34:c=34
    ·subst c34
     have hq:M.z08 (unb acc)=some acc:=z5i acc
     simp only [decide_true,if_true,hq,yc]
     rw [z2q (by omega)]
     simp only [yc]
     by_cases hv:Lib.validD acc=true
     ·simp only [hv,if_true]
      rw [z10,take_one]
      simp [oRs]
     ·simp [hv,oRs]
    ·simp only [c34,decide_false,yf,if_false]
     by_cases c92:c=92
     ·simp only [c92,decide_true,if_true]
      rw [zb9 _ (by simp only [yq];omega)]
      simp only [yc]
      cases he:zs9 (92::r) with
      | none=>rfl
      | some p =>
       obtain ⟨t,r2⟩:=p
       have hl:=ze1 he
       simp only [yq] at hl
       simp only [oRs]
       rw [z1n (by simp [unb];omega)]
       simp only [yc]
       rw [←z3y,ih r2 (acc++t) (by omega) (by simp;omega) (by omega)]
       rfl
     ·simp only [c92,decide_false,yf,if_false]
      rw [z1d (by simp [unb];omega)]
      simp only [yc]
      have hsub:sub (c::r) 1 (((c::r).length:Nat):Int)=some r:=za9 (a:=1) (by simp)
      rw [hsub]
      simp only [yc]
      have e:unb acc++[(c.toNat:Int)]=unb (acc++[c]):=by simp [unb]
      rw [e,ih r (acc++[c]) (by omega) (by simp;omega) (by omega)]
theorem z9q (s:List UInt8) (hs:s.length<900000000):M.q0v ⟨s⟩=some (oRs (fun x=>(x.1,(⟨z2w x.2⟩:q05))) (text s)):=by
 unfold M.q0v
 rw [z5q,z4h]
 cases s with
 | nil=>rfl
 | cons c r =>
  by_cases h:c=34
  ·subst h
   simp only [List.head?_cons,decide_true,if_true,yq,yr,yl,ym,ya,yc,z1l]
   simp only [yq] at hs
   exact zgf (r.length+1) r [] (by omega) (by simp;omega) (by omega)
  ·simp [h,z1l,oRs,text]
end Go.Sen
end
section
namespace Go.Sen
open _root_.Option renaming bind_eq_bind → ya, bind_some → yb
open _root_.Bool renaming false_eq_true → yc, false_or → yd
open _root_.List renaming getElem?_eq_getElem → ye, getElem_mem → yf, length_append → yg, length_cons → yh, length_nil → yi, map_cons → yj, sum_cons → yk
open Go.Lk Go.Pe
abbrev EX:=q01
mutual
def q01.sz:EX→Nat
 | ⟨_,n,v,l⟩=>ezs l+n.length+v.length+1
def ezs:List EX→Nat
 | []=>0
 | x::xs=>x.sz+ezs xs
end
theorem q01.z2a (e:EX):e.sz=ezs e.zh+e.zg.length+e.z07.length+1:=by cases e;simp [q01.sz]
theorem z36:∀ {l:List EX} {x:EX},x∈l→x.sz≤ezs l
 | y::l,x,h=>by
  simp only [ezs]
  rcases List.mem_cons.1 h with rfl|h
  ·omega
  ·have:=z36 h;omega
theorem z4g:∀ l:List EX,l.length≤ezs l
 | []=>by simp [ezs]
 | x::l=>by
  have:=z4g l
  simp only [ezs,yh,q01.z2a x]
  omega
def fm0 (k:Int) (n v:List UInt8) (m:Nat):Bool :=
 if k=0∨k=1 then decide (2≤m)&&decide (n=[])&&decide (v=[]) else if k=2 then decide (m=1)&&decide (n=[])&&decide (v=[]) else
  decide (2<k∧k<13)&&decide (m=0)&&isName n&&z1q v&&(!decide (k=3)||decide (v=[]))
mutual
def fm:EX→Bool
 | ⟨k,n,v,l⟩=>fm0 k n v l.length&&(decide (2<k)||fmL l)
def fmL:List EX→Bool
 | []=>true
 | x::xs=>fm x&&fmL xs
end
theorem ze4 (e:EX):fm e=(fm0 e.zc e.zg e.z07 e.zh.length&&(decide (2<e.zc)||fmL e.zh)):=by cases e;simp only [fm]
theorem ze3:∀ l:List EX,fmL l=l.all fm
 | []=>rfl
 | x::l=>by simp [fmL,ze3 l]
def z16 (e:EX):Prop:=e.sz<1000000000
theorem z16.mem {e x:EX} (h:z16 e) (hx:x∈e.zh):z16 x:=by
 have:=z36 hx
 have h2:=e.z2a
 unfold z16 at *
 omega
theorem z5x:∀ (f:Nat) (e:EX),4*e.sz≤f→z16 e→M.q1p f e=some (fm e)
 | 0,e,hf,_=>by have:=e.z2a;omega
 | f+1,e,hf,hs=>by
  have hz:=e.z2a
  have hlen:=z4g e.zh
  have hs':=hs
  unfold z16 at hs'
  have hself:∀ g,4*ezs e.zh+1≤g→g≤f→∀ x∈e.zh,M.q1q g x=some (!fm x):=fun g hg hgf x hx=>by
   have hm:=z36 hx
   match g,hg,hgf with
   | g+1,hg,hgf =>
    unfold M.q1q
    rw [z5x g x (by omega) (hs.mem hx)]
    rfl
  have hloop:∀ g,4*ezs e.zh+3≤g→g≤f→M.q3f g e.zh=some (!fmL e.zh):=fun g hg hgf=>by
   match g,hg,hgf with
   | g+2,hg,hgf =>
    have hk:M.zu e.zh (M.q1q g) 0=some (match e.zh.findIdx? (fun x => !fm x) with|some i => .done (i:Int)|none => .go ()):=by
     refine z9a (fun i:Nat=>(i:Int)) () (by omega) (fun i h => ?_) ?_
     ·rw [M.zu]
      simp only [show ((i:Int)<(e.zh.length:Int)) by omega,decide_true,if_true,z3d,ye h,ya,yb,hself g (by omega) (by omega) _ (yf h)]
     ·rw [M.zu]
      simp
    unfold M.q3f M.q3r
    rw [hk,ze3]
    rcases z3i e.zh fm with ⟨h1,h2⟩|⟨i,h1,h2⟩
    ·rw [h1,h2];rfl
    ·rw [h1,h2];simp
  unfold M.q1p
  have hcat:cat e.zg e.z07=some (e.zg++e.z07):=z6u (by omega)
  by_cases h1:e.zc<0∨13≤e.zc
  ·have h2:((decide (e.zc<0))||(decide (13≤e.zc)))=true:=by simpa using h1
   have h3:fm e=false:=by
    rw [ze4]
    have:fm0 e.zc e.zg e.z07 e.zh.length=false:=by
     unfold fm0
     rw [if_neg (by omega),if_neg (by omega)]
     have:¬(2<e.zc∧e.zc<13):=by omega
     simp [this]
    simp [this]
   simp only [h2,if_true,ya,yb,h3]
  ·have h2:((decide (e.zc<0))||(decide (13≤e.zc)))=false:=by simpa using h1
   simp only [h2,yc,if_false]
   by_cases h3:2<e.zc
   ·have h4:¬(e.zc=0∨e.zc=1):=by omega
    have h5:¬e.zc=2:=by omega
    have h6:(2<e.zc∧e.zc<13):=by omega
    simp only [h3,decide_true,if_true,z3o,z9w,ya,yb,ze4,fm0,h4,h5,h6,if_false,Bool.true_and,Bool.true_or,Bool.and_true]
    by_cases g1:e.zh.length=0<;>cases g2:isName e.zg<;>cases g3:z1q e.z07<;>simp [g1,g2,g3]
   ·simp only [h3,decide_false,yc,if_false]
    have hl:=hloop f (by omega) (Nat.le_refl _)
    have hcd:(decide (e.zg++e.z07=([]:List UInt8)))=(decide (e.zg=[])&&decide (e.z07=[])):=by
     rw [Bool.eq_iff_iff];simp
    by_cases h5:e.zc=2
    ·have h4:¬(e.zc=0∨e.zc=1):=by omega
     simp only [h5,decide_true,if_true,ya,yb,hcat,hl,hcd,ze4,fm0,h4,if_false,h3,decide_false,yd]
     by_cases g1:e.zg=[]<;>by_cases g2:e.z07=[]<;>by_cases g3:e.zh.length=1<;>simp [g1,g2,g3]
     all_goals omega
    ·have h4:(e.zc=0∨e.zc=1):=by omega
     simp only [h5,decide_false,yc,if_false,ya,yb,hcat,hl,hcd,ze4,fm0,h4,if_true,h3,yd]
     by_cases g1:e.zg=[]<;>by_cases g2:e.z07=[]<;>by_cases g3:2≤e.zh.length<;>simp [g1,g2,g3]
     all_goals omega
termination_by f=>f
decreasing_by omega
theorem zbt:∀ (f:Nat) (e:EX),e.sz≤f→z16 e→M.q2y f e=some (fm e)
 | 0,e,hf,_=>by have:=e.z2a;omega
 | f+1,e,hf,hs=>by
  have hz:=e.z2a
  have hlen:=z4g e.zh
  have hs':=hs
  unfold z16 at hs'
  have hk:M.z2u e (M.q2y f) 0=some (match e.zh.findIdx? (fun x => !fm x) with|some i => .done false|none => .go ()):=by
   refine z9a (fun _=>false) () (by omega) (fun i h => ?_) ?_
   ·have hm:=z36 (yf h)
    rw [M.z2u]
    simp only [show ((i:Int)<(e.zh.length:Int)) by omega,decide_true,if_true,z3d,ye h,ya,yb,zbt f _ (by omega) (hs.mem (yf h))]
   ·rw [M.z2u]
    simp
  have hk2:(match e.zh.findIdx? (fun x => !fm x) with|some i=>(.done false:Jn Bool Unit)|none => .go ())=if fmL e.zh=true then .go () else .done false:=by
   rw [ze3]
   rcases z3i e.zh fm with ⟨h1,h2⟩|⟨i,h1,h2⟩
   ·rw [h1,h2];rfl
   ·rw [h1,h2];rfl
  rw [hk2] at hk
  have hlen2:∀ m:Nat,decide ((e.zh.length:Int)=m)=decide (e.zh.length=m):=fun m=>by rw [decide_eq_decide];omega
  have hlen3:decide ((e.zh.length:Int)<2) = !decide (2≤e.zh.length):=by rw [←decide_not,decide_eq_decide];omega
  have hnt:=z7x (s:=e.zg) (by omega)
  unfold M.q2y
  rw [hk,ze4]
  by_cases h4:e.zc=0∨e.zc=1
  ·have h4':((decide (e.zc=0))||(decide (e.zc=1)))=true:=by simpa using h4
   have h3:¬2<e.zc:=by omega
   simp only [h4',if_true,fm0,h4,hlen3,h3,decide_false,yd]
   by_cases g1:e.zg=[]<;>by_cases g2:e.z07=[]<;>by_cases g3:2≤e.zh.length<;>cases g4:fmL e.zh<;>simp [g1,g2,g3]
  ·have h4':((decide (e.zc=0))||(decide (e.zc=1)))=false:=by simpa using h4
   simp only [h4',yc,if_false,fm0,h4]
   by_cases h5:e.zc=2
   ·have h1:=hlen2 1
    have h3:¬2<e.zc:=by omega
    simp only [h5,decide_true,if_true,show ((1:Nat):Int)=1 from rfl] at h1 ⊢
    simp only [h1]
    by_cases g1:e.zg=[]<;>by_cases g2:e.z07=[]<;>by_cases g3:e.zh.length=1<;>cases g4:fmL e.zh<;>simp [g1,g2,g3]
   ·simp only [h5,decide_false,yc,if_false]
    by_cases h6:2<e.zc∧e.zc<13
    ·have h6':((decide (2<e.zc))&&(decide (e.zc<13)))=true:=by simpa using h6
     have h0:=hlen2 0
     simp only [h6',if_true,hnt,zbu,ya,yb,h6.1,h6.2,and_self,decide_true,Bool.true_and,Bool.true_or,Bool.and_true]
     by_cases g1:e.zh.length=0<;>cases g2:isName e.zg<;>cases g3:z1q e.z07<;>simp [g1,g2,g3]
    ·have h6':((decide (2<e.zc))&&(decide (e.zc<13)))=false:=by
      rw [Bool.eq_false_iff]
      simpa using h6
     simp [h6',h6]
def wrd (k:Int):List UInt8:=(match ([[101,113],[110,101],[99,111],[115,119],[101,119],[103,116],[103,101],[108,116],[108,101]]:List (List UInt8))[(k - 4).toNat]? with|some w=>w|none=>[])
def bra (k:Int) (x:EX):Bool:=decide (k=2)||decide (x.zc=1)||decide (x.zc=0)&&decide (k=0)
def sep (k:Int):List UInt8:=if k=0 then [32,97,110,100,32] else [32,111,114,32]
mutual
def tx:EX→List UInt8
 | ⟨k,n,v,l⟩=>if k=3 then n++[32,112,114] else if 3<k then n++[32]++wrd k++[32]++qt v else if k=2 then [110,111,116,32]++(txL k l).head?.getD [] else Lib.join (txL k l) (sep k)
def txL (k:Int):List EX→List (List UInt8)
 | []=>[]
 | x::xs=>(if bra k x=true then 40::(tx x++[41]) else tx x)::txL k xs
end
mutual
def dp:EX→Nat
 | ⟨k,_,_,l⟩=>if 2<k then 0 else dpL k l
def dpL (k:Int):List EX→Nat
 | []=>0
 | x::xs=>max (dp x+(if bra k x=true then 1 else 0)) (dpL k xs)
end
theorem zrp (e:EX):tx e=if e.zc=3 then e.zg++[32,112,114] else if 3<e.zc then e.zg++[32]++wrd e.zc++[32]++qt e.z07 else if e.zc=2 then [110,111,116,32]++(txL e.zc e.zh).head?.getD [] else Lib.join (txL e.zc e.zh) (sep e.zc):=by cases e;simp only [tx]
theorem zn2 (e:EX):dp e=if 2<e.zc then 0 else dpL e.zc e.zh:=by cases e;simp only [dp]
def txb (k:Int) (x:EX):List UInt8:=if bra k x=true then 40::(tx x++[41]) else tx x
theorem zp5 (k:Int):∀ l,txL k l=l.map (txb k)
 | []=>by simp [txL]
 | x::l=>by simp [txL,zp5 k l,txb]
theorem zpc (k:Int):(wrd k).length≤2:=by
 unfold wrd
 split
 ·rename_i w h
  have:=List.mem_of_getElem? h
  simp only [List.mem_cons,List.not_mem_nil,or_false] at this
  rcases this with rfl|rfl|rfl|rfl|rfl|rfl|rfl|rfl|rfl<;>decide
 ·decide
theorem z9p (sep:List UInt8):∀ l:List (List UInt8),(Lib.joinTail sep l).length=(l.map fun x=>x.length+sep.length).sum
 | []=>rfl
 | x::l=>by
  have:=z9p sep l
  unfold Lib.joinTail at this ⊢
  simp [this]
  omega
theorem zhw (l:List (List UInt8)) (sep:List UInt8):(Lib.join l sep).length≤(l.map fun x=>x.length+sep.length).sum:=by
 cases l with
 | nil=>simp [Lib.join_nil]
 | cons x l =>
  rw [Lib.join_cons]
  simp [z9p]
theorem zuj (k:Int):(sep k).length≤5:=by unfold sep;split<;>decide
mutual
theorem zp6:∀ e:EX,(tx e).length+7≤16*e.sz
 | ⟨k,n,v,l⟩=>by
  have h1:=zkj k l
  have h2:=zdf v
  have h3:=zpc k
  have h4:=zuj k
  simp only [tx,q01.sz]
  split
  ·simp;omega
  ·split
   ·simp;omega
   ·split
    ·cases l with
     | nil=>simp [txL];omega
     | cons x l =>
      simp only [txL,yj,yk,ezs] at h1 ⊢
      simp only [List.head?_cons,Option.getD_some,yg,yh,yi]
      omega
    ·have h5:=zhw (txL k l) (sep k)
     have h6:((txL k l).map fun x=>x.length+(sep k).length).sum≤((txL k l).map fun x=>x.length+5).sum:=by
      generalize txL k l=L
      induction L with
      | nil=>simp
      | cons x L ih=>simp only [yj,yk];omega
     omega
theorem zkj (k:Int):∀ l:List EX,((txL k l).map fun x=>x.length+5).sum≤16*ezs l
 | []=>by simp [txL]
 | x::l=>by
  have h1:=zp6 x
  have h2:=zkj k l
  simp only [txL,yj,yk,ezs]
  split
  ·simp only [yh,yg,yi];omega
  ·omega
end
end Go.Sen
end
