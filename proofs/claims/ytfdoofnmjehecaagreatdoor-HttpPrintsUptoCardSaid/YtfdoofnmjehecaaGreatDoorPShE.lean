import Derived.Test.YtfdoofnmjehecaaGreatDoorPHtP7
import Derived.Lib.TrimUEq
set_option linter.all false
section
namespace Go.Sen
open Go.Lk Go.Pe
theorem zhk {K:Type} [DecidableEq K] (k k':K):∀ l:List (K × Bool),z4n (z2i l k true) k' false=if k'=k then true else z4n l k' false
 | []=>by unfold z2i z4n z4n;rfl
 | (a,b)::r=>by
  have ih:=zhk k k' r
  unfold z2i
  by_cases h:k=a
  ·subst h
   rw [if_pos rfl]
   unfold z4n
   by_cases h2:k'=k<;>simp [h2]
  ·rw [if_neg h]
   unfold z4n
   by_cases h2:k'=a
   ·subst h2
    rw [if_pos rfl,if_pos rfl,if_neg (Ne.symm h)]
   ·rw [if_neg h2,if_neg h2,ih]
def z5z:Z:=[116,114,97,110,115,102,101,114,45,101,110,99,111,100,105,110,103]
def z5v:Z:=[99,111,110,116,101,110,116,45,108,101,110,103,116,104]
def z3d:Z:=[104,111,115,116]
def SN (m:List (Z × Bool)) (sn:List Z):Prop := ∀ k,z4n m k false=sn.contains k
theorem SN.put {m:List (Z × Bool)} {sn:List Z} (h:SN m sn) (k:Z):SN (z2i m k true) (k::sn):=fun k'=>by
 rw [zhk,List.contains_cons,h k']
 by_cases e:k'=k<;>simp [e]
end Go.Sen
end
section
namespace Go.Sen
open _root_.Option renaming bind_eq_bind → ya, bind_some → yb
open _root_.Bool renaming false_eq_true → yc
open _root_.List renaming append_assoc → yd, append_nil → ye, cons_append → yf, drop_eq_getElem_cons → yg, drop_eq_nil_of_le → yh, drop_zero → yi, getElem?_eq_getElem → yj, length_append → yk, length_cons → yl, length_nil → ym, map_cons → yn, sum_cons → yo
open _root_.Nat renaming zero_le → yp
open IntKind renaming wrap → yq
open Go.Lk Go.Pe
def zvt (b:UInt8):Bool:=isA b||(decide (97≤b.toNat)&&decide (b.toNat≤122))||isD b
def z8n (b:UInt8):Bool:=zvt b||decide (b=45)||decide (b=46)||decide (b=95)||decide (b=126)
def hxU (n:Nat):UInt8:=UInt8.ofNat (if n<10 then 48+n else 55+n)
def zez (bl:Z) (c:UInt8):Z:=if z8n c=true then [c] else if c=32 then bl else [37,hxU (c.toNat / 16),hxU (c.toNat % 16)]
def pct (bl s:Z):Z:=s.flatMap (zez bl)
theorem z9q (bl:Z) (c:UInt8) (s:Z):pct bl (c::s)=zez bl c++pct bl s:=by simp [pct]
theorem zd8 {bl:Z} (h:bl.length≤3) (c:UInt8):(zez bl c).length≤3:=by
 unfold zez
 split
 ·simp
 ·split
  ·exact h
  ·simp
theorem z5q {bl:Z} (h:bl.length≤3):∀ s:Z,(pct bl s).length≤3*s.length
 | []=>by simp [pct]
 | c::s=>by
  have h1:=zd8 h c
  have h2:=z5q h s
  rw [z9q,yk,yl]
  omega
def ixP (c:UInt8):Int:=Lib.idxFunc (fun r=>decide ((r:Int) % 256=(c.toNat:Int))) true ⟨([45,46,95,126]:Z).toArray⟩
theorem ztx (c:UInt8):M.z1k ([45,46,95,126]:Z) (c.toNat:Int)=some (ixP c):=by unfold M.z1k ixP;rfl
def alI (x:Int):Bool:=(((decide (65≤x))&&(decide (x≤90)))||((decide (97≤x))&&(decide (x≤122))))||((decide (48≤x))&&(decide (x≤57)))
theorem zox:∀ c:UInt8,(alI (c.toNat:Int)||decide (0≤ixP c))=z8n c:=za8 (by decide +kernel)
def zv5 (x:Int):Option Z:=do
 let s151←sub ([48,49,50,51,52,53,54,55,56,57,65,66,67,68,69,70]:Z) (zhz .u8 x 4) (yq .u8 ((zhz .u8 x 4)+1))
 let s152←cat ([37]:Z) s151
 let s153←sub ([48,49,50,51,52,53,54,55,56,57,65,66,67,68,69,70]:Z) (zb2 .u8 x 15) (yq .u8 ((zb2 .u8 x 15)+1))
 cat s152 s153
theorem zmk:∀ c:UInt8,zv5 (c.toNat:Int)=some [37,hxU (c.toNat / 16),hxU (c.toNat % 16)]:=za8 (by decide +kernel)
theorem ziy {s bl:Z} (hb:bl.length≤3) (hs:s.length<100000000000):∀ (n i:Nat) (acc:Z),s.length - i=n→i≤s.length→acc.length+3*n<900000000000 →
  M.zm s bl (i:Int) (unb acc)=some (unb (acc++pct bl (s.drop i))):=by
 intro n
 induction n with
 | zero =>
  intro i acc hn hi ha
  rw [M.zm,yh (by omega)]
  have:¬((i:Int)<((unb s).length:Int)):=by rw [z11];omega
  simp [this,pct]
 | succ n ih =>
  intro i acc hn hi ha
  have hlt:i<s.length:=by omega
  have h1:((i:Int)<((unb s).length:Int)):=by rw [z11];omega
  rw [M.zm,yg hlt,z9q]
  simp only [h1,decide_true,if_true,zfj,zr2,yj hlt,Option.map_some,ya,yb,ztx]
  rw [w1 (by omega)]
  have next:∀ t:Z,t=zez bl s[i]→M.zm s bl ((i+1:Nat):Int) (unb (acc++t))=some (unb (acc++(zez bl s[i]++pct bl (s.drop (i+1))))):=by
   rintro t rfl
   have:=zd8 hb s[i]
   rw [ih (i+1) _ (by omega) (by omega) (by rw [yk];omega),yd]
  have hal:((((decide (65≤((s[i]).toNat:Int)))&&(decide (((s[i]).toNat:Int)≤90)))||((decide (97≤((s[i]).toNat:Int)))&&(decide (((s[i]).toNat:Int)≤122))))||((decide (48≤((s[i]).toNat:Int)))&&(decide (((s[i]).toNat:Int)≤57))))=alI ((s[i]).toNat:Int):=rfl
  rw [hal]
  have hj:(if alI ((s[i]).toNat:Int)=true then some true else some (decide (0≤ixP s[i])))=some (z8n s[i]):=by
   rw [←zox s[i]]
   cases alI ((s[i]).toNat:Int)<;>simp
  rw [hj]
  simp only [yb]
  cases hp:z8n s[i] with
  | true =>
   rw [if_pos rfl,zfi (by rw [z11];omega)]
   simp only [yb]
   rw [zr3,←z2o]
   exact next _ (by unfold zez;rw [if_pos hp])
  | false =>
   rw [if_neg (by decide)]
   by_cases h32:s[i]=32
   ·have:(((s[i]).toNat:Int)=32):=by rw [h32];rfl
    rw [if_pos (by simpa using this),z1r (by omega)]
    simp only [yb]
    exact next _ (by unfold zez;rw [if_neg (by rw [hp];decide),if_pos h32])
   ·have:¬(((s[i]).toNat:Int)=32):=fun e=>h32 (by
     have e:(s[i]).toNat=32:=by omega
     rw [show (32:UInt8)=UInt8.ofNat 32 from rfl,←e]
     simp)
    have hx:=zmk s[i]
    unfold zv5 at hx
    simp only [ya] at hx
    rw [if_neg (by simpa using this)]
    cases e1:sub ([48,49,50,51,52,53,54,55,56,57,65,66,67,68,69,70]:Z) (zhz .u8 ((s[i]).toNat:Int) 4) (yq .u8 ((zhz .u8 ((s[i]).toNat:Int) 4)+1)) with
    | none=>rw [e1] at hx;cases hx
    | some y1 =>
     rw [e1] at hx
     simp only [yb] at hx ⊢
     cases e2:cat ([37]:Z) y1 with
     | none=>rw [e2] at hx;cases hx
     | some y2 =>
      rw [e2] at hx
      simp only [yb] at hx ⊢
      cases e3:sub ([48,49,50,51,52,53,54,55,56,57,65,66,67,68,69,70]:Z) (zb2 .u8 ((s[i]).toNat:Int) 15) (yq .u8 ((zb2 .u8 ((s[i]).toNat:Int) 15)+1)) with
      | none=>rw [e3] at hx;cases hx
      | some y3 =>
       rw [e3] at hx
       simp only [yb] at hx ⊢
       rw [hx]
       simp only [yb]
       rw [z1r (by simp;omega)]
       simp only [yb]
       exact next _ (by unfold zez;rw [if_neg (by rw [hp];decide),if_neg h32])
theorem z42 {s bl:Z} (hb:bl.length≤3) (hs:s.length<100000000000):M.q0p s bl=some (pct bl s):=by
 unfold M.q0p
 rw [zbp (by simp;omega)]
 have h:=ziy hb hs _ 0 [] rfl (yp _) (by simp;omega)
 have h:M.zm s bl 0 ([]:List Int)=_:=h
 simp only [ya,yb]
 rw [h]
 simp [z5u]
def z8m (s:Z):Z:=pct [37,50,48] s
def zar (s:Z):Z:=pct [43] s
theorem z9k {s:Z} (hs:s.length<100000000000):M.q0n s=some (z8m s):=by
 unfold M.q0n
 rw [z42 (by simp) hs]
 rfl
def fld (p:q05):Z:=zar p.z03++[61]++zar p.z1d
def z2f (l:List q05):Z:=Lib.join (l.map fld) [38]
def form (l:List q05):Z × Int:=if 64<l.length then ([],14) else if 8192<(z2f l).length then ([],14) else (z2f l,0)
def zi3 (l:List q05):Prop := ∀ p∈l,p.z03.length<100000000∧p.z1d.length<100000000
theorem z9e (sep:Z):∀ l:List Z,(Lib.joinTail sep l).length=(l.map fun x=>x.length+sep.length).sum
 | []=>rfl
 | x::r=>by
  have h:=z9e sep r
  have e:Lib.joinTail sep (x::r)=sep++x++Lib.joinTail sep r:=rfl
  rw [e,yk,yk,h,yn,yo]
  omega
theorem zg0 (l:List Z) (sep:Z):(Lib.join l sep).length≤(l.map fun x=>x.length+sep.length).sum:=by
 cases l with
 | nil=>exact yp _
 | cons x r =>
  have e:Lib.join (x::r) sep=x++Lib.joinTail sep r:=Lib.join_cons x r sep
  rw [e,yk,z9e,yn,yo]
  omega
theorem zos {α:Type} (f:α→Nat) (B:Nat):∀ l:List α,(∀ x∈l,f x≤B)→(l.map f).sum≤l.length*B
 | [],_=>by simp
 | x::r,h=>by
  have h1:=h x (by simp)
  have h2:=zos f B r fun y hy=>h y (by simp [hy])
  rw [yn,yo,yl,Nat.succ_mul]
  omega
theorem zfv {p:q05} (h:p.z03.length<100000000∧p.z1d.length<100000000):(fld p).length≤600000000:=by
 have h1:=z5q (bl:=[43]) (by simp) p.z03
 have h2:=z5q (bl:=[43]) (by simp) p.z1d
 unfold fld zar
 simp only [yk,yl,ym]
 omega
theorem zmf {l:List q05} (hl:l.length<100000000) (hf:zi3 l):∀ (n i:Nat) (a:List Z),l.length - i=n→i≤l.length→a.length≤i →
  M.z0f l a (i:Int)=some (a++(l.drop i).map fld):=by
 intro n
 induction n with
 | zero =>
  intro i a hn hi ha
  rw [M.z0f,yh (by omega)]
  have:¬((i:Int)<(l.length:Int)):=by omega
  simp [this]
 | succ n ih =>
  intro i a hn hi ha
  have hlt:i<l.length:=by omega
  have h1:((i:Int)<(l.length:Int)):=by omega
  have hx:=hf l[i] (by simp)
  have hp1:=z5q (bl:=[43]) (by simp) l[i].z03
  have hp2:=z5q (bl:=[43]) (by simp) l[i].z1d
  rw [M.z0f,yg hlt]
  simp only [h1,decide_true,if_true,zfj,yj hlt,ya,yb]
  rw [z42 (by simp) (by omega)]
  simp only [yb]
  rw [z2q (by simp;omega),z42 (by simp) (by omega)]
  simp only [yb]
  rw [z2q (by simp;omega)]
  simp only [yb]
  rw [z55 (by simp;omega),w1 (by omega)]
  simp only [yb]
  rw [ih (i+1) _ (by omega) (by omega) (by simp;omega)]
  rw [yn]
  simp only [fld,zar,yd,yf,List.nil_append]
theorem zcp {l:List q05} (hl:l.length<100000000) (hf:zi3 l):M.q0i l=some (form l):=by
 unfold M.q0i form
 by_cases h64:64<l.length
 ·have:(64:Int)<(l.length:Int):=by omega
  simp [this,h64]
 ·have:¬(64:Int)<(l.length:Int):=by omega
  have hk:=zmf hl hf _ 0 [] rfl (yp _) (by simp)
  have hk:M.z0f l [] 0=some ((l.drop 0).map fld):=hk
  rw [yi] at hk
  simp only [this,decide_false,yc,if_false,h64,ya,hk,yb]
  have hj:(z2f l).length≤140737488355328:=by
   unfold z2f
   refine Nat.le_trans (zg0 _ _) ?_
   rw [List.map_map]
   refine Nat.le_trans (zos _ 600000001 l fun p hp => ?_) ?_
   ·have:=zfv (hf p hp)
    simp only [Function.comp,yl,ym]
    omega
   ·have:l.length*600000001≤64*600000001:=Nat.mul_le_mul_right _ (by omega)
    omega
  have hm:M.join (l.map fld) [38]=some (z2f l):=by
   unfold M.join
   rw [zbp]
   ·rfl
   ·rw [Bool.and_eq_true,decide_eq_true_iff,decide_eq_true_iff]
    exact ⟨by simp;omega,hj⟩
  rw [hm]
  simp only [yb]
  by_cases h8:8192<(z2f l).length
  ·have:(8192:Int)<((z2f l).length:Int):=by omega
   simp [this,h8]
  ·have:¬(8192:Int)<((z2f l).length:Int):=by omega
   simp [this,h8]
def z5c:List q05→List Z→Option (List Z)
 | [],sn=>some sn
 | p::r,sn=>if (zhf p.z03&&isVal p.z1d && !sn.contains p.z03)=true then z5c r (p.z03::sn) else none
def z5l (l:List q05):Bool:=match z5c l [z5z,z5v] with
 | some sn=>decide (l.length≤32)&&sn.contains z3d
 | none=>false
def zou (z:Option (Jn Bool (List (Z × Bool)))):Option (List Z)→Prop
 | none=>z=some (.done false)
 | some sn=>∃ m,z=some (.go m)∧SN m sn
theorem zmj {l:List q05} (hl:l.length<1000000000) (hf:zi3 l):∀ (n i:Nat) (m:List (Z × Bool)) (sn:List Z),l.length - i=n→i≤l.length→SN m sn →
  zou (M.z0a l (i:Int) m) (z5c (l.drop i) sn):=by
 intro n
 induction n with
 | zero =>
  intro i m sn hn hi hs
  rw [M.z0a,yh (by omega)]
  have:¬((i:Int)<(l.length:Int)):=by omega
  simp only [this,decide_false,yc,if_false]
  exact ⟨m,rfl,hs⟩
 | succ n ih =>
  intro i m sn hn hi hs
  have hlt:i<l.length:=by omega
  have h1:((i:Int)<(l.length:Int)):=by omega
  have hx:=hf l[i] (by simp)
  rw [M.z0a,yg hlt]
  simp only [h1,decide_true,if_true,zfj,yj hlt,ya,yb,zeh]
  rw [zcz (by omega),hs]
  unfold z5c
  simp only [yb]
  have:=ih (i+1) (z2i m l[i].z03 true) (l[i].z03::sn) (by omega) (by omega) (hs.put _)
  rw [w1 (by omega)]
  cases zhf l[i].z03<;>cases isVal l[i].z1d<;>cases sn.contains l[i].z03<;>first|exact this|rfl
theorem zcy {l:List q05} (hl:l.length<1000000000) (hf:zi3 l):M.q1k l=some (z5l l):=by
 unfold M.q1k z5l
 have hs:SN (z2i (z2i ([]:List (Z × Bool)) z5v true) z5z true) [z5z,z5v]:=by
  have h0:SN [] []:=fun k=>rfl
  exact (h0.put z5v).put z5z
 have hk:=zmj hl hf _ 0 _ _ rfl (yp _) hs
 rw [yi] at hk
 simp only [ya,yb]
 have e:M.z0a l 0 (z2i (z2i ([]:List (Z × Bool)) ([99,111,110,116,101,110,116,45,108,101,110,103,116,104]:Z) true) ([116,114,97,110,115,102,101,114,45,101,110,99,111,100,105,110,103]:Z) true)=M.z0a l ((0:Nat):Int) (z2i (z2i ([]:List (Z × Bool)) z5v true) z5z true):=rfl
 rw [e]
 cases hr:z5c l [z5z,z5v] with
 | none =>
  rw [hr] at hk
  have hk:M.z0a l ((0:Nat):Int) _=some (.done false):=hk
  rw [hk]
  rfl
 | some sn =>
  rw [hr] at hk
  obtain ⟨m,hk,hsn⟩:=hk
  rw [hk]
  simp only [yb]
  have hh:z4n m [104,111,115,116] false=sn.contains z3d:=hsn _
  rw [hh]
  by_cases h32:l.length≤32
  ·have:((l.length:Int)≤32):=by omega
   simp [this,h32]
  ·have:¬((l.length:Int)≤32):=by omega
   simp [this,h32]
def fit (q:q03):Prop:=q.zo.length<100000000∧q.zu.length<100000000∧(∀ p∈q.zu,p.length<100000000)∧q.z0s.length<100000000∧zi3 q.z0s∧q.zl.length<100000000∧zi3 q.zl∧q.zv.length<100000000
def z4p (l:List Z):Z:=l.flatMap fun p=>47::z8m p
theorem zey:z4p []=[]:=rfl
theorem zcc (p:Z) (r:List Z):z4p (p::r)=47::z8m p++z4p r:=rfl
def zef (p:q05):Z:=p.z03++[58,32]++p.z1d++[13,10]
def z8e (l:List q05):Z:=l.flatMap zef
theorem zeg:z8e []=[]:=rfl
theorem zbz (p:q05) (r:List q05):z8e (p::r)=zef p++z8e r:=rfl
def clS (n:Nat):Z:=[99,111,110,116,101,110,116,45,108,101,110,103,116,104,58,32]++Lib.decDigits n++[13,10]
def z45 (q:q03):Z:=q.zo++[32]++z4p q.zu++(if z2f q.z0s=[] then [] else 63::z2f q.z0s)++[32,72,84,84,80,47,49,46,49,13,10]++z8e q.zl++(if q.zv=[] then [] else clS q.zv.length)++[13,10]
def zdc (q:q03):Bool:=decide ((form q.z0s).2=0)&&z6g q.zo&&decide (1≤q.zu.length)&&decide (q.zu.length≤64)&&z5l q.zl && !(decide (q.zl.length=32) && !decide (q.zv=[]))&&decide (q.zv.length≤16384)
def zhp (q:q03):Z × Int:=if zdc q=true then (if 8192<(z45 q).length then ([],224) else (z45 q++q.zv,0)) else ([],224)
theorem zn1 {q:q03} (hl:q.zu.length≤64) (hm:∀ p∈q.zu,p.length<100000000):∀ (n i:Nat) (a:Z),q.zu.length - i=n→i≤q.zu.length→a.length≤500000000+i*400000000 →
  M.z0g q (i:Int) (unb a)=some (unb (a++z4p (q.zu.drop i)))∧(a++z4p (q.zu.drop i)).length≤500000000+q.zu.length*400000000:=by
 intro n
 induction n with
 | zero =>
  intro i a hn hi ha
  rw [M.z0g,yh (by omega)]
  have:¬((i:Int)<(q.zu.length:Int)):=by omega
  have e:i=q.zu.length:=by omega
  subst e
  rw [zey,ye]
  simp only [this,decide_false,yc,if_false]
  exact ⟨trivial,ha⟩
 | succ n ih =>
  intro i a hn hi ha
  have hlt:i<q.zu.length:=by omega
  have h1:((i:Int)<(q.zu.length:Int)):=by omega
  have hx:=hm q.zu[i] (by simp)
  have hp:=z5q (bl:=[37,50,48]) (by simp) q.zu[i]
  rw [M.z0g,yg hlt]
  simp only [h1,decide_true,if_true,zfj,yj hlt,ya,yb]
  rw [z9k (by omega)]
  simp only [yb]
  have hpl:(z8m q.zu[i]).length≤300000000:=by unfold z8m;omega
  rw [z2q (by simp;omega)]
  simp only [yb]
  rw [z1r (by simp;omega),w1 (by omega)]
  simp only [yb]
  have:=ih (i+1) (a++([47]++z8m q.zu[i])) (by omega) (by omega) (by simp;omega)
  have e:a++z4p (q.zu[i]::q.zu.drop (i+1))=a++([47]++z8m q.zu[i])++z4p (q.zu.drop (i+1)):=by rw [zcc,yd,yf,List.singleton_append,yf]
  rw [e]
  exact this
theorem zn2 {q:q03} (hl:q.zl.length≤32) (hm:zi3 q.zl):∀ (n i:Nat) (a:Z),q.zl.length - i=n→i≤q.zl.length→a.length≤60000000000+i*400000000 →
  M.z0h q (i:Int) (unb a)=some (unb (a++z8e (q.zl.drop i)))∧(a++z8e (q.zl.drop i)).length≤60000000000+q.zl.length*400000000:=by
 intro n
 induction n with
 | zero =>
  intro i a hn hi ha
  rw [M.z0h,yh (by omega)]
  have:¬((i:Int)<(q.zl.length:Int)):=by omega
  have e:i=q.zl.length:=by omega
  subst e
  rw [zeg,ye]
  simp only [this,decide_false,yc,if_false]
  exact ⟨trivial,ha⟩
 | succ n ih =>
  intro i a hn hi ha
  have hlt:i<q.zl.length:=by omega
  have h1:((i:Int)<(q.zl.length:Int)):=by omega
  have hx:=hm q.zl[i] (by simp)
  rw [M.z0h,yg hlt]
  simp only [h1,decide_true,if_true,zfj,yj hlt,ya,yb]
  rw [z2q (by simp;omega)]
  simp only [yb]
  rw [z2q (by simp;omega)]
  simp only [yb]
  rw [z2q (by simp;omega)]
  simp only [yb]
  rw [z1r (by simp;omega),w1 (by omega)]
  simp only [yb]
  have:=ih (i+1) (a++zef q.zl[i]) (by omega) (by omega) (by unfold zef;simp;omega)
  have e:a++z8e (q.zl[i]::q.zl.drop (i+1))=a++zef q.zl[i]++z8e (q.zl.drop (i+1)):=by rw [zbz,yd]
  rw [e]
  exact this
theorem z86 {n k:Nat} (h:n<10 ^ k) (hk:1≤k):(Lib.decDigits n).length≤k:=by
 induction k generalizing n with
 | zero=>omega
 | succ k ih =>
  rw [Lib.decDigits]
  split
  ·simp
  ·rename_i h10
   have h2:n / 10<10 ^ k:=by rw [Nat.pow_succ] at h;omega
   have h1:1≤k:=by
    cases k with
    | zero=>simp at h;omega
    | succ k=>omega
   have:=ih h2 h1
   simp
   omega
end Go.Sen
end
section
namespace Go.Sen
open _root_.Option renaming bind_some → ya
open _root_.Bool renaming false_eq_true → yb
open _root_.List renaming drop_zero → yc, length_append → yd
open _root_.Nat renaming mul_le_mul_right → ye
open Go.Lk Go.Pe
theorem zbx (l:List q05) (h:(form l).2=0):form l=(z2f l,0)∧(z2f l).length≤8192:=by
 unfold form at h ⊢
 split at h
 ·simp at h
 ·split at h
  ·simp at h
  ·rename_i h1 h2
   rw [if_neg h1,if_neg h2]
   exact ⟨rfl,by omega⟩
theorem zcx {q:q03} (h:fit q):M.q0u q=some (zhp q):=by
 obtain ⟨f1,f2,f3,f4,f5,f6,f7,f8⟩:=h
 unfold M.q0u
 rw [zcp f4 f5]
 simp only [Option.bind_eq_bind,ya,zbd]
 have hh:=zcy (l:=q.zl) (by omega) f7
 rw [hh]
 have cond:∀ t:Option (Z × Int),((if (!decide ((form q.z0s).2=0))=true then some true else some (!z6g q.zo)).bind fun j27=>(if ((j27||decide ((q.zu.length:Int)=0))||decide (64<(q.zu.length:Int)))=true then some true else (some (z5l q.zl)).bind fun a38=>some (!a38)).bind fun j37=>if ((j37||(decide ((q.zl.length:Int)=32) && !decide (q.zv=([]:Z))))||decide (16384<(q.zv.length:Int)))=true then some (([]:Z),(224:Int)) else t)=if (!zdc q)=true then some ([],224) else t:=by
  intro t
  have e1:decide ((q.zu.length:Int)=0) = !decide (1≤q.zu.length):=by
   by_cases c:1≤q.zu.length
   ·have:¬((q.zu.length:Int)=0):=by omega
    rw [decide_eq_false this,decide_eq_true c];rfl
   ·have:((q.zu.length:Int)=0):=by omega
    rw [decide_eq_true this,decide_eq_false c];rfl
  have e2:decide (64<(q.zu.length:Int)) = !decide (q.zu.length≤64):=by
   by_cases c:q.zu.length≤64
   ·have:¬(64<(q.zu.length:Int)):=by omega
    simp [c,this]
   ·have:(64<(q.zu.length:Int)):=by omega
    simp [c,this]
  have e3:decide ((q.zl.length:Int)=32)=decide (q.zl.length=32):=decide_eq_decide.2 (by omega)
  have e4:decide (16384<(q.zv.length:Int)) = !decide (q.zv.length≤16384):=by
   by_cases c:q.zv.length≤16384
   ·have:¬(16384<(q.zv.length:Int)):=by omega
    simp [c,this]
   ·have:(16384<(q.zv.length:Int)):=by omega
    simp [c,this]
  unfold zdc
  rw [e1,e2,e3,e4]
  cases decide ((form q.z0s).2=0)<;>cases z6g q.zo<;>cases decide (1≤q.zu.length)<;>cases decide (q.zu.length≤64)<;>cases z5l q.zl<;>cases decide (q.zl.length=32)<;>cases decide (q.zv=([]:Z))<;>cases decide (q.zv.length≤16384)<;>rfl
 rw [cond]
 unfold zhp
 cases hk:zdc q with
 | false=>rfl
 | true =>
  simp only [Bool.not_true,yb,if_false,if_true]
  have hk2:=hk
  unfold zdc at hk2
  simp only [Bool.and_eq_true,decide_eq_true_eq] at hk2
  obtain ⟨⟨⟨⟨⟨⟨k1,k2⟩,k3⟩,k4⟩,k5⟩,k6⟩,k7⟩:=hk2
  obtain ⟨g1,g2⟩:=zbx _ k1
  have hm8:q.zo.length≤8:=by unfold z6g at k2;simp at k2;omega
  have hl32:q.zl.length≤32:=by
   unfold z5l at k5
   split at k5
   ·simp at k5;omega
   ·cases k5
  rw [z2q (by simp;omega)]
  simp only [ya]
  have w0:=z1r (a:=[]) (b:=q.zo++[32]) (by simp;omega)
  have w0:M.q71 [] (q.zo++[32])=_:=w0
  rw [w0]
  simp only [ya,List.nil_append]
  have p1:=zn1 k4 f3 _ 0 (q.zo++[32]) rfl (Nat.zero_le _) (by simp;omega)
  rw [yc] at p1
  have p1a:M.z0g q 0 (unb (q.zo++[32]))=_:=p1.1
  rw [p1a]
  simp only [ya,g1]
  have hb1:(z4p q.zu).length≤26100000000:=by
   have:=p1.2
   simp only [yd] at this
   have:q.zu.length*400000000≤64*400000000:=ye _ k4
   omega
  have hq:(if (!decide (z2f q.z0s=([]:Z)))=true then (cat [63] (z2f q.z0s)).bind fun s98=>(M.q71 (unb (q.zo++[32]++z4p q.zu)) s98).bind fun a99=>some a99.2 else some (unb (q.zo++[32]++z4p q.zu)))=some (unb (q.zo++[32]++z4p q.zu++(if z2f q.z0s=[] then [] else 63::z2f q.z0s))):=by
   by_cases c:z2f q.z0s=[]
   ·simp [c]
   ·have e1:cat [63] (z2f q.z0s)=some (63::z2f q.z0s):=z2q (a:=[63]) (by simp;omega)
    rw [if_pos (by simp [c]),e1,if_neg c]
    simp only [ya]
    rw [z1r (by simp;omega)]
    rfl
  rw [hq]
  simp only [ya]
  have hb2:(if z2f q.z0s=[] then ([]:Z) else 63::z2f q.z0s).length≤8193:=by
   split
   ·simp
   ·simp;omega
  obtain ⟨u,hu⟩:∃ u,q.zo++[32]++z4p q.zu++(if z2f q.z0s=[] then [] else 63::z2f q.z0s)=u:=⟨_,rfl⟩
  have hul:u.length≤26200000000:=by rw [←hu];simp only [yd,List.length_singleton];omega
  rw [hu,z1r (by simp;omega)]
  simp only [ya]
  have p2:=zn2 hl32 f7 _ 0 (u++[32,72,84,84,80,47,49,46,49,13,10]) rfl (Nat.zero_le _) (by simp;omega)
  rw [yc] at p2
  have p2a:M.z0h q 0 (unb (u++[32,72,84,84,80,47,49,46,49,13,10]))=_:=p2.1
  rw [p2a]
  simp only [ya]
  obtain ⟨v,hv⟩:∃ v,u++[32,72,84,84,80,47,49,46,49,13,10]++z8e q.zl=v:=⟨_,rfl⟩
  have hvl:v.length≤73000000000:=by
   have h1:=p2.2
   rw [hv] at h1
   have:q.zl.length*400000000≤32*400000000:=ye _ hl32
   omega
  rw [hv]
  have hd5:=z86 (n:=q.zv.length) (k:=5) (by omega) (by decide)
  have hc:(if (!decide (q.zv=([]:Z)))=true then (M.itoa (q.zv.length:Int)).bind fun a159=>(cat [99,111,110,116,101,110,116,45,108,101,110,103,116,104,58,32] a159).bind fun s161=>(cat s161 [13,10]).bind fun s162=>(M.q71 (unb v) s162).bind fun a163=>some a163.2 else some (unb v))=some (unb (v++(if q.zv=[] then [] else clS q.zv.length))):=by
   by_cases c:q.zv=[]
   ·simp [c]
   ·rw [if_pos (by simp [c]),if_neg c,zrk (by omega)]
    simp only [ya]
    rw [z2q (by simp;omega)]
    simp only [ya]
    rw [z2q (by simp;omega)]
    simp only [ya]
    rw [z1r (by simp;omega)]
    rfl
  rw [hc]
  simp only [ya]
  have hb3:(if q.zv=[] then ([]:Z) else clS q.zv.length).length≤100:=by
   split
   ·simp
   ·unfold clS;simp;omega
  rw [z1r (by simp;omega)]
  simp only [ya]
  have hr:v++(if q.zv=[] then [] else clS q.zv.length)++[13,10]=z45 q:=by rw [←hv,←hu];rfl
  rw [hr]
  have hlen:M.q6z (unb (z45 q))=some ((z45 q).length:Int):=by
   unfold M.q6z
   simp [z11]
  rw [hlen]
  simp only [ya]
  by_cases h8:8192<(z45 q).length
  ·have:(8192:Int)<((z45 q).length:Int):=by omega
   simp [h8,this]
  ·have:¬(8192:Int)<((z45 q).length:Int):=by omega
   simp only [this,h8,decide_false,yb,if_false,z5u,ya]
   rw [z2q (by omega)]
   rfl
end Go.Sen
end
section
namespace Go.Sen
open Go.Lk Go.Pe
theorem zll:∀ {l:List Nat} {x:Nat},x∈l→x≤l.sum
 | a::l,x,h=>by
  rw [List.sum_cons]
  rcases List.mem_cons.1 h with rfl|h
  ·omega
  ·have:=zll h;omega
end Go.Sen
end
section
namespace Go.Sen
open Go.Lk Go.Pe
def badW (b:UInt8):Bool:=decide (b.toNat<33)||decide (126<b.toNat)||decide (b=34)||decide (b=92)
def textS (s:Z):Bool:=decide (s.length≤128)&&Lib.validD s
def wordS (s:Z):Bool := !decide (s=[])&&decide (s.length≤32) && !s.any badW
def tickS (n:Int):Bool:=decide (0≤n)&&decide (n≤1099511627776)
def scp:Option Z→List Z→Bool
 | _,[]=>true
 | p,a::r=>wordS a&&(match p with
  | none=>true
  | some q=>slt q a)&&scp (some a) r
def okC (c:q01):Bool:=[c.zb4,c.zb6,c.zb3,c.z02,c.zb5,c.z0n].all textS&&c.zcw.all textS&&tickS c.zik&&tickS c.zij&&decide (0≤c.z1n)&&decide (c.z1n≤9)&&decide (c.z09.length≤16)&&decide (c.zcw.length≤4) && !decide (([]:Z)∈c.zcw)&&scp none c.z09
end Go.Sen
end
section
namespace Go.Sen
open Go.Lk Go.Pe
end Go.Sen
end
section
namespace Go.Sen
open Go.Lk Go.Pe
def no (c:UInt8) (s:Z):Prop := ∀ b∈s,¬b=c
theorem zs3 (p:q05):¬fld p=[]:=by unfold fld;simp
theorem zmg {l:List q05} (h:¬l=[]):¬z2f l=[]:=by
 cases l with
 | nil=>exact absurd rfl h
 | cons p l =>
  unfold z2f
  rw [List.map_cons,Lib.join_cons]
  intro e
  exact zs3 p (List.append_eq_nil_iff.1 e).1
def target (q:q03):Z:=z4p q.zu++(if z2f q.z0s=[] then [] else 63::z2f q.z0s)
end Go.Sen
end
section
namespace Go.Sen
open Go.Lk Go.Pe
def zpb:List J→List Z→Option (List q02)
 | [],_=>some []
 | x::xs,ks=>if (textsOf x).2=true then (zpb xs ks.tail).map (⟨ks.head?.getD [],(textsOf x).1⟩ :: ·) else none
end Go.Sen
end
section
namespace Go.Sen
open Go.Lk Go.Pe
end Go.Sen
end
section
namespace Go.Sen
open Go.Lk Go.Pe
theorem zfn {c:UInt8} {n:Nat} (hn:n<256):((c.toNat:Int)=(n:Int))↔c=UInt8.ofNat n:=by
 have h:(UInt8.ofNat n).toNat=n:=by simp;omega
 constructor
 ·intro e
  apply UInt8.toNat_inj.1
  rw [h]
  omega
 ·rintro rfl
  rw [h]
end Go.Sen
end
section
namespace Go.Sen
open Go.Lk Go.Pe
theorem zi0 (a:Z) (b:UInt8):unb a++[(b.toNat:Int)]=unb (a++[b]):=by rw [z2o];rfl
end Go.Sen
end
