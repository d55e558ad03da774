import Derived.Test.YtmmgdladipbedaaGreatDoorLPaM
import Derived.Test.YtmmgdladipbedaaGreatDoorLSnA
set_option linter.all false
section
namespace Go.Sen
open _root_.Option renaming bind_eq_bind → ya, bind_some → yb
open _root_.Bool renaming and_false → yc, eq_iff_iff → yd, false_and → ye, false_eq_true → yf
open _root_.List renaming all_eq_not_any_not → yg, all_eq_true → yh, getElem?_cons_zero → yi
open Go.Lk Go.Pe
theorem zfi {α R X:Type} {l:List α} {p:α→Bool} {F:Int→Option (Jn R X)} (d:Nat→R) (x0:X) (hl:l.length<1152921504606846976)
  (hF:∀ (i:Nat) (h:i<l.length),F (i:Int)=if p l[i]=true then some (.done (d i)) else F (IntKind.wrap .i64 ((i:Int)+1))) (hE:F (l.length:Int)=some (.go x0)) :
  F 0=some (match l.findIdx? p with|some i => .done (d i)|none => .go x0):=by
 have key:∀ (n i:Nat),l.length - i=n→i≤l.length→F (i:Int)=some (match (l.drop i).findIdx? p with|some k => .done (d (i+k))|none => .go x0):=by
  intro n
  induction n with
  | zero =>
   intro i h1 h2
   have:i=l.length:=by omega
   subst this
   simp [hE]
  | succ n ih =>
   intro i h1 h2
   have hi:i<l.length:=by omega
   rw [hF i hi,z2s hi,List.findIdx?_cons]
   cases hp:p l[i] with
   | true=>simp
   | false =>
    rw [w1 (by omega),ih (i+1) (by omega) (by omega)]
    simp only [yf,if_false]
    cases (l.drop (i+1)).findIdx? p with
    | none=>rfl
    | some k=>simp [Nat.add_assoc,Nat.add_comm 1 k]
 have:=key _ 0 rfl (Nat.zero_le _)
 simpa using this
theorem z6m {α:Type} {l:List α} {p:α→Bool}:(l.findIdx? p).isSome=l.any p:=by
 rw [List.findIdx?_isSome]
theorem z5q {α:Type} (l:List α) (p:α→Bool):(l.findIdx? p=none∧l.any p=false)∨∃ i,l.findIdx? p=some i∧l.any p=true:=by
 have:=z6m (l:=l) (p:=p)
 cases h:l.findIdx? p with
 | none=>rw [h] at this;exact .inl ⟨rfl,this.symm⟩
 | some i=>rw [h] at this;exact .inr ⟨i,rfl,this.symm⟩
theorem z5p {α:Type} (l:List α) (p:α→Bool):(l.findIdx? (fun x => !p x)=none∧l.all p=true)∨∃ i,l.findIdx? (fun x => !p x)=some i∧l.all p=false:=by
 have e:l.all p = !(l.any fun x => !p x):=by rw [yg]
 rcases z5q l (fun x => !p x) with ⟨h1,h2⟩|⟨i,h1,h2⟩
 ·exact .inl ⟨h1,by rw [e,h2];rfl⟩
 ·exact .inr ⟨i,h1,by rw [e,h2];rfl⟩
def isL (b:UInt8):Bool:=decide (65≤b.toNat)&&decide (b.toNat≤90)||decide (97≤b.toNat)&&decide (b.toNat≤122)
def wch (b:UInt8):Bool:=isL b||isD b||decide (b=45)||decide (b=95)||decide (b=46)
def zae:List UInt8:=[65,66,67,68,69,70,71,72,73,74,75,76,77,78,79,80,81,82,83,84,85,86,87,88,89,90,97,98,99,100,101,102,103,104,105,106,107,108,109,110,111,112,113,114,115,116,117,118,119,120,121,122]
def z84:List UInt8:=zae++[48,49,50,51,52,53,54,55,56,57,45,95,46]
theorem zgq:∀ b:UInt8,decide (0≤Lib.indexByte zae b)=isL b:=za1 (by decide +kernel)
theorem zci:∀ b:UInt8,z84.contains b=wch b:=za1 (by decide +kernel)
def zum (s:List UInt8):Bool:=decide (s=[97,110,100])||decide (s=[111,114])||decide (s=[110,111,116])
def isName (s:List UInt8):Bool:=match s with
 | []=>false
 | c::r=>decide ((c::r).length≤24)&&isL c&&(c::r).all wch && !zum (c::r)
theorem z89 {α:Type} (p:α→Bool) (l:List α):l.dropWhile p=[]↔l.all p=true:=by
 induction l with
 | nil=>simp
 | cons a l ih =>
  rw [List.dropWhile_cons]
  cases h:p a<;>simp [h,ih]
theorem zn8 {l cs:List UInt8}:decide (Lib.trimS l cs=[])=l.all cs.contains:=by
 rw [yd,decide_eq_true_iff]
 unfold Lib.trimS Lib.trimLeftS Lib.trimRightS
 rw [z89]
 constructor
 ·intro h
  rw [yh] at h ⊢
  intro x hx
  by_cases hc:cs.contains x=true
  ·exact hc
  ·exfalso
   have:l.reverse.dropWhile (cs.contains ·)=[]:=by
    cases hd:l.reverse.dropWhile (cs.contains ·) with
    | nil=>rfl
    | cons a r =>
     have h1:=List.head_dropWhile_not (p:=(cs.contains ·)) (l:=l.reverse) (by rw [hd];simp)
     have h2:cs.contains a=true:=h a (by rw [hd];simp)
     simp only [hd,List.head_cons] at h1
     rw [h2] at h1
     cases h1
   rw [z89] at this
   rw [yh] at this
   exact hc (this x (by simpa using hx))
 ·intro h
  have:l.reverse.dropWhile (cs.contains ·)=[]:=by
   rw [z89,yh]
   rw [yh] at h
   exact fun x hx=>h x (by simpa using hx)
  rw [this]
  rfl
theorem zes {l:List (List UInt8)} {s:List UInt8} (hl:l.length<1152921504606846976):M.z02 l s 0=some (match l.findIdx? (fun x=>decide (s=x)) with|some i => .done (i:Int)|none => .go ()):=by
 refine zfi (fun i:Nat=>(i:Int)) () hl (fun i h => ?_) ?_
 ·rw [M.z02]
  simp [z48,h]
 ·rw [M.z02]
  simp
theorem z8p {l:List (List UInt8)} {s:List UInt8} (hl:l.length<1152921504606846976):M.q50 l s=some (l.contains s):=by
 unfold M.q50 M.q5i
 rw [zes hl]
 have:l.contains s=(l.findIdx? (fun x=>decide (s=x))).isSome:=by
  rw [z6m,List.contains_eq_any_beq]
  congr 1
  funext x
  rw [yd]
  simp
 rw [this]
 cases l.findIdx? (fun x=>decide (s=x)) with
 | none=>simp
 | some i=>simp
theorem z2v (s:List UInt8):M.q29 s=some (isName s):=by
 unfold M.q29
 cases s with
 | nil=>simp [isName]
 | cons c r =>
  by_cases h24:((c::r).length:Int)≤24
  ·have e1:M.indexByte zae (c.toNat:Int)=some (Lib.indexByte zae c):=by simp [M.indexByte]
   have e2:M.trim (c::r) z84=some (Lib.trimS (c::r) z84):=by
    unfold M.trim
    rw [z2g]
    ·rfl
    ·have:z84.all (fun b=>decide (b.toNat<128))=true:=by decide
     have h2:(z84.length<4294967281):=by decide
     simp only [this,h2,decide_true,Bool.and_true,decide_eq_true_eq]
     omega
   have e3:M.q50 [[97,110,100],[111,114],[110,111,116]] (c::r)=some (zum (c::r)):=by
    rw [z8p (by decide)]
    congr 1
    rw [yd,List.contains_iff_mem]
    simp [zum,or_assoc]
   have h24':(c::r).length≤24:=by omega
   show (do
    let j_7←(do
     if ((!decide ((c::r)=([]:List UInt8)))&&(decide (((c::r).length:Int)≤24))) then
      let c_8←ix (c::r) 0
      let a_9←M.indexByte zae (c_8.toNat:Int)
      some (decide (0≤a_9))
     else some false:Option Bool)
    let j_14←(do
     if j_7 then
      let a_15←M.trim (c::r) z84
      some (decide (a_15=([]:List UInt8)))
     else some false:Option Bool)
    let j_20←(do
     if j_14 then
      let a_21←M.q50 [[97,110,100],[111,114],[110,111,116]] (c::r)
      some (!a_21)
     else some false:Option Bool)
    some j_20)=_
   have hc:((!decide ((c::r)=([]:List UInt8)))&&(decide (((c::r).length:Int)≤24)))=true:=by rw [decide_eq_true h24];simp
   simp only [hc,if_true,zkj,yi,ya,yb,e1,zgq]
   cases hL:isL c with
   | false=>simp [isName,hL]
   | true =>
    simp only [if_true,e2,yb,zn8]
    have hw:(c::r).all z84.contains=(c::r).all wch:=by
     congr 1
     funext b
     exact zci b
    rw [hw]
    cases hW:(c::r).all wch with
    | false=>simp [isName,hL,hW]
    | true =>
     simp only [if_true,e3,yb,isName,hL,hW,h24',decide_true,Bool.true_and]
  ·have h24':¬(c::r).length≤24:=by omega
   simp only [h24,decide_false,yc,yf,if_false,ya,yb,isName,h24',ye]
theorem letter_eq (c:UInt8):M.q46 (c.toNat:Int)=some (wch c):=by
 revert c
 exact za1 (by decide +kernel)
theorem zh1 {s:List UInt8} (hs:s.length<1152921504606846976):M.q3n s=some (isName s):=by
 unfold M.q3n
 cases s with
 | nil=>simp [isName]
 | cons c r =>
  have hk:M.z2b (c::r) 0=some (match (c::r).findIdx? (fun x => !wch x) with|some i => .done false|none => .go ()):=by
   refine zfi (fun _=>false) () hs (fun i h => ?_) ?_
   ·rw [M.z2b]
    simp only [show ((i:Int)<((c::r).length:Int)) by omega,decide_true,if_true,z48,List.getElem?_eq_getElem h,ya,yb,letter_eq]
   ·rw [M.z2b]
    simp
  rw [hk]
  have hall:(match (c::r).findIdx? (fun x => !wch x) with|some i=>(.done false:Jn Bool Unit)|none => .go ())=if (c::r).all wch=true then .go () else .done false:=by
   have:=z6m (l:=c::r) (p:=fun x => !wch x)
   cases h:(c::r).findIdx? (fun x => !wch x) with
   | none =>
    rw [h] at this
    simp only [Option.isSome_none] at this
    rw [if_pos]
    rw [yg,←this]
    rfl
   | some i =>
    rw [h] at this
    simp only [Option.isSome_some] at this
    rw [if_neg]
    rw [yg,←this]
    decide
  rw [hall]
  have hL:isL c=(decide (65≤(c.toNat:Int))&&decide ((c.toNat:Int)≤90)||decide (97≤(c.toNat:Int))&&decide ((c.toNat:Int)≤122)):=by
   unfold isL
   congr 1<;>congr 1<;>(rw [decide_eq_decide];omega)
  have hkw:(((decide ((c::r)=([97,110,100]:List UInt8)))||(decide ((c::r)=([111,114]:List UInt8))))||(decide ((c::r)=([110,111,116]:List UInt8))))=zum (c::r):=rfl
  have hlen:decide (24<((c::r).length:Int)) = !decide ((c::r).length≤24):=by
   rw [←decide_not,decide_eq_decide]
   omega
  simp only [isName,hL,zkj,yi,ya,yb,hlen,←hkw]
  by_cases h1:(c::r).length≤24<;>by_cases h2:(c::r)=([97,110,100]:List UInt8)<;>by_cases h3:(c::r)=([111,114]:List UInt8)<;>by_cases h4:(c::r)=([110,111,116]:List UInt8) <;>
   simp only [h1,h2,h3,h4,decide_true,decide_false,Bool.not_true,Bool.not_false,Bool.or_true,Bool.true_or,Bool.or_false,Bool.false_or,Bool.and_true,yc,Bool.true_and,ye,if_true,if_false,yb,reduceCtorEq,yf]
  by_cases g1:65≤(c.toNat:Int)<;>by_cases g2:(c.toNat:Int)≤90<;>by_cases g3:97≤(c.toNat:Int)<;>by_cases g4:(c.toNat:Int)≤122<;>by_cases g5:(c::r).all wch=true<;>simp [g1,g2,g3,g4,g5]<;>simp_all
def z2n (s:List UInt8):Bool:=decide (s.length≤128)&&Lib.validD s
theorem z8z (s:List UInt8):M.q2q s=some (z2n s):=by
 unfold M.q2q z2n
 by_cases h:s.length≤128
 ·have h':(s.length:Int)≤128:=by omega
  simp [h,h',z1z (s:=s) (by omega)]
 ·have h':¬(s.length:Int)≤128:=by omega
  simp [h,h']
theorem zh2 (s:List UInt8):M.q4k s=some (z2n s):=by
 unfold M.q4k z2n
 by_cases h:s.length≤128
 ·have h':(s.length:Int)≤128:=by omega
  simp [h,h',z1z (s:=s) (by omega)]
 ·have h':¬(s.length:Int)≤128:=by omega
  simp [h,h']
end Go.Sen
end
section
namespace Go.Sen
open _root_.Option renaming bind_eq_bind → ya, bind_some → yb
open _root_.List renaming append_assoc → yc, drop_eq_getElem_cons → yd, drop_eq_nil_of_le → ye, drop_zero → yf, getElem?_eq_getElem → yg, length_append → yh, length_cons → yi
open IntKind renaming wrap → yj
open _root_.UInt8 renaming ofNat → yk
open Go.Lk Go.Pe
theorem z11 {a:List Int} {b:Int} (h:a.length<1099511627776):M.q5m a b=some (a++[b]):=by
 unfold M.q5m M.z1d
 simp only [ya,yb]
 rw [z3l (by simp;omega)]
 rfl
theorem z1c {a:List Int} {b:List UInt8} (h:a.length+b.length<1099511627776):M.q5n a b=some ((b.length:Int),a++unb b):=by
 unfold M.q5n M.z1d
 simp only [ya,yb]
 rw [z3l (by simp [unb];omega)]
 rfl
theorem builderLen_eq (a:List Int):M.q5l a=some (a.length:Int):=rfl
theorem z4q (s:List UInt8):M.z08 (unb s)=some s:=by
 unfold M.z08
 rw [z2g (by simp [zg1])]
 simp [zg1]
def zsk (n:Nat):UInt8:=yk (if n<10 then 48+n else 87+n)
def qb (c:UInt8):List UInt8 :=
 if c=34∨c=92 then [92,c] else if c=8 then [92,98] else if c=9 then [92,116] else if c=10 then [92,110] else if c=12 then [92,102] else if c=13 then [92,114]
 else if c.toNat<32 then [92,117,48,48,zsk (c.toNat / 16),zsk (c.toNat % 16)] else [c]
def qbs (s:List UInt8):List UInt8:=s.flatMap qb
def qt (s:List UInt8):List UInt8:=34::qbs s++[34]
theorem zmn (c:UInt8):(qb c).length≤6:=by
 unfold qb
 repeat' split
 all_goals simp
theorem zdl:∀ s:List UInt8,(qbs s).length≤6*s.length
 | []=>by simp [qbs]
 | c::s=>by
  have h1:=zmn c
  have h2:=zdl s
  simp only [qbs,List.flatMap_cons,yh,yi] at *
  omega
theorem zao (s:List UInt8):(qt s).length≤6*s.length+2:=by
 have:=zdl s
 simp only [qt,yh,yi,List.length_nil]
 omega
theorem zir (c:UInt8) (s:List UInt8):qbs (c::s)=qb c++qbs s:=by simp [qbs]
def ztf (x:Int):Option (List UInt8):=do
 let a←M.indexByte ([34,92,8,9,10,12,13]:List UInt8) x
 if (decide (0≤a)) then
  let s_87←sub ([34,92,98,116,110,102,114]:List UInt8) a (yj .i64 (a+1))
  cat ([92]:List UInt8) s_87
 else
  if (decide (x<32)) then
   let s_91←sub ([48,49]:List UInt8) (zni .u8 x 4) (yj .u8 ((zni .u8 x 4)+1))
   let s_92←cat ([92,117,48,48]:List UInt8) s_91
   let s_93←sub ([48,49,50,51,52,53,54,55,56,57,97,98,99,100,101,102]:List UInt8) (zph .u8 x 15) (yj .u8 ((zph .u8 x 15)+1))
   cat s_92 s_93
  else some [yk x.toNat]
theorem zoh:∀ c:UInt8,ztf (c.toNat:Int)=some (qb c):=za1 (by decide +kernel)
theorem zmo {s:List UInt8} (hs:s.length<100000000000):∀ (n i:Nat) (acc:List Int),s.length - i=n→i≤s.length→acc.length+6*n<1099511627776→M.z0m s (i:Int) acc=some (acc++unb (qbs (s.drop i))):=by
 intro n
 induction n with
 | zero =>
  intro i acc hn hi ha
  rw [M.z0m.eq_1]
  have:¬((i:Int)<((unb s).length:Int)):=by rw [z5y];omega
  rw [if_neg (by simpa using this),ye (by omega)]
  simp [qbs,unb]
 | succ n ih =>
  intro i acc hn hi ha
  have hlt:i<s.length:=by omega
  have h1:((i:Int)<((unb s).length:Int)):=by rw [z5y];omega
  have hj:=zoh s[i]
  have hq:=zmn s[i]
  rw [M.z0m.eq_1]
  simp only [h1,decide_true,if_true,z48,zna,yg hlt,Option.map_some,ya,yb]
  rw [w1 (by omega)]
  have next:∀ a:List Int,a=acc++unb (qb s[i])→M.z0m s ((i+1:Nat):Int) a=some (acc++unb (qbs (s.drop i))):=by
   rintro a rfl
   rw [ih (i+1) _ (by omega) (by omega) (by simp [unb];omega),yd hlt,zir,z2r,yc]
  unfold ztf at hj
  simp only [ya] at hj
  cases hx:M.indexByte ([34,92,8,9,10,12,13]:List UInt8) ((s[i]).toNat:Int) with
  | none=>rw [hx] at hj;cases hj
  | some a =>
   rw [hx] at hj
   simp only [yb] at hj ⊢
   by_cases ca:0≤a
   ·rw [if_pos (by simpa using ca)] at hj ⊢
    cases hy:sub ([34,92,98,116,110,102,114]:List UInt8) a (yj .i64 (a+1)) with
    | none=>rw [hy] at hj;cases hj
    | some y =>
     rw [hy] at hj
     simp only [yb] at hj ⊢
     rw [hj]
     simp only [yb]
     rw [z1c (by omega)]
     exact next _ rfl
   ·rw [if_neg (by simpa using ca)] at hj ⊢
    by_cases cx:((s[i]).toNat:Int)<32
    ·rw [if_pos (by simpa using cx)] at hj ⊢
     cases hy:sub ([48,49]:List UInt8) (zni .u8 ((s[i]).toNat:Int) 4) (yj .u8 ((zni .u8 ((s[i]).toNat:Int) 4)+1)) with
     | none=>rw [hy] at hj;cases hj
     | some y =>
      rw [hy] at hj
      simp only [yb] at hj ⊢
      cases hz:cat ([92,117,48,48]:List UInt8) y with
      | none=>rw [hz] at hj;cases hj
      | some z =>
       rw [hz] at hj
       simp only [yb] at hj ⊢
       cases hu:sub ([48,49,50,51,52,53,54,55,56,57,97,98,99,100,101,102]:List UInt8) (zph .u8 ((s[i]).toNat:Int) 15) (yj .u8 ((zph .u8 ((s[i]).toNat:Int) 15)+1)) with
       | none=>rw [hu] at hj;cases hj
       | some u =>
        rw [hu] at hj
        simp only [yb] at hj ⊢
        rw [hj]
        simp only [yb]
        rw [z1c (by omega)]
        exact next _ rfl
    ·rw [if_neg (by simpa using cx)] at hj ⊢
     rw [z11 (by omega)]
     simp only [Option.some.injEq] at hj
     refine next _ ?_
     rw [←hj]
     simp [unb]
theorem z6b {s:List UInt8} {acc:List Int} (h:acc.length+6*s.length+2<100000000000):M.q0t acc s=some (acc++unb (qt s)):=by
 unfold M.q0t
 rw [z11 (by omega),z2g (by simp;omega)]
 simp only [ya,yb]
 have h1:=zmo (s:=s) (by omega) _ 0 (acc++[34]) rfl (Nat.zero_le _) (by simp;omega)
 have h1:M.z0m s 0 (acc++[34])=_:=h1
 rw [h1]
 simp only [yb,yf]
 have:=zdl s
 rw [z11 (by simp [unb];omega)]
 simp [qt,unb]
theorem zp0:∀ c:UInt8,∀ acc:List Int,acc.length<1000000000000→∀ k:List Int→Option (List Int),
  ((if ((decide ((c.toNat:Int)=34))||(decide ((c.toNat:Int)=92))) then (app 1 acc [92,(c.toNat:Int)]).bind k else
  if (decide ((c.toNat:Int)=8)) then (app 1 acc (unb ([92,98]:List UInt8))).bind k else
  if (decide ((c.toNat:Int)=9)) then (app 1 acc (unb ([92,116]:List UInt8))).bind k else
  if (decide ((c.toNat:Int)=10)) then (app 1 acc (unb ([92,110]:List UInt8))).bind k else
  if (decide ((c.toNat:Int)=12)) then (app 1 acc (unb ([92,102]:List UInt8))).bind k else
  if (decide ((c.toNat:Int)=13)) then (app 1 acc (unb ([92,114]:List UInt8))).bind k else
  if (decide ((c.toNat:Int)<32)) then (ix ([48,49,50,51,52,53,54,55,56,57,97,98,99,100,101,102]:List UInt8) (yj .u8 (Int.tdiv (c.toNat:Int) 16))).bind fun c_81 =>
   (ix ([48,49,50,51,52,53,54,55,56,57,97,98,99,100,101,102]:List UInt8) (Int.tmod (c.toNat:Int) 16)).bind fun c_82=>(app 1 acc [92,117,48,48,(c_81.toNat:Int),(c_82.toNat:Int)]).bind k else
  (app 1 acc [(c.toNat:Int)]).bind k:Option (List Int))=k (acc++unb (qb c))):=by
 intro c acc ha k
 have ap:∀ l:List Int,l.length≤6→app 1 acc l=some (acc++l):=fun l hl=>z3l (by omega)
 have t:∀ n:Nat,n<256→(((c.toNat:Int)=(n:Int))↔c=yk n):=fun n hn=>toNat_eq hn
 by_cases c34:c=34
 ·subst c34;rw [if_pos (by decide),ap _ (by simp)];rfl
 by_cases c92:c=92
 ·subst c92;rw [if_pos (by decide),ap _ (by simp)];rfl
 have n34:¬(c.toNat:Int)=34:=fun e=>c34 ((t 34 (by omega)).1 e)
 have n92:¬(c.toNat:Int)=92:=fun e=>c92 ((t 92 (by omega)).1 e)
 rw [if_neg (by simp [n34,n92])]
 by_cases c8:c=8
 ·subst c8;rw [if_pos (by decide),ap _ (by decide)];rfl
 rw [if_neg (by simpa using fun e=>c8 ((t 8 (by omega)).1 e))]
 by_cases c9:c=9
 ·subst c9;rw [if_pos (by decide),ap _ (by decide)];rfl
 rw [if_neg (by simpa using fun e=>c9 ((t 9 (by omega)).1 e))]
 by_cases c10:c=10
 ·subst c10;rw [if_pos (by decide),ap _ (by decide)];rfl
 rw [if_neg (by simpa using fun e=>c10 ((t 10 (by omega)).1 e))]
 by_cases c12:c=12
 ·subst c12;rw [if_pos (by decide),ap _ (by decide)];rfl
 rw [if_neg (by simpa using fun e=>c12 ((t 12 (by omega)).1 e))]
 by_cases c13:c=13
 ·subst c13;rw [if_pos (by decide),ap _ (by decide)];rfl
 rw [if_neg (by simpa using fun e=>c13 ((t 13 (by omega)).1 e))]
 have eq:qb c=if c.toNat<32 then [92,117,48,48,zsk (c.toNat / 16),zsk (c.toNat % 16)] else [c]:=by
  unfold qb
  simp [c34,c92,c8,c9,c10,c12,c13]
 rw [eq]
 by_cases cl:c.toNat<32
 ·have cl':(c.toNat:Int)<32:=by omega
  rw [if_pos (by simpa using cl'),if_pos cl]
  have tab:∀ n:Fin 32,ix ([48,49,50,51,52,53,54,55,56,57,97,98,99,100,101,102]:List UInt8) (yj .u8 (Int.tdiv (n.val:Int) 16))=some (zsk (n.val / 16))∧ix ([48,49,50,51,52,53,54,55,56,57,97,98,99,100,101,102]:List UInt8) (Int.tmod (n.val:Int) 16)=some (zsk (n.val % 16)):=by decide +kernel
  obtain ⟨h1,h2⟩:=tab ⟨c.toNat,cl⟩
  simp only at h1 h2
  rw [h1,h2]
  simp only [yb]
  rw [ap _ (by simp)]
  rfl
 ·have cl':¬(c.toNat:Int)<32:=by omega
  rw [if_neg (by simpa using cl'),if_neg cl,ap _ (by simp)]
  rfl
theorem zs0 {s:List UInt8} (hs:s.length<100000000000):∀ (n i:Nat) (acc:List Int),s.length - i=n→i≤s.length→acc.length+6*n<1000000000000→M.z0i s acc (i:Int)=some (acc++unb (qbs (s.drop i))):=by
 intro n
 induction n with
 | zero =>
  intro i acc hn hi ha
  rw [M.z0i.eq_1]
  have:¬((i:Int)<(s.length:Int)):=by omega
  rw [if_neg (by simpa using this),ye (by omega)]
  simp [qbs,unb]
 | succ n ih =>
  intro i acc hn hi ha
  have hlt:i<s.length:=by omega
  have h1:((i:Int)<(s.length:Int)):=by omega
  have hq:=zmn s[i]
  rw [M.z0i.eq_1]
  simp only [h1,decide_true,if_true,z48,yg hlt,ya,yb]
  rw [w1 (by omega)]
  rw [zp0 s[i] acc (by omega) (fun l=>M.z0i s l ((i+1:Nat):Int))]
  rw [ih (i+1) _ (by omega) (by omega) (by simp [unb];omega),yd hlt,zir,z2r,yc]
theorem zh0 {s:List UInt8} (h:s.length<100000000000):M.q30 s=some (unb (qt s)):=by
 unfold M.q30
 have h1:=zs0 (s:=s) (by omega) _ 0 [34] rfl (Nat.zero_le _) (by simp;omega)
 have h1:M.z0i s [34] 0=_:=h1
 rw [h1]
 have:=zdl s
 simp only [ya,yb,yf]
 rw [z3l (by simp [unb];omega)]
 simp [qt,unb]
end Go.Sen
end
section
namespace Go.Sen
open _root_.Option renaming bind_eq_bind → ya, bind_some → yb
open _root_.Bool renaming false_eq_true → yc
open _root_.List renaming drop_eq_getElem_cons → yd, drop_zero → ye, getElem?_cons_succ → yf, getElem?_cons_zero → yg, getElem?_eq_getElem → yh, length_append → yi, length_cons → yj, length_nil → yk
open Go.Lk Go.Pe
mutual
def prJ:q03→List UInt8
 | ⟨k,t,l,ks⟩=>if k=0 then [110,117,108,108] else if k=1 then [102,97,108,115,101] else if k=2 then [116,114,117,101] else if k=3 then t else if k=4 then qt t
  else (if k=6 then 123 else 91)::prL (decide (k=6)) l ks true++[if k=6 then 125 else 93]
def prL (o:Bool):List q03→List (List UInt8)→Bool→List UInt8
 | [],_,_=>[]
 | x::xs,ks,f=>(if f=true then [] else [44])++((if o=true then qt (ks.head?.getD [])++[58] else [])++(prJ x++prL o xs ks.tail false))
end
theorem zq2 (v:q03):prJ v=if v.zb=0 then [110,117,108,108] else if v.zb=1 then [102,97,108,115,101] else if v.zb=2 then [116,114,117,101] else if v.zb=3 then v.z0p else if v.zb=4 then qt v.z0p
  else (if v.zb=6 then 123 else 91)::prL (decide (v.zb=6)) v.zc v.z0l true++[if v.zb=6 then 125 else 93]:=by cases v;simp only [prJ]
theorem zim (o:Bool) (x:q03) (xs:List q03) (ks:List (List UInt8)) (f:Bool):prL o (x::xs) ks f=(if f=true then [] else [44])++((if o=true then qt (ks.head?.getD [])++[58] else [])++(prJ x++prL o xs ks.tail false)):=by simp only [prL]
theorem zlz (ks:List (List UInt8)):(qt (ks.head?.getD [])).length≤2+6*(kys ks - kys ks.tail)∧kys ks.tail≤kys ks:=by
 cases ks with
 | nil=>simp [qt,qbs]
 | cons k ks =>
  have:=zao k
  rw [z34]
  simp only [List.head?_cons,Option.getD_some,List.tail_cons]
  omega
mutual
theorem zgy:∀ v:q03,(prJ v).length≤7*v.sz
 | ⟨k,t,l,ks⟩=>by
  have h1:=zgz (decide (k=6)) l ks true
  have h2:=zao t
  simp only [prJ,q03.sz]
  repeat' split
  all_goals try simp only [yi,yj,yk]
  all_goals omega
theorem zgz:∀ (o:Bool) (l:List q03) (ks:List (List UInt8)) (f:Bool),(prL o l ks f).length≤7*szs l+7*kys ks
 | _,[],_,_=>by simp [prL]
 | o,x::xs,ks,f=>by
  have h1:=zgy x
  have h2:=zgz o xs ks.tail false
  obtain ⟨h3,h4⟩:=zlz ks
  simp only [prL,szs]
  repeat' split
  all_goals simp only [yi,yj,yk]
  all_goals omega
end
theorem tail_drop {α:Type} (l:List α) (i:Nat):(l.drop i).tail=l.drop (i+1):=by simp
theorem zr5 {v:q03} {self:List Int→q03→Option (List Int)} (hl:v.zc.length<1152921504606846976) (hk:v.zb=6→v.z0l.length=v.zc.length)
  (hs:∀ x∈v.zc,∀ a:List Int,a.length+7*x.sz<90000000000→self a x=some (a++unb (prJ x))):∀ (n i:Nat) (acc:List Int),v.zc.length - i=n→i≤v.zc.length →
  acc.length+7*szs (v.zc.drop i)+7*kys (v.z0l.drop i)<90000000000→M.z0z v self (i:Int) acc=some (acc++unb (prL (decide (v.zb=6)) (v.zc.drop i) (v.z0l.drop i) (decide (i=0)))):=by
 intro n
 induction n with
 | zero =>
  intro i acc hn hi ha
  rw [M.z0z.eq_1]
  have:¬((i:Int)<(v.zc.length:Int)):=by omega
  rw [if_neg (by simpa using this),(List.drop_eq_nil_of_le (by omega):v.zc.drop i=[])]
  simp [prL,unb]
 | succ n ih =>
  intro i acc hn hi ha
  have hlt:i<v.zc.length:=by omega
  have h1:((i:Int)<(v.zc.length:Int)):=by omega
  rw [M.z0z.eq_1]
  simp only [h1,decide_true,if_true,z48,yh hlt,ya,yb]
  rw [w1 (by omega)]
  have e0:v.zc.drop i=v.zc[i]::v.zc.drop (i+1):=yd hlt
  have hsz:szs (v.zc.drop i)=(v.zc[i]).sz+szs (v.zc.drop (i+1))+1:=by rw [e0];simp only [szs]
  have hkd:kys (v.z0l.drop (i+1))≤kys (v.z0l.drop i):=by rw [←tail_drop];exact (zlz _).2
  have ej:(if decide (0<(i:Int))=true then (M.q5m acc 44).bind fun a_119=>some a_119 else some acc)=some (acc++unb (if decide (i=0)=true then [] else [44])):=by
   by_cases hz:i=0
   ·simp [hz,unb]
   ·have:0<(i:Int):=by omega
    rw [z11 (by omega)]
    simp [hz,this,unb]
  rw [ej]
  simp only [yb]
  have hc:(if decide (i=0)=true then ([]:List UInt8) else [44]).length≤1:=by split<;>simp
  generalize hcm:(if decide (i=0)=true then ([]:List UInt8) else [44])=cm at ej hc
  have hx:=hs _ (List.getElem_mem hlt)
  have hpl:=zgy v.zc[i]
  by_cases h6:v.zb=6
  ·have hlk:i<v.z0l.length:=by rw [hk h6];exact hlt
   have e1:v.z0l.drop i=v.z0l[i]::v.z0l.drop (i+1):=yd hlk
   have hks:kys (v.z0l.drop i)=(v.z0l[i]).length+1+kys (v.z0l.drop (i+1)):=by rw [e1,z34]
   have hql:=zao v.z0l[i]
   simp only [h6,decide_true,if_true,yh hlk,yb]
   rw [z6b (by simp [unb];omega)]
   simp only [yb]
   rw [z11 (by simp [unb];omega)]
   simp only [yb]
   rw [hx _ (by simp [unb];omega)]
   simp only [yb]
   rw [ih (i+1) _ (by omega) (by omega) (by simp [unb];omega),e0,zim,hcm,e1]
   have e58:([58]:List Int)=unb [58]:=rfl
   rw [e58]
   simp [h6,z2r,yh hlk]
   rw [←z2r,←z2r]
   rfl
  ·rw [if_neg (by simpa using h6)]
   rw [hx _ (by simp [unb];omega)]
   simp only [yb]
   rw [ih (i+1) _ (by omega) (by omega) (by simp [unb];omega),e0,zim,hcm,tail_drop]
   simp [h6,z2r]
theorem zhq:∀ {l:List q03} {w:Nat},zb2 l w=0→∀ x∈l,z73 x w=0
 | y::l,w,h,x,hx=>by
  rw [z9p] at h
  by_cases hc:z73 y w=0
  ·rw [if_pos hc] at h
   rcases List.mem_cons.1 hx with rfl|hx
   ·exact hc
   ·exact zhq h x hx
  ·rw [if_neg hc] at h;exact absurd h hc
theorem zjf {v:q03} {w:Nat} (h:z73 v w=0):¬((v.zb=5∨v.zb=6)∧16≤w)∧frm v.zb v.z0p v.zc.length v.z0l=true∧zb2 v.zc (w+1)=0:=by
 rw [z4d] at h
 split at h
 ·cases h
 ·rename_i h1
  split at h
  ·cases h
  ·rename_i h2
   exact ⟨h1,by simpa using h2,h⟩
theorem zo8 {k:Int} {t:List UInt8} {n:Nat} {ks:List (List UInt8)} (h:frm k t n ks=true):(k=6→ks.length=n)∧(¬(k=5∨k=6)→n=0)∧(0≤k∧k<7):=by
 rw [zev (.inr trivial)] at h
 simp only [Bool.and_eq_true,Bool.or_eq_true,decide_eq_true_eq] at h
 obtain ⟨h1,h2,h3,_⟩:=h
 refine ⟨fun e => ?_,fun e => ?_,h1⟩
 ·rcases h3 with h3|h3
  ·omega
  ·simp [e] at h3
 ·rcases h2 with h2|h2
  ·exact absurd h2 e
  ·omega
theorem zew:∀ (f:Nat) (v:q03) (w:Nat),w≤16→17≤f+w→z73 v w=0→∀ a:List Int,a.length+7*v.sz<90000000000→M.q0q f a v=some (a++unb (prJ v)):=by
 intro f
 induction f with
 | zero=>intro v w h1 h2;omega
 | succ f ih =>
  intro v w hw hf hc a ha
  obtain ⟨c1,c2,c3⟩:=zjf hc
  obtain ⟨d1,d2,d3⟩:=zo8 c2
  have hsz:=q03.z1k v
  have hpl:=zgy v
  rw [M.q0q,zq2]
  rw [zq2] at hpl
  by_cases h0:v.zb=0
  ·have hq:M.q5n a ([110,117,108,108]:List UInt8)=_:=z1c (by simp;omega)
   simp [h0,hq]
  by_cases h1:v.zb=1
  ·have hq:M.q5n a ([102,97,108,115,101]:List UInt8)=_:=z1c (by simp;omega)
   simp [h1,hq]
  by_cases h2:v.zb=2
  ·have hq:M.q5n a ([116,114,117,101]:List UInt8)=_:=z1c (by simp;omega)
   simp [h2,hq]
  by_cases h3:v.zb=3
  ·have hq:=z1c (a:=a) (b:=v.z0p) (by omega)
   simp [h3,hq]
  by_cases h4:v.zb=4
  ·have hq:=z6b (s:=v.z0p) (acc:=a) (by omega)
   simp [h4,hq]
  have hl:v.zc=[]∨w<16:=by
   by_cases h56:v.zb=5∨v.zb=6
   ·exact .inr (by omega)
   ·exact .inl (List.eq_nil_of_length_eq_zero (d2 h56))
  have hlen:=zaz v.zc
  have hk1:=fun (acc:List Int) (hacc:acc.length≤a.length+1)=>zr5 (v:=v) (self:=M.q0q f) (by omega) d1 (fun x hx b hb=>by
   rcases hl with h|h
   ·rw [h] at hx;cases hx
   ·exact ih x (w+1) (by omega) (by omega) (zhq c3 x hx) b hb) _ 0 acc rfl (Nat.zero_le _) (by simp only [ye];omega)
  have hpl2:=zgz (decide (v.zb=6)) v.zc v.z0l true
  rw [if_neg (by simpa using h0),if_neg (by simpa using h1),if_neg (by simpa using h2),if_neg (by simpa using h3),if_neg (by simpa using h4),if_neg h0,if_neg h1,if_neg h2,if_neg h3,if_neg h4]
  by_cases h6:v.zb=6
  ·simp only [h6,decide_true,if_true,ya,yb,zkj,zun,yg,yf]
   rw [z11 (by omega)]
   simp only [yb]
   have hq:=hk1 (a++[123]) (by simp)
   have hq:M.z0z v (M.q0q f) 0 (a++[123])=_:=hq
   simp only [ye,decide_true,h6] at hq
   have e:(((123:UInt8).toNat:Nat):Int)=123:=rfl
   rw [e,hq]
   simp only [yb]
   simp only [h6,decide_true] at hpl2
   rw [z11 (by simp [unb];omega)]
   simp [unb]
  ·simp only [h6,decide_false,if_false,ya,yb,zkj,zun,yg,yf,yc]
   rw [z11 (by omega)]
   simp only [yb]
   have hq:=hk1 (a++[91]) (by simp)
   have hq:M.z0z v (M.q0q f) 0 (a++[91])=_:=hq
   simp only [ye,decide_true,decide_false,h6] at hq
   have e:(((91:UInt8).toNat:Nat):Int)=91:=rfl
   rw [e,hq]
   simp only [yb]
   simp only [h6,decide_false] at hpl2
   rw [z11 (by simp [unb];omega)]
   simp [unb]
def print (v:q03):List UInt8 × Int:=if z73 v 0=0 then (if 16384<(prJ v).length then ([],22) else (prJ v,0)) else ([],z73 v 0)
theorem zd4 {v:q03} {f:Nat} (hf:17≤f) (h:Small v):M.q0l f v=some (print v):=by
 unfold M.q0l print
 rw [zd3 hf h]
 simp only [ya,yb]
 by_cases hc:z73 v 0=0
 ·unfold Small at h
  have hl:=zew f v 0 (by omega) (by omega) hc [] (by simp;omega)
  rw [List.nil_append] at hl
  simp only [hc,decide_true,Bool.not_true,yc,if_false,if_true,hl,yb,builderLen_eq,z5y]
  by_cases h2:16384<(prJ v).length
  ·have:(16384:Int)<((prJ v).length:Int):=by omega
   simp [h2,this]
  ·have:¬(16384:Int)<((prJ v).length:Int):=by omega
   simp [h2,this,z4q]
 ·simp [hc]
end Go.Sen
end
