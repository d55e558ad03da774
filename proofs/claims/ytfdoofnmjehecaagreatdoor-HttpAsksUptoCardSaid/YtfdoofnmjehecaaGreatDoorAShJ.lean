import Derived.Test.YtfdoofnmjehecaaGreatDoorAHnB
import Derived.Lib.TrimUEq
set_option linter.all false
namespace Go.Sen
open _root_.Option renaming bind_eq_bind → ya, bind_some → yb, getD_some → yc, map_eq_some_iff → yd, map_some → ye
open _root_.Bool renaming and_eq_false_iff → yf, and_eq_true → yg, and_false → yh, and_self → yi, and_true → yj, eq_false_iff → yk, eq_iff_iff → yl, false_and → ym, false_eq_true → yn, false_or → yo, not_false → yp, not_true → yq, or_eq_true → yr, or_self → ys, true_and → yt
open _root_.List renaming all_cons → yu, all_eq_true → yv, append_assoc → yw, append_nil → yx, cons_append → yy, dropWhile_cons → yz, drop_append_of_le_length → yaa, drop_drop → yab, drop_eq_getElem_cons → yac, drop_eq_nil_iff → yad, drop_eq_nil_of_le → yae, drop_left → yaf, drop_take → yag, drop_zero → yah, eq_nil_of_length_eq_zero → yai, foldl_cons → yaj, getElem?_append_left → yak, getElem?_append_right → yal, getElem?_cons_succ → yam, getElem?_eq_getElem → yan, getElem?_eq_none → yao, getElem?_map → yap, getElem_mem → yaq, getLast?_eq_getElem? → yar, head?_cons → yas, head?_eq_getElem? → yat, isPrefixOf_iff_prefix → yau, length_append → yav, length_cons → yaw, length_drop → yax, length_map → yay, length_nil → yaz, length_pos_iff → ya0, length_take → ya1, mem_range → ya2, mem_singleton → ya3, nil_append → ya4, nodup_nil → ya5, not_mem_nil → ya6, reverse_append → ya7, reverse_reverse → ya8, singleton_append → ya9, tail_cons → yba, take_append_drop → ybb, take_left → ybc, take_length → ybd, take_succ_cons → ybe, take_zero → ybf
open _root_.Nat renaming add_comm → ybg, beq → ybh, le_refl → ybi, lt_of_lt_of_le → ybj, mod_eq_of_lt → ybk, mul_le_mul_right → ybl, or_lt_two_pow → ybm, pow_le_pow_right → ybn, pow_succ → ybo, two_pow_pos → ybp, zero_le → ybq
open _root_.Int renaming natCast_pow → ybr
open IntKind renaming bits → ybs, u64 → ybt, wrap → ybu
open _root_.UInt8 renaming ofNat → ybv, toNat_inj → ybw
open Go.Lk Go.Pe
def badW (b:UInt8):Bool:=decide (b.toNat<33)||decide (126<b.toNat)||decide (b=34)||decide (b=92)
def textS (s:Z):Bool:=decide (s.length≤128)&&Lib.validD s
def wordS (s:Z):Bool := !decide (s=[])&&decide (s.length≤32) && !s.any badW
def tickS (n:Int):Bool:=decide (0≤n)&&decide (n≤1099511627776)
def scp:Option Z→List Z→Bool
 | _,[]=>true
 | p,a::r=>wordS a&&(match p with
  | none=>true
  | some q=>slt q a)&&scp (some a) r
def okC (c:q01):Bool:=[c.ztl,c.ztn,c.ztk,c.z03,c.ztm,c.z0q].all textS&&c.znz.all textS&&tickS c.zzc&&tickS c.zzb&&decide (0≤c.z3v)&&decide (c.z3v≤9)&&decide (c.z0a.length≤16)&&decide (c.znz.length≤4) && !decide (([]:Z)∈c.znz)&&scp none c.z0a
def sesB:Z:=[65,66,67,68,69,70,71,72,73,74,75,76,77,78,79,80,81,82,83,84,85,86,87,88,89,90,97,98,99,100,101,102,103,104,105,106,107,108,109,110,111,112,113,114,115,116,117,118,119,120,121,122,48,49,50,51,52,53,54,55,56,57,45,95]
def sesC (b:UInt8):Bool:=isAl b||decide (b=45)||decide (b=95)
theorem zz05g:∀ b:UInt8,sesB.contains b=sesC b:=z5t (by decide +kernel)
def zb5 (s:Z):Bool:=s.all sesC
theorem M_ses {s:Z} (h:s.length<1000000000):∃ t,M.trim s sesB=some t∧decide (t=[])=zb5 s:=by
 refine ⟨_,zho (by omega) (by decide),?_⟩
 grind [zgy,zb5,zz05g]
def zj9:List J→List Z→Option (List q02)
 | [],_=>some []
 | x::xs,ks=>if (z7s x).2=true then (zj9 xs ks.tail).map (⟨ks.head?.getD [],(z7s x).1⟩ :: ·) else none
def z98 (v:J):List q02 × Bool:=if v.zh=6 then (match zj9 v.zk v.z08 with
 | some l=>(l,true)
 | none=>([],false)) else ([],false)
def SzJ (v:J):Prop:=v.sz≤131072
theorem SzJ.parts {v:J} (h:SzJ v):v.z0i.length≤131072∧v.zk.length≤131072∧v.z08.length≤131072:=by
 grind [SzJ,q04.zhm,zk8,zg1]
theorem SzJ.z88 {v:J} (h:SzJ v) (k:Z):SzJ (z88 v k).1:=Nat.le_trans (zz04l v k) h
theorem SzJ.mem {v x:J} (h:SzJ v) (hx:x∈v.zk):SzJ x:=by
 have:=zk9 hx
 grind [SzJ,q04.zhm]
theorem zra (w:Nat):zc2 nulJ w=0:=by
 rfl
def Chk (v:J):Prop := ∃ w,zc2 v w=0
theorem Chk.mem {v x:J} (h:Chk v) (hx:x∈v.zk):Chk x:=by
 obtain ⟨w,h⟩:=h
 exact ⟨w+1,zix (zd9 h).2.2 x hx⟩
theorem zsr (v:J) (k:Z):(z88 v k).1=nulJ∨(z88 v k).1∈v.zk:=by
 unfold z88
 grind
theorem Chk.z88 {v:J} (h:Chk v) (k:Z):Chk (z88 v k).1:=by
 rcases zsr v k with e|e
 ·rw [e];exact ⟨0,zra 0⟩
 ·exact h.mem e
theorem Chk.keys {v:J} (h:Chk v):v.zh=6→v.z08.length=v.zk.length:=by
 obtain ⟨w,h⟩:=h
 exact (zqp (zd9 h).2.1).1
theorem zz03n {v:J} (h:SzJ v) (h6:v.zh=6) (hk:v.z08.length=v.zk.length):∀ (n i:Nat) (a:List q02),v.zk.length - i=n→i≤v.zk.length→a.length≤i →
  M.z3k v a (i:Int)=some (match zj9 (v.zk.drop i) (v.z08.drop i) with|some l => .go (a++l)|none => .done ([],false)):=by
 have hp:=h.parts
 intro n
 induction n with
 | zero =>
  grind [M.z3k,yae,zj9]
 | succ n ih =>
  intro i a hn hi ha
  have hlt:i<v.zk.length:=by omega
  have hlt2:i<v.z08.length:=by omega
  have h1:((i:Int)<(v.zk.length:Int)):=by omega
  have hx:SzJ v.zk[i]:=h.mem (yaq hlt)
  rw [M.z3k,yac hlt,yac hlt2]
  simp only [h1,decide_true,if_true,z4k,yan hlt,yan hlt2,ya,yb,h6]
  rw [zcn (by have:=hx.parts;omega)]
  simp only [yb]
  unfold zj9
  cases ht:(z7s v.zk[i]).2 with
  | false=>simp
  | true =>
   simp only [yq,ys,yn,if_false,if_true,yba,yas,yc]
   rw [z36 (by simp;omega),w1 (by omega)]
   simp only [yb]
   rw [ih (i+1) _ (by omega) (by omega) (by simp;omega)]
   grind
theorem zzz {v:J} (h:SzJ v) (hk:v.zh=6→v.z08.length=v.zk.length):M.q1p v=some (z98 v):=by
 unfold M.q1p z98
 by_cases h6:v.zh=6
 ·have hs:=zz03n h h6 (hk h6) _ 0 [] rfl (ybq _) (by simp)
  grind
 ·rw [if_neg h6,M.z3k]
  cases hl:v.zk with
  | nil=>simp [h6]
  | cons x l =>
   have hx:SzJ x:=h.mem (by rw [hl];simp)
   have h1:((0:Int)<((x::l).length:Int)):=by simp
   have i0:ix (x::l) 0=some x:=by simp [zsm]
   simp only [h1,decide_true,if_true,i0,ya,yb]
   rw [zcn (by have:=hx.parts;omega)]
   simp [h6]
theorem zn4:∀ {l:List J} {r:List Z},texts l=some r→kys r≤szs l
 | [],r,h=>by
  grind [texts,kys]
 | x::l,r,h=>by
  unfold texts at h
  split at h
  ·obtain ⟨r',h1,rfl⟩:=yd.1 h
   have:=zn4 h1
   grind [z6l,szs,q04.zhm]
  ·cases h
theorem zpk (v:J):kys (z7s v).1≤v.sz:=by
 rw [q04.zhm]
 unfold z7s
 split
 ·split
  ·rename_i l h
   have:=zn4 h
   grind
  ·simp [kys]
 ·simp [kys]
theorem zv4:∀ {l:List J} {ks:List Z} {r:List q02},zj9 l ks=some r→zli r≤szs l+kys ks
 | [],ks,r,h=>by
  grind [zj9,zli]
 | x::l,ks,r,h=>by
  unfold zj9 at h
  split at h
  ·obtain ⟨r',h1,rfl⟩:=yd.1 h
   have h2:=zv4 h1
   have h3:=zpk x
   rw [zlj,szs]
   unfold q02.sz
   simp only
   cases ks with
   | nil =>
    grind
   | cons k ks =>
    grind [z6l]
  ·cases h
theorem zw6 (v:J):zli (z98 v).1≤v.sz:=by
 rw [q04.zhm]
 unfold z98
 split
 ·split
  ·rename_i l h
   have:=zv4 h
   grind
  ·simp [zli]
 ·simp [zli]
inductive Pt where
 | fx (n v:Z)
 | st (n:Z) (t:Nat × Nat × Z) (w:Bool)
 | cn (n:Z) (c:Bool)
structure Rw where
 kd:Int
 me:Z
 sg:List Z
 mr:Nat
 wh:Nat
 ps:List Pt
def zz1:Nat × Nat × Z:=(2,F.q2w,[85,115,101,114])
def zuz:Nat × Nat × Z:=(3,F.q23,[80,97,115,115])
def zyy:Nat × Nat × Z:=(5,F.q1d,[67,111,100,101])
def zfi:Nat × Nat × Z:=(6,F.q2t,[84,111,107,101,110])
def zux:Nat × Nat × Z:=(7,F.q0y,[65,99,116,111,114])
def z8q:Nat × Nat × Z:=(8,F.q1c,[67,108,105,101,110,116])
def z9m:Nat × Nat × Z:=(9,F.q2p,[83,101,99,114,101,116])
def zcd:Nat × Nat × Z:=(10,F.q2b,[82,101,100,105,114,101,99,116])
def zi3:Nat × Nat × Z:=(11,F.q2o,[83,99,111,112,101])
def zcc:Nat × Nat × Z:=(12,F.q0z,[65,117,100,105,101,110,99,101])
def zda:Nat × Nat × Z:=(13,F.q1a,B96)
def zfj:Nat × Nat × Z:=(14,F.q2y,B100)
def zuy:Nat × Nat × Z:=(15,F.q1v,[78,111,110,99,101])
def zz0:Nat × Nat × Z:=(16,F.q1u,[78,97,109,101])
def zyz:Nat × Nat × Z:=(17,F.q1f,[68,97,116,97])
def fBody:Nat × Nat × Z:=(18,F.q12,[66,111,100,121])
def fSig:Nat × Nat × Z:=(19,F.q2q,[83,105,103])
def znv:Nat × Nat × Z:=(21,F.q1j,[70,105,108,116,101,114])
def z9n:List (Nat × Nat × Z):=[zz1,zuz,zyy,zfi,zux,z8q,z9m,zcd,zi3,zcc,zda,zfj,zuy,zz0,zyz,fBody,fSig,znv]
def tab:List Rw:=[⟨1,B5,[B72],0,1,[.st B97 zz1 false,.st B79 zuz false]⟩,
 ⟨2,B5,[B72,B56],1,1,[.st B56 zyy false]⟩,
 ⟨3,B5,[B72,[107,101,121]],1,1,[.st [107,101,121] zz0 false,.st B101 zyz true,.st [99,108,105,101,110,116] fBody true,.st [115,105,103] fSig true]⟩,
 ⟨4,B5,[[101,110,114,111,108],B56],1,1,[]⟩,
 ⟨5,B5,[[101,110,114,111,108],[107,101,121]],1,1,[.st B101 zyz true]⟩,
 ⟨6,B5,[[99,104,97,108,108,101,110,103,101]],1,1,[]⟩,
 ⟨7,B5,[[108,111,103,111,117,116]],1,1,[]⟩,
 ⟨8,B5,[[102,111,114,103,111,116]],0,1,[.st B97 zz1 false]⟩,
 ⟨9,B5,[[114,101,115,101,116]],0,1,[.st B35 zfi false,.st B79 zuz false]⟩,
 ⟨10,[71,69,84],[[97,117,116,104,111,114,105,122,101]],1,2,[.fx B73 B56,.st B12 z8q false,.st B37 zcd false,.st B20 zi3 false,.fx B44 [83,50,53,54],.st B71 zda false,.st B38 zuy false]⟩,
 ⟨11,B5,[B35],0,1,[.fx B36 B53,.st B12 z8q false,.st B19 z9m false,.st B56 zyy false,.st B37 zcd false,.st B74 zfj false]⟩,
 ⟨12,B5,[B35],0,1,[.fx B36 B54,.st B12 z8q false,.st B19 z9m false,.st B20 zi3 false,.st B61 zcc false]⟩,
 ⟨13,B5,[B35],0,1,[.fx B36 B11,.st B12 z8q false,.st B19 z9m false,.st B11 zfi false,.st B20 zi3 false]⟩,
 ⟨14,B5,[B35],0,1,[.fx B36 B18,.st B12 z8q false,.st B19 z9m false,.st B76 zfi false,.st B84 zux false,.st B20 zi3 false,.st B61 zcc false]⟩,
 ⟨15,B5,[[114,101,118,111,107,101]],0,1,[.st B12 z8q false,.st B19 z9m false,.st B35 zfi false]⟩,
 ⟨16,B5,[[105,110,116,114,111,115,112,101,99,116]],0,1,[.st B12 z8q false,.st B19 z9m false,.st B35 zfi false]⟩,
 ⟨17,[71,69,84],[[117,115,101,114,105,110,102,111]],2,0,[]⟩,
 ⟨18,[71,69,84],[[107,101,121,115]],0,0,[]⟩,
 ⟨19,[71,69,84],[B90,[79,70]],2,2,[.st [102,105,108,116,101,114] znv false,.cn B91 false,.cn B77 true]⟩,
 ⟨20,[71,69,84],[B90,[79,70],B67],2,0,[]⟩,
 ⟨21,B5,[B90,[79,70]],2,3,[]⟩,
 ⟨22,B99,[B90,[79,70],B67],6,4,[]⟩,
 ⟨23,B92,[B90,[79,70],B67],6,0,[]⟩,
 ⟨24,B5,[[97,100,109,105,110],[112,97,115,115,119,111,114,100]],2,1,[.st [110,97,109,101] zz0 false,.st B79 zuz false]⟩,
 ⟨25,B5,[[97,100,109,105,110],[116,117,114,110]],2,1,[]⟩]

def segN:Z:=[78,65,77,69]
def segO:Z:=[79,70]
def Pt.nm:Pt→Z
 | .fx n _=>n
 | .st n _ _=>n
 | .cn n _=>n
def Pt.toH:Pt→q0b
 | .fx n v=>⟨n,NF,v,false⟩
 | .st n t w=>⟨n,t.2.1,[],w⟩
 | .cn n _=>⟨n,NF,segN.take 1,false⟩
def Pt.toR:Pt→q0f
 | .fx n v=>⟨n,[],v,false⟩
 | .st n t w=>⟨n,t.2.2,[],w⟩
 | .cn n c=>⟨n,if c=true then B62 else B80,[],false⟩
def zpc (l:List Z):Z:=l.flatMap fun s=>47::s
def whS:Nat→Z
 | 1=>B10
 | 2=>B32
 | 3=>B75
 | 4=>B69
 | _=>[]
def Rw.toH (r:Rw):q0a:=⟨r.kd,r.me,zpc r.sg,(r.mr:Int),(r.wh:Int),r.ps.map Pt.toH⟩
def Rw.toR (r:Rw):q0e:=⟨r.kd,r.me,zpc r.sg,whS r.wh,r.mr.testBit 0,r.mr.testBit 1,r.mr.testBit 2,r.ps.map Pt.toR⟩
theorem zlp:M.q2j=some (tab.map Rw.toH):=by kernel_rfl
def zby:List Z→List Z→Z→Z→Option (Z × Z)
 | [],[],o,n=>some (o,n)
 | w::ws,s::ss,o,n=>if w=segO then (if s=[] then none else zby ws ss s n) else if w=segN then zby ws ss o s else if w=s then zby ws ss o n else none
 | _,_,_,_=>none
def A0 (k:Int) (o n:Z):q00:=⟨k,o,[],[],[],[],[],[],[],[],[],[],[],[],[],[],n,[],[],[],[],[],[],[],0,0⟩
def zA:q00:=A0 0 [] []
def z4n:Z:=[99,111,111,107,105,101]
def kSes:Z:=[115,101,115,115,105,111,110]
def z7p:Z:=[97,117,116,104,111,114,105,122,97,116,105,111,110]
def zde:Z:=[66,101,97,114,101,114,32]
def kIf:Z:=[105,102,45,109,97,116,99,104]
def zee:List Z→Z
 | []=>[]
 | x::l=>if (z1h 61 (bare x)).2.2=true∧(z1h 61 (bare x)).1=kSes then (z1h 61 (bare x)).2.1 else zee l
def zed (l:List q05):Z:=zee (z0l 59 (z4h l z4n []))
def sesP (m:Nat) (l:List q05):Option Z:=if m.testBit 0=true then (if zb5 (zed l)=true then some (zed l) else none) else some []
def tokP (m:Nat) (l:List q05):Option Z:=if m.testBit 1=true∧zav l z7p=true then (if zde.isPrefixOf (z4h l z7p [])=true∧z6x 33 126 ((z4h l z7p []).drop 7)=true then some ((z4h l z7p []).drop 7) else none) else some []
def zn1 (s:Z):Bool:=z6x 33 126 s && !s.contains 34
def unq (s:Z):Z:=(s.take (s.length - 1)).drop 1
def quoted (s:Z):Bool:=decide (2≤s.length)&&decide (s.head? = some 34)&&decide (s.getLast? = some 34)
def zy9 (m:Nat) (l:List q05):Option Z:=if m.testBit 2=true∧zav l kIf=true then (if quoted (z4h l kIf [])=true∧zn1 (unq (z4h l kIf []))=true then some (unq (z4h l kIf [])) else none) else some []
def zll (m:Nat) (l:List q05) (k:Int) (o n:Z):Option q00:=match sesP m l,tokP m l,zy9 m l with
 | some s,some t,some g=>some ⟨k,o,[],[],s,[],t,[],[],[],[],[],[],[],[],[],n,[],[],[],g,[],[],[],0,0⟩
 | _,_,_=>none
def z69 (ps:List Pt) (k:Z):Bool:=ps.any fun p=>decide (p.nm=k)
def zgd (ps:List Pt) (l:List q05):Bool:=l.all fun p=>decide (zbl l p.zo=1)&&z69 ps p.zo
def zng (a:q00) (c:Nat) (v:Z):q00:=(a.setAt c v).getD a
def zxi (a:q00) (c:Bool) (n:Int):q00:=if c=true then { a with z1d:=n } else { a with z2y:=n }
def zqr (a:q00) (c:Bool):Int:=if c=true then a.z1d else a.z2y
def putP (l:List q05) (a:q00):Pt→Option q00
 | .fx n v=>if zav l n=true∧z4h l n []=v then some a else none
 | .st n t w=>if w=true then (zyl (z4h l n [])).map (zng a t.1) else some (zng a t.1 (z4h l n []))
 | .cn n c=>if z4h l n []=[] then some a else if isNum 9 (z4h l n [])=true then some (zxi a c ((zbe 0 (z4h l n []):Nat):Int)) else none
theorem zz053 (l:List q05) (a:q00) (n v:Z):putP l a (.fx n v)=if zav l n=true∧z4h l n []=v then some a else none:=rfl
theorem zz054 (l:List q05) (a:q00) (n:Z) (t:Nat × Nat × Z) (w:Bool):putP l a (.st n t w)=if w=true then (zyl (z4h l n [])).map (zng a t.1) else some (zng a t.1 (z4h l n [])):=rfl
theorem zz052 (l:List q05) (a:q00) (n:Z) (c:Bool):putP l a (.cn n c)=if z4h l n []=[] then some a else if isNum 9 (z4h l n [])=true then some (zxi a c ((zbe 0 (z4h l n []):Nat):Int)) else none:=rfl
def zrn (l:List q05):List Pt→q00→Option q00
 | [],a=>some a
 | p::ps,a=>(putP l a p).bind (zrn l ps)
def zlf (ps:List Pt) (l:List q05) (a:q00):Option q00:=if zgd ps l=true then zrn l ps a else none
def zsn (s:Z) (a:q00):Option q00 :=
 if (parse s).2=0∧(parse s).1.zk.length=2∧(z88 (parse s).1 kId).2=true∧(z88 (parse s).1 z4a).2=true∧(z88 (parse s).1 kId).1.zh=4∧(z98 (z88 (parse s).1 z4a).1).2=true then
  some { a with zo:=(z88 (parse s).1 kId).1.z0i,zt:=(z98 (z88 (parse s).1 z4a).1).1 } else none
def zu6 (r:Rw) (q:q03) (a:q00):Option q00:=match r.wh with
 | 0=>if q.z01=[] then some a else none
 | 1=>if (z25 q.z01).2=0 then zlf r.ps (z25 q.z01).1 a else none
 | 2=>if q.z01=[] then zlf r.ps q.z0r a else none
 | 3=>zsn q.z01 a
 | _=>some { a with z1j:=q.z01 }
def zy6 (r:Rw) (q:q03) (o n:Z):Option q00:=match zll r.mr q.z0h r.kd o n with
 | none=>none
 | some a=>if r.wh=2∨q.z0r=[] then zu6 r q a else none
def zti (q:q03):List Rw→Int→q00 × Int
 | [],e=>(zA,e)
 | r::rs,e=>match zby r.sg q.z09 [] [] with
  | none=>zti q rs e
  | some on=>if r.me=q.z02 then (match zy6 r q on.1 on.2 with
    | some a=>(a,0)
    | none=>zti q rs 227) else zti q rs (if e=225 then 226 else e)
def askH (q:q03):q00 × Int:=zti q tab 225
def Pt.okB:Pt→Bool
 | .fx _ v => !decide (v=[78])
 | .st _ t _=>z9n.contains t
 | .cn n c=>decide ((n=B77)=(c=true))
def cns:List Pt→List Bool
 | []=>[]
 | .cn _ c::l=>c::cns l
 | _::l=>cns l
def Rw.okB (r:Rw):Bool:=decide (z0l 47 ((zpc r.sg).drop 1)=r.sg)&&decide (1≤(zpc r.sg).length)&&decide ((zpc r.sg).length<1000)&&decide (r.sg.length<100)&&decide (r.mr<8)&&decide (r.wh<5)&&decide (r.ps.length<100)&&r.ps.all Pt.okB&&decide (cns r.ps).Nodup&&(zpc r.sg).all fun b=>decide (b.toNat<128)
theorem zz090:tab.all Rw.okB=true:=by decide +kernel
structure zh3 (r:Rw):Prop where
 cut:z0l 47 ((zpc r.sg).drop 1)=r.sg
 one:1≤(zpc r.sg).length
 len:(zpc r.sg).length<1000
 sgl:r.sg.length<100
 mkl:r.mr<8
 whl:r.wh<5
 psl:r.ps.length<100
 ps:∀ p∈r.ps,p.okB=true
 cns:(cns r.ps).Nodup
theorem Rw.ok_of {r:Rw} (h:r.okB=true):zh3 r:=by
 unfold Rw.okB at h
 simp only [yg,decide_eq_true_eq,yv] at h
 obtain ⟨⟨⟨⟨⟨⟨⟨⟨⟨h1,h2⟩,h3⟩,h4⟩,h5⟩,h6⟩,h7⟩,h8⟩,h9⟩,_⟩:=h
 exact ⟨h1,h2,h3,h4,h5,h6,h7,h8,h9⟩
theorem zpj {r:Rw} (h:r∈tab):zh3 r:=Rw.ok_of (yv.1 zz090 r h)
theorem zc0 (x:Nat):BitVec.ofInt 64 (x:Int)=BitVec.ofNat 64 x:=by
 apply BitVec.eq_of_toNat_eq
 rw [BitVec.toNat_ofInt,BitVec.toNat_ofNat]
 omega
theorem zz05j {x k:Nat} (h:k≤60):zdm .i64 (x:Int) (k:Int)=((x / 2 ^ k:Nat):Int):=by
 unfold zdm
 have h1:min ((k:Int)).toNat (ybs .i64)=k:=by
  have:ybs .i64=64:=rfl
  rw [this]
  omega
 rw [h1,Int.natCast_ediv,ybr]
 exact Int.fdiv_eq_ediv_of_nonneg _ (by exact_mod_cast ybq (2 ^ k))
theorem zxm {x k:Nat} (h:k≤60) (hx:x*2 ^ k<4611686018427387904):z6p .i64 (x:Int) (k:Int)=((x*2 ^ k:Nat):Int):=by
 unfold z6p
 have h1:min ((k:Int)).toNat (ybs .i64)=k:=by
  have:ybs .i64=64:=rfl
  rw [this]
  omega
 rw [h1]
 have:((x:Int)*2 ^ k)=((x*2 ^ k:Nat):Int):=by rw [Int.natCast_mul,ybr];rfl
 rw [this,w64 (by omega) (by omega)]
theorem zz086 {a b i:Nat} (hi:i≤60) (hb:b<2 ^ i) (h:a*2 ^ i+b<4611686018427387904):orI .i64 (z6p .i64 (a:Int) (i:Int)) (b:Int)=((a*2 ^ i+b:Nat):Int):=by
 rw [zxm hi (by omega)]
 unfold orI
 have hb':ybs .i64=64:=rfl
 rw [hb',zc0,zc0,BitVec.toNat_or,BitVec.toNat_ofNat,BitVec.toNat_ofNat,ybk (by omega),ybk (by omega),Nat.mul_comm a,←Nat.two_pow_add_eq_or_of_lt hb,Nat.mul_comm _ a,w64 (by omega) (by omega)]
theorem zz02x {x k:Nat} (hk:k≤60) (hx:x<4611686018427387904):z7a .i64 (x:Int) ((2 ^ k - 1:Nat):Int)=((x % 2 ^ k:Nat):Int):=by
 unfold z7a
 have hb':ybs .i64=64:=rfl
 have hp:2 ^ k≤2 ^ 60:=ybn (by decide) hk
 have hm:x % 2 ^ k≤x:=Nat.mod_le ..
 rw [hb',zc0,zc0,BitVec.toNat_and,BitVec.toNat_ofNat,BitVec.toNat_ofNat,ybk (by omega),ybk (by omega),Nat.and_two_pow_sub_one_eq_mod,w64 (by omega) (by omega)]
theorem zz001 {k:Nat} (hk:k≤60):ybu .i64 (z6p .i64 1 (k:Int) - 1)=((2 ^ k - 1:Nat):Int):=by
 have hp:2 ^ k≤2 ^ 60:=ybn (by decide) hk
 have h1:1≤2 ^ k:=Nat.one_le_two_pow
 have:=zxm (x:=1) hk (by omega)
 rw [Nat.one_mul] at this
 have this:z6p .i64 1 (k:Int)=((2 ^ k:Nat):Int):=this
 rw [this,w64 (by omega) (by omega)]
 omega
theorem znc {n:Nat} (h:n<256):ybu .u8 (n:Int)=((ybv n).toNat:Int):=by
 rw [zih h]
 exact of_decide_eq_true ((by decide +kernel:∀ i:Fin 256,decide (ybu .u8 ((i.val:Nat):Int)=((i.val:Nat):Int))=true) ⟨n,h⟩)
theorem zz036 (l:List Bool) (k:Nat) (h:k≤l.length):bv l / 2 ^ (l.length - k)=bv (l.take k)∧bv l % 2 ^ (l.length - k)=bv (l.drop k):=by
 have e:=zu9 (l.take k) (l.drop k)
 have hl:=ziu (l.drop k)
 rw [ybb,yax] at e
 rw [yax] at hl
 have hp:0<2 ^ (l.length - k):=ybp _
 rw [e]
 constructor
 ·rw [ybg,Nat.add_mul_div_right _ _ hp,Nat.div_eq_of_lt hl,Nat.zero_add]
 ·rw [ybg,Nat.add_mul_mod_self_right,ybk hl]
theorem zpz {l:List Bool} {k:Nat} (h:l.length≤k):bv l<2 ^ k:=ybj (ziu l) (ybn (by decide) h)
def ixL (c:UInt8):Int:=Lib.idxFunc (fun r=>decide ((r:Int) % 256=(c.toNat:Int))) true ⟨zr3.toArray⟩
theorem zvn:∀ c:UInt8,(match unl c with
  | some n=>decide (ixL c=(n:Int))
  | none=>decide (ixL c<0))=true:=z5t (by decide +kernel)
theorem M_ixL (c:UInt8):M.z1b zr3 (c.toNat:Int)=some (ixL c):=by unfold M.z1b ixL;rfl
theorem zzr {c:UInt8} {n:Nat} (h:unl c=some n):ixL c=(n:Int):=by
 have:=zvn c
 rw [h] at this
 simpa using this
theorem zzq {c:UInt8} (h:unl c=none):ixL c<0:=by
 have:=zvn c
 rw [h] at this
 simpa using this
theorem zjt:(B1:Z)=zr3:=rfl
theorem zz041 {n:Nat} (h:n<64):ix zr3 (n:Int)=some (ltr n):=by
 rw [z4k]
 unfold ltr
 rw [yan (show n<zr3.length from h)]
 rfl
theorem zn9 (c:UInt8) (s:Z):zn8 (c::s)=match unl c,zn8 s with
  | some n,some l=>some (n::l)
  | _,_=>none:=rfl
theorem drop_cons {α:Type} {s t:List α} {c:α} {i:Nat} (h:s.drop i=c::t):i<s.length∧s[i]? = some c∧s.drop (i+1)=t:=by
 have hi:i<s.length:=by
  have:=congrArg List.length h
  rw [yax,yaw] at this
  omega
 rw [yac hi] at h
 injection h with h1 h2
 exact ⟨hi,by rw [yan hi,h1],h2⟩
theorem zuk {B:List Bool} (h:8≤B.length):zl1 (B.length / 8) B=ybv (bv (B.take 8))::zl1 ((B.drop 8).length / 8) (B.drop 8)∧B.drop (8*(B.length / 8))=(B.drop 8).drop (8*((B.drop 8).length / 8))∧B.length % 8=(B.drop 8).length % 8:=by
 have hl:(B.drop 8).length=B.length - 8:=yax ..
 obtain ⟨n,hn⟩:∃ n,B.length / 8=n+1:=⟨B.length / 8 - 1,by omega⟩
 have hn2:(B.drop 8).length / 8=n:=by omega
 rw [hn,hn2,zl1,yab]
 refine ⟨rfl,?_,by omega⟩
 congr 1
 omega
theorem zz03h {s:Z} (hs:s.length<100000000):∀ (t:Z) (i:Nat) (acc:Z) (p:List Bool),s.drop i=t→i≤s.length→acc.length≤i→p.length<8 →
  M.z10 s (unb acc) ((bv p:Nat):Int) ((p.length:Nat):Int) (i:Int)=some (match zn8 t with
   | none => .done ([],11)
   | some l => .go (unb (acc++zl1 ((p++z5h l).length / 8) (p++z5h l)),((bv ((p++z5h l).drop (8*((p++z5h l).length / 8))):Nat):Int),(((p++z5h l).length % 8:Nat):Int))):=by
 intro t
 induction t with
 | nil =>
  intro i acc p ht hi ha hp
  have hi2:s.length≤i:=yad.1 ht
  have:¬((i:Int)<((unb s).length:Int)):=by rw [z04];omega
  rw [M.z10.eq_1]
  simp only [this,decide_false,yn,if_false]
  have e0:p.length / 8=0:=by omega
  have e1:p.length % 8=p.length:=by omega
  simp [zn8,z5h,e0,e1,zl1]
 | cons c t ih =>
  intro i acc p ht hi ha hp
  obtain ⟨hlt,hc,hd⟩:=drop_cons ht
  have h1:((i:Int)<((unb s).length:Int)):=by rw [z04];omega
  rw [M.z10.eq_1,zjt]
  simp only [h1,decide_true,if_true,z4k,zh0,hc,ye,ya,yb,M_ixL]
  rw [zn9]
  cases hu:unl c with
  | none =>
   have:=zzq hu
   simp [this]
  | some n =>
   have hn:=(zka hu).1
   have hx:=zzr hu
   have hx0:¬((n:Int)<0):=by omega
   rw [hx]
   simp only [hx0,decide_false,yn,if_false]
   obtain ⟨P,hP⟩:∃ P,p++z6g 6 n=P:=⟨_,rfl⟩
   have hPl:P.length=p.length+6:=by rw [←hP,yav,z3b]
   have hPv:bv P=bv p*2 ^ 6+n:=by rw [←hP,zu9,z3b,znj,ybk (show n<2 ^ 6 by omega)]
   have hpv:=zpz (l:=p) (k:=8) (by omega)
   have ho:orI .i64 (z6p .i64 ((bv p:Nat):Int) 6) (n:Int)=((bv P:Nat):Int):=by
    rw [hPv]
    exact zz086 (i:=6) (by decide) (by omega) (by omega)
   have hw:ybu .i64 (((p.length:Nat):Int)+6)=((P.length:Nat):Int):=by rw [w64 (by omega) (by omega)];omega
   have e6:∀ l:List Nat,p++z5h (n::l)=P++z5h l:=fun l=>by rw [za9,←yw,hP]
   rw [ho,hw,w1 (by omega)]
   by_cases h8:8≤P.length
   ·have h8':((8:Int)≤((P.length:Nat):Int)):=by omega
    have hw8:ybu .i64 (((P.length:Nat):Int) - 8)=((P.length - 8:Nat):Int):=by rw [w64 (by omega) (by omega)];omega
    have hge:(0:Int)≤((P.length - 8:Nat):Int):=by omega
    obtain ⟨hq,hr⟩:=zz036 P 8 h8
    have hb:=ziu (P.take 8)
    rw [ya1,Nat.min_eq_left h8] at hb
    have hPs:=zpz (l:=P) (k:=14) (by omega)
    simp only [h8',decide_true,if_true,hw8,hge]
    rw [z3y rfl]
    simp only [yb]
    rw [zz05j (by omega),hq,znc hb,zh1,z36 (by rw [z04];simp [unb];omega),←z2w]
    simp only [yb]
    rw [zz001 (by omega),zz02x (by omega) (by omega),hr]
    have hdl:(P.drop 8).length=P.length - 8:=yax ..
    rw [←hdl,ih (i+1) _ (P.drop 8) hd (by omega) (by simp;omega) (by omega)]
    cases zn8 t with
    | none=>rfl
    | some l =>
     obtain ⟨d1,d2,d3⟩:=zuk (B:=P++z5h l) (by rw [yav];omega)
     have e8:(P++z5h l).drop 8=P.drop 8++z5h l:=yaa h8
     have t8:(P++z5h l).take 8=P.take 8:=List.take_append_of_le_length h8
     simp only [e6]
     rw [d1,d2,d3,e8,t8,yw]
     rfl
   ·have h8':¬((8:Int)≤((P.length:Nat):Int)):=by omega
    simp only [h8',decide_false,yn,if_false]
    rw [ih (i+1) acc P hd (by omega) (by omega) (by omega)]
    cases zn8 t with
    | none=>rfl
    | some l=>simp only [e6]
theorem zua:∀ l:List Bool,bv l=0↔l.all (!·)=true
 | []=>by simp [bv]
 | x::l=>by
  have:=zua l
  rw [zit,yu]
  have hp:0<2 ^ l.length:=ybp _
  cases x
  ·simpa using this
  ·simp
theorem zbb {s:Z} (hs:s.length<100000000):M.q0j s=some (match zyl s with|some t=>(t,0)|none=>([],11)):=by
 unfold M.q0j zyl
 rw [z3y (by simp;omega)]
 simp only [ya,yb]
 have h:=zz03h hs s 0 [] [] rfl (ybq _) (ybi _) (by decide)
 have h:M.z10 s [] 0 0 0=_:=h
 rw [h]
 cases zn8 s with
 | none=>rfl
 | some l =>
  simp only [ya4,yb]
  rw [z7x]
  have hdl:((z5h l).drop (8*(6*l.length / 8))).length=6*l.length % 8:=by rw [yax,z7x];omega
  unfold zn3
  rw [hdl]
  obtain ⟨r,hr⟩:∃ r,(z5h l).drop (8*(6*l.length / 8))=r:=⟨_,rfl⟩
  have hz:=zua r
  rw [hr]
  clear hdl
  generalize 6*l.length % 8=k
  by_cases h6:k<6
  ·have h6':¬((6:Int)≤(k:Int)):=by omega
   by_cases hb:bv r=0
   ·simp [h6,h6',hb,hz.1 hb,z8i]
   ·have hb':¬(((bv r:Nat):Int)=0):=by omega
    have:r.all (!·)=false:=yk.2 fun q=>hb (hz.2 q)
    simp [h6,h6',hb,hb',this]
  ·have h6':((6:Int)≤(k:Int)):=by omega
   simp [h6,h6']
theorem zc3 {s:Z} (h:s.length<100000000):M.q0k s=some (z25 s):=by
 by_cases h8:s.length<1000000
 ·exact z7y h8
 ·unfold M.q0k z25
  rw [zd4 38 (by omega)]
  have:(decide (8192<(s.length:Int))||decide (64<((z0l 38 s).length:Int)))=true:=by
   rw [yr,decide_eq_true_iff]
   exact .inl (by omega)
  rw [if_pos (show 8192<s.length∨64<(z0l 38 s).length from .inl (by omega))]
  simp only [ya,yb,this,if_true]
theorem zpi (x:Z):(z1h 61 (swp x)).1.length≤x.length∧(z1h 61 (swp x)).2.1.length≤x.length:=by
 have:=(z7b 61 (swp x)).1
 rw [zgv] at this
 omega
theorem zmb {B:Nat}:∀ (l:List Z) (a:List q05),(∀ x∈l,x.length≤B)→(∀ p∈a,p.zo.length≤B∧p.z3g.length≤B)→∀ p∈(z9b l a).1,p.zo.length≤B∧p.z3g.length≤B
 | [],a,_,ha=>ha
 | x::l,a,hl,ha=>by
  unfold z9b
  split
  ·intro p hp;cases hp
  ·split
   ·rename_i y z h1 h2
    have hx:=hl x (by simp)
    have hc:=zpi x
    have l1:=zfr _ _ _ (ybi _) h1
    have l2:=zfr _ _ _ (ybi _) h2
    refine zmb l _ (fun x hx=>hl x (by simp [hx])) (fun p hp => ?_)
    rcases List.mem_append.1 hp with hp|hp
    ·exact ha p hp
    ·rw [ya3] at hp
     subst hp
     exact ⟨by simp only;omega,by simp only;omega⟩
   ·intro p hp;cases hp
theorem zdw (s:Z):zkg (z25 s).1∧(z25 s).1.length≤64:=by
 refine ⟨?_,zlg s⟩
 unfold z25
 split
 ·intro p hp;cases hp
 ·split
  ·intro p hp;cases hp
  ·rename_i h1 h2
   intro p hp
   have:=zmb (B:=8192) (z0l 38 s) [] (fun x hx=>Nat.le_trans (z4z 38 s x hx) (by omega)) (fun p hp=>by cases hp) p hp
   omega
def FitZ (z:Option (Jn (Bool × q00) (Z × Z))):Option (Z × Z)→Prop
 | some on=>z=some (.go on)
 | none=>∃ r,z=some (.done (false,r))
theorem zz08n:¬segO=segN:=by decide
theorem zz05f:¬segO=[]:=by decide
theorem zz03j {p ws:List Z} (a:q00) (hp:p.length<100000000) (hw:ws.length=p.length):∀ (n i:Nat) (o m:Z),p.length - i=n→i≤p.length→FitZ (M.z15 p ws a (i:Int) o m) (zby (ws.drop i) (p.drop i) o m):=by
 have e1:([79,70]:Z)=segO:=rfl
 have e2:(B67:Z)=segN:=rfl
 intro n
 induction n with
 | zero =>
  intro i o m hn hi
  have:¬((i:Int)<(p.length:Int)):=by omega
  rw [M.z15.eq_1,yae (by omega),yae (by omega)]
  simp [this,zby,FitZ]
 | succ n ih =>
  intro i o m hn hi
  have hlt:i<p.length:=by omega
  have hlw:i<ws.length:=by omega
  have h1:((i:Int)<(p.length:Int)):=by omega
  rw [M.z15.eq_1,yac hlt,yac hlw,e1,e2]
  simp only [h1,decide_true,if_true,z4k,yan hlt,yan hlw,ya,yb,w1 (show i<4611686018427387904 by omega)]
  obtain ⟨w,hw'⟩:∃ w,ws[i]=w:=⟨_,rfl⟩
  obtain ⟨s,hs'⟩:∃ s,p[i]=s:=⟨_,rfl⟩
  rw [hw',hs',zby]
  by_cases c1:w=segO
  ·subst c1
   have q1:=zz08n
   by_cases c2:s=[]
   ·subst c2
    have q2:=zz05f
    simp [q1,q2,FitZ]
   ·simp only [c2,decide_true,decide_false,yp,yi,if_true,if_false]
    exact ih (i+1) s m (by omega) (by omega)
  ·by_cases c3:w=segN
   ·subst c3
    simp only [c1,decide_true,decide_false,ym,yn,if_true,if_false]
    exact ih (i+1) o s (by omega) (by omega)
   ·by_cases c4:w=s
    ·subst c4
     simp only [c1,c3,decide_true,decide_false,yq,ym,yn,if_true,if_false,yb]
     exact ih (i+1) o m (by omega) (by omega)
    ·simp [c1,c3,c4,FitZ]
theorem zce:∀ {ws ss:List Z} {o m:Z} {r:Z × Z},zby ws ss o m=some r→ws.length=ss.length
 | [],[],_,_,_,_=>rfl
 | w::ws,s::ss,o,m,r,h=>by
  rw [zby] at h
  have:ws.length=ss.length:=by
   split at h
   ·split at h
    ·cases h
    ·exact zce h
   ·split at h
    ·exact zce h
    ·split at h
     ·exact zce h
     ·cases h
  simp [this]
 | [],_::_,_,_,_,h=>by simp [zby] at h
 | _::_,[],_,_,_,h=>by simp [zby] at h
def FitR (z:Option (Bool × q00)) (a:q00):Option (Z × Z)→Prop
 | some on=>z=some (true,{ a with gOf:=on.1,zo:=on.2 })
 | none=>∃ r,z=some (false,r)
theorem zdx {r:Rw} (h:zh3 r) {p:List Z} (hp:p.length<100000000) (a:q00):FitR (M.q2d r.toH p a) a (zby r.sg p a.gOf a.zo):=by
 have h1:=h.one
 have h2:=h.len
 unfold M.q2d
 have hs:sub r.toH.zhb 1 (r.toH.zhb.length:Int)=some ((zpc r.sg).drop 1):=zaw (l:=zpc r.sg) (a:=1) h1
 rw [hs]
 simp only [ya,yb]
 rw [zd4 47 (by rw [yax];omega),h.cut]
 simp only [yb]
 by_cases hl:r.sg.length=p.length
 ·have hl':((r.sg.length:Int)=(p.length:Int)):=by omega
  have hk:=zz03j a hp hl _ 0 a.gOf a.zo rfl (ybq _)
  rw [yah,yah] at hk
  have hk:FitZ (M.z15 p r.sg a 0 a.gOf a.zo) (zby r.sg p a.gOf a.zo):=hk
  simp only [hl',decide_true,yq,yn,if_false]
  cases hf:zby r.sg p a.gOf a.zo with
  | some on =>
   rw [hf] at hk
   have hk:M.z15 p r.sg a 0 a.gOf a.zo=some (.go on):=hk
   rw [hk]
   rfl
  | none =>
   rw [hf] at hk
   obtain ⟨x,hk⟩:=hk
   rw [hk]
   exact ⟨x,rfl⟩
 ·have hl':¬((r.sg.length:Int)=(p.length:Int)):=by omega
  cases hf:zby r.sg p a.gOf a.zo with
  | some on=>exact (hl (zce hf)).elim
  | none =>
   simp only [hl',decide_false,yp,if_true]
   exact ⟨a,rfl⟩
theorem z61 {l:List q05} (h:zkg l) (k:Z):(z4h l k []).length<100000000:=by
 unfold z4h
 split
 ·rename_i p hp
  exact (h p (List.mem_of_find?_eq_some hp)).2
 ·simp
theorem zf8 {c:UInt8}:∀ {t:Z},(z1h c t).2.2=true→t=(z1h c t).1++c::(z1h c t).2.1
 | [],h=>by simp [cutb_nil] at h
 | x::r,h=>by
  rw [z3e] at h ⊢
  by_cases e:x=c
  ·rw [if_pos e]
   simp [e]
  ·rw [if_neg e] at h ⊢
   have:=zf8 (t:=r) h
   simp only [yy,←this]
theorem zz04y {k:Z} {c:UInt8} (hk:no c k) (t:Z):((k++[c]).isPrefixOf t=true↔(z1h c t).2.2=true∧(z1h c t).1=k)∧((z1h c t).2.2=true∧(z1h c t).1=k→t.drop (k++[c]).length=(z1h c t).2.1):=by
 constructor
 ·constructor
  ·intro h
   obtain ⟨r,rfl⟩:=yau.1 h
   rw [yw,ya9,zj3 r hk]
   exact ⟨rfl,rfl⟩
  ·intro ⟨h1,h2⟩
   have:=zf8 h1
   rw [h2] at this
   exact yau.2 ⟨(z1h c t).2.1,by rw [yw,ya9,←this]⟩
 ·intro ⟨h1,h2⟩
  have:=zf8 h1
  rw [h2] at this
  conv=>lhs;rw [this]
  rw [show k++c::(z1h c t).2.1=(k++[c])++(z1h c t).2.1 by simp,yaf]
theorem zz06m {s:Z} (h:s.length<1000000000):M.trim s [32]=some (bare s):=zho (by omega) (by decide)
theorem zz08o:no 61 kSes:=fun b hb=>by
 have:kSes.all (fun b => !decide (b=61))=true:=by decide
 simpa using yv.1 this b hb
theorem zuf {l:List Z} (hl:l.length<1000000000) (hm:∀ x∈l,x.length<1000000000):∀ (n i:Nat),l.length - i=n→i≤l.length →
  ∃ z,M.z2r l (i:Int)=some z∧(z = .done (zee (l.drop i))∨z = .go ()∧zee (l.drop i)=[]):=by
 intro n
 induction n with
 | zero =>
  intro i hn hi
  have:¬((i:Int)<(l.length:Int)):=by omega
  rw [M.z2r.eq_1,yae (by omega)]
  simp [this,zee]
 | succ n ih =>
  intro i hn hi
  have hlt:i<l.length:=by omega
  have h1:((i:Int)<(l.length:Int)):=by omega
  rw [M.z2r.eq_1,yac hlt]
  simp only [h1,decide_true,if_true,z4k,yan hlt,ya,yb]
  rw [zz06m (hm _ (yaq hlt))]
  simp only [yb]
  have e:(B57:Z)=kSes++[61]:=rfl
  rw [e,z65,zee]
  obtain ⟨p1,p2⟩:=zz04y zz08o (bare l[i])
  simp only [yb]
  by_cases c:(z1h 61 (bare l[i])).2.2=true∧(z1h 61 (bare l[i])).1=kSes
  ·rw [if_pos (p1.2 c),if_pos c,←p2 c]
   exact ⟨_,rfl,.inl rfl⟩
  ·rw [if_neg (fun q=>c (p1.1 q)),if_neg c,w1 (by omega)]
   exact ih (i+1) (by omega) (by omega)
theorem zhe {l:List q05} (hl:l.length<100000000) (hf:zkg l):M.q1e l=some (zed l):=by
 unfold M.q1e zed
 have hv:=z61 hf z4n
 have e:(B50:Z)=z4n:=rfl
 rw [e,z6k z4n (by omega)]
 simp only [ya,yb]
 rw [zd4 59 (by omega)]
 simp only [yb]
 have hs:=zao 59 (z4h l z4n [])
 obtain ⟨z,hz,hc⟩:=zuf (l:=z0l 59 (z4h l z4n [])) (by omega) (fun x hx=>by have:=z4z 59 _ x hx;omega) _ 0 rfl (ybq _)
 have hz:M.z2r (z0l 59 (z4h l z4n [])) 0=some z:=hz
 rw [yah] at hc
 rw [hz]
 rcases hc with rfl|⟨rfl,hc⟩
 ·rfl
 ·rw [hc]
  rfl
theorem zl0 {B:Nat}:∀ l:List Z,(∀ x∈l,x.length≤B)→(zee l).length≤B
 | [],_=>ybq _
 | x::l,h=>by
  rw [zee]
  split
  ·have h1:=(z7b 61 (bare x)).1
   have h2:=zen x
   have h3:=h x (by simp)
   omega
  ·exact zl0 l fun x hx=>h x (by simp [hx])
theorem zkz {l:List q05} (hf:zkg l):(zed l).length<100000000:=by
 have hv:=z61 hf z4n
 have:=zl0 (B:=(z4h l z4n []).length) (z0l 59 (z4h l z4n [])) (fun x hx=>z4z 59 _ x hx)
 unfold zed
 omega
theorem zz000:∀ m:Fin 8,((!decide ((z7a .i64 ((m.val:Nat):Int) 1)=0))=m.val.testBit 0)∧((!decide ((z7a .i64 ((m.val:Nat):Int) 2)=0))=m.val.testBit 1)∧((!decide ((z7a .i64 ((m.val:Nat):Int) 4)=0))=m.val.testBit 2):=by decide +kernel
def zea (z:Option (Rb q00 q00)):Option q00→Prop
 | some a=>z=some (.ok a)
 | none=>∃ a,z=some (.pan 227 a)
theorem zhv (c:UInt8):∀ s:Z,Lib.contains s [c]=s.contains c
 | []=>by unfold Lib.contains;simp [Lib.index]
 | x::r=>by
  have ih:=zhv c r
  unfold Lib.contains at ih ⊢
  rw [z4j]
  have hge:=Lib.index_ge r [c]
  by_cases h:x=c
  ·simp [h]
  ·have h':¬c=x:=fun q=>h q.symm
   rw [if_neg h,List.contains_cons,←ih]
   have:(c==x)=false:=by simpa using h'
   rw [this,yo]
   by_cases hm:Lib.index r [c] = -1
   ·simp [hm]
   ·rw [if_neg hm,yl,decide_eq_true_iff,decide_eq_true_iff]
    omega
theorem zz02s {s:Z} (h:s.length<100000000):M.contains s [34]=some (s.contains 34):=by
 unfold M.contains
 rw [z3y (by simp;omega),zhv]
 rfl
theorem zz01i (c:UInt8):decide ((c.toNat:Int)=34)=decide (c=34):=by
 have:((c.toNat:Int)=34)↔c=34:=⟨fun e=>ybw.1 (by have:(34:UInt8).toNat=34:=rfl;omega),fun e=>by rw [e];rfl⟩
 rw [yl,decide_eq_true_iff,decide_eq_true_iff,this]
theorem zvx {s:Z} (h:2≤s.length) (hs:s.length<100000000):ix s (ybu .i64 ((s.length:Int) - 1))=s.getLast?:=by
 have e:ybu .i64 ((s.length:Int) - 1)=((s.length - 1:Nat):Int):=by rw [w64 (by omega) (by omega)];omega
 rw [e,z4k,yar]
theorem get_some {s:Z} {i:Nat} (h:i<s.length):∃ c,s[i]? = some c:=⟨_,yan h⟩
theorem zgi {s:Z} (h:2≤s.length):∃ a b,s.head? = some a∧s.getLast? = some b∧quoted s=(decide (a=34)&&decide (b=34)):=by
 obtain ⟨a,ha⟩:=get_some (s:=s) (i:=0) (by omega)
 obtain ⟨b,hb⟩:=get_some (s:=s) (i:=s.length - 1) (by omega)
 have h1:s.head? = some a:=by rw [yat,ha]
 have h2:s.getLast? = some b:=by rw [yar,hb]
 refine ⟨a,b,h1,h2,?_⟩
 unfold quoted
 rw [h1,h2]
 simp [h]
theorem ze7 {s:Z} (h:¬2≤s.length):quoted s=false:=by
 unfold quoted
 simp [h]
theorem zxz {s:Z} (h:2≤s.length) (hs:s.length<100000000):sub s 1 (ybu .i64 ((s.length:Int) - 1))=some (unq s):=by
 have e:ybu .i64 ((s.length:Int) - 1)=((s.length - 1:Nat):Int):=by rw [w64 (by omega) (by omega)];omega
 rw [e]
 exact zem (l:=s) (a:=1) (b:=s.length - 1) (by omega) (by omega)
theorem zxy (s:Z):(unq s).length≤s.length:=by
 unfold unq
 rw [yax,ya1]
 omega
def JA {α:Type} (A:Option (Jn (Rb q00 q00) α)):Option α→Prop
 | some s=>A=some (.go s)
 | none=>∃ a,A=some (.done (.pan 227 a))
theorem zea.seq {α:Type} {A:Option (Jn (Rb q00 q00) α)} {K:Jn (Rb q00 q00) α→Option (Rb q00 q00)} {x:Option α} {y:α→Option q00} (hA:JA A x) (hd:∀ r,K (.done r)=some r) (hg:∀ s,x=some s→zea (K (.go s)) (y s)):zea (A.bind K) (x.bind y):=by
 cases x with
 | none =>
  obtain ⟨a,hA⟩:=hA
  rw [hA]
  exact ⟨a,hd _⟩
 | some s =>
  have hA:A=some (.go s):=hA
  rw [hA]
  exact hg s rfl
theorem zze (m:Nat) (l:List q05) (k:Int) (o n:Z):zll m l k o n=(sesP m l).bind fun s=>(tokP m l).bind fun t=>(zy9 m l).bind fun g=>some ⟨k,o,[],[],s,[],t,[],[],[],[],[],[],[],[],[],n,[],[],[],g,[],[],[],0,0⟩:=by
 unfold zll
 cases sesP m l<;>cases tokP m l<;>cases zy9 m l<;>rfl
theorem zln {r:Rw} (hr:zh3 r) {l:List q05} (hl:l.length<100000000) (hf:zkg l) (k:Int) (o n:Z):zea (M.q2g r.toH l (A0 k o n)) (zll r.mr l k o n):=by
 obtain ⟨m1,m2,m3⟩:=zz000 ⟨r.mr,hr.mkl⟩
 simp only at m1 m2 m3
 have m1:(!decide ((z7a .i64 r.toH.zcg 1)=0))=r.mr.testBit 0:=m1
 have m2:(!decide ((z7a .i64 r.toH.zcg 2)=0))=r.mr.testBit 1:=m2
 have m3:(!decide ((z7a .i64 r.toH.zcg 4)=0))=r.mr.testBit 2:=m3
 have e1:(B24:Z)=z7p:=rfl
 have e2:(B46:Z)=zde:=rfl
 have e3:(B39:Z)=kIf:=rfl
 have e4:(B1:Z)=sesB:=rfl
 have hv1:=z61 hf z7p
 have hv2:=z61 hf kIf
 have hck:=zkz hf
 obtain ⟨t,ht1,ht2⟩:=M_ses (s:=zed l) (by omega)
 unfold M.q2g
 simp only [m1,m2,m3,e1,e2,e3,e4,zhe hl hf,z6k z7p (show l.length<1000000000 by omega),z6k kIf (show l.length<1000000000 by omega),ya,yb,ht1,ht2]
 rw [zze]
 refine zea.seq ?_ (fun _=>rfl) fun s hs => ?_
 ·unfold sesP
  cases r.mr.testBit 0 with
  | false=>rfl
  | true =>
   cases hp:zb5 (zed l) with
   | false =>
    simp only [if_true,zu,yb,yn,if_false]
    exact ⟨_,rfl⟩
   | true=>rfl
 obtain ⟨v,hv⟩:∃ v,z4h l z7p []=v:=⟨_,rfl⟩
 obtain ⟨u,hu⟩:∃ u,z4h l kIf []=u:=⟨_,rfl⟩
 rw [hv] at hv1
 rw [hu] at hv2
 simp only [hv,hu]
 have hcp:=z65 v zde
 have hon:M.q22 (v.drop 7) 33 126=some (z6x 33 126 (v.drop 7)):=z7e 33 126 (by rw [yax];omega)
 have e7:zde.length=7:=rfl
 refine zea.seq ?_ (fun _=>rfl) fun t ht => ?_
 ·unfold tokP
  rw [hv]
  by_cases c:r.mr.testBit 1=true∧zav l z7p=true
  ·have cb:(zav l z7p&&r.mr.testBit 1)=true:=by simp [c]
   rw [if_pos c]
   simp only [cb,if_true,hcp,yb]
   by_cases c2:zde.isPrefixOf v=true
   ·simp only [c2,if_true,e7,hon,yb,true_and]
    cases q:z6x 33 126 (v.drop 7) with
    | false =>
     simp only [zu,yb,yn,if_false]
     exact ⟨_,rfl⟩
    | true =>
     simp only [z0c,yb,if_true]
     rfl
   ·simp only [c2,yn,if_false,yb,zu,false_and]
    exact ⟨_,rfl⟩
  ·have cb:(zav l z7p&&r.mr.testBit 1)=false:=by
    cases h1:zav l z7p with
    | false=>rfl
    | true =>
     cases h2:r.mr.testBit 1 with
     | false=>rfl
     | true=>exact (c ⟨h2,h1⟩).elim
   rw [if_neg c]
   simp only [cb,yn,if_false]
   rfl
 by_cases c:r.mr.testBit 2=true∧zav l kIf=true
 ·have cb:(zav l kIf&&r.mr.testBit 2)=true:=by simp [c]
  have etg:zy9 r.mr l=if quoted u=true∧zn1 (unq u)=true then some (unq u) else none:=by
   unfold zy9
   rw [if_pos c,hu]
  rw [etg]
  simp only [cb,if_true]
  by_cases c2:2≤u.length
  ·have c2':((2:Int)≤(u.length:Int)):=by omega
   obtain ⟨x,y,hx,hy,hq⟩:=zgi c2
   have h0:ix u 0=some x:=by rw [zsm,←yat,hx]
   simp only [c2',decide_true,if_true,h0,zvx c2 hv2,hy,yb,zz01i]
   rw [hq]
   by_cases cx:x=34
   ·by_cases cy:y=34
    ·have hun:=zxy u
     simp only [cx,cy,decide_true,if_true,yb,z0c,zxz c2 hv2,yi,true_and]
     have hon2:M.q22 (unq u) 33 126=some (z6x 33 126 (unq u)):=z7e 33 126 (by omega)
     rw [hon2]
     simp only [yb]
     unfold zn1
     cases h1:z6x 33 126 (unq u) with
     | false =>
      simp only [yn,if_false,yb,zu,ym]
      exact ⟨_,rfl⟩
     | true =>
      simp only [if_true,zz02s (show (unq u).length<100000000 by omega),yb,yt]
      cases h2:(unq u).contains 34 with
      | true =>
       simp only [yq,zu,yb,yn,if_false]
       exact ⟨_,rfl⟩
      | false =>
       simp only [yp,z0c,yb,if_true]
       rfl
    ·simp only [cx,cy,decide_true,decide_false,if_true,yb,zu,yh,yn,false_and,if_false]
     exact ⟨_,rfl⟩
   ·simp only [cx,decide_false,yn,if_false,yb,zu,ym,false_and]
    exact ⟨_,rfl⟩
  ·have c2':¬((2:Int)≤(u.length:Int)):=by omega
   rw [ze7 c2]
   simp only [c2',decide_false,yn,if_false,yb,zu,false_and]
   exact ⟨_,rfl⟩
 ·have cb:(zav l kIf&&r.mr.testBit 2)=false:=by
   cases h1:zav l kIf with
   | false=>rfl
   | true =>
    cases h2:r.mr.testBit 2 with
    | false=>rfl
    | true=>exact (c ⟨h2,h1⟩).elim
  have etg:zy9 r.mr l=some []:=by
   unfold zy9
   rw [if_neg c]
  rw [etg]
  simp only [cb,yn,if_false]
  rfl
theorem zz03u {ps:List Pt} (p:q05) (hl:ps.length<1000):∀ (n i:Nat),ps.length - i=n→i≤ps.length →
  ∃ z,M.zg (ps.map Pt.toH) p (i:Int)=some z∧((∃ j:Nat,z = .done (j:Int)∧z69 (ps.drop i) p.zo=true)∨(z = .go ()∧z69 (ps.drop i) p.zo=false)):=by
 intro n
 induction n with
 | zero =>
  intro i hn hi
  have:¬((i:Int)<((ps.map Pt.toH).length:Int)):=by rw [yay];omega
  rw [M.zg.eq_1,yae (by omega)]
  simp only [this,decide_false,yn,if_false]
  exact ⟨_,rfl,.inr ⟨rfl,rfl⟩⟩
 | succ n ih =>
  intro i hn hi
  have hlt:i<ps.length:=by omega
  have h1:((i:Int)<((ps.map Pt.toH).length:Int)):=by rw [yay];omega
  rw [M.zg.eq_1,yac hlt]
  simp only [h1,decide_true,if_true,z4k,yap,yan hlt,ye,ya,yb,M.q2f]
  have en:(Pt.toH ps[i]).zfu=ps[i].nm:=by cases ps[i]<;>rfl
  have ek:z69 (ps[i]::ps.drop (i+1)) p.zo=(decide (ps[i].nm=p.zo)||z69 (ps.drop (i+1)) p.zo):=by unfold z69;rw [List.any_cons]
  rw [en,ek]
  by_cases c:ps[i].nm=p.zo
  ·grind
  ·simp only [c,decide_false,yn,if_false,yo]
   grind [w1]
theorem zzu {ps:List Pt} (p:q05) (hl:ps.length<1000):M.q6z (ps.map Pt.toH) p=some (z69 ps p.zo):=by
 unfold M.q6z M.q74
 obtain ⟨z,hz,hc⟩:=zz03u p hl _ 0 rfl (ybq _)
 have hz:M.zg (ps.map Pt.toH) p 0=some z:=hz
 rw [yah] at hc
 rw [hz]
 rcases hc with ⟨j,rfl,hk⟩|⟨rfl,hk⟩
 ·simp_all
 ·simp [hk]
theorem zzj {l:List q05} {r:Rw} (hr:zh3 r) (a:q00) (hl:l.length<100000000):∀ (n i:Nat),l.length - i=n→i≤l.length →
  M.z2c l r.toH a (i:Int)=some (if (l.drop i).all (fun p=>decide (zbl l p.zo=1)&&z69 r.ps p.zo)=true then .go () else .done (.pan 227 a)):=by
 intro n
 induction n with
 | zero =>
  grind [M.z2c.eq_1,yae]
 | succ n ih =>
  intro i hn hi
  have hlt:i<l.length:=by omega
  have h1:((i:Int)<(l.length:Int)):=by omega
  have hk:M.q6z r.toH.z84 l[i]=some (z69 r.ps l[i].zo):=zzu l[i] (by have:=hr.psl;omega)
  rw [M.z2c.eq_1,yac hlt,yu]
  simp only [h1,decide_true,if_true,z4k,yan hlt,ya,yb]
  rw [zdr _ (by omega)]
  simp only [yb,hk]
  by_cases c:zbl l l[i].zo=1
  ·have c':(((zbl l l[i].zo:Nat):Int)=1):=by omega
   simp only [c,c',decide_true,if_true,yb,yt]
   cases hkn:z69 r.ps l[i].zo with
   | false=>rfl
   | true =>
    simp only [z0c,yb,yt]
    rw [w1 (by omega)]
    exact ih (i+1) (by omega) (by omega)
  ·have c':¬(((zbl l l[i].zo:Nat):Int)=1):=by omega
   grind [zu]
theorem z5f {t:Nat × Nat × Z} {P:Nat × Nat × Z→Prop} (h:t∈z9n) (h1:P zz1) (h2:P zuz) (h3:P zyy) (h4:P zfi) (h5:P zux) (h6:P z8q) (h7:P z9m) (h8:P zcd) (h9:P zi3) (h10:P zcc) (h11:P zda) (h12:P zfj) (h13:P zuy) (h14:P zz0) (h15:P zyz) (h16:P fBody) (h17:P fSig) (h18:P znv):P t:=by
 unfold z9n at h
 simp only [List.mem_cons,ya6,or_false] at h
 rcases h with h|h|h|h|h|h|h|h|h|h|h|h|h|h|h|h|h|h<;>rw [h]<;>assumption
theorem zz03k {t:Nat × Nat × Z} (h:t∈z9n) (a:q00):M.q0q t.2.1 a=some t.1 :=
 z5f (P:=fun t=>M.q0q t.2.1 a=some t.1) h rfl rfl rfl rfl rfl rfl rfl rfl rfl rfl rfl rfl rfl rfl rfl rfl rfl rfl
theorem zv3 {t:Nat × Nat × Z} (h:t∈z9n) (a:q00) (v:Z):a.setAt t.1 v=some (zng a t.1 v) :=
 z5f (P:=fun t=>a.setAt t.1 v=some (zng a t.1 v)) h rfl rfl rfl rfl rfl rfl rfl rfl rfl rfl rfl rfl rfl rfl rfl rfl rfl rfl
theorem zz07g {t:Nat × Nat × Z} (h:t∈z9n):ybh t.2.1 NF=false :=
 z5f (P:=fun t=>ybh t.2.1 NF=false) h rfl rfl rfl rfl rfl rfl rfl rfl rfl rfl rfl rfl rfl rfl rfl rfl rfl rfl
theorem zwv {t:Nat × Nat × Z} {n:Z} {w:Bool} (h:(Pt.st n t w).okB=true):t∈z9n:=by
 grind [Pt.okB]
theorem zzk {l:List q05} {r:Rw} (hr:zh3 r) (hl:l.length<100000000) (hf:zkg l):∀ (n i:Nat) (a:q00),r.ps.length - i=n→i≤r.ps.length→zea (M.z0d r.toH l (i:Int) a) (zrn l (r.ps.drop i) a):=by
 have hpl:=hr.psl
 have hgl:r.toH.z84.length=r.ps.length:=yay ..
 have n24:¬((1000000:Nat)=24):=by decide
 have n25:¬((1000000:Nat)=25):=by decide
 intro n
 induction n with
 | zero =>
  grind [M.z0d.eq_1,zrn,zea]
 | succ n ih =>
  intro i a hn hi
  have hlt:i<r.ps.length:=by omega
  have h1:((i:Int)<(r.toH.z84.length:Int)):=by rw [hgl];omega
  have hx:ix r.toH.z84 (i:Int)=some (Pt.toH r.ps[i]):=by
   rw [z4k]
   show (r.ps.map Pt.toH)[i]? = _
   rw [yap,yan hlt]
   rfl
  have hok:=hr.ps _ (yaq hlt)
  rw [M.z0d.eq_1,yac hlt,zrn]
  simp only [h1,decide_true,if_true,hx,ya,yb]
  obtain ⟨p,hp⟩:∃ p,r.ps[i]=p:=⟨_,rfl⟩
  rw [hp] at hok ⊢
  rw [z6k _ (by omega),w1 (by omega)]
  simp only [yb]
  cases p with
  | fx nm v =>
   have hv:¬v=[78]:=by unfold Pt.okB at hok;simpa using hok
   have hc:M.q2u (Pt.toH (.fx nm v)) a=some 1000000:=by
    unfold M.q2u Pt.toH
    simp [hv]
   have hnf:ybh (Pt.toH (.fx nm v)).z83 NF=true:=show ybh NF NF=true by decide
   have hfx:(Pt.toH (.fx nm v)).zft=v:=rfl
   have hnm:(Pt.toH (.fx nm v)).zfu=nm:=rfl
   simp only [hc,yb,n24,n25,hnf,hfx,hnm,if_true,if_false]
   have ep:putP l a (.fx nm v)=if zav l nm=true∧z4h l nm []=v then some a else none:=rfl
   rw [ep]
   by_cases c:zav l nm=true∧z4h l nm []=v
   ·rw [if_pos c]
    grind [z0c]
   ·rw [if_neg c]
    have cb:(zav l nm&&decide (z4h l nm []=v))=false:=by
     cases h1:zav l nm with
     | false=>rfl
     | true=>grind
    simp only [cb,zu,yb]
    exact ⟨a,rfl⟩
  | st nm t w =>
   have ht:=zwv hok
   have hc:M.q2u (Pt.toH (.st nm t w)) a=some 1000000:=by
    unfold M.q2u Pt.toH
    simp
   have hnf:ybh (Pt.toH (.st nm t w)).z83 NF=false:=zz07g ht
   have hd:∀ a,M.q0q (Pt.toH (.st nm t w)).z83 a=some t.1:=fun a=>zz03k ht a
   have hw:(Pt.toH (.st nm t w)).zsf=w:=rfl
   have hnm:(Pt.toH (.st nm t w)).zfu=nm:=rfl
   simp only [hc,yb,n24,n25,hnf,hw,hnm,hd,yn,if_true,if_false]
   have ep:putP l a (.st nm t w)=if w=true then (zyl (z4h l nm [])).map (zng a t.1) else some (zng a t.1 (z4h l nm [])):=rfl
   rw [ep]
   have hv:=z61 hf nm
   cases w with
   | false =>
    simp only [yn,if_false,zv3 ht,yb]
    grind
   | true =>
    simp only [if_true,zbb (show (z4h l nm []).length<100000000 by omega),yb]
    cases hb:zyl (z4h l nm []) with
    | none =>
     simp only [Option.map_none,Option.bind_none]
     exact ⟨a,by rfl⟩
    | some v =>
     grind [z0c,zv3]
  | cn nm c =>
   have hok':(nm=B77)=(c=true):=of_decide_eq_true hok
   have hnm:(Pt.toH (.cn nm c)).zfu=nm:=rfl
   have hfx:(Pt.toH (.cn nm c)).zft=[78]:=rfl
   have hv:=z61 hf nm
   obtain ⟨x,hx1,hx2⟩:=zb0 (s:=z4h l nm []) 9 (by decide) (by omega)
   have hx1:M.q1w (z4h l nm []) 9=some (x,isNum 9 (z4h l nm [])):=hx1
   have ep:putP l a (.cn nm c)=if z4h l nm []=[] then some a else if isNum 9 (z4h l nm [])=true then some (zxi a c ((zbe 0 (z4h l nm []):Nat):Int)) else none:=rfl
   rw [ep]
   have n54:¬((25:Nat)=24):=by decide
   have hc:M.q2u (Pt.toH (.cn nm c)) a=some (if c=true then 25 else 24):=by
    unfold M.q2u
    simp only [hfx,hnm,hok',decide_true,yq,yn,if_false]
    cases c<;>rfl
   simp only [hc,yb,hnm]
   by_cases he:z4h l nm []=[]
   ·grind
   ·rw [if_neg he]
    cases hn9:isNum 9 (z4h l nm []) with
    | false =>
     rw [hn9] at hx1
     cases c with
     | true =>
      simp only [he,if_true,n54,if_false,decide_false,yp,yn,hx1,yb,zu]
      exact ⟨_,rfl⟩
     | false =>
      simp only [he,if_true,if_false,decide_false,yp,yn,hx1,yb,zu]
      exact ⟨_,rfl⟩
    | true =>
     rw [hn9,hx2 hn9] at hx1
     have:=ih (i+1) (zxi a c ((zbe 0 (z4h l nm []):Nat):Int)) (by omega) (by omega)
     cases c with
     | true =>
      simp only [he,if_true,n54,if_false,decide_false,yp,yn,hx1,yb,z0c]
      exact this
     | false =>
      simp only [he,if_true,if_false,decide_false,yp,yn,hx1,yb,z0c]
      exact this
theorem zdy {l:List q05} {r:Rw} (hr:zh3 r) (hl:l.length<100000000) (hf:zkg l) (a:q00):zea (M.q2e r.toH l a) (zlf r.ps l a):=by
 unfold M.q2e
 have h1:=zzj hr a hl _ 0 rfl (ybq _)
 rw [yah] at h1
 have h1:M.z2c l r.toH a 0=some (if zgd r.ps l=true then .go () else .done (.pan 227 a)):=h1
 have h2:=zzk hr hl hf _ 0 a rfl (ybq _)
 rw [yah] at h2
 have h2:zea (M.z0d r.toH l 0 a) (zrn l r.ps a):=h2
 rw [h1]
 unfold zlf
 cases zgd r.ps l with
 | true=>exact h2
 | false=>exact ⟨a,rfl⟩
def AskZ (z:Option (q00 × Int)):Option q00→Prop
 | some a=>z=some (a,0)
 | none=>∃ a,z=some (a,227)
theorem zea.ask {z:Option (Rb q00 q00)} {x:Option q00} (h:zea z x):AskZ (z.bind fun a22=>(match a22 with
  | .pan e25 p26=>some (p26,e25)
  | .ok a24=>some (a24,0):Option (q00 × Int))) x:=by
 cases x with
 | some a =>
  have h:z=some (.ok a):=h
  rw [h]
  rfl
 | none =>
  obtain ⟨a,h⟩:=h
  rw [h]
  exact ⟨a,rfl⟩
theorem zjw (s:Z):SzJ (parse s).1∧Chk (parse s).1:=by
 refine ⟨zz00e s,?_⟩
 rcases zoq s with ⟨x,hx,hc⟩|⟨c,hx,_⟩
 ·rw [hx]
  exact ⟨0,hc⟩
 ·rw [hx]
  exact ⟨0,zra 0⟩
theorem zlo {s:Z} {f:Nat} (hf:34≤f) (a:q00):AskZ ((M.q3d f s).bind fun a38=>(M.q3c a38.1 [105,100]).bind fun a40=>(M.q3c a38.1 B33).bind fun a42=>(M.q1p a42.1).bind fun a44 =>
  (M.q1s ((((((decide (a38.2=0))&&(decide ((a38.1.zk.length:Int)=2)))&&a40.2)&&a42.2)&&(decide (a40.1.zh=4)))&&a44.2) 227).bind fun a56=>(match a56 with
   | .pan e59=>some (a,e59)
   | .ok a58=>some ({ a with zo:=a40.1.z0i,zt:=a44.1 },0):Option (q00 × Int))) (zsn s a):=by
 obtain ⟨h1,h2⟩:=zjw s
 have e1:([105,100]:Z)=kId:=rfl
 have e2:(B33:Z)=z4a:=rfl
 have hp:=h1.parts
 rw [zcm s hf,e1,e2]
 simp only [yb]
 rw [zb1 (by omega),zb1 (by omega)]
 simp only [yb]
 rw [zzz (h1.z88 z4a) (h2.z88 z4a).keys]
 simp only [yb]
 unfold zsn
 by_cases c:(parse s).2=0∧(parse s).1.zk.length=2∧(z88 (parse s).1 kId).2=true∧(z88 (parse s).1 z4a).2=true∧(z88 (parse s).1 kId).1.zh=4∧(z98 (z88 (parse s).1 z4a).1).2=true
 ·rw [if_pos c]
  obtain ⟨c1,c2,c3,c4,c5,c6⟩:=c
  have c2':(((parse s).1.zk.length:Int)=2):=by omega
  simp only [c1,c2',c3,c4,c5,c6,decide_true,yi,z0c,yb]
  rfl
 ·rw [if_neg c]
  have:((((((decide ((parse s).2=0))&&(decide (((parse s).1.zk.length:Int)=2)))&&(z88 (parse s).1 kId).2)&&(z88 (parse s).1 z4a).2)&&(decide ((z88 (parse s).1 kId).1.zh=4)))&&(z98 (z88 (parse s).1 z4a).1).2)=false:=by
   apply yk.2
   intro q
   simp only [yg,decide_eq_true_eq] at q
   obtain ⟨⟨⟨⟨⟨q1,q2⟩,q3⟩,q4⟩,q5⟩,q6⟩:=q
   exact c ⟨q1,by omega,q3,q4,q5,q6⟩
  simp only [this,zu,yb]
  exact ⟨a,rfl⟩
theorem zkb {r:Rw} (h:zh3 r):r.wh=0∨r.wh=1∨r.wh=2∨r.wh=3∨r.wh=4:=by
 have:=h.whl
 omega
theorem zo2 {r:Rw} (hr:zh3 r) {q:q03} (hq:fit q) {f:Nat} (hf:34≤f) {on:Z × Z} (hfit:zby r.sg q.z09 [] []=some on):AskZ (M.q2c f r.toH q) (zy6 r q on.1 on.2):=by
 obtain ⟨_,f2,_,f4,f5,f6,f7,f8⟩:=hq
 unfold M.q2c
 have h1:=zdx hr (p:=q.z09) f2 (A0 r.kd [] [])
 have e1:zby r.sg q.z09 (A0 r.kd [] []).gOf (A0 r.kd [] []).zo=some on:=hfit
 rw [e1] at h1
 have h1:M.q2d r.toH q.z09 (A0 r.kd [] [])=some (true,A0 r.kd on.1 on.2):=h1
 unfold A0 at h1
 have h1:M.q2d r.toH q.z09 ⟨r.toH.zse,[],[],[],[],[],[],[],[],[],[],[],[],[],[],[],[],[],[],[],[],[],[],[],0,0⟩=_:=h1
 rw [h1]
 simp only [ya,yb]
 have h2:=zln hr (l:=q.z0h) f6 f7 r.kd on.1 on.2
 unfold A0 at h2
 unfold zy6
 cases hh:zll r.mr q.z0h r.kd on.1 on.2 with
 | none =>
  rw [hh] at h2
  obtain ⟨a,h2⟩:=h2
  rw [h2]
  exact ⟨a,rfl⟩
 | some a =>
  rw [hh] at h2
  have h2:M.q2g r.toH q.z0h _=some (.ok a):=h2
  rw [h2]
  simp only [yb]
  have ew:r.toH.z5b=(r.wh:Int):=rfl
  have eq0:(((q.z0r.length:Int)=0))↔q.z0r=[]:=by
   rw [←List.length_eq_zero_iff]
   omega
  have hmust:(decide (r.toH.z5b=2)||decide ((q.z0r.length:Int)=0))=decide (r.wh=2∨q.z0r=[]):=by
   rw [ew,yl,yr,decide_eq_true_iff,decide_eq_true_iff,decide_eq_true_iff,eq0]
   constructor
   ·grind
   ·grind
  rw [hmust]
  by_cases c:r.wh=2∨q.z0r=[]
  ·rw [if_pos c]
   simp only [c,decide_true,z0c,yb]
   unfold zu6
   rcases zkb hr with w|w|w|w|w
   ·have ew0:r.toH.z5b=0:=by rw [ew,w];rfl
    simp only [ew0,w,decide_true,if_true]
    by_cases cb:q.z01=[]
    ·simp only [cb,decide_true,z0c,yb,if_true]
     rfl
    ·simp only [cb,decide_false,zu,yb,if_false]
     exact ⟨a,rfl⟩
   ·have ew0:r.toH.z5b=1:=by rw [ew,w];rfl
    have n0:¬((1:Int)=0):=by decide
    have n2:¬((1:Int)=2):=by decide
    simp only [ew0,w,n0,n2,decide_false,yn,if_false,decide_true,if_true]
    rw [zc3 (by omega)]
    simp only [yb]
    obtain ⟨ff1,ff2⟩:=zdw q.z01
    by_cases cb:(z25 q.z01).2=0
    ·simp only [cb,decide_true,z0c,yb,if_true]
     exact (zdy hr (by omega) ff1 a).ask
    ·simp only [cb,decide_false,zu,yb,if_false]
     exact ⟨a,rfl⟩
   ·have ew0:r.toH.z5b=2:=by rw [ew,w];rfl
    have n0:¬((2:Int)=0):=by decide
    simp only [ew0,w,n0,decide_false,yn,if_false,decide_true,if_true]
    by_cases cb:q.z01=[]
    ·simp only [cb,decide_true,z0c,yb,if_true]
     exact (zdy hr f4 f5 a).ask
    ·simp only [cb,decide_false,zu,yb,if_false]
     exact ⟨a,rfl⟩
   ·have ew0:r.toH.z5b=3:=by rw [ew,w];rfl
    have n0:¬((3:Int)=0):=by decide
    have n1:¬((3:Int)=1):=by decide
    have n2:¬((3:Int)=2):=by decide
    have n4:¬((3:Int)=4):=by decide
    simp only [ew0,w,n0,n1,n2,n4,decide_false,yn,if_false,decide_true,if_true]
    exact zlo hf a
   ·have ew0:r.toH.z5b=4:=by rw [ew,w];rfl
    have n0:¬((4:Int)=0):=by decide
    have n1:¬((4:Int)=1):=by decide
    have n2:¬((4:Int)=2):=by decide
    simp only [ew0,w,n0,n1,n2,decide_false,yn,if_false,decide_true,if_true]
    rfl
  ·rw [if_neg c]
   simp only [c,decide_false,zu,yb]
   exact ⟨a,rfl⟩
theorem zz06y {L:List Rw} (hL:∀ r∈L,zh3 r) (hl:L.length<1000) {q:q03} (hq:fit q) {f:Nat} (hf:34≤f):∀ (n i:Nat) (e:Int),L.length - i=n→i≤L.length→¬e=0 →
  ∃ z,M.z2z (L.map Rw.toH) q f e (i:Int)=some z∧((∃ a,zti q (L.drop i) e=(a,0)∧z = .done (a,0))∨∃ e',¬e'=0∧zti q (L.drop i) e=(zA,e')∧z = .go e'):=by
 intro n
 induction n with
 | zero =>
  intro i e hn hi he
  have:¬((i:Int)<((L.map Rw.toH).length:Int)):=by rw [yay];omega
  rw [M.z2z.eq_1,yae (by omega)]
  simp only [this,decide_false,yn,if_false]
  exact ⟨_,rfl,.inr ⟨e,he,rfl,rfl⟩⟩
 | succ n ih =>
  intro i e hn hi he
  have hlt:i<L.length:=by omega
  have h1:((i:Int)<((L.map Rw.toH).length:Int)):=by rw [yay];omega
  have hr:=hL _ (yaq hlt)
  rw [M.z2z.eq_1,yac hlt,zti]
  simp only [h1,decide_true,if_true,z4k,yap,yan hlt,ye,ya,yb]
  rw [w1 (by omega)]
  have hfi:=zdx hr (p:=q.z09) hq.2.1 (A0 0 [] [])
  cases hon:zby L[i].sg q.z09 [] [] with
  | none =>
   have e1:zby L[i].sg q.z09 (A0 0 [] []).gOf (A0 0 [] []).zo=none:=hon
   rw [e1] at hfi
   obtain ⟨x,hfi⟩:=hfi
   unfold A0 at hfi
   rw [hfi]
   simp only [yb,yp,if_true]
   exact ih (i+1) e (by omega) (by omega) he
  | some on =>
   have e1:zby L[i].sg q.z09 (A0 0 [] []).gOf (A0 0 [] []).zo=some on:=hon
   rw [e1] at hfi
   have hfi:M.q2d L[i].toH q.z09 (A0 0 [] [])=some (true,_):=hfi
   unfold A0 at hfi
   rw [hfi]
   simp only [yb,yq,yn,if_false]
   have em:L[i].toH.z8r=L[i].me:=rfl
   rw [em]
   by_cases cm:L[i].me=q.z02
   ·simp only [cm,decide_true,yq,yn,if_false,if_true]
    have ha:=zo2 hr hq hf hon
    cases hk:zy6 L[i] q on.1 on.2 with
    | some a =>
     rw [hk] at ha
     have ha:M.q2c f L[i].toH q=some (a,0):=ha
     grind
    | none =>
     rw [hk] at ha
     obtain ⟨a,ha⟩:=ha
     rw [ha]
     have n0:¬((227:Int)=0):=by decide
     simp only [yb,n0,decide_false,yn,if_false]
     exact ih (i+1) 227 (by omega) (by omega) n0
   ·simp only [cm,decide_false,yp,if_true,if_false]
    by_cases c5:e=225
    ·simp only [c5,decide_true,if_true]
     exact ih (i+1) 226 (by omega) (by omega) (by decide)
    ·simp only [c5,decide_false,yn,if_false]
     exact ih (i+1) e (by omega) (by omega) he
theorem zfw {q:q03} (hq:fit q) {f:Nat} (hf:34≤f):M.q0r f q=some (askH q):=by
 unfold M.q0r askH
 rw [zlp]
 simp only [ya,yb]
 obtain ⟨z,hz,hc⟩:=zz06y (L:=tab) (fun r hr=>zpj hr) (by decide) hq hf _ 0 225 rfl (ybq _) (by decide)
 have hz:M.z2z (tab.map Rw.toH) q f 225 0=some z:=hz
 rw [yah] at hc
 rw [hz]
 rcases hc with ⟨a,h1,rfl⟩|⟨e,_,h1,rfl⟩
 ·grind
 ·rw [h1]
  rfl
theorem zsb (l:List q05) (h:(form l).2=0):form l=(z74 l,0)∧(z74 l).length≤8192:=by
 unfold form at h ⊢
 split at h
 ·simp at h
 ·split at h
  ·simp at h
  ·rename_i h1 h2
   rw [if_neg h1,if_neg h2]
   exact ⟨rfl,by omega⟩
theorem zjh {q:q03} (h:fit q):M.q0u q=some (zwt q):=by
 obtain ⟨f1,f2,f3,f4,f5,f6,f7,f8⟩:=h
 unfold M.q0u
 rw [zj0 f4 f5]
 simp only [ya,yb,zaz]
 have hh:=zji (l:=q.z0h) (by omega) f7
 rw [hh]
 have cond:∀ t:Option (Z × Int),((if (!decide ((form q.z0r).2=0))=true then some true else some (!zcj q.z02)).bind fun j27=>(if ((j27||decide ((q.z09.length:Int)=0))||decide (64<(q.z09.length:Int)))=true then some true else (some (zdd q.z0h)).bind fun a38=>some (!a38)).bind fun j37=>if ((j37||(decide ((q.z0h.length:Int)=32) && !decide (q.z01=([]:Z))))||decide (16384<(q.z01.length:Int)))=true then some (([]:Z),(224:Int)) else t)=if (!zx6 q)=true then some ([],224) else t:=by
  intro t
  have e1:decide ((q.z09.length:Int)=0) = !decide (1≤q.z09.length):=by
   by_cases c:1≤q.z09.length
   ·have:¬((q.z09.length:Int)=0):=by omega
    rw [decide_eq_false this,decide_eq_true c];rfl
   ·have:((q.z09.length:Int)=0):=by omega
    rw [decide_eq_true this,decide_eq_false c];rfl
  have e2:decide (64<(q.z09.length:Int)) = !decide (q.z09.length≤64):=by
   by_cases c:q.z09.length≤64
   ·have:¬(64<(q.z09.length:Int)):=by omega
    simp [c,this]
   ·have:(64<(q.z09.length:Int)):=by omega
    simp [c,this]
  have e3:decide ((q.z0h.length:Int)=32)=decide (q.z0h.length=32):=decide_eq_decide.2 (by omega)
  have e4:decide (16384<(q.z01.length:Int)) = !decide (q.z01.length≤16384):=by
   by_cases c:q.z01.length≤16384
   ·have:¬(16384<(q.z01.length:Int)):=by omega
    simp [c,this]
   ·have:(16384<(q.z01.length:Int)):=by omega
    simp [c,this]
  unfold zx6
  rw [e1,e2,e3,e4]
  cases decide ((form q.z0r).2=0)<;>cases zcj q.z02<;>cases decide (1≤q.z09.length)<;>cases decide (q.z09.length≤64)<;>cases zdd q.z0h<;>cases decide (q.z0h.length=32)<;>cases decide (q.z01=([]:Z))<;>cases decide (q.z01.length≤16384)<;>rfl
 rw [cond]
 unfold zwt
 cases hk:zx6 q with
 | false=>rfl
 | true =>
  simp only [yq,yn,if_false,if_true]
  have hk2:=hk
  unfold zx6 at hk2
  simp only [yg,decide_eq_true_eq] at hk2
  obtain ⟨⟨⟨⟨⟨⟨k1,k2⟩,k3⟩,k4⟩,k5⟩,k6⟩,k7⟩:=hk2
  obtain ⟨g1,g2⟩:=zsb _ k1
  have hm8:q.z02.length≤8:=by unfold zcj at k2;simp at k2;omega
  have hl32:q.z0h.length≤32:=by
   unfold zdd at k5
   split at k5
   ·simp at k5;omega
   ·cases k5
  rw [z9i (by simp;omega)]
  simp only [yb]
  have w0:=z1g (a:=[]) (b:=q.z02++[32]) (by simp;omega)
  have w0:M.q7b [] (q.z02++[32])=_:=w0
  rw [w0]
  simp only [yb,ya4]
  have p1:=zz00g k4 f3 _ 0 (q.z02++[32]) rfl (ybq _) (by simp;omega)
  rw [yah] at p1
  have p1a:M.z3h q 0 (unb (q.z02++[32]))=_:=p1.1
  rw [p1a]
  simp only [yb,g1]
  have hb1:(zej q.z09).length≤26100000000:=by
   have:=p1.2
   simp only [yav] at this
   have:q.z09.length*400000000≤64*400000000:=ybl _ k4
   omega
  have hq:(if (!decide (z74 q.z0r=([]:Z)))=true then (cat [63] (z74 q.z0r)).bind fun s98=>(M.q7b (unb (q.z02++[32]++zej q.z09)) s98).bind fun a99=>some a99.2 else some (unb (q.z02++[32]++zej q.z09)))=some (unb (q.z02++[32]++zej q.z09++(if z74 q.z0r=[] then [] else 63::z74 q.z0r))):=by
   by_cases c:z74 q.z0r=[]
   ·simp [c]
   ·have e1:cat [63] (z74 q.z0r)=some (63::z74 q.z0r):=z9i (a:=[63]) (by simp;omega)
    rw [if_pos (by simp [c]),e1,if_neg c]
    simp only [yb]
    rw [z1g (by simp;omega)]
    rfl
  rw [hq]
  simp only [yb]
  have hb2:(if z74 q.z0r=[] then ([]:Z) else 63::z74 q.z0r).length≤8193:=by
   split
   ·simp
   ·simp;omega
  obtain ⟨u,hu⟩:∃ u,q.z02++[32]++zej q.z09++(if z74 q.z0r=[] then [] else 63::z74 q.z0r)=u:=⟨_,rfl⟩
  have hul:u.length≤26200000000:=by rw [←hu];simp only [yav,List.length_singleton];omega
  rw [hu,z1g (by simp;omega)]
  simp only [yb]
  have p2:=zz00h hl32 f7 _ 0 (u++[32,72,84,84,80,47,49,46,49,13,10]) rfl (ybq _) (by simp;omega)
  rw [yah] at p2
  have p2a:M.z3j q 0 (unb (u++[32,72,84,84,80,47,49,46,49,13,10]))=_:=p2.1
  rw [p2a]
  simp only [yb]
  obtain ⟨v,hv⟩:∃ v,u++[32,72,84,84,80,47,49,46,49,13,10]++zo0 q.z0h=v:=⟨_,rfl⟩
  have hvl:v.length≤73000000000:=by
   have h1:=p2.2
   rw [hv] at h1
   have:q.z0h.length*400000000≤32*400000000:=ybl _ hl32
   omega
  rw [hv]
  have hd5:=zj5 (n:=q.z01.length) (k:=5) (by omega) (by decide)
  have hc:(if (!decide (q.z01=([]:Z)))=true then (M.itoa (q.z01.length:Int)).bind fun a159=>(cat B25 a159).bind fun s161=>(cat s161 [13,10]).bind fun s162=>(M.q7b (unb v) s162).bind fun a163=>some a163.2 else some (unb v))=some (unb (v++(if q.z01=[] then [] else clS q.z01.length))):=by
   by_cases c:q.z01=[]
   ·simp [c]
   ·rw [if_pos (by simp [c]),if_neg c,zz01e (by omega)]
    simp only [yb]
    rw [z9i (by simp;omega)]
    simp only [yb]
    rw [z9i (by simp;omega)]
    simp only [yb]
    rw [z1g (by simp;omega)]
    rfl
  rw [hc]
  simp only [yb]
  have hb3:(if q.z01=[] then ([]:Z) else clS q.z01.length).length≤100:=by
   split
   ·simp
   ·unfold clS;simp;omega
  rw [z1g (by simp;omega)]
  simp only [yb]
  have hr:v++(if q.z01=[] then [] else clS q.z01.length)++[13,10]=za2 q:=by rw [←hv,←hu];rfl
  rw [hr]
  have hlen:M.q79 (unb (za2 q))=some ((za2 q).length:Int):=by
   unfold M.q79
   simp [z04]
  rw [hlen]
  simp only [yb]
  by_cases h8:8192<(za2 q).length
  ·have:(8192:Int)<((za2 q).length:Int):=by omega
   simp [h8,this]
  ·have:¬(8192:Int)<((za2 q).length:Int):=by omega
   simp only [this,h8,decide_false,yn,if_false,z3a,yb]
   rw [z9i (by omega)]
   rfl
theorem Le.of {α:Type} {c:Prop} [Decidable c] {a:α} {b:Option α} (h:c→b=some a):Le (if c then some a else Option.none) b:=by
 split
 ·rename_i k
  rw [h k]
  exact Le.refl _
 ·exact Le.none _
def fitB (q:q03):Bool:=decide (q.z02.length<100000000)&&decide (q.z09.length<100000000)&&q.z09.all (fun p=>decide (p.length<100000000))&&decide (q.z0r.length<100000000)&&q.z0r.all (fun p=>decide (p.zo.length<100000000)&&decide (p.z3g.length<100000000))&&decide (q.z0h.length<100000000)&&q.z0h.all (fun p=>decide (p.zo.length<100000000)&&decide (p.z3g.length<100000000))&&decide (q.z01.length<100000000)
theorem zv0 {q:q03} (h:fitB q=true):fit q:=by
 unfold fitB at h
 simp only [yg,decide_eq_true_eq,yv] at h
 obtain ⟨⟨⟨⟨⟨⟨⟨h1,h2⟩,h3⟩,h4⟩,h5⟩,h6⟩,h7⟩,h8⟩:=h
 exact ⟨h1,h2,h3,h4,h5,h6,h7,h8⟩
def MF.q0s (_:Nat) (s:Z):Option (q03 × Int × Int):=if s.length<1000000000 then some ((zgc s).1,(((zgc s).2.1:Nat):Int),(zgc s).2.2) else none
theorem MF.q0s.le (n:Nat) (s:Z):Le (MF.q0s n s) (M.q0s s):=Le.of fun h=>zjg h
def MF.q0r (_ f:Nat) (q:q03):Option (q00 × Int):=if fitB q=true∧34≤f then some (askH q) else none
theorem MF.q0r.le (n f:Nat) (q:q03):Le (MF.q0r n f q) (M.q0r f q):=Le.of fun h=>zfw (zv0 h.1) h.2
def MF.q0u (_:Nat) (q:q03):Option (Z × Int):=if fitB q=true then some (zwt q) else none
theorem MF.q0u.le (n:Nat) (q:q03):Le (MF.q0u n q) (M.q0u q):=Le.of fun h=>zjh (zv0 h)
def MF.q3e (_ f:Nat) (v:J):Option (Z × Int):=if 17≤f∧v.sz<1000000000 then some (print v) else none
theorem MF.q3e.le (n f:Nat) (v:J):Le (MF.q3e n f v) (M.q3e f v):=Le.of fun h=>zjm h.1 h.2
def MF.q3d (_ f:Nat) (s:Z):Option (J × Int):=if 34≤f then some (parse s) else none
theorem MF.q3d.le (n f:Nat) (s:Z):Le (MF.q3d n f s) (M.q3d f s):=Le.of fun h=>zcm s h
theorem zkq (n:Nat):∀ (k i:Nat),i<k→(z6g k n)[i]? = some (n.testBit (k - 1 - i))
 | 0,i,h=>by omega
 | k+1,0,_=>by simp [z6g]
 | k+1,i+1,h=>by
  rw [z6g,yam,zkq n k i (by omega)]
  congr 2
  omega
theorem zko:∀ (s:Z) (i:Nat) (h:i / 8<s.length),(z8h s)[i]? = some (s[i / 8].toNat.testBit (7 - i % 8))
 | [],i,h=>by simp at h
 | c::s,i,h=>by
  rw [zd6]
  by_cases h8:i<8
  ·have e:i / 8=0:=by omega
   rw [yak (by rw [z3b];omega),zkq _ _ _ h8]
   simp only [e,List.getElem_cons_zero]
   congr 2
   omega
  ·have e:i / 8=(i - 8) / 8+1:=by omega
   have h2:(i - 8) / 8<s.length:=by rw [yaw] at h;omega
   rw [yal (by rw [z3b];omega),z3b,zko s (i - 8) h2]
   simp only [e,List.getElem_cons_succ]
   congr 2
   omega
theorem zz034:∀ (c:UInt8),((List.range 8).all fun k=>decide (z7a .i64 (ybu .i64 (zdm .u8 (c.toNat:Int) (k:Int))) 1=((c.toNat.testBit k).toNat:Int)))=true:=z5t (by decide +kernel)
theorem zsz {s:Z} (hs:s.length<100000000) {i:Nat} (hi:i<1000000000):M.q4h s (i:Int)=some ((((z8h s)[i]?.getD false).toNat:Nat):Int):=by
 unfold M.q4h
 have hw:ybu .i64 (8*(s.length:Int))=((8*s.length:Nat):Int):=by rw [w64 (by omega) (by omega)];omega
 rw [hw]
 by_cases h:8*s.length≤i
 ·have h':(((8*s.length:Nat):Int)≤(i:Int)):=by omega
  rw [yao (by rw [zkp];omega)]
  simp only [h',decide_true,if_true]
  rfl
 ·have h':¬(((8*s.length:Nat):Int)≤(i:Int)):=by omega
  have h2:i / 8<s.length:=by omega
  have ed:ybu .i64 (Int.tdiv (i:Int) 8)=((i / 8:Nat):Int):=by
   rw [Int.tdiv_eq_ediv_of_nonneg (by omega),w64 (by omega) (by omega)]
   omega
  have em:ybu .i64 (7 - Int.tmod (i:Int) 8)=((7 - i % 8:Nat):Int):=by
   rw [Int.tmod_eq_emod_of_nonneg (by omega),w64 (by omega) (by omega)]
   omega
  simp only [h',decide_false,yn,if_false,ed,em,z4k,yan h2,ya,yb]
  rw [z3y (by rw [decide_eq_true_iff];omega),zko s i h2]
  have:=yv.1 (zz034 s[i / 8]) (7 - i % 8) (ya2.2 (by omega))
  rw [decide_eq_true_eq] at this
  simp only [yb,yc,this]
theorem zz05k {B:List Bool} (k j:Nat) (hj:j<6):(znd ((B.drop k).take 6))[j]? = some (B[k+j]?.getD false):=by
 unfold znd
 by_cases h:k+j<B.length
 ·have hl:j<((B.drop k).take 6).length:=by rw [ya1,yax];omega
  rw [yak hl,List.getElem?_take_of_lt hj,List.getElem?_drop,yan h]
  rfl
 ·have hl:((B.drop k).take 6).length≤j:=by rw [ya1,yax];omega
  rw [yal hl,yao (show B.length≤k+j by omega),List.getElem?_replicate,if_pos (by rw [ya1,yax] at hl ⊢;omega)]
  rfl
theorem zrd {l:List Bool} (h:l.length≤6):(znd l).length=6:=by
 unfold znd
 rw [yav,List.length_replicate]
 omega
theorem zz058 {s:Z} (hs:s.length<100000000) {k:Nat} (hk:k<900000000):∀ (m j v:Nat),6 - j=m→j≤6→v<2 ^ j →
  M.z3m s (k:Int) (v:Int) (j:Int)=some ((((znd (((z8h s).drop k).take 6)).drop j).foldl (fun n b=>2*n+b.toNat) v:Nat):Int):=by
 have hpl:(znd (((z8h s).drop k).take 6)).length=6:=zrd (by rw [ya1];omega)
 intro m
 induction m with
 | zero =>
  intro j v hm hj hv
  obtain rfl:j=6:=by omega
  rw [M.z3m.eq_1,yae (by omega)]
  simp
 | succ m ih =>
  intro j v hm hj hv
  have hlt:j<6:=by omega
  have h1:((j:Int)<6):=by omega
  have hj6:j<(znd (((z8h s).drop k).take 6)).length:=by omega
  have hg:=zz05k (B:=z8h s) k j hlt
  rw [yan hj6] at hg
  injection hg with hg
  have hp6:2 ^ j≤2 ^ 6:=ybn (by decide) (by omega)
  have hb1:((z8h s)[k+j]?.getD false).toNat≤1:=Bool.toNat_le _
  rw [M.z3m.eq_1,yac hj6,yaj,hg]
  simp only [h1,decide_true,if_true]
  rw [wadd (by omega),zsz hs (by omega)]
  simp only [ya,yb]
  have e:ybu .i64 (ybu .i64 (2*(v:Int))+((((z8h s)[k+j]?.getD false).toNat:Nat):Int))=((2*v+((z8h s)[k+j]?.getD false).toNat:Nat):Int):=by
   rw [w64 (x:=2*(v:Int)) (by omega) (by omega),w64 (by omega) (by omega)]
   omega
  rw [e,w1 (by omega)]
  exact ih (j+1) _ (by omega) (by omega) (by rw [ybo];omega)
theorem zz057 {s:Z} (hs:s.length<100000000):∀ (m k:Nat) (acc:Z),(8*s.length - k+5) / 6=m→k≤8*s.length+5→acc.length≤k →
  M.z3l s (unb acc) (k:Int)=some (unb (acc++zl6 m ((z8h s).drop k))):=by
 intro m
 have hw:ybu .i64 (8*(s.length:Int))=((8*s.length:Nat):Int):=by rw [w64 (by omega) (by omega)];omega
 induction m with
 | zero =>
  intro k acc hm hk ha
  have:¬((k:Int)<((8*s.length:Nat):Int)):=by omega
  rw [M.z3l.eq_1,hw]
  simp only [this,decide_false,yn,if_false,zl6,yx]
 | succ m ih =>
  intro k acc hm hk ha
  have h1:((k:Int)<((8*s.length:Nat):Int)):=by omega
  have hpl:(znd (((z8h s).drop k).take 6)).length=6:=zrd (by rw [ya1];omega)
  have hpv:=ziu (znd (((z8h s).drop k).take 6))
  rw [hpl] at hpv
  have h2:=zz058 hs (k:=k) (by omega) _ 0 0 rfl (ybq _) (by decide)
  rw [yah] at h2
  have h2:M.z3m s (k:Int) 0 0=some ((bv (znd (((z8h s).drop k).take 6)):Nat):Int):=h2
  rw [M.z3l.eq_1,hw,zjt]
  simp only [h1,decide_true,if_true,h2,ya,yb,zz041 hpv]
  rw [zh1,z36 (by rw [z04,z04];simp;omega),←z2w]
  simp only [yb]
  have e:ybu .i64 ((k:Int)+6)=((k+6:Nat):Int):=by rw [w64 (by omega) (by omega)];omega
  rw [e,ih (k+6) _ (by omega) (by omega) (by simp;omega),yw,zl6,yab]
  rfl
theorem zjx {s:Z} (hs:s.length<100000000):M.q46 s=some (b64E s):=by
 unfold M.q46 b64E
 have h:=zz057 hs _ 0 [] rfl (ybq _) (ybi _)
 have h:M.z3l s [] 0=_:=h
 rw [h]
 simp only [ya,yb,ya4,yah,Nat.sub_zero,z8i]
def zvv (c:UInt8):Int→Nat→Z→Int
 | v,_,[]=>v
 | v,j,x::r=>zvv c (if x=c then (j:Int) else v) (j+1) r
theorem zvw:∀ c:UInt8,decide (zvv c (-1) 0 zr3=match unl c with|some n=>(n:Int)|none => -1)=true:=z5t (by decide +kernel)
theorem zz08h {s:Z} {i:Nat} {c:UInt8} (hc:s[i]? = some c):∀ (m j:Nat) (v:Int),64 - j=m→j≤64→M.z1k s (i:Int) v (j:Int)=some (zvv c v j (zr3.drop j)):=by
 have hll:zr3.length=64:=rfl
 intro m
 induction m with
 | zero =>
  intro j v hm hj
  obtain rfl:j=64:=by omega
  rw [M.z1k.eq_1,yae (by omega)]
  simp [zvv]
 | succ m ih =>
  intro j v hm hj
  have hlt:j<zr3.length:=by omega
  have h1:((j:Int)<64):=by omega
  rw [M.z1k.eq_1,zjt,yac hlt]
  simp only [h1,decide_true,if_true,z4k,yan hlt,hc,ya,yb,w1 (show j<4611686018427387904 by omega)]
  have hb:((zr3[j].toNat:Int)=(c.toNat:Int))↔zr3[j]=c:=⟨fun e=>ybw.1 (by omega),fun e=>by rw [e]⟩
  rw [zvv]
  by_cases h:zr3[j]=c
  ·rw [if_pos (by simpa using hb.2 h),if_pos h]
   exact ih (j+1) _ (by omega) (by omega)
  ·rw [if_neg (by simpa using fun q=>h (hb.1 q)),if_neg h]
   exact ih (j+1) _ (by omega) (by omega)
def bI (l:List Bool):List Int:=l.map fun b=>((b.toNat:Nat):Int)
theorem zz071 (a b:List Bool):bI (a++b)=bI a++bI b:=by simp [bI]
theorem zu5 (l:List Bool):(bI l).length=l.length:=by simp [bI]
theorem zyn:∀ n:Fin 64,((List.range 6).all fun k=>decide (z7a .i64 (zdm .i64 ((n.val:Nat):Int) (k:Int)) 1=((n.val.testBit k).toNat:Int)))=true:=by decide +kernel
theorem zz08i {n:Nat} (hn:n<64):∀ (j:Nat) (acc:List Bool),j≤6→acc.length+j<10000000000→M.z1w (n:Int) (bI acc) ((j:Int) - 1)=some (.go (bI (acc++z6g j n))):=by
 intro j
 induction j with
 | zero =>
  intro acc _ _
  rw [M.z1w.eq_1]
  simp [z6g]
 | succ j ih =>
  intro acc hj ha
  have e:(((j+1:Nat):Int) - 1)=(j:Int):=by omega
  have h0:(0:Int)≤(j:Int):=by omega
  have ht:=yv.1 (zyn ⟨n,hn⟩) j (ya2.2 (by omega))
  rw [decide_eq_true_eq] at ht
  simp only at ht
  rw [M.z1w.eq_1,e]
  simp only [h0,decide_true,if_true,z3y rfl,ya,yb,ht]
  rw [z36 (by rw [zu5];simp;omega)]
  simp only [yb]
  have e2:bI acc++[(((n.testBit j).toNat:Nat):Int)]=bI (acc++[n.testBit j]):=by rw [zz071];rfl
  have e3:ybu .i64 ((j:Int) - 1)=(j:Int) - 1:=w64 (by omega) (by omega)
  rw [e2,e3,ih _ (by omega) (by simp;omega),yw]
  rfl
theorem zz08g {s:Z} (hs:s.length<100000000):∀ (t:Z) (i:Nat) (acc:List Bool),s.drop i=t→i≤s.length→acc.length≤6*i →
  M.z1v s (bI acc) (i:Int)=some (match zn8 t with|none => .done ([],11)|some l => .go (bI (acc++z5h l))):=by
 intro t
 induction t with
 | nil =>
  intro i acc ht hi ha
  have hi2:s.length≤i:=yad.1 ht
  have:¬((i:Int)<(s.length:Int)):=by omega
  rw [M.z1v.eq_1]
  simp [this,zn8,z5h]
 | cons c t ih =>
  intro i acc ht hi ha
  obtain ⟨hlt,hc,hd⟩:=drop_cons ht
  have h1:((i:Int)<(s.length:Int)):=by omega
  have h2:=zz08h hc _ 0 (-1) rfl (by decide)
  rw [yah,of_decide_eq_true (zvw c)] at h2
  have h2:M.z1k s (i:Int) (-1) 0=_:=h2
  rw [M.z1v.eq_1]
  simp only [h1,decide_true,if_true,h2,ya,yb]
  rw [zn9]
  cases hu:unl c with
  | none=>simp
  | some n =>
   have hn:=(zka hu).1
   have hx0:¬((n:Int)<0):=by omega
   have h3:=zz08i hn 6 acc (ybi _) (by omega)
   have h3:M.z1w (n:Int) (bI acc) 5=_:=h3
   simp only [hx0,decide_false,yn,if_false,h3,yb]
   rw [w1 (by omega),ih (i+1) _ hd (by omega) (by rw [yav,z3b];omega)]
   cases zn8 t with
   | none=>rfl
   | some l=>simp only [za9,yw]
theorem zz08k {B:List Bool} {k:Nat} (hk:k+8≤B.length) (hB:B.length<1000000000):∀ (m j v:Nat),8 - j=m→j≤8→v<2 ^ j →
  M.z1y (bI B) (k:Int) (v:Int) (j:Int)=some (((((B.drop k).take 8).drop j).foldl (fun n b=>2*n+b.toNat) v:Nat):Int):=by
 have hpl:((B.drop k).take 8).length=8:=by rw [ya1,yax];omega
 intro m
 induction m with
 | zero =>
  intro j v hm hj hv
  obtain rfl:j=8:=by omega
  rw [M.z1y.eq_1,yae (by omega)]
  simp
 | succ m ih =>
  intro j v hm hj hv
  have hlt:j<8:=by omega
  have h1:((j:Int)<8):=by omega
  have hj6:j<((B.drop k).take 8).length:=by omega
  have hkj:k+j<B.length:=by omega
  have hg:((B.drop k).take 8)[j]=B[k+j]:=by rw [List.getElem_take,List.getElem_drop]
  have hp6:2 ^ j≤2 ^ 8:=ybn (by decide) (by omega)
  have hb1:B[k+j].toNat≤1:=Bool.toNat_le _
  have hx:ix (bI B) ((k+j:Nat):Int)=some ((B[k+j].toNat:Nat):Int):=by rw [z4k];unfold bI;rw [yap,yan hkj];rfl
  rw [M.z1y.eq_1,yac hj6,yaj,hg]
  simp only [h1,decide_true,if_true,wadd (show k+j<4611686018427387904 by omega),hx,ya,yb]
  have e:ybu .i64 (ybu .i64 (2*(v:Int))+((B[k+j].toNat:Nat):Int))=((2*v+B[k+j].toNat:Nat):Int):=by
   rw [w64 (x:=2*(v:Int)) (by omega) (by omega),w64 (by omega) (by omega)]
   omega
  rw [e,w1 (by omega)]
  exact ih (j+1) _ (by omega) (by omega) (by rw [ybo];omega)
theorem zz08j {B:List Bool} (hB:B.length<1000000000):∀ (m k:Nat) (acc:Z),(B.length - k) / 8=m→k≤B.length→acc.length≤k →
  M.z1x (bI B) (unb acc) (k:Int)=some (unb (acc++zl1 m (B.drop k))):=by
 intro m
 induction m with
 | zero =>
  intro k acc hm hk ha
  have hw:ybu .i64 ((k:Int)+8)=((k+8:Nat):Int):=by rw [w64 (by omega) (by omega)];omega
  have:¬(((k+8:Nat):Int)≤((bI B).length:Int)):=by rw [zu5];omega
  rw [M.z1x.eq_1,hw]
  simp only [this,decide_false,yn,if_false,zl1,yx]
 | succ m ih =>
  intro k acc hm hk ha
  have hw:ybu .i64 ((k:Int)+8)=((k+8:Nat):Int):=by rw [w64 (by omega) (by omega)];omega
  have h1:(((k+8:Nat):Int)≤((bI B).length:Int)):=by rw [zu5];omega
  have h2:=zz08k (B:=B) (k:=k) (by omega) hB _ 0 0 rfl (ybq _) (by decide)
  rw [yah] at h2
  have h2:M.z1y (bI B) (k:Int) 0 0=some ((bv ((B.drop k).take 8):Nat):Int):=h2
  have hb:=ziu ((B.drop k).take 8)
  rw [show ((B.drop k).take 8).length=8 by rw [ya1,yax];omega] at hb
  rw [M.z1x.eq_1,hw]
  simp only [h1,decide_true,if_true,h2,ya,yb]
  rw [znc hb,zh1,z36 (by rw [z04,z04];simp;omega),←z2w]
  simp only [yb]
  rw [ih (k+8) _ (by omega) (by omega) (by simp;omega),yw,zl1,yab]
  rfl
theorem zdk {s:Z} (hs:s.length<100000000):M.q4b s=some (match zyl s with|some t=>(t,0)|none=>([],11)):=by
 unfold M.q4b
 have h:=zz08g hs s 0 [] rfl (ybq _) (ybi _)
 have h:M.z1v s [] 0=_:=h
 rw [h]
 unfold zyl
 cases hu:zn8 s with
 | none=>rfl
 | some l =>
  have hl:=(zfc s l hu).2
  have h4:=zz08j (B:=z5h l) (by rw [z7x];omega) _ 0 [] rfl (ybq _) (ybi _)
  rw [Nat.sub_zero,z7x,yah,ya4] at h4
  have h4:M.z1x (bI (z5h l)) [] 0=_:=h4
  have hi:=zz032 hu
  simp only [ya4,ya,yb,h4,z8i]
  rw [zjx (by rw [zj4];omega)]
  simp only [yb]
  by_cases ht:zn3 ((z5h l).drop (8*(6*l.length / 8)))=true
  ·simp [ht,hi.2 ht]
  ·have:¬b64E (zl1 (6*l.length / 8) (z5h l))=s:=fun q=>ht (hi.1 q)
   simp [ht,this]
section
set_option maxRecDepth 1000000
noncomputable section
def MB.z1c (n:Nat) (ih:Z→(Int)→(List Z)→(Int)→(Int)→Option (List Z)) (p0:Z) (p1:Int) (x30:List Z) (x31:Int) (x32:Int):Option (List Z):=do
 if (decide (x32≤(p0.length:Int))) then
  let j41←(do
    if (decide (x32=(p0.length:Int))) then
     some true
    else
     let c42←ix p0 x32
     some (decide ((c42.toNat:Int)=p1)):Option Bool)
  if j41 then
   let s43←sub p0 x31 x32
   let l44←app 16 x30 [s43]
   ih p0 p1 l44 (ybu .i64 (x32+1)) (ybu .i64 (x32+1))
  else
   ih p0 p1 x30 x31 (ybu .i64 (x32+1))
 else
  some x30
def MF.z1c (n:Nat):=rc MB.z1c (fun _ _ _ _ _=>none) n
theorem MF.z1c.le:∀ (n:Nat) (p0:Z) (p1:Int) (x30:List Z) (x31:Int) (x32:Int),Le (MF.z1c n p0 p1 x30 x31 x32) (M.z1c p0 p1 x30 x31 x32):=by
 intro n;induction n with
 | zero=>intros;exact Le.none _
 | succ n ih =>
  intro p0 p1 x30 x31 x32
  show Le (MB.z1c n (MF.z1c n) p0 p1 x30 x31 x32) _
  rw [M.z1c];unfold MB.z1c
  repeat' first|with_reducible first|apply Le.none|apply Le.refl|apply ih|apply Le.jn|apply Le.rs|apply Le.rb|apply Le.bind|apply Le.ite|intro _|dsimp only|split
def MF.q5z (n:Nat) (p0:Z) (p1:Int):Option (List Z):=do
 let j23←(do
   MF.z1c n p0 p1 ([]:List Z) 0 0:Option (List Z))
 some j23
theorem MF.q5z.le (n:Nat) (p0:Z) (p1:Int):Le (MF.q5z n p0 p1) (M.q5z p0 p1):=by
 unfold MF.q5z M.q5z
 repeat' first|with_reducible first|apply Le.none|apply Le.refl|apply MF.z1c.le n|apply Le.jn|apply Le.rs|apply Le.rb|apply Le.bind|apply Le.ite|intro _|dsimp only|split
def MB.z11 (n:Nat) (ih:Z→Option Z) (x24:Z):Option Z:=do
 let j32←(do
   if (!decide (x24=[])) then
    let c33←ix x24 0
    some (decide ((c33.toNat:Int)=32))
   else
    some false:Option Bool)
 if j32 then
  let s34←sub x24 1 (x24.length:Int)
  ih s34
 else
  some x24
def MF.z11 (n:Nat):=rc MB.z11 (fun _=>none) n
theorem MF.z11.le:∀ (n:Nat) (x24:Z),Le (MF.z11 n x24) (M.z11 x24):=by
 intro n;induction n with
 | zero=>intros;exact Le.none _
 | succ n ih =>
  intro x24
  show Le (MB.z11 n (MF.z11 n) x24) _
  rw [M.z11];unfold MB.z11
  repeat' first|with_reducible first|apply Le.none|apply Le.refl|apply ih|apply Le.jn|apply Le.rs|apply Le.rb|apply Le.bind|apply Le.ite|intro _|dsimp only|split
def MB.z13 (n:Nat) (ih:Z→Option Z) (x74:Z):Option Z:=do
 let j90←(do
   if (!decide (x74=[])) then
    let c91←ix x74 (ybu .i64 ((x74.length:Int) - 1))
    some (decide ((c91.toNat:Int)=32))
   else
    some false:Option Bool)
 if j90 then
  let s92←sub x74 0 (ybu .i64 ((x74.length:Int) - 1))
  ih s92
 else
  some x74
def MF.z13 (n:Nat):=rc MB.z13 (fun _=>none) n
theorem MF.z13.le:∀ (n:Nat) (x74:Z),Le (MF.z13 n x74) (M.z13 x74):=by
 intro n;induction n with
 | zero=>intros;exact Le.none _
 | succ n ih =>
  intro x74
  show Le (MB.z13 n (MF.z13 n) x74) _
  rw [M.z13];unfold MB.z13
  repeat' first|with_reducible first|apply Le.none|apply Le.refl|apply ih|apply Le.jn|apply Le.rs|apply Le.rb|apply Le.bind|apply Le.ite|intro _|dsimp only|split
def MF.q5w (n:Nat) (p0:Z):Option Z:=do
 let j18←(do
   MF.z11 n p0:Option Z)
 let j64←(do
   MF.z13 n j18:Option Z)
 some j64
theorem MF.q5w.le (n:Nat) (p0:Z):Le (MF.q5w n p0) (M.q5w p0):=by
 unfold MF.q5w M.q5w
 repeat' first|with_reducible first|apply Le.none|apply Le.refl|apply MF.z11.le n|apply MF.z13.le n|apply Le.jn|apply Le.rs|apply Le.rb|apply Le.bind|apply Le.ite|intro _|dsimp only|split
def MB.z0e (n:Nat) (ih:Z→(Int)→(Int)→Option (Jn (Z × Z × Bool) Unit)) (p0:Z) (p1:Int) (x15:Int):Option (Jn (Z × Z × Bool) Unit):=do
 if (decide (x15<(p0.length:Int))) then
  let c19←ix p0 x15
  if (decide ((c19.toNat:Int)=p1)) then
   let s20←sub p0 0 x15
   let s21←sub p0 (ybu .i64 (x15+1)) (p0.length:Int)
   some (.done (s20,s21,true))
  else
   ih p0 p1 (ybu .i64 (x15+1))
 else
  some (.go ())
def MF.z0e (n:Nat):=rc MB.z0e (fun _ _ _=>none) n
theorem MF.z0e.le:∀ (n:Nat) (p0:Z) (p1:Int) (x15:Int),Le (MF.z0e n p0 p1 x15) (M.z0e p0 p1 x15):=by
 intro n;induction n with
 | zero=>intros;exact Le.none _
 | succ n ih =>
  intro p0 p1 x15
  show Le (MB.z0e n (MF.z0e n) p0 p1 x15) _
  rw [M.z0e];unfold MB.z0e
  repeat' first|with_reducible first|apply Le.none|apply Le.refl|apply ih|apply Le.jn|apply Le.rs|apply Le.rb|apply Le.bind|apply Le.ite|intro _|dsimp only|split
def MF.q67 (n:Nat) (p0:Z) (p1:Int):Option (Z × Z × Bool):=do
 let q11←(do
   MF.z0e n p0 p1 0:Option (Jn (Z × Z × Bool) Unit))
 match q11 with
 | .done r=>some r
 | .go j11 =>
  some (p0,[],false)
theorem MF.q67.le (n:Nat) (p0:Z) (p1:Int):Le (MF.q67 n p0 p1) (M.q67 p0 p1):=by
 unfold MF.q67 M.q67
 repeat' first|with_reducible first|apply Le.none|apply Le.refl|apply MF.z0e.le n|apply Le.jn|apply Le.rs|apply Le.rb|apply Le.bind|apply Le.ite|intro _|dsimp only|split
def MB.z0z (n:Nat) (ih:((List Z))→(List q0f)→(Int)→Option (List q0f)) (a1:(List Z)) (x55:List q0f) (x56:Int):Option (List q0f):=do
 if (decide (x56<(a1.length:Int))) then
  let x69←ix a1 x56
  let a70←MF.q5w n x69
  let a72←MF.q5z n a70 32
  if (decide ((a72.length:Int)=1)) then
   let x74←ix a72 0
   let a75←MF.q67 n x74 61
   let l77←app 56 x55 [(q0f.mk a75.1 [] a75.2.1 false)]
   ih a1 l77 (ybu .i64 (x56+1))
  else
   let x78←ix a72 0
   let x79←ix a72 1
   let l80←app 56 x55 [(q0f.mk x78 x79 [] (decide ((a72.length:Int)=3)))]
   ih a1 l80 (ybu .i64 (x56+1))
 else
  some x55
def MF.z0z (n:Nat):=rc MB.z0z (fun _ _ _=>none) n
theorem MF.z0z.le:∀ (n:Nat) (a1:(List Z)) (x55:List q0f) (x56:Int),Le (MF.z0z n a1 x55 x56) (M.z0z a1 x55 x56):=by
 intro n;induction n with
 | zero=>intros;exact Le.none _
 | succ n ih =>
  intro a1 x55 x56
  show Le (MB.z0z n (MF.z0z n) a1 x55 x56) _
  rw [M.z0z];unfold MB.z0z
  repeat' first|with_reducible first|apply Le.none|apply Le.refl|apply ih|apply MF.q5w.le n|apply MF.q5z.le n|apply MF.q67.le n|apply Le.jn|apply Le.rs|apply Le.rb|apply Le.bind|apply Le.ite|intro _|dsimp only|split
def MF.q6i (n:Nat) (p0:Z):Option (List q0f):=do
 if (decide (p0=[])) then
  some ([]:List q0f)
 else
  let a1←MF.q5z n p0 44
  let j42←(do
    MF.z0z n a1 ([]:List q0f) 0:Option (List q0f))
  some j42
theorem MF.q6i.le (n:Nat) (p0:Z):Le (MF.q6i n p0) (M.q6i p0):=by
 unfold MF.q6i M.q6i
 repeat' first|with_reducible first|apply Le.none|apply Le.refl|apply MF.q5z.le n|apply MF.z0z.le n|apply Le.jn|apply Le.rs|apply Le.rb|apply Le.bind|apply Le.ite|intro _|dsimp only|split
def MB.z2b (n:Nat) (ih:Z→(Int)→(q0e)→Option q0e) (p3:Z) (x37:Int) (x38:q0e):Option q0e:=do
 if (decide (x37<(p3.length:Int))) then
  let j53←(do
    if x38.zq then
     some true
    else
     let c54←ix p3 x37
     some (decide ((c54.toNat:Int)=115)):Option Bool)
  let j57←(do
    if x38.zbj then
     some true
    else
     let c58←ix p3 x37
     some (decide ((c58.toNat:Int)=98)):Option Bool)
  let j61←(do
    if x38.z5v then
     some true
    else
     let c62←ix p3 x37
     some (decide ((c62.toNat:Int)=116)):Option Bool)
  ih p3 (ybu .i64 (x37+1)) (q0e.mk x38.zh x38.z02 x38.z09 x38.z5k j53 j57 j61 x38.z6d)
 else
  some x38
def MF.z2b (n:Nat):=rc MB.z2b (fun _ _ _=>none) n
theorem MF.z2b.le:∀ (n:Nat) (p3:Z) (x37:Int) (x38:q0e),Le (MF.z2b n p3 x37 x38) (M.z2b p3 x37 x38):=by
 intro n;induction n with
 | zero=>intros;exact Le.none _
 | succ n ih =>
  intro p3 x37 x38
  show Le (MB.z2b n (MF.z2b n) p3 x37 x38) _
  rw [M.z2b];unfold MB.z2b
  repeat' first|with_reducible first|apply Le.none|apply Le.refl|apply ih|apply Le.jn|apply Le.rs|apply Le.rb|apply Le.bind|apply Le.ite|intro _|dsimp only|split
def MF.q6m (n:Nat) (p0:Int) (p1:Z) (p2:Z) (p3:Z) (p4:Z) (p5:Z):Option q0e:=do
 let a1←MF.q6i n p5
 let j33←(do
   MF.z2b n p3 0 (q0e.mk p0 p1 p2 p4 false false false a1):Option q0e)
 some j33
theorem MF.q6m.le (n:Nat) (p0:Int) (p1:Z) (p2:Z) (p3:Z) (p4:Z) (p5:Z):Le (MF.q6m n p0 p1 p2 p3 p4 p5) (M.q6m p0 p1 p2 p3 p4 p5):=by
 unfold MF.q6m M.q6m
 repeat' first|with_reducible first|apply Le.none|apply Le.refl|apply MF.q6i.le n|apply MF.z2b.le n|apply Le.jn|apply Le.rs|apply Le.rb|apply Le.bind|apply Le.ite|intro _|dsimp only|split
def MF.q5n (n:Nat):Option (List q0e):=do
 let a1←MF.q6m n 1 B5 B93 [] B10 B49
 let a3←MF.q6m n 2 B5 B58 [115] B10 B98
 let a5←MF.q6m n 3 B5 B64 [115] B10 B17
 let a7←MF.q6m n 4 B5 B59 [115] B10 []
 let a9←MF.q6m n 5 B5 B65 [115] B10 B83
 let a11←MF.q6m n 6 B5 B68 [115] B10 []
 let a13←MF.q6m n 7 B5 B85 [115] B10 []
 let a15←MF.q6m n 8 B5 B86 [] B10 B95
 let a17←MF.q6m n 9 B5 B94 [] B10 B43
 let a19←MF.q6m n 10 [71,69,84] B66 [115] B32 B3
 let a21←MF.q6m n 11 B5 B26 [] B10 B4
 let a23←MF.q6m n 12 B5 B26 [] B10 B7
 let a25←MF.q6m n 13 B5 B26 [] B10 B8
 let a27←MF.q6m n 14 B5 B26 [] B10 B2
 let a29←MF.q6m n 15 B5 B87 [] B10 B6
 let a31←MF.q6m n 16 B5 B55 [] B10 B6
 let a33←MF.q6m n 17 [71,69,84] B70 [98] [] []
 let a35←MF.q6m n 18 [71,69,84] B102 [] [] []
 let a37←MF.q6m n 19 [71,69,84] B41 [98] B32 B22
 let a39←MF.q6m n 20 [71,69,84] B16 [98] [] []
 let a41←MF.q6m n 21 B5 B41 [98] B75 []
 let a43←MF.q6m n 22 B99 B16 [98,116] B69 []
 let a45←MF.q6m n 23 B92 B16 [98,116] [] []
 let a47←MF.q6m n 24 B5 B40 [98] B10 B51
 let a49←MF.q6m n 25 B5 B60 [98] B10 []
 some [a1,a3,a5,a7,a9,a11,a13,a15,a17,a19,a21,a23,a25,a27,a29,a31,a33,a35,a37,a39,a41,a43,a45,a47,a49]
theorem MF.q5n.le (n:Nat):Le (MF.q5n n ) (M.q5n ):=by
 unfold MF.q5n M.q5n
 repeat' first|with_reducible first|apply Le.none|apply Le.refl|apply MF.q6m.le n|apply Le.jn|apply Le.rs|apply Le.rb|apply Le.bind|apply Le.ite|intro _|dsimp only|split
end
end
theorem zmq {l:List q02} (h:zli l<100000000):∀ (n i:Nat),l.length - i=n→i≤l.length→M.z1z l l (i:Int)=some (.go ()):=by
 have hl:=zqq l
 intro n
 induction n with
 | zero =>
  grind [M.z1z]
 | succ n ih =>
  intro i hn hi
  have hlt:i<l.length:=by omega
  have h1:((i:Int)<(l.length:Int)):=by omega
  have hs:l[i].sz≤zli l:=zph (List.mem_map.2 ⟨l[i],yaq hlt,rfl⟩)
  have hv:=zg1 l[i].z7m
  unfold q02.sz at hs
  rw [M.z1z]
  simp only [h1,decide_true,if_true,z4k,yan hlt,ya,yb,yq,yn,if_false,zms (l:=l[i].z7m) (by omega)]
  grind [w1]
theorem zk5 {l:List q02} (h:zli l<100000000):M.q5q l l=some true:=by
 unfold M.q5q
 have:M.z1z l l 0=some (.go ()):=zmq h _ 0 rfl (ybq _)
 simp [this]
theorem zgw {s:Z} {i:Nat} (h:i<s.length):s.take (i+1)=s.take i++[s[i]]:=List.take_succ_eq_append_getElem h
theorem no.snoc {c x:UInt8} {s:Z} (h:no c s) (hx:¬x=c):no c (s++[x]):=h.app fun b hb=>by rw [ya3] at hb;subst hb;exact hx
theorem zd7 {c:UInt8} {n:Nat} (hn:n<256):((c.toNat:Int)=(n:Int))↔c=ybv n:=by
 have h:(ybv n).toNat=n:=by simp;omega
 constructor
 ·intro e
  apply ybw.1
  rw [h]
  omega
 ·rintro rfl
  rw [h]
theorem zhx (c:UInt8):∀ {s:Z},(z1h c s).2.2=false→z1h c s=(s,[],false)
 | [],_=>rfl
 | x::r,h=>by
  rw [z3e] at h ⊢
  split at h
  ·cases h
  ·rename_i hx
   rw [if_neg hx,zhx c (s:=r) h]
def numC (k:Nat) (s:Z):Int:=if isNum k s=true then ((zbe 0 s:Nat):Int) else -1
theorem zp3 {s:Z} (hl:s.length≤15):∀ (n i v:Nat),s.length - i=n→i≤s.length→v<10 ^ i→M.z45 s (v:Int) (i:Int)=some (if (s.drop i).all isD=true then .go ((zbe v (s.drop i):Nat):Int) else .done (-1)):=by
 intro n
 induction n with
 | zero =>
  intro i v hn hi hv
  obtain rfl:i=s.length:=by omega
  rw [M.z45.eq_1,if_neg (by simp),List.drop_length]
  rfl
 | succ n ih =>
  intro i v hn hi hv
  have hlt:i<s.length:=by omega
  have hp:=pow15 (n:=i) (by omega)
  rw [M.z45.eq_1]
  have h1:((i:Int)<(s.length:Int)):=by omega
  have h256:=s[i].toNat_lt
  simp only [h1,decide_true,if_true,z4k,yan hlt,ya,yb]
  rw [yac hlt,yu]
  cases hd:isD s[i] with
  | false =>
   have hd':¬(48≤s[i].toNat∧s[i].toNat≤57):=fun q=>by
    unfold isD at hd
    simp [q.1,q.2] at hd
   simp only [ym,yn,if_false]
   by_cases c1:(s[i].toNat:Int)<48
   ·simp [c1]
   ·have c2:57<(s[i].toNat:Int):=by omega
    simp [c1,c2]
  | true =>
   obtain ⟨d1,d2⟩:=zlr hd
   have c1:¬(s[i].toNat:Int)<48:=by omega
   have c2:¬57<(s[i].toNat:Int):=by omega
   have e8:ybu .i64 (ybu .u8 ((s[i].toNat:Int) - 48))=((s[i].toNat - 48:Nat):Int):=by
    have:ybu .u8 ((s[i].toNat:Int) - 48)=((s[i].toNat - 48:Nat):Int):=by
     simp only [ybu,ybs,IntKind.signed]
     simp
     omega
    rw [this,w64 (by omega) (by omega)]
   have e10:ybu .i64 (10*(v:Int))=((10*v:Nat):Int):=by rw [w64 (by omega) (by omega)];omega
   simp only [c1,c2,decide_false,yn,if_false,yt,yb,e8,e10]
   rw [wadd (by omega),w1 (by omega),ih (i+1) _ (by omega) (by omega) (by rw [ybo];omega),zc5]
   rfl
theorem zmj {s:Z} {k:Nat} (hk:k≤15):M.q5y s (k:Int)=some (numC k s):=by
 unfold M.q5y numC isNum
 cases s with
 | nil=>simp
 | cons c r =>
  by_cases hl:(c::r).length≤k
  ·have h1:¬((k:Int)<((c::r).length:Int)):=by omega
   have hne:¬(c::r)=[]:=by simp
   have i0:ix (c::r) 0=some c:=by simp [zsm]
   have hb:=zd7 (c:=c) (n:=48) (by decide)
   have hb:((c.toNat:Int)=48)↔c=48:=hb
   have hk:M.z45 (c::r) 0 0=_:=zp3 (s:=c::r) (by omega) _ 0 0 rfl (ybq _) (by decide)
   simp only [hne,h1,decide_false,ys,yn,if_false,i0,ya,yb,yp,yt,hl,decide_true,yj,yas]
   by_cases h48:c=48
   ·subst h48
    have e48:(((48:UInt8).toNat:Int)=48):=by decide
    simp only [e48,decide_true,if_true,yb,yq,yo]
    cases r with
    | nil=>rw [hk];rfl
    | cons d t=>simp
   ·have e48:¬((c.toNat:Int)=48):=fun q=>h48 (hb.1 q)
    have e2:¬(some c=some (48:UInt8)):=fun q=>h48 (by cases q;rfl)
    simp only [e48,e2,decide_false,yn,if_false,yb,yp,Bool.true_or,yj]
    rw [hk,yah]
    cases (c::r).all isD<;>rfl
  ·have h1:((k:Int)<((c::r).length:Int)):=by omega
   simp only [h1,hl,decide_true,decide_false,Bool.or_true,if_true,yh,ym,yn,if_false]
   rfl
theorem cut_g {s:Z} (c:UInt8) {F:List Z→Int→Int→Option (List Z)}
  (hF:∀ l a i,F l a i=(if (decide (i≤(s.length:Int)))=true then (if decide (i=(s.length:Int))=true then some true else (ix s i).bind fun c42=>some (decide ((c42.toNat:Int)=(c.toNat:Int)))).bind fun j41=>if j41=true then (sub s a i).bind fun s43=>(app 16 l [s43]).bind fun l44=>F l44 (ybu .i64 (i+1)) (ybu .i64 (i+1)) else F l a (ybu .i64 (i+1)) else some l))
  (h:s.length<100000000):∀ (n i a:Nat) (l:List Z),s.length - i=n→i≤s.length→a≤i→l.length≤a→no c ((s.take i).drop a)→F l (a:Int) (i:Int)=some (l++z0l c (s.drop a)):=by
 intro n
 induction n with
 | zero =>
  intro i a l hn hi ha hl hno
  obtain rfl:i=s.length:=by omega
  rw [ybd] at hno
  rw [hF]
  simp only [Int.le_refl,decide_true,if_true,yb]
  rw [zem ha (ybi _)]
  simp only [yb,ybd]
  rw [z36 (by simp;omega),w1 (by omega)]
  simp only [yb]
  rw [hF,if_neg (by simp;omega),zmz hno]
 | succ n ih =>
  intro i a l hn hi ha hl hno
  have hlt:i<s.length:=by omega
  rw [hF]
  have h1:((i:Int)≤(s.length:Int)):=by omega
  have h2:¬((i:Int)=(s.length:Int)):=by omega
  simp only [h1,h2,decide_true,decide_false,yn,if_false,if_true,z4k,yan hlt,yb]
  have hb:((s[i].toNat:Int)=(c.toNat:Int))↔s[i]=c:=⟨fun e=>ybw.1 (by omega),fun e=>by rw [e]⟩
  rw [w1 (by omega)]
  by_cases hc:s[i]=c
  ·rw [if_pos (by simpa using hb.2 hc),zem ha (by omega)]
   simp only [yb]
   rw [z36 (by simp;omega)]
   simp only [yb]
   rw [ih (i+1) (i+1) _ (by omega) (by omega) (ybi _) (by simp;omega) (by rw [yae (by rw [ya1];omega)];exact fun b hb=>by cases hb)]
   have e:s.drop a=(s.take i).drop a++c::s.drop (i+1):=by
    have e1:s=s.take i++s.drop i:=(ybb i s).symm
    conv=>lhs;rw [e1]
    rw [yaa (by rw [ya1];omega),yac hlt,hc]
   rw [e,zmx _ hno]
   simp
  ·rw [if_neg (by simpa using fun q=>hc (hb.1 q)),ih (i+1) a l (by omega) (by omega) (by omega) hl]
   rw [zgw hlt,yaa (by rw [ya1];omega)]
   exact hno.snoc hc
theorem zuh {s:Z} (c:UInt8) (h:s.length<100000000):M.q5z s (c.toNat:Int)=some (z0l c s):=by
 unfold M.q5z
 have:M.z1c s (c.toNat:Int) [] 0 0=_:=cut_g c (F:=M.z1c s (c.toNat:Int)) (fun l a i=>by rw [M.z1c.eq_1];rfl) h _ 0 0 [] rfl (ybq _) (ybi _) (ybi _) (fun b hb=>by simp at hb)
 rw [this]
 rfl
theorem zz03i {s:Z} (c:UInt8) (h:s.length<100000000):∀ (n i:Nat),s.length - i=n→i≤s.length→no c (s.take i)→M.z0e s (c.toNat:Int) (i:Int)=some (if (z1h c s).2.2=true then .done (z1h c s) else .go ()):=by
 intro n
 induction n with
 | zero =>
  intro i hn hi hno
  obtain rfl:i=s.length:=by omega
  rw [ybd] at hno
  rw [M.z0e.eq_1,if_neg (by simp),znp hno]
  rfl
 | succ n ih =>
  intro i hn hi hno
  have hlt:i<s.length:=by omega
  rw [M.z0e.eq_1]
  have h1:((i:Int)<(s.length:Int)):=by omega
  simp only [h1,decide_true,if_true,z4k,yan hlt,ya,yb]
  have hb:((s[i].toNat:Int)=(c.toNat:Int))↔s[i]=c:=⟨fun e=>ybw.1 (by omega),fun e=>by rw [e]⟩
  rw [w1 (by omega)]
  by_cases hc:s[i]=c
  ·rw [if_pos (by simpa using hb.2 hc),zhl (by omega)]
   simp only [yb]
   rw [zem (by omega) (ybi _)]
   simp only [yb,ybd]
   have e:s=s.take i++c::s.drop (i+1):=by
    have e1:s=s.take i++s.drop i:=(ybb i s).symm
    conv=>lhs;rw [e1]
    rw [yac hlt,hc]
   have ec:z1h c s=(s.take i,s.drop (i+1),true):=by
    conv=>lhs;rw [e]
    exact zj3 _ hno
   rw [ec]
   rfl
  ·rw [if_neg (by simpa using fun q=>hc (hb.1 q)),ih (i+1) (by omega) (by omega) (by rw [zgw hlt];exact hno.snoc hc)]
theorem zle {s:Z} (c:UInt8) (h:s.length<100000000):M.q67 s (c.toNat:Int)=some (z1h c s):=by
 unfold M.q67
 have:M.z0e s (c.toNat:Int) 0=_:=zz03i c h _ 0 rfl (ybq _) (fun b hb=>by simp at hb)
 rw [this]
 cases hc:(z1h c s).2.2 with
 | true=>rfl
 | false=>rw [zhx c hc];rfl
theorem zum:∀ c:UInt8,M.q4i (c.toNat:Int) true=some (match z5x c with|some d=>(d:Int)|none => -1):=by
 have:∀ c:UInt8,decide (M.q4i (c.toNat:Int) true=some (match z5x c with|some d=>(d:Int)|none => -1))=true:=z5t (by decide +kernel)
 intro c
 exact of_decide_eq_true (this c)
theorem zz091:∀ a b:Fin 16,ybu .u8 (ybu .i64 (ybu .i64 (16*((a.val:Nat):Int))+((b.val:Nat):Int)))=(((ybv (16*a.val+b.val)).toNat:Nat):Int):=by decide +kernel
theorem zeu (a:Z) (b:UInt8):unb a++[(b.toNat:Int)]=unb (a++[b]):=by rw [z2w];rfl
theorem zz05c {s:Z} (h:s.length<100000000):∀ (n i:Nat) (a:Z),s.length - i≤n→i≤s.length→a.length≤i→M.z0x s (unb a) (i:Int)=some (match z1a (s.drop i) with|some t => .go (unb (a++t))|none => .done ([],12)):=by
 intro n
 induction n with
 | zero =>
  intro i a hn hi ha
  rw [M.z0x.eq_1,yae (by omega),if_neg (by simp;omega)]
  simp [z1a]
 | succ n ih =>
  intro i a hn hi ha
  by_cases hlt:i<s.length
  ·rw [M.z0x.eq_1]
   have h1:((i:Int)<(s.length:Int)):=by omega
   simp only [h1,decide_true,if_true,z4k,yan hlt,ya,yb]
   have hb:=zd7 (c:=s[i]) (n:=37) (by decide)
   have hb:((s[i].toNat:Int)=37)↔s[i]=37:=hb
   rw [yac hlt]
   by_cases hc:s[i]=37
   ·have hc':=hb.2 hc
    have w2:ybu .i64 ((i:Int)+2)=((i+2:Nat):Int):=by rw [w64 (by omega) (by omega)];omega
    simp only [hc',decide_true,yq,yn,if_false,w2]
    rw [hc]
    by_cases h2:i+2<s.length
    ·have h2':¬((s.length:Int)≤((i+2:Nat):Int)):=by omega
     have hl1:i+1<s.length:=by omega
     simp only [h2',decide_false,yn,if_false]
     rw [w1 (by omega)]
     simp only [z4k,yan h2,yan hl1,yb,zum]
     rw [yac hl1,yac h2,zbh]
     cases hx:z5x s[i+1] with
     | none=>simp
     | some x =>
      cases hy:z5x s[i+2] with
      | none=>simp
      | some y =>
       have hx16:=z4r _ _ hx
       have hy16:=z4r _ _ hy
       have hxn:¬((x:Int)<0):=by omega
       have hyn:¬((y:Int)<0):=by omega
       have e:=zz091 ⟨x,hx16⟩ ⟨y,hy16⟩
       simp only at e
       simp only [hxn,hyn,decide_false,ys,yn,if_false,e]
       rw [z36 (by rw [z04];simp;omega),w1 (by omega)]
       simp only [yb]
       rw [zeu,ih (i+2+1) _ (by omega) (by omega) (by simp;omega)]
       cases z1a (s.drop (i+2+1)) with
       | none=>rfl
       | some t=>simp
    ·have h2':((s.length:Int)≤((i+2:Nat):Int)):=by omega
     simp only [h2',decide_true,if_true]
     cases hd:s.drop (i+1) with
     | nil=>rw [zfo]
     | cons z t =>
      have hl:=congrArg List.length hd
      rw [yax,yaw] at hl
      have:t=[]:=yai (by omega)
      rw [this,zfp]
   ·have hc':¬((s[i].toNat:Int)=37):=fun q=>hc (hb.1 q)
    simp only [hc',decide_false,yp,if_true]
    rw [z36 (by rw [z04];simp;omega),w1 (by omega)]
    simp only [yb]
    rw [zeu,ih (i+1) _ (by omega) (by omega) (by simp;omega),zdb hc]
    cases z1a (s.drop (i+1)) with
    | none=>rfl
    | some t=>simp
  ·rw [M.z0x.eq_1,yae (by omega),if_neg (by simp;omega)]
   simp [z1a]
theorem z7h {s:Z} (h:s.length<100000000):M.q4d s=some (match z1a s with|some t=>(t,0)|none=>([],12)):=by
 unfold M.q4d
 have:M.z0x s [] 0=_:=zz05c h _ 0 [] (ybi _) (ybq _) (ybi _)
 rw [this,yah]
 cases z1a s with
 | none=>rfl
 | some t=>simp [z8i]
theorem zz00r {s:Z} (h:s.length<100000000):∀ (n i:Nat) (a:Z),s.length - i=n→i≤s.length→a.length≤i→M.z4e s 43 32 (unb a) (i:Int)=some (unb (a++swp (s.drop i))):=by
 intro n
 induction n with
 | zero =>
  intro i a hn hi ha
  rw [M.z4e.eq_1,yae (by omega),if_neg (by simp;omega)]
  simp [swp]
 | succ n ih =>
  intro i a hn hi ha
  have hlt:i<s.length:=by omega
  rw [M.z4e.eq_1,yac hlt]
  have h1:((i:Int)<(s.length:Int)):=by omega
  simp only [h1,decide_true,if_true,z4k,yan hlt,ya,yb]
  have hb:=zd7 (c:=s[i]) (n:=43) (by decide)
  have hb:((s[i].toNat:Int)=43)↔s[i]=43:=hb
  have ec:swp (s[i]::s.drop (i+1))=(if s[i]=43 then 32 else s[i])::swp (s.drop (i+1)):=rfl
  rw [ec,w1 (by omega)]
  by_cases hc:s[i]=43
  ·have hc':=hb.2 hc
   simp only [hc',decide_true,if_true,hc]
   rw [z36 (by rw [z04];simp;omega)]
   simp only [yb]
   have:unb a++[(32:Int)]=unb (a++[32]):=zeu a 32
   rw [this,ih (i+1) _ (by omega) (by omega) (by simp;omega)]
   simp
  ·have hc':¬((s[i].toNat:Int)=43):=fun q=>hc (hb.1 q)
   simp only [hc',decide_false,yn,if_false,hc]
   rw [z36 (by rw [z04];simp;omega)]
   simp only [yb]
   rw [zeu,ih (i+1) _ (by omega) (by omega) (by simp;omega)]
   simp
theorem zgk {s:Z} (h:s.length<100000000):M.q4k s 43 32=some (swp s):=by
 unfold M.q4k
 have:M.z4e s 43 32 [] 0=_:=zz00r h _ 0 [] rfl (ybq _) (ybi _)
 rw [this,yah]
 simp [z8i]
theorem zz00p {s:Z} (h:s.length<100000000):∀ (n i:Nat),s.length - i=n→i≤s.length→no 61 (s.take i)→M.z2o s (i:Int)=some (((z1h 61 s).1.length:Nat):Int):=by
 intro n
 induction n with
 | zero =>
  intro i hn hi hno
  obtain rfl:i=s.length:=by omega
  rw [ybd] at hno
  rw [M.z2o.eq_1,znp hno]
  simp
 | succ n ih =>
  intro i hn hi hno
  have hlt:i<s.length:=by omega
  rw [M.z2o.eq_1]
  have h1:((i:Int)<(s.length:Int)):=by omega
  simp only [h1,decide_true,if_true,z4k,yan hlt,ya,yb]
  have hb:=zd7 (c:=s[i]) (n:=61) (by decide)
  have hb:((s[i].toNat:Int)=61)↔s[i]=61:=hb
  by_cases hc:s[i]=61
  ·have hc':=hb.2 hc
   simp only [hc',decide_true,yq,yn,if_false]
   have e:s=s.take i++61::s.drop (i+1):=by
    have e1:s=s.take i++s.drop i:=(ybb i s).symm
    conv=>lhs;rw [e1]
    rw [yac hlt,hc]
   have ec:z1h 61 s=(s.take i,s.drop (i+1),true):=by
    conv=>lhs;rw [e]
    exact zj3 _ hno
   rw [ec]
   simp
   omega
  ·have hc':¬((s[i].toNat:Int)=61):=fun q=>hc (hb.1 q)
   simp only [hc',decide_false,yp,if_true]
   rw [w1 (by omega),ih (i+1) (by omega) (by omega) (by rw [zgw hlt];exact hno.snoc hc)]
theorem zhy (c:UInt8):∀ s:Z,((z1h c s).2.2=true→s=(z1h c s).1++c::(z1h c s).2.1)∧((z1h c s).2.2=false→(z1h c s).1=s∧(z1h c s).2.1=[])
 | []=>And.intro (fun h=>absurd h (by simp [cutb_nil])) (fun _=>And.intro rfl rfl)
 | x::r=>by
  obtain ⟨h1,h2⟩:=zhy c r
  rw [z3e]
  by_cases hx:x=c
  ·rw [if_pos hx]
   exact ⟨fun _=>by simp [hx],fun h=>by cases h⟩
  ·rw [if_neg hx]
   exact ⟨fun h=>by simp only at h ⊢;rw [yy,←h1 h],fun h=>by simp only at h ⊢;obtain ⟨a,b⟩:=h2 h;exact ⟨by rw [a],b⟩⟩
theorem zq5:∀ s:Z,z1h 61 (swp s)=(swp (z1h 61 s).1,swp (z1h 61 s).2.1,(z1h 61 s).2.2)
 | []=>rfl
 | x::r=>by
  have ih:=zq5 r
  have ec:swp (x::r)=(if x=43 then 32 else x)::swp r:=rfl
  rw [ec,z3e,z3e,ih]
  by_cases hx:x=61
  ·subst hx
   rfl
  ·rw [if_neg hx]
   have:¬(if x=43 then 32 else x)=61:=by
    split
    ·decide
    ·exact hx
   rw [if_neg this]
   rfl
theorem zz00o {l:List Z} (hl:l.length<1000000) (hm:∀ x∈l,x.length<1000000):∀ (n i:Nat) (a:List q05),l.length - i=n→i≤l.length→a.length≤i →
  M.z2n l a (i:Int)=some (if (z9b (l.drop i) a).2=0 then .go (z9b (l.drop i) a).1 else .done (z9b (l.drop i) a)):=by
 intro n
 induction n with
 | zero =>
  intro i a hn hi ha
  rw [M.z2n.eq_1,yae (by omega),if_neg (by simp;omega)]
  simp [z9b]
 | succ n ih =>
  intro i a hn hi ha
  have hlt:i<l.length:=by omega
  have hx:=hm l[i] (yaq hlt)
  rw [M.z2n.eq_1,yac hlt]
  have h1:((i:Int)<(l.length:Int)):=by omega
  simp only [h1,decide_true,if_true,z4k,yan hlt,ya,yb]
  generalize hxe:l[i]=x at hx ⊢
  unfold z9b
  by_cases he:x=[]
  ·simp [he]
  ·have hk3:M.z2o x 0=_:=zz00p (by omega) _ 0 rfl (ybq _) (fun b hb=>by simp at hb)
   have hcl:=(z7b 61 x)
   obtain ⟨p1,p2⟩:=zhy 61 x
   have e1:sub x 0 (((z1h 61 x).1.length:Nat):Int)=some (z1h 61 x).1:=by
    rw [zhl (by omega)]
    cases hb:(z1h 61 x).2.2 with
    | true =>
     have e0:=p1 hb
     have:x.take (z1h 61 x).1.length=((z1h 61 x).1++61::(z1h 61 x).2.1).take (z1h 61 x).1.length:=by rw [←e0]
     rw [this,ybc]
    | false=>rw [(p2 hb).1,ybd]
   have e2:(if decide ((((z1h 61 x).1.length:Nat):Int)<(x.length:Int))=true then (sub x (ybu .i64 ((((z1h 61 x).1.length:Nat):Int)+1)) (x.length:Int)).bind fun s636=>some s636 else some ([]:Z))=some (z1h 61 x).2.1:=by
    cases hb:(z1h 61 x).2.2 with
    | true =>
     have hlen:=hcl.2 hb
     rw [if_pos (by simp;omega),w1 (by omega),zem (by omega) (ybi _),ybd]
     simp only [yb]
     have:=p1 hb
     have e3:x.drop ((z1h 61 x).1.length+1)=(z1h 61 x).2.1:=by
      have:x.drop ((z1h 61 x).1.length+1)=((z1h 61 x).1++61::(z1h 61 x).2.1).drop ((z1h 61 x).1.length+1):=by rw [←this]
      rw [this,←yab,yaf,List.drop_succ_cons,yah]
     rw [e3]
    | false =>
     obtain ⟨q1,q2⟩:=p2 hb
     rw [if_neg (by rw [q1];simp),q2]
   simp only [he,decide_false,yn,if_false,hk3,yb,e1,e2]
   rw [zgk (by omega)]
   simp only [yb]
   rw [z7h (by rw [zgv];omega),zgk (by omega)]
   simp only [yb]
   rw [z7h (by rw [zgv];omega)]
   rw [zq5]
   simp only [yb]
   cases f1:z1a (swp (z1h 61 x).1) with
   | none=>simp
   | some u =>
    cases f2:z1a (swp (z1h 61 x).2.1) with
    | none=>simp
    | some v =>
     simp only [decide_true,yq,ys,yn,if_false]
     rw [z36 (by simp;omega),w1 (by omega)]
     simp only [yb]
     exact ih (i+1) _ (by omega) (by omega) (by simp;omega)
theorem zgj {s:Z} (h:s.length<1000000):M.q4c s=some (z25 s):=by
 unfold M.q4c z25
 by_cases h8:8192<s.length
 ·have:(8192<(s.length:Int)):=by omega
  simp [this,h8]
 ·have h8':¬(8192<(s.length:Int)):=by omega
  by_cases he:s=[]
  ·subst he
   have:¬(8192<([]:Z).length∨64<(z0l 38 ([]:Z)).length):=by simp [z0l]
   rw [if_neg this]
   rfl
  ·have hk:M.z2m s [] 0 0=some ([]++z0l 38 (s.drop 0)):=cut_g 38 (F:=M.z2m s) (fun l a i=>by rw [M.z2m.eq_1];rfl) (by omega) _ 0 0 [] rfl (ybq _) (ybi _) (ybi _) (fun b hb=>by simp at hb)
   rw [yah,ya4] at hk
   simp only [h8',he,decide_false,yn,if_false,ya,hk,yb]
   by_cases h64:64<(z0l 38 s).length
   ·have:(64<((z0l 38 s).length:Int)):=by omega
    simp [this,h64]
   ·have h64':¬(64<((z0l 38 s).length:Int)):=by omega
    have hn:¬(8192<s.length∨64<(z0l 38 s).length):=by omega
    have hm:∀ x∈z0l 38 s,x.length<1000000:=fun x hx=>by have:=z4z 38 s x hx;omega
    have hk2:M.z2n (z0l 38 s) [] 0=_:=zz00o (by omega) hm _ 0 [] rfl (ybq _) (ybi _)
    rw [yah] at hk2
    rw [if_neg hn]
    simp only [h64',decide_false,yn,if_false,hk2,yb]
    by_cases hz:(z9b (z0l 38 s) []).2=0
    ·rw [if_pos hz]
     exact congrArg some (Prod.ext rfl hz.symm)
    ·rw [if_neg hz]
theorem zik {s:Z} (lo hi:Nat) (hs:s.length<1152921504606846976):M.q5u s (lo:Int) (hi:Int)=some (z6x lo hi s):=by
 unfold M.q5u
 have hk:M.z5y s (lo:Int) (hi:Int) 0=some (match s.findIdx? (fun b => !(decide (lo≤b.toNat)&&decide (b.toNat≤hi))) with|some i => .done false|none => .go ()):=by
  refine seek (fun _=>false) () hs (fun i h => ?_) ?_
  ·rw [M.z5y.eq_1]
   have h1:((i:Int)<(s.length:Int)):=by omega
   simp only [h1,decide_true,if_true,z4k,yan h,ya,yb]
   by_cases a:lo≤(s[i]).toNat
   ·have a':¬(((s[i]).toNat:Int)<(lo:Int)):=by omega
    by_cases b:(s[i]).toNat≤hi
    ·have b':¬((hi:Int)<((s[i]).toNat:Int)):=by omega
     simp [a,a',b,b']
    ·have b':((hi:Int)<((s[i]).toNat:Int)):=by omega
     simp [a,a',b,b']
   ·have a':(((s[i]).toNat:Int)<(lo:Int)):=by omega
    simp [a,a']
  ·rw [M.z5y.eq_1]
   simp
 simp only [ya,hk,yb]
 unfold z6x
 rcases zqk s (fun b=>decide (lo≤b.toNat)&&decide (b.toNat≤hi)) with ⟨h1,h2⟩|⟨i,h1,h2⟩
 ·rw [h1,h2]
 ·rw [h1,h2]
def zsk (b:UInt8):Bool:=decide (b=32)
theorem zym (s:Z):bare s=(s.reverse.dropWhile zsk).reverse.dropWhile zsk:=by
 have e:(fun b=>([32]:Z).contains b)=zsk:=by
  funext b
  unfold zsk
  simp
 unfold bare Lib.trimS Lib.trimLeftS Lib.trimRightS
 rw [←e]
theorem zuo {α:Type} (p:α→Bool) (s:List α):((s.dropWhile p).reverse.dropWhile p).reverse=(s.reverse.dropWhile p).reverse.dropWhile p:=by
 have hs:s=s.takeWhile p++s.dropWhile p:=(List.takeWhile_append_dropWhile).symm
 have ha:∀ x∈s.takeWhile p,p x=true:=yv.1 List.all_takeWhile
 generalize hA:s.takeWhile p=a at hs ha
 cases hm:s.dropWhile p with
 | nil =>
  rw [hm,yx] at hs
  have:∀ x∈s.reverse,p x=true:=fun x hx=>ha x (by rw [←hs];simpa using hx)
  have:s.reverse.dropWhile p=[]:=by
   rw [zhz,yv]
   exact this
  rw [this]
  rfl
 | cons c r =>
  have hc:¬p c=true:=by
   have:=List.head_dropWhile_not p (l:=s) (by rw [hm];simp)
   simp only [hm,List.head_cons] at this
   simpa using this
  rw [hm] at hs
  conv=>rhs;rw [hs]
  rw [ya7,List.dropWhile_append]
  have hne:¬((c::r).reverse.dropWhile p)=[]:=fun e=>by
   rw [zhz,yv] at e
   exact hc (e c (by simp))
  have:((c::r).reverse.dropWhile p).isEmpty=false:=by
   cases h:(c::r).reverse.dropWhile p with
   | nil=>exact absurd h hne
   | cons _ _=>rfl
  rw [this,if_neg (by simp),ya7,ya8,List.dropWhile_append_of_pos ha]
  have hpre:((c::r).reverse.dropWhile p).reverse <+: (c::r):=by
   have:=List.dropWhile_suffix p (l:=(c::r).reverse)
   have:=List.reverse_prefix.2 this
   rwa [ya8] at this
  obtain ⟨q,hq⟩:=hpre
  cases h:((c::r).reverse.dropWhile p).reverse with
  | nil =>
   rw [List.reverse_eq_nil_iff] at h
   exact absurd h hne
  | cons x y =>
   rw [h] at hq
   have hx:x=c:=(List.cons.inj hq).1
   subst hx
   rw [yz,if_neg hc]
theorem zz033 (s:Z):bare s=((s.dropWhile zsk).reverse.dropWhile zsk).reverse:=by rw [zym,zuo]
theorem zz00m:∀ (n:Nat) (s:Z),s.length=n→n<1000000000→M.z11 s=some (s.dropWhile zsk):=by
 intro n
 induction n with
 | zero =>
  intro s hn _
  have:s=[]:=yai hn
  subst this
  rw [M.z11.eq_1]
  rfl
 | succ n ih =>
  intro s hn h
  cases s with
  | nil=>cases hn
  | cons c r =>
   simp only [yaw] at hn
   rw [M.z11.eq_1]
   have i0:ix (c::r) 0=some c:=by simp [zsm]
   have hb:=zd7 (c:=c) (n:=32) (by decide)
   have hb:((c.toNat:Int)=32)↔c=32:=hb
   have hne:¬(c::r)=[]:=by simp
   simp only [hne,decide_false,yp,if_true,i0,ya,yb]
   rw [yz]
   by_cases hc:c=32
   ·have hs:sub (c::r) 1 (((c::r).length:Nat):Int)=some r:=by
     have:=zem (l:=c::r) (a:=1) (b:=(c::r).length) (by simp) (ybi _)
     rw [ybd] at this
     exact this
    rw [if_pos (by simpa using hb.2 hc),hs]
    simp only [yb]
    rw [ih r (by omega) (by omega)]
    simp [zsk,hc]
   ·rw [if_neg (by simpa using fun q=>hc (hb.1 q))]
    simp [zsk,hc]
theorem zz00n:∀ (n:Nat) (s:Z),s.length=n→n<1000000000→M.z13 s=some (s.reverse.dropWhile zsk).reverse:=by
 intro n
 induction n with
 | zero =>
  intro s hn _
  have:s=[]:=yai hn
  subst this
  rw [M.z13.eq_1]
  rfl
 | succ n ih =>
  intro s hn h
  obtain ⟨r,c,rfl⟩:∃ r c,s=r++[c]:=⟨s.dropLast,s.getLast (by intro e;rw [e] at hn;cases hn),(List.dropLast_concat_getLast _).symm⟩
  simp only [yav,yaw,yaz] at hn
  rw [M.z13.eq_1]
  have hne:¬(r++[c])=[]:=by simp
  have hl:(r++[c]).length=r.length+1:=by simp
  have ew:ybu .i64 (((r++[c]).length:Int) - 1)=((r.length:Nat):Int):=by rw [w64 (by omega) (by omega)];omega
  have i0:(r++[c])[r.length]? = some c:=by simp
  have hb:=zd7 (c:=c) (n:=32) (by decide)
  have hb:((c.toNat:Int)=32)↔c=32:=hb
  simp only [hne,decide_false,yp,if_true,ew,z4k,i0,ya,yb]
  rw [ya7,List.reverse_singleton,ya9,yz]
  by_cases hc:c=32
  ·rw [if_pos (by simpa using hb.2 hc),zhl (by omega)]
   simp only [yb]
   rw [ybc,ih r (by omega) (by omega)]
   simp [zsk,hc]
  ·rw [if_neg (by simpa using fun q=>hc (hb.1 q))]
   simp [zsk,hc]
theorem zp1 {s:Z} (h:s.length<1000000000):M.q5w s=some (bare s):=by
 unfold M.q5w
 rw [zz00m _ s rfl h]
 simp only [ya,yb]
 have:=(List.dropWhile_sublist zsk (l:=s)).length_le
 rw [zz00n _ _ rfl (by omega),zz033]
 rfl
theorem zz05b {l:List q05} {k:Z} (hl:l.length<1000000000):∀ (m i:Nat) (v:Z) (n:Nat),l.length - i=m→i≤l.length→n≤i →
  M.z4l l k v (n:Int) (i:Int)=some (if n=0 then z4h (l.drop i) k v else v,((n+zbl (l.drop i) k:Nat):Int)):=by
 intro m
 induction m with
 | zero =>
  intro i v n hm hi hn
  rw [M.z4l.eq_1,yae (by omega),if_neg (by simp;omega)]
  simp [z4h,zbl]
 | succ m ih =>
  intro i v n hm hi hn
  have hlt:i<l.length:=by omega
  rw [M.z4l.eq_1,yac hlt]
  have h1:((i:Int)<(l.length:Int)):=by omega
  simp only [h1,decide_true,if_true,z4k,yan hlt,ya,yb]
  rw [w1 (n:=i) (by omega),zfs]
  have eN:zbl (l[i]::l.drop (i+1)) k=(if l[i].zo=k then 1 else 0)+zbl (l.drop (i+1)) k:=by
   unfold zbl
   rw [List.countP_cons]
   by_cases h:l[i].zo=k<;>simp [h,ybg]
  rw [eN]
  by_cases hk:l[i].zo=k
  ·simp only [hk,decide_true,if_true]
   by_cases h0:n=0
   ·subst h0
    have:(((0:Nat):Int)=0):=rfl
    simp only [this,decide_true,if_true]
    have w0:ybu .i64 (0+1)=((1:Nat):Int):=w1 (n:=0) (by decide)
    rw [w0,ih (i+1) _ 1 (by omega) (by omega) (by omega)]
    simp
   ·have:¬((n:Int)=0):=by omega
    simp only [this,h0,decide_false,yn,if_false]
    rw [w1 (by omega),ih (i+1) _ (n+1) (by omega) (by omega) (by omega),if_neg (by omega)]
    congr 3
    omega
  ·simp only [hk,decide_false,yn,if_false]
   rw [ih (i+1) _ n (by omega) (by omega) (by omega)]
   simp
theorem zdl {l:List q05} (k:Z) (hl:l.length<1000000000):M.q4e l k=some (z4h l k [],((zbl l k:Nat):Int)):=by
 unfold M.q4e
 have h:=zz05b (k:=k) hl l.length 0 [] 0 rfl (ybq _) (ybi _)
 rw [yah,if_pos rfl,Nat.zero_add] at h
 have h:M.z4l l k [] 0 0=_:=h
 rw [h]
 rfl
theorem za0 {l:List q05} (k:Z) (hl:l.length<1000000000):M.q63 l k=some (z4h l k [],zav l k):=by
 unfold M.q63
 rw [zdl k hl]
 simp only [ya,yb]
 rw [←zjd]
 congr 2
 exact decide_eq_decide.2 (by omega)
theorem z6y {a b:Nat} (ha:a<18446744073709551616) (hb:b<18446744073709551616):orI .u64 (a:Int) (b:Int)=((a ||| b:Nat):Int):=by
 have h:(a ||| b)<2 ^ 64:=ybm (by omega) (by omega)
 have e:(BitVec.ofInt ybt.bits (a:Int) ||| BitVec.ofInt ybt.bits (b:Int)).toNat=a ||| b:=by
  show (BitVec.ofInt 64 (a:Int) ||| BitVec.ofInt 64 (b:Int)).toNat=a ||| b
  rw [BitVec.toNat_or,BitVec.ofInt_natCast,BitVec.ofInt_natCast,BitVec.toNat_ofNat,BitVec.toNat_ofNat,ybk (by omega),ybk (by omega)]
 grind [orI,wu64]
theorem zyk {a b:Nat} (ha:a<18446744073709551616) (hb:b<18446744073709551616):z7a .u64 (a:Int) (b:Int)=((a &&& b:Nat):Int):=by
 have h:(a &&& b)<2 ^ 64:=Nat.and_lt_two_pow _ (by omega)
 have e:(BitVec.ofInt ybt.bits (a:Int) &&& BitVec.ofInt ybt.bits (b:Int)).toNat=a &&& b:=by
  show (BitVec.ofInt 64 (a:Int) &&& BitVec.ofInt 64 (b:Int)).toNat=a &&& b
  rw [BitVec.toNat_and,BitVec.ofInt_natCast,BitVec.ofInt_natCast,BitVec.toNat_ofNat,BitVec.toNat_ofNat,ybk (by omega),ybk (by omega)]
 grind [z7a,wu64]
theorem z90 {a k:Nat} (hk:k≤64) (ha:a*2 ^ k<18446744073709551616):z6p .u64 (a:Int) ((k:Nat):Int)=((a*2 ^ k:Nat):Int):=by
 have e:min ((k:Nat):Int).toNat ybt.bits=k:=by
  show min ((k:Nat):Int).toNat 64=k
  omega
 grind [z6p,wu64]
def hiB:Nat:=9259542123273814144
theorem zz002:∀ b:Fin 256,∀ i:Fin 8,(b.val*2 ^ (8*i.val)) &&& hiB=0→b.val<128:=by decide +kernel
theorem ze4 {b:UInt8} (i:Nat) (hi:i<8) (h:(b.toNat*2 ^ (8*i)) &&& hiB=0):b.toNat<128:=zz002 ⟨b.toNat,ze5⟩ ⟨i,hi⟩ h
theorem z9g {b:UInt8} (i:Nat) (hi:i<8):b.toNat*2 ^ (8*i)<18446744073709551616:=by
 have h1:=ze5 (b:=b)
 have h2:2 ^ (8*i)≤2 ^ 56:=ybn (by decide) (by omega)
 have h3:b.toNat*2 ^ (8*i)≤255*2 ^ 56:=Nat.mul_le_mul (by omega) h2
 omega
theorem zdj {a b:Nat} (ha:a<18446744073709551616) (hb:b<18446744073709551616):(a ||| b)<18446744073709551616:=by
 have h:(a ||| b)<2 ^ 64:=ybm (by omega) (by omega)
 simpa using h
theorem zbv {s:Z} (h:8≤s.length):∃ W:Nat,W<18446744073709551616∧M.word (unb s)=some (W:Int)∧(W &&& hiB=0→∀ b∈s.take 8,b.toNat<128):=by
 obtain ⟨b0,b1,b2,b3,b4,b5,b6,b7,r,rfl⟩:∃ b0 b1 b2 b3 b4 b5 b6 b7 r,s=b0::b1::b2::b3::b4::b5::b6::b7::r:=by
  match s,h with
  | b0::b1::b2::b3::b4::b5::b6::b7::r,_=>simp
 have w:∀ b:UInt8,ybu .u64 (b.toNat:Int)=(b.toNat:Int):=fun b=>wu64 (by omega) (by grind [ze5])
 have l0:=z9g (b:=b0) 0 (by decide);have l1:=z9g (b:=b1) 1 (by decide);have l2:=z9g (b:=b2) 2 (by decide);have l3:=z9g (b:=b3) 3 (by decide)
 have l4:=z9g (b:=b4) 4 (by decide);have l5:=z9g (b:=b5) 5 (by decide);have l6:=z9g (b:=b6) 6 (by decide);have l7:=z9g (b:=b7) 7 (by decide)
 have s1:z6p .u64 (b1.toNat:Int) 8=_:=z90 (k:=8*1) (by decide) l1
 have s2:z6p .u64 (b2.toNat:Int) 16=_:=z90 (k:=8*2) (by decide) l2
 have s3:z6p .u64 (b3.toNat:Int) 24=_:=z90 (k:=8*3) (by decide) l3
 have s4:z6p .u64 (b4.toNat:Int) 32=_:=z90 (k:=8*4) (by decide) l4
 have s5:z6p .u64 (b5.toNat:Int) 40=_:=z90 (k:=8*5) (by decide) l5
 have s6:z6p .u64 (b6.toNat:Int) 48=_:=z90 (k:=8*6) (by decide) l6
 have s7:z6p .u64 (b7.toNat:Int) 56=_:=z90 (k:=8*7) (by decide) l7
 have z0:b0.toNat<18446744073709551616:=by have:=ze5 (b:=b0);omega
 have o1:=zdj z0 l1;have o2:=zdj o1 l2;have o3:=zdj o2 l3;have o4:=zdj o3 l4;have o5:=zdj o4 l5;have o6:=zdj o5 l6;have o7:=zdj o6 l7
 refine ⟨_,o7,?_,?_⟩
 ·unfold M.word
  have e:unb (b0::b1::b2::b3::b4::b5::b6::b7::r)=(b0.toNat:Int)::(b1.toNat:Int)::(b2.toNat:Int)::(b3.toNat:Int)::(b4.toNat:Int)::(b5.toNat:Int)::(b6.toNat:Int)::(b7.toNat:Int)::unb r:=rfl
  rw [e]
  have i0:∀ (l:List Int),ix l 0=l[0]?:=fun l=>by simp [ix]
  have i1:∀ (l:List Int),ix l 1=l[1]?:=fun l=>by simp [ix]
  have i2:∀ (l:List Int),ix l 2=l[2]?:=fun l=>by simp [ix]
  have i3:∀ (l:List Int),ix l 3=l[3]?:=fun l=>by simp [ix]
  have i4:∀ (l:List Int),ix l 4=l[4]?:=fun l=>by simp [ix]
  have i5:∀ (l:List Int),ix l 5=l[5]?:=fun l=>by simp [ix]
  have i6:∀ (l:List Int),ix l 6=l[6]?:=fun l=>by simp [ix]
  have i7:∀ (l:List Int),ix l 7=l[7]?:=fun l=>by simp [ix]
  simp only [i0,i1,i2,i3,i4,i5,i6,i7,List.getElem?_cons_zero,yam,ya,yb,w,s1,s2,s3,s4,s5,s6,s7]
  rw [z6y z0 l1,z6y o1 l2,z6y o2 l3,z6y o3 l4,z6y o4 l5,z6y o5 l6,z6y o6 l7]
 ·intro hz
  simp only [Lib.or_mask] at hz
  obtain ⟨⟨⟨⟨⟨⟨⟨h0,h1⟩,h2⟩,h3⟩,h4⟩,h5⟩,h6⟩,h7⟩:=hz
  intro b hb
  simp only [ybe,ybf,List.mem_cons,ya6,or_false] at hb
  rcases hb with rfl|rfl|rfl|rfl|rfl|rfl|rfl|rfl
  ·exact ze4 0 (by decide) (by grind)
  ·exact ze4 1 (by decide) h1
  ·exact ze4 2 (by decide) h2
  ·exact ze4 3 (by decide) h3
  ·exact ze4 4 (by decide) h4
  ·exact ze4 5 (by decide) h5
  ·exact ze4 6 (by decide) h6
  ·exact ze4 7 (by decide) h7
theorem zz015 (s:Z) (k:Nat):(unb s).drop k=unb (s.drop k):=by simp [unb]
theorem z6z {s:Z} {k:Nat} (h:k≤s.length):sub (unb s) (k:Int) ((unb s).length:Int)=some (unb (s.drop k)):=by
 grind [zaw,z04,zz015]
theorem zz03t:(9259542123273814144:Int)=((hiB:Nat):Int):=rfl
theorem zu1 {W:Nat} (h:W<18446744073709551616):(decide (z7a .u64 (W:Int) 9259542123273814144=0))=decide (W &&& hiB=0):=by
 rw [zz03t,zyk h (by decide)]
 simp
theorem z8g {s:Z} {a b:Nat} (ha:∀ x∈s.take a,x.toNat<128) (hb:∀ x∈(s.drop a).take b,x.toNat<128):∀ x∈s.take (a+b),x.toNat<128:=by
 grind
theorem zpq:∀ (n:Nat) (s:Z),s.length≤n→∃ k,M.z94 (unb s)=some (unb (s.drop k))∧∀ b∈s.take k,b.toNat<128:=by
 intro n
 induction n with
 | zero =>
  intro s hs
  refine ⟨0,?_,by simp⟩
  grind [M.z94.eq_1,z04]
 | succ n ih =>
  intro s hs
  rw [M.z94.eq_1]
  by_cases h32:32<s.length
  ·have h1:(32:Int)<((unb s).length:Int):=by rw [z04];omega
   have e8:sub (unb s) 8 ((unb s).length:Int)=some (unb (s.drop 8)):=z6z (k:=8) (by omega)
   have e16:sub (unb s) 16 ((unb s).length:Int)=some (unb (s.drop 16)):=z6z (k:=16) (by omega)
   have e24:sub (unb s) 24 ((unb s).length:Int)=some (unb (s.drop 24)):=z6z (k:=24) (by omega)
   have e32:sub (unb s) 32 ((unb s).length:Int)=some (unb (s.drop 32)):=z6z (k:=32) (by omega)
   obtain ⟨W0,a0,b0,c0⟩:=zbv (s:=s) (by omega)
   obtain ⟨W1,a1,b1,c1⟩:=zbv (s:=s.drop 8) (by simp;omega)
   obtain ⟨W2,a2,b2,c2⟩:=zbv (s:=s.drop 16) (by simp;omega)
   obtain ⟨W3,a3,b3,c3⟩:=zbv (s:=s.drop 24) (by simp;omega)
   simp only [h1,decide_true,if_true,e8,e16,e24,e32,b0,b1,b2,b3,ya,yb]
   rw [z6y a0 a1,z6y a2 a3,z6y (zdj a0 a1) (zdj a2 a3),zu1 (zdj (zdj a0 a1) (zdj a2 a3))]
   by_cases hz:(W0 ||| W1 ||| (W2 ||| W3)) &&& hiB=0
   ·simp only [hz,decide_true,if_true]
    obtain ⟨k,k1,k2⟩:=ih (s.drop 32) (by simp;omega)
    simp only [Lib.or_mask] at hz
    refine ⟨32+k,by simp_all,z8g ?_ k2⟩
    have t1:=z8g (c0 hz.1.1) (c1 hz.1.2)
    have t2:=z8g t1 (c2 hz.2.1)
    exact z8g t2 (c3 hz.2.2)
   ·simp only [hz,decide_false,yn,if_false]
    exact ⟨0,by simp,by simp⟩
  ·have h1:¬(32:Int)<((unb s).length:Int):=by rw [z04];omega
   exact ⟨0,by simp [h1],by simp⟩
theorem zz4 {c:Nat} (h:c<256):ix utf8First (c:Int)=some ((Lib.firstT c:Nat):Int):=by
 simp_all [z4k,utf8First]
theorem zz06t {i:Nat} (h:i<16):ix zbu (i:Int)=some ⟨((Lib.accLo i:Nat):Int),((Lib.accHi i:Nat):Int)⟩:=by
 grind [z4k,zbu]
theorem zz5 (c:Nat):Lib.firstT c<256:=by
 unfold Lib.firstT
 repeat' split
 all_goals omega
theorem zyj:∀ b:Fin 256,ybu .i64 (z7a .u8 ((b.val:Nat):Int) 7)=((b.val % 8:Nat):Int):=by decide +kernel
theorem shr4 {n:Nat}:zdm .u8 (n:Int) 4=((n / 16:Nat):Int):=by
 have e:min (4:Int).toNat IntKind.u8.bits=4:=rfl
 unfold zdm
 grind
theorem zqx {s:Z} {i:Nat} (h:i<s.length):ix (unb s) (i:Int)=some (((s.getD i 0).toNat:Nat):Int):=by
 grind [z4k,zh0]
def VK (b:Bool):Jn Bool Unit:=if b=true then .go () else .done false
set_option maxRecDepth 100000 in
set_option maxHeartbeats 2000000 in
theorem zpp:∀ (n:Nat) (s:Z),s.length≤n→M.z5r (unb s)=some (VK (Lib.validD s)):=by
 intro n
 induction n with
 | zero =>
  intro s hs
  obtain rfl:s=[]:=yai (by omega)
  rw [M.z5r.eq_1]
  rfl
 | succ n ih =>
  intro s hs
  by_cases hne:s=[]
  ·grind
  have hpos:0<s.length:=ya0.2 hne
  rw [M.z5r.eq_1]
  have h0:(0:Int)<((unb s).length:Int):=by rw [z04];omega
  have x0:ix (unb s) 0=some (((s.getD 0 0).toNat:Nat):Int):=zqx (i:=0) hpos
  simp only [h0,decide_true,if_true,x0,ya,yb]
  by_cases hc:(s.getD 0 0).toNat<128
  ·have hci:(((s.getD 0 0).toNat:Nat):Int)<128:=by omega
   have e1:sub (unb s) 1 ((unb s).length:Int)=some (unb (s.drop 1)):=z6z (k:=1) (by omega)
   have hs1:(s.drop 1).length<s.length:=by simp;omega
   have a0:∀ b∈s.take 1,b.toNat<128:=by
    obtain ⟨c,r,rfl⟩:∃ c r,s=c::r:=by
     cases s with
     | nil=>grind
     | cons c r=>simp
    intro b hb
    simp only [ybe,ybf,ya3] at hb
    subst hb
    simpa using hc
   have fin:∀ k:Nat,(∀ b∈(s.drop 1).take k,b.toNat<128)→((M.z5r (unb ((s.drop 1).drop k))).bind fun r=>some (Jn.done r:Jn (Jn Bool Unit) Unit))=some (.done (VK (Lib.validD s))):=fun k hk=>by
    grind [Lib.validD_ascii]
   simp only [hci,decide_true,if_true,e1,yb]
   generalize s.drop 1=t at e1 hs1 fin
   by_cases h8:8<t.length
   ·have h8i:(8:Int)<((unb t).length:Int):=by rw [z04];omega
    obtain ⟨W0,a0',b0,c0⟩:=zbv (s:=t) (by omega)
    simp only [h8i,decide_true,if_true,b0,yb]
    rw [zu1 a0']
    by_cases hz:W0 &&& hiB=0
    ·have e8:sub (unb t) 8 ((unb t).length:Int)=some (unb (t.drop 8)):=z6z (k:=8) (by omega)
     simp only [hz,decide_true,if_true,e8,yb]
     have k8:=c0 hz
     by_cases h16:16<(t.drop 8).length
     ·have h16i:(16:Int)<((unb (t.drop 8)).length:Int):=by rw [z04];omega
      obtain ⟨W1,a1,b1,c1⟩:=zbv (s:=t.drop 8) (by omega)
      obtain ⟨W2,a2,b2,c2⟩:=zbv (s:=(t.drop 8).drop 8) (by grind)
      have e82:sub (unb (t.drop 8)) 8 ((unb (t.drop 8)).length:Int)=some (unb ((t.drop 8).drop 8)):=z6z (k:=8) (by omega)
      have e16:sub (unb (t.drop 8)) 16 ((unb (t.drop 8)).length:Int)=some (unb ((t.drop 8).drop 16)):=z6z (k:=16) (by omega)
      simp only [h16i,decide_true,if_true,e82,b1,b2,yb]
      rw [z6y a1 a2,zu1 (zdj a1 a2)]
      by_cases hz2:(W1 ||| W2) &&& hiB=0
      ·simp only [hz2,decide_true,if_true,e16,yb]
       obtain ⟨k,k1,k2⟩:=zpq _ ((t.drop 8).drop 16) (ybi _)
       simp only [Lib.or_mask] at hz2
       have q1:=z8g (c1 hz2.1) (c2 hz2.2)
       have q2:=z8g q1 k2
       have q3:=z8g k8 q2
       have f:=fin (8+(8+8+k)) q3
       grind [yab]
      ·have f:=fin 8 k8
       grind
     ·have h16i:¬(16:Int)<((unb (t.drop 8)).length:Int):=by rw [z04];omega
      grind
    ·have f:=fin 0 (by simp)
     grind
   ·have h8i:¬(8:Int)<((unb t).length:Int):=by rw [z04];omega
    have f:=fin 0 (by simp)
    grind
  ·have hci:¬(((s.getD 0 0).toNat:Nat):Int)<128:=by omega
   have hc256:=ze5 (b:=s.getD 0 0)
   have hF:=zz5 (s.getD 0 0).toNat
   have hand:=zyj ⟨Lib.firstT (s.getD 0 0).toNat,hF⟩
   simp only at hand
   rw [Lib.validD_lead s hne (by omega)]
   simp only [hci,decide_false,yn,if_false,yb,zz4 hc256,shr4,zz06t (i:=Lib.firstT (s.getD 0 0).toNat / 16) (by omega),hand]
   generalize Lib.firstT (s.getD 0 0).toNat % 8=sz
   generalize Lib.accLo (Lib.firstT (s.getD 0 0).toNat / 16)=lo
   generalize Lib.accHi (Lib.firstT (s.getD 0 0).toNat / 16)=hi
   have hl:((unb s).length:Int)=(s.length:Int):=by rw [z04]
   have x1:1<s.length→ix (unb s) 1=some (((s.getD 1 0).toNat:Nat):Int):=fun h=>zqx (i:=1) h
   have x2:2<s.length→ix (unb s) 2=some (((s.getD 2 0).toNat:Nat):Int):=fun h=>zqx (i:=2) h
   have x3:3<s.length→ix (unb s) 3=some (((s.getD 3 0).toNat:Nat):Int):=fun h=>zqx (i:=3) h
   have d2:2≤s.length→sub (unb s) 2 ((unb s).length:Int)=some (unb (s.drop 2)):=fun h=>z6z (k:=2) h
   have d3:3≤s.length→sub (unb s) 3 ((unb s).length:Int)=some (unb (s.drop 3)):=fun h=>z6z (k:=3) h
   have d4:4≤s.length→sub (unb s) 4 ((unb s).length:Int)=some (unb (s.drop 4)):=fun h=>z6z (k:=4) h
   rw [hl] at d2 d3 d4
   simp only [hl]
   generalize (s.getD 1 0).toNat=b1 at x1
   generalize (s.getD 2 0).toNat=b2 at x2
   generalize (s.getD 3 0).toNat=b3 at x3
   unfold Lib.checkN
   have no:some (Jn.done false:Jn Bool Unit)=some (VK false):=rfl
   by_cases z2:sz=2
   ·grind
   ·have z2i:¬((sz:Nat):Int)=2:=by omega
    simp only [z2,z2i,decide_false,yn,if_false]
    by_cases z3:sz=3
    ·grind
    ·have z3i:¬((sz:Nat):Int)=3:=by omega
     simp only [z3,z3i,decide_false,yn,if_false]
     by_cases z4:sz=4
     ·have z4i:((sz:Nat):Int)=4:=by omega
      simp only [z4,z4i,decide_true,if_true]
      by_cases q1:s.length<4
      ·grind
      ·have q1i:¬(s.length:Int)<4:=by omega
       simp only [q1,q1i,decide_false,yn,if_false,false_or,x1 (by omega),x2 (by omega),x3 (by omega),yb]
       grind
     grind
theorem zz01a (s:Z):M.valid (unb s)=some (Lib.validD s):=by
 unfold M.valid
 have e0:sub (unb s) 0 ((unb s).length:Int)=some (unb s):=zaw (a:=0) (ybq _)
 have h:((unb s).length:Int)≤((unb s).length:Int):=Int.le_refl _
 rw [z3y (by simp)]
 simp only [ya,yb,e0,zpp _ s (ybi _)]
 cases Lib.validD s<;>rfl
section
abbrev RR:=q0d
def At (s r:Z) (i:Nat):Prop:=s.drop i=r∧i≤s.length
section
variable {s r:Z} {c:UInt8} {i:Nat}
theorem At.len (h:At s r i):i+r.length=s.length:=by
 obtain ⟨h1,h2⟩:=h
 grind
theorem At.nil (h:At s [] i):i=s.length:=by simpa using h.len
theorem At.cons (h:At s (c::r) i):s[i]? = some c∧At s r (i+1)∧i<s.length:=by
 obtain ⟨h1,h2,h3⟩:=zje h.1
 exact ⟨h1,⟨h2,h3⟩,h3⟩
theorem At.drop (h:At s r i) {k:Nat} (hk:k≤r.length):At s (r.drop k) (i+k):=by
 have:=h.len
 exact ⟨by rw [←h.1,yab],by omega⟩
theorem At.start:At s s 0:=⟨rfl,ybq _⟩
theorem zya {n:Nat} (h:n<4611686018427387904):ybu .i64 ((n:Nat):Int)=(n:Int):=w64 (by omega) (by omega)
theorem wnat {n m:Nat} (h:n+m<4611686018427387904):ybu .i64 ((n:Int)+(m:Int))=((n+m:Nat):Int):=wadd h
theorem zjy (hs:s.length<1000000) (g e:Int):∀ (r:Z) (i:Nat),At s r i→∃ j,At s (z0p r) j∧M.z19 ⟨s,g,e⟩ (i:Int)=some ⟨s,(j:Int),e⟩:=by
 intro r
 induction r with
 | nil =>
  intro i h
  have:=h.nil
  refine ⟨i,h,?_⟩
  grind [M.z19.eq_1]
 | cons c r ih =>
  intro i h
  obtain ⟨h1,h2,h3⟩:=h.cons
  have h4:((i:Int)<(s.length:Int)):=by omega
  have t1:((c.toNat:Int)=32)↔c=32:=toNat_eq (n:=32) (by omega)
  have t2:((c.toNat:Int)=9)↔c=9:=toNat_eq (n:=9) (by omega)
  have t3:((c.toNat:Int)=10)↔c=10:=toNat_eq (n:=10) (by omega)
  have t4:((c.toNat:Int)=13)↔c=13:=toNat_eq (n:=13) (by omega)
  rw [M.z19.eq_1]
  simp only [h4,decide_true,if_true,z4k,h1,ya,yb,t1,t2,t3,t4]
  have hb:=zz074 c
  cases hc:bl c with
  | true =>
   obtain ⟨j,j1,j2⟩:=ih (i+1) h2
   refine ⟨j,by simp_all [z0p],?_⟩
   rw [hc] at hb
   simp only [Bool.true_eq,yr,decide_eq_true_eq] at hb
   grind [w1]
  | false =>
   refine ⟨i,by grind [zez],?_⟩
   grind
theorem z4y (hs:s.length<1000000) (e:Int) (h:At s r i):∃ j,At s (z0p r) j∧M.q50 ⟨s,(i:Int),e⟩=some ⟨s,(j:Int),e⟩:=zjy hs _ e r i h
theorem zhi (hs:s.length<1000000) (e:Int) (i:Nat):∃ j:Nat,j≤max i s.length∧M.q50 ⟨s,(i:Int),e⟩=some ⟨s,(j:Int),e⟩:=by
 by_cases h:i≤s.length
 ·obtain ⟨j,h1,h2⟩:=z4y hs e (r:=s.drop i) ⟨rfl,h⟩
  exact ⟨j,by have:=h1.2;omega,h2⟩
 grind [M.q50,M.z19.eq_1]
def hd:Z→Int
 | []=>0
 | c::_=>(c.toNat:Int)
theorem z5o (e:Int) (h:At s r i):M.q4z ⟨s,(i:Int),e⟩=some (hd r):=by
 unfold M.q4z
 cases r with
 | nil =>
  have:=h.nil
  grind [hd]
 | cons c r =>
  obtain ⟨h1,h2,h3⟩:=h.cons
  grind [hd,z4k]
theorem zal (e:Int) (i:Nat):∃ c:Int,M.q4z ⟨s,(i:Int),e⟩=some c:=by
 by_cases h:i≤s.length
 ·exact ⟨_,z5o e (r:=s.drop i) ⟨rfl,h⟩⟩
 ·refine ⟨0,?_⟩
  grind [M.q4z]
theorem z30 (i c:Int):M.q59 ⟨s,i,0⟩ c=some ⟨s,i,c⟩:=by rfl
theorem zbq {i c e:Int} (h:¬e=0):M.q59 ⟨s,i,e⟩ c=some ⟨s,i,e⟩:=by simp [M.q59,h]
def hexs:Z→Nat→Option Nat
 | [],a=>some a
 | c::r,a=>match z5x c with
  | none=>none
  | some d=>hexs r (16*a+d)
theorem zvg (c:UInt8):(isD c=true∧48≤c.toNat∧c.toNat≤57∧z5x c=some (c.toNat - 48))∨(isD c=false∧97≤c.toNat∧c.toNat≤102∧z5x c=some (c.toNat - 87)) ∨
  (isD c=false∧65≤c.toNat∧c.toNat≤70∧z5x c=some (c.toNat - 55))∨(isD c=false∧¬(97≤c.toNat∧c.toNat≤102)∧¬(65≤c.toNat∧c.toNat≤70)∧z5x c=none):=by
 unfold z5x
 cases h:isD c with
 | true =>
  left
  simp only [isD,yg,decide_eq_true_eq] at h
  grind
 | false =>
  grind
theorem zov (g e:Int) (b:Nat) (hb:b+6≤s.length) (hs:s.length<1000000):∀ (n k acc m:Nat),b+6 - k=n→k≤b+6→m+n≤4→acc<16 ^ m →
  M.z0j (b:Int) ⟨s,g,e⟩ (acc:Int) (k:Int)=some (match hexs ((s.drop k).take n) acc with|some v => .go (v:Int)|none => .done (-1)):=by
 intro n
 induction n with
 | zero =>
  intro k acc m hn hk hm ha
  rw [M.z0j.eq_1,show ((b:Int)+6)=((b+6:Nat):Int) by omega,zya (by omega)]
  have h1:¬((k:Int)<((b+6:Nat):Int)):=by omega
  simp_all [if_neg,hexs]
 | succ n ih =>
  intro k acc m hn hk hm ha
  have hk2:k<s.length:=by omega
  have hacc:acc<65536:=ybj ha (show 16 ^ m≤16 ^ 4 from ybn (by decide) (by omega))
  rw [M.z0j.eq_1,show ((b:Int)+6)=((b+6:Nat):Int) by omega,zya (by omega)]
  have h1:((k:Int)<((b+6:Nat):Int)):=by omega
  rw [zq7 hk2,ybe]
  simp only [h1,decide_true,if_true,z4k,yan hk2,ya,yb,z4u]
  generalize s[k]=c
  have hc:=ze5 (b:=c)
  have step:∀ d:Nat,d<16→z5x c=some d→M.z0j (b:Int) ⟨s,g,e⟩ ((16*acc+d:Nat):Int) ((k+1:Nat):Int)=some (match hexs (c::(s.drop (k+1)).take n) acc with|some v => .go (v:Int)|none => .done (-1)):=fun d hd hx=>by
   rw [ih (k+1) (16*acc+d) (m+1) (by omega) (by omega) (by omega) (by omega)]
   rw [hexs,hx]
  have e16:ybu .i64 (16*(acc:Int))=((16*acc:Nat):Int):=by rw [w64]<;>omega
  rw [w1 (by omega),e16]
  rcases zvg c with ⟨k1,k2,k3,k4⟩|⟨k1,k2,k3,k4⟩|⟨k1,k2,k3,k4⟩|⟨k1,k2,k3,k4⟩
  ·have e2:ybu .u8 ((c.toNat:Int) - 48)=((c.toNat - 48:Nat):Int):=by rw [wu8];omega
   simp only [k1,if_true]
   rw [e2,zya (by omega),wnat (by omega)]
   grind
  ·have e2:ybu .u8 ((c.toNat:Int) - 97)=((c.toNat - 97:Nat):Int):=by rw [wu8];omega
   have q1:(97:Int)≤(c.toNat:Int):=by omega
   have q2:(c.toNat:Int)≤102:=by omega
   simp only [k1,yn,if_false,q1,q2,decide_true,yj,if_true]
   rw [e2,zya (by omega),wnat (by omega),show ((16*acc+(c.toNat - 97):Nat):Int)+10=((16*acc+(c.toNat - 87):Nat):Int) by omega,zya (by omega)]
   grind
  ·have e2:ybu .u8 ((c.toNat:Int) - 65)=((c.toNat - 65:Nat):Int):=by rw [wu8];omega
   have q0:¬(97:Int)≤(c.toNat:Int):=by omega
   have q1:(65:Int)≤(c.toNat:Int):=by omega
   have q2:(c.toNat:Int)≤70:=by omega
   simp only [k1,yn,if_false,q0,q1,q2,decide_true,decide_false,ym,yj,if_true]
   rw [e2,zya (by omega),wnat (by omega),show ((16*acc+(c.toNat - 65):Nat):Int)+10=((16*acc+(c.toNat - 55):Nat):Int) by omega,zya (by omega)]
   grind
  ·have q1:(decide ((97:Int)≤(c.toNat:Int))&&decide ((c.toNat:Int)≤102))=false:=by
    rw [yf,decide_eq_false_iff_not,decide_eq_false_iff_not];omega
   have q2:(decide ((65:Int)≤(c.toNat:Int))&&decide ((c.toNat:Int)≤70))=false:=by
    rw [yf,decide_eq_false_iff_not,decide_eq_false_iff_not];omega
   simp only [k1,yn,if_false,q1,q2]
   rw [hexs,k4]
theorem hexs4 (a b c d:UInt8):hexs [a,b,c,d] 0=(z5x a).bind fun ha=>(z5x b).bind fun hb=>(z5x c).bind fun hc=>(z5x d).bind fun hd=>some (16*(16*(16*ha+hb)+hc)+hd):=by
 simp only [hexs]
 grind
def zxx (r:Z):Int:=match unit r with
 | some (n,_)=>(n:Int)
 | none => -1
theorem ztg {r:Z} (h:r.length<6):unit r=none:=by
 cases hu:unit r with
 | none=>rfl
 | some p =>
  obtain ⟨n,r1⟩:=p
  have:=(za8 hu).2
  omega
theorem zn7 {r r1:Z} {n:Nat} (h:unit r=some (n,r1)):r1=r.drop 6∧6≤r.length:=by
 have hl:=(za8 h).2
 refine ⟨?_,by omega⟩
 unfold unit at h
 grind [Option.bind_eq_some_iff]
theorem zgl (hs:s.length<1000000) (g e:Int) (h:At s r i):M.q53 ⟨s,g,e⟩ (i:Int)=some (zxx r):=by
 have hl:=h.len
 unfold M.q53 zxx
 rw [show ((i:Int)+6)=((i+6:Nat):Int) by omega,zya (by omega)]
 by_cases h6:r.length<6
 ·have h1:((s.length:Int)<((i+6:Nat):Int)):=by omega
  simp_all [ztg]
 ·have h1:¬((s.length:Int)<((i+6:Nat):Int)):=by omega
  obtain ⟨x,y,a,b,c,d,t,rfl⟩:∃ x y a b c d t,r=x::y::a::b::c::d::t:=by
   match r with
   | x::y::a::b::c::d::t=>simp
   | []=>simp at h6
   | [_]=>simp at h6
   | [_,_]=>simp at h6
   | [_,_,_]=>simp at h6
   | [_,_,_,_]=>simp at h6
   | [_,_,_,_,_]=>simp at h6
  obtain ⟨g1,g2,_⟩:=h.cons
  obtain ⟨g3,g4,_⟩:=g2.cons
  have t1:((x.toNat:Int)=92)↔x=92:=toNat_eq (n:=92) (by omega)
  have t2:((y.toNat:Int)=117)↔y=117:=toNat_eq (n:=117) (by omega)
  rw [w1 (by omega),show ((i:Int)+2)=((i+2:Nat):Int) by omega,zya (by omega)]
  simp only [yaw] at hl
  have hk:=zov g e i (by omega) hs 4 (i+2) 0 0 (by omega) (by omega) (by omega) (by decide)
  rw [g4.1] at hk
  have e4:(a::b::c::d::t).take 4=[a,b,c,d]:=rfl
  rw [e4,hexs4] at hk
  have hk:M.z0j (i:Int) ⟨s,g,e⟩ 0 ((i+2:Nat):Int)=_:=hk
  simp only [h1,decide_false,yn,if_false,z4k,g1,g3,ya,yb,t1,t2,hk]
  unfold unit
  by_cases hx:x=92
  ·by_cases hy:y=117
   ·simp only [hx,hy,decide_true,yq,yn,if_false,and_self,if_true]
    cases z5x a with
    | none=>rfl
    | some ha =>
     cases z5x b with
     | none=>rfl
     | some hb =>
      cases z5x c with
      | none=>rfl
      | some hc =>
       grind [z5x]
   grind
  ·simp [hx]
theorem zt0 (hs:s.length<1000000) (e:Int) {c:UInt8} (hi:s[i+1]? = some c) :
  M.z06 ⟨s,(i:Int),e⟩ 0=some (match esc1 c with|some y => .done ([y],⟨s,((i+2:Nat):Int),e⟩)|none => .go ()):=by
 have hlt:i+1<s.length:=(List.getElem?_eq_some_iff.1 hi).1
 have st:∀ (k:Nat) (x y:UInt8),k<8→(B31:Z)[k]? = some x→([34,92,47,8,12,10,13,9]:Z)[k]? = some y →
   M.z06 ⟨s,(i:Int),e⟩ (k:Int)=if c=x then some (.done ([y],⟨s,((i+2:Nat):Int),e⟩)) else M.z06 ⟨s,(i:Int),e⟩ ((k+1:Nat):Int):=by
  intro k x y hk h1 h2
  rw [M.z06.eq_1]
  have hk2:((k:Int)<((B31:Z).length:Int)):=by simp only [yaw,yaz];omega
  have hy:k<([34,92,47,8,12,10,13,9]:Z).length:=by simp only [yaw,yaz];omega
  have hy2:([34,92,47,8,12,10,13,9]:Z)[k]=y:=by
   have:=yan hy
   rw [h2] at this
   exact (Option.some.inj this).symm
  have tx:((c.toNat:Int)=(x.toNat:Int))↔c=x:=by
   constructor
   ·grind [ybw]
   ·grind
  rw [w1 (by omega),sub_1 hy (by simp),hy2,w1 (by omega),show ((i:Int)+2)=((i+2:Nat):Int) by omega,zya (by omega)]
  simp only [hk2,decide_true,if_true,z4k,hi,h1,ya,yb,tx]
  by_cases hcx:c=x
  ·simp [hcx]
  ·simp [hcx]
 have en:M.z06 ⟨s,(i:Int),e⟩ ((8:Nat):Int)=some (.go ()):=by
  rw [M.z06.eq_1]
  simp
 have s0:=st 0 34 34 (by omega) rfl rfl
 have s0:M.z06 ⟨s,(i:Int),e⟩ 0=_:=s0
 rw [s0,st 1 92 92 (by omega) rfl rfl,st 2 47 47 (by omega) rfl rfl,st 3 98 8 (by omega) rfl rfl,st 4 102 12 (by omega) rfl rfl,st 5 110 10 (by omega) rfl rfl,st 6 114 13 (by omega) rfl rfl,st 7 116 9 (by omega) rfl rfl,en]
 unfold esc1
 grind
theorem zz03v {n:Nat} (h:zr2 n=false):(decide ((n:Int)<55296)||decide (56319<(n:Int))) = !zjf n:=by
 unfold zr2 at h
 unfold zjf
 grind
def EscOk (s:Z) (z:Option (Z × RR)):Option (Z × Z)→Prop
 | some (t,r2)=>∃ j,At s r2 j∧z=some (t,⟨s,(j:Int),0⟩)
 | none=>∃ j:Nat,j≤s.length∧z=some ([],⟨s,(j:Int),20⟩)
theorem zhj (hs:s.length<1000000) (h:At s (92::r) i):EscOk s (M.q51 ⟨s,(i:Int),0⟩) (zfd (92::r)):=by
 obtain ⟨g1,g2,g3⟩:=h.cons
 have hl:=h.len
 simp only [yaw] at hl
 have four:=zgl hs (i:Int) 0 h
 unfold M.q51
 rw [w1 (by omega)]
 cases r with
 | nil =>
  have hn:¬(((i+1:Nat):Int)<(s.length:Int)):=by simp only [yaz] at hl;omega
  have e1:zfd [92]=none:=rfl
  rw [e1]
  refine ⟨i,by omega,?_⟩
  have hu:zxx [92] = -1:=rfl
  simp_all [z30]
 | cons c r =>
  obtain ⟨g4,g5,g6⟩:=g2.cons
  have hy:(((i+1:Nat):Int)<(s.length:Int)):=by omega
  simp only [hy,decide_true,if_true,zt0 hs 0 g4,ya,yb]
  cases hc:esc1 c with
  | some y =>
   rw [show zfd (92::c::r)=some ([y],r) by simp [zfd,hc]]
   exact ⟨i+2,g5,rfl⟩
  | none =>
   simp only [four,yb]
   unfold zxx
   cases hu:unit (92::c::r) with
   | none =>
    rw [show zfd (92::c::r)=none by grind [zfd]]
    exact ⟨i,by omega,by rfl⟩
   | some p =>
    obtain ⟨n,r1⟩:=p
    obtain ⟨u1,u2⟩:=za8 hu
    obtain ⟨u3,u4⟩:=zn7 hu
    have a6:At s r1 (i+6):=by rw [u3];exact h.drop u4
    have hn0:¬((n:Int)<0):=by omega
    have e6:ybu .i64 ((i:Int)+6)=((i+6:Nat):Int):=by rw [w64]<;>omega
    have e32:ybu .i32 (n:Int)=(n:Int):=w32 (by omega) (by omega)
    simp only [hn0,decide_false,yo,rng3,e6,e32]
    cases c1:zr2 n with
    | true =>
     rw [show zfd (92::c::r)=none by grind [zfd]]
     exact ⟨i,by omega,by rfl⟩
    | false =>
     simp only [yn,if_false,zz03v c1]
     cases c2:zjf n with
     | false =>
      rw [show zfd (92::c::r)=some (encS (n:Int),r1) by grind [zfd]]
      exact ⟨i+6,a6,by simp⟩
     | true =>
      have four2:=zgl hs ((i+6:Nat):Int) 0 a6
      simp only [yq,yn,if_false,Bool.true_eq_false,four2,yb]
      unfold zxx
      have a6l:=a6.2
      cases hu2:unit r1 with
      | none =>
       rw [show zfd (92::c::r)=none by grind [zfd]]
       exact ⟨i+6,a6l,by rfl⟩
      | some p2 =>
       obtain ⟨m,r2⟩:=p2
       obtain ⟨u5,u6⟩:=za8 hu2
       obtain ⟨u7,u8⟩:=zn7 hu2
       have a12:At s r2 (i+6+6):=by rw [u7];exact a6.drop u8
       simp only [rng1]
       cases c3:zr2 m with
       | false =>
        rw [show zfd (92::c::r)=none by grind [zfd]]
        exact ⟨i+6,a6l,by rfl⟩
       | true =>
        obtain ⟨q1,q2⟩:=zvh c2
        obtain ⟨q3,q4⟩:=zz024 c3
        have e12:ybu .i64 (((i+6:Nat):Int)+6)=((i+6+6:Nat):Int):=by rw [w64]<;>omega
        have n1:ybu .i64 ((n:Int) - 55296)=(n:Int) - 55296:=w64 (by omega) (by omega)
        have n2:ybu .i64 (1024*((n:Int) - 55296))=1024*((n:Int) - 55296):=w64 (by omega) (by omega)
        have n3:ybu .i64 (65536+1024*((n:Int) - 55296))=65536+1024*((n:Int) - 55296):=w64 (by omega) (by omega)
        have n4:ybu .i64 (65536+1024*((n:Int) - 55296)+(m:Int))=65536+1024*((n:Int) - 55296)+(m:Int):=w64 (by omega) (by omega)
        have n5:ybu .i64 (65536+1024*((n:Int) - 55296)+(m:Int) - 56320)=65536+1024*((n:Int) - 55296)+(m:Int) - 56320:=w64 (by omega) (by omega)
        have n6:ybu .i32 (65536+1024*((n:Int) - 55296)+(m:Int) - 56320)=65536+1024*((n:Int) - 55296)+(m:Int) - 56320:=w32 (by omega) (by omega)
        have n7:65536+1024*((n:Int) - 55296)+(m:Int) - 56320=65536+((n:Int) - 55296)*1024+(m:Int) - 56320:=by omega
        rw [show zfd (92::c::r)=some (encS (65536+((n:Int) - 55296)*1024+(m:Int) - 56320),r2) by grind [zfd]]
        simp only [if_true,e12,n1,n2,n3,n4,n5,n6]
        rw [n7]
        exact ⟨i+6+6,a12,by simp⟩
theorem z8y {acc:List Int} {j:Int}:M.z0y acc ⟨s,j,20⟩=some (.go ⟨s,j,20⟩):=by
 rw [M.z0y.eq_1]
 simp
def TxtOk (s:Z) (z:Option (Jn (Z × RR) RR)):Option (Z × Z)→Prop
 | some (t,r2)=>∃ j,At s r2 j∧z=some (.done (t,⟨s,(j:Int),0⟩))
 | none=>∃ j:Nat,j≤s.length+1∧((∃ t,z=some (.done (t,⟨s,(j:Int),20⟩)))∨z=some (.go ⟨s,(j:Int),20⟩))
def zz06p (s:Z) (z:Option (Z × RR)):Option (Z × Z)→Prop
 | some (t,r2)=>∃ j,At s r2 j∧z=some (t,⟨s,(j:Int),0⟩)
 | none=>∃ t,∃ j:Nat,j≤s.length+1∧z=some (t,⟨s,(j:Int),20⟩)
theorem zow (hs:s.length<1000000):∀ (f:Nat) (r acc:Z) (i:Nat),r.length<f→At s r i→acc.length+4*r.length<1000000000→TxtOk s (M.z0y (unb acc) ⟨s,(i:Int),0⟩) (txt f r acc):=by
 intro f
 induction f with
 | zero=>omega
 | succ f ih =>
  intro r acc i hf h ha
  have hl:=h.len
  rw [M.z0y.eq_1]
  simp only [decide_true,if_true,z5o 0 h,ya,yb]
  cases r with
  | nil =>
   rw [txt]
   refine ⟨i,by omega,.inr ?_⟩
   simp [hd,z30,z8y]
  | cons c r =>
   obtain ⟨g1,g2,g3⟩:=h.cons
   simp only [yaw] at hf hl ha
   have t34:((c.toNat:Int)=34)↔c=34:=toNat_eq (n:=34) (by omega)
   have t92:((c.toNat:Int)=92)↔c=92:=toNat_eq (n:=92) (by omega)
   have t32:((c.toNat:Int)<32)↔c.toNat<32:=by omega
   simp only [hd,t34,t92,t32]
   rw [txt]
   by_cases c34:c=34
   ·subst c34
    have n32:¬(34:UInt8).toNat<32:=by decide
    simp only [n32,if_false,if_true,decide_true,zz01a acc,yb]
    rw [w1 (by omega)]
    cases hv:Lib.validD acc with
    | true=>exact ⟨i+1,g2,by simp [z8i]⟩
    | false=>exact ⟨i+1,by omega,.inl ⟨acc,by simp [z8i,z30]⟩⟩
   ·by_cases c32:c.toNat<32
    ·simp only [c32,c34,if_true,decide_true,decide_false,yn,if_false,z30,yb]
     exact ⟨i,by omega,.inr z8y⟩
    ·by_cases c92:c=92
     ·subst c92
      have he:=zhj hs h
      simp only [c32,c34,if_true,decide_true,decide_false,yn,if_false]
      cases hx:zfd (92::r) with
      | none =>
       rw [hx] at he
       obtain ⟨j,j1,j2⟩:=he
       simp only [j2,yb]
       have ea:app 1 (unb acc) (unb [])=some (unb acc++unb []):=z36 (by grind [unb])
       simp only [ea,yb]
       exact ⟨j,by omega,.inr z8y⟩
      | some p =>
       obtain ⟨t,r2⟩:=p
       rw [hx] at he
       obtain ⟨j,j1,j2⟩:=he
       have hle:=zeo hx
       grind [unb,z36,z2w]
     ·simp only [c32,c34,c92,if_true,decide_true,decide_false,yn,if_false]
      have ea:app 1 (unb acc) [(c.toNat:Int)]=some (unb acc++[(c.toNat:Int)]):=z36 (by grind [unb])
      simp only [ea,yb]
      rw [w1 (by omega),show unb acc++[(c.toNat:Int)]=unb (acc++[c]) by simp [unb]]
      exact ih r (acc++[c]) (i+1) (by omega) g2 (by simp;omega)
theorem zgm (hs:s.length<1000000) (h:At s r i):zz06p s (M.q56 ⟨s,(i:Int),0⟩) (text r):=by
 have hl:=h.len
 unfold M.q56
 simp only [z5o 0 h,ya,yb]
 cases r with
 | nil=>exact ⟨[],i,by omega,by rfl⟩
 | cons c r =>
  obtain ⟨_,g2,_⟩:=h.cons
  have t34:((c.toNat:Int)=34)↔c=34:=toNat_eq (n:=34) (by omega)
  simp only [hd,t34]
  by_cases c34:c=34
  ·rw [show text (c::r)=txt (r.length+1) r [] by simp [text,c34]]
   simp only [c34,decide_true,yq,yn,if_false,if_true]
   rw [w1 (by omega)]
   have hk:=zow hs (r.length+1) r [] (i+1) (by omega) g2 (by grind)
   have e0:unb ([]:Z)=[]:=rfl
   rw [e0] at hk
   cases hx:txt (r.length+1) r [] with
   | none =>
    rw [hx] at hk
    obtain ⟨j,j1,j2⟩:=hk
    rcases j2 with ⟨t,j2⟩|j2
    ·exact ⟨t,j,j1,by grind⟩
    ·exact ⟨[],j,j1,by grind⟩
   | some p =>
    obtain ⟨t,r2⟩:=p
    rw [hx] at hk
    obtain ⟨j,j1,j2⟩:=hk
    exact ⟨j,j1,by grind⟩
  ·rw [zxu c34]
   exact ⟨[],i,by omega,by simp [c34,z30]⟩
theorem zoy (hs:s.length<1000000) (e:Int) (h:At s r i):M.z0k ⟨s,(i:Int),e⟩ 0=some (
  if (B28:Z).isPrefixOf r=true then .done (⟨0,[],[],[]⟩,⟨s,((i+4:Nat):Int),e⟩)
  else if (B21:Z).isPrefixOf r=true then .done (⟨1,[],[],[]⟩,⟨s,((i+5:Nat):Int),e⟩)
  else if (B29:Z).isPrefixOf r=true then .done (⟨2,[],[],[]⟩,⟨s,((i+4:Nat):Int),e⟩)
  else .go ()):=by
 have hl:=h.len
 have st:∀ (k:Nat) (p:Z),k<3→p.length<10→([(B28:Z),(B21:Z),(B29:Z)])[k]? = some p →
   M.z0k ⟨s,(i:Int),e⟩ (k:Int)=if p.isPrefixOf r=true then some (.done (⟨(k:Int),[],[],[]⟩,⟨s,((i+p.length:Nat):Int),e⟩)) else M.z0k ⟨s,(i:Int),e⟩ ((k+1:Nat):Int):=by
  intro k p hk hp hx
  rw [M.z0k.eq_1]
  have hk2:((k:Int)<3):=by omega
  have e1:ybu .i64 ((s.length:Int) - (i:Int))=(r.length:Int):=by rw [w64]<;>omega
  rw [e1,w1 (by omega)]
  have e5:ybu .i64 ((i:Int)+(p.length:Int))=((i+p.length:Nat):Int):=wnat (by omega)
  simp only [hk2,decide_true,if_true,z4k,hx,ya,yb,e5]
  by_cases hle:p.length≤r.length
  ·have e2:sub s (i:Int) ((i+p.length:Nat):Int)=some (r.take p.length):=by
    rw [zem (by omega) (by omega),yag,h.1]
    congr 2
    omega
   simp_all [zri]
  ·grind
 have en:M.z0k ⟨s,(i:Int),e⟩ ((3:Nat):Int)=some (.go ()):=by
  rw [M.z0k.eq_1]
  simp
 have s0:M.z0k ⟨s,(i:Int),e⟩ 0=_:=st 0 B28 (by omega) (by decide) rfl
 rw [s0,st 1 B21 (by omega) (by decide) rfl,st 2 B29 (by omega) (by decide) rfl,en]
 simp only [yaw,yaz]
 split
 ·rfl
 ·split
  ·rfl
  ·split<;>rfl
def zz06s (s:Z) (z:Option (q04 × RR)):Rd→Prop
 | .ok (x,r2)=>∃ r1 j,At s r1 j∧z0p r1=r2∧z=some (x,⟨s,(j:Int),0⟩)
 | .pan c=>c=20∧∃ x,∃ j:Nat,j≤s.length∧z=some (x,⟨s,(j:Int),20⟩)
theorem zox (hs:s.length<1000000) (h:At s r i):zz06s s (M.q58 ⟨s,(i:Int),0⟩) (word r):=by
 have hl:=h.len
 unfold M.q58 word take
 rw [zoy hs 0 h]
 by_cases p1:(B28:Z).isPrefixOf r=true
 ·have:=zgf p1
  simp only [p1,if_true,ya,yb]
  exact ⟨_,i+4,h.drop this,rfl,rfl⟩
 ·by_cases p2:(B21:Z).isPrefixOf r=true
  ·have:=zgf p2
   simp only [p1,p2,if_true,ya,yb,if_false,yn]
   exact ⟨_,i+5,h.drop this,rfl,rfl⟩
  ·by_cases p3:(B29:Z).isPrefixOf r=true
   ·have:=zgf p3
    simp only [p1,p2,p3,if_true,ya,yb,if_false,yn]
    exact ⟨_,i+4,h.drop this,rfl,rfl⟩
   ·have e1:sub s (i:Int) (s.length:Int)=some r:=by rw [zaw (by omega),h.1]
    simp only [p1,p2,p3,ya,yb,if_false,yn,e1]
    rw [zjz (by omega)]
    simp only [yb]
    have hn:=zm6 r
    by_cases hz:num r=0
    ·have hz2:((num r:Nat):Int)=0:=by omega
     simp only [hz,if_true]
     exact ⟨rfl,⟨0,[],[],[]⟩,i,by omega,by rfl⟩
    ·have hz2:¬((num r:Nat):Int)=0:=by omega
     have e2:ybu .i64 ((i:Int)+((num r:Nat):Int))=((i+num r:Nat):Int):=wnat (by omega)
     have e3:ybu .i64 (((i+num r:Nat):Int) - ((num r:Nat):Int))=(i:Int):=by rw [w64]<;>omega
     have e4:sub s (i:Int) ((i+num r:Nat):Int)=some (r.take (num r)):=by
      rw [zem (by omega) (by omega),yag,h.1]
      congr 2
      omega
     simp only [hz,hz2,if_false,decide_false,yn,e2,e3,e4,yb]
     exact ⟨_,i+num r,h.drop hn,rfl,rfl⟩
end
end
section
section
variable {s r:Z} {c:UInt8} {i:Nat}
abbrev RL:=q0d × (List q04) × (List Z)
def keyX (s:Z) (i:Int) (ks:List Z):Option (q0d × (List Z)):=do
 let a_2170←M.q50 (q0d.mk s i 0)
 let a_2172←M.q56 a_2170
 let l_2174←app 16 ks [a_2172.1]
 let j_2194←(do
   let j_2198←(do
     if (decide (a_2172.2.ge=0)) then
      let a_2199←M.q5a l_2174
      some a_2199
     else
      some false:Option Bool)
   if j_2198 then
    let a_2201←M.q59 a_2172.2 20
    some a_2201
   else
    some a_2172.2:Option q0d)
 let a_2203←M.q50 j_2194
 let j_2216←(do
   let a_2217←M.q4z a_2203
   if (!decide (a_2217=58)) then
    let a_2219←M.q59 a_2203 20
    some a_2219
   else
    some a_2203:Option q0d)
 some ((q0d.mk j_2216.gs (ybu .i64 (j_2216.gi+1)) j_2216.ge),l_2174)
def zte (a3:Int) (self:RR→Int→Option (q04 × RR)) (p1:Int) (s:Z) (i e:Int) (l:List q04) (ks:List Z):Option RL:=do
 let j_2231←(do
   if (decide (e=0)) then
    let a_2232←self (q0d.mk s i e) (ybu .i64 (p1+1))
    let l_2234←app 72 l [a_2232.1]
    some (a_2232.2,l_2234)
   else
    some (q0d.mk s i e,l):Option (q0d × (List q04)))
 let a_2235←M.q4z j_2231.1
 if (decide (a_2235=44)) then
  M.zw a3 self p1 (decide (a_2235=44)) (q0d.mk j_2231.1.gs (ybu .i64 (j_2231.1.gi+1)) j_2231.1.ge) j_2231.2 ks
 else
  M.zw a3 self p1 (decide (a_2235=44)) j_2231.1 j_2231.2 ks
theorem zz042 (self:RR→Int→Option (q04 × RR)) (p1:Int) (s:Z) (i:Int) (l:List q04) (ks:List Z) :
  M.zw 91 self p1 true ⟨s,i,0⟩ l ks=zte 91 self p1 s i 0 l ks:=by
 rw [M.zw.eq_1]
 simp only [zjn]
 rfl
theorem zz07p (self:RR→Int→Option (q04 × RR)) (p1:Int) (s:Z) (i:Int) (l:List q04) (ks:List Z) :
  M.zw 123 self p1 true ⟨s,i,0⟩ l ks=(keyX s i ks).bind fun j=>zte 123 self p1 j.1.gs j.1.gi j.1.ge l j.2:=by
 rw [M.zw.eq_1]
 simp only [zjn]
 rfl
theorem z9q (a3:Int) (self:RR→Int→Option (q04 × RR)) (p1:Int) (b:Bool) (s:Z) (i e:Int) (l:List q04) (ks:List Z) (h:b=false∨¬e=0) :
  M.zw a3 self p1 b ⟨s,i,e⟩ l ks=some (⟨s,i,e⟩,l,ks):=by
 rw [M.zw.eq_1]
 grind
def KeyOk (s:Z) (z:Option (q0d × (List Z))):Rs (Z × List Z)→Prop
 | .ok (r2,ks1)=>∃ r1 j,At s r1 j∧z0p r1=r2∧z=some (⟨s,(j:Int),0⟩,ks1)
 | .pan c=>c=20∧∃ (j:Nat) (ks':List Z),j≤s.length+3∧z=some (⟨s,(j:Int),20⟩,ks')
theorem zz045 (hs:s.length<1000000) {ks:List Z} (hk:ks.length<1000000) (hn:ks.Nodup) (h:At s r i):KeyOk s (keyX s (i:Int) ks) (zto (z0p r) ks):=by
 obtain ⟨j1,a1,b1⟩:=z4y hs 0 h
 have ht:=zgm hs a1
 unfold keyX zto
 simp only [b1,ya,yb]
 have bad:∀ (j:Nat) (t:Z),j≤s.length+1→∃ (j':Nat),j'≤s.length+3∧((M.q50 ⟨s,(j:Int),20⟩).bind fun a_2203=>((M.q4z a_2203).bind fun a_2217=>if (!decide (a_2217=58)) then (M.q59 a_2203 20).bind fun a_2219=>some a_2219 else some a_2203).bind fun j_2216=>some ((q0d.mk j_2216.gs (ybu .i64 (j_2216.gi+1)) j_2216.ge),ks++[t]))=some (⟨s,(j':Int),20⟩,ks++[t]):=by
  intro j t hj
  obtain ⟨j2,a2,b2⟩:=zhi hs 20 j
  obtain ⟨c,hc⟩:=zal (s:=s) 20 j2
  refine ⟨j2+1,by omega,?_⟩
  simp only [b2,hc,yb,zbq (show ¬(20:Int)=0 by decide)]
  have hw:=w1 (n:=j2) (by omega)
  split<;>simp [hw]
 cases hx:text (z0p r) with
 | none =>
  rw [hx] at ht
  obtain ⟨t,j2,h2,h3⟩:=ht
  have ea:app 16 ks [t]=some (ks++[t]):=z36 (by simp;omega)
  obtain ⟨j',q1,q2⟩:=bad j2 t h2
  refine ⟨rfl,j',ks++[t],q1,?_⟩
  grind
 | some p =>
  obtain ⟨t,r2⟩:=p
  rw [hx] at ht
  obtain ⟨j2,h2,h3⟩:=ht
  have h2l:=h2.2
  have ea:app 16 ks [t]=some (ks++[t]):=z36 (by simp;omega)
  have etw:M.q5a (ks++[t])=some (decide (t∈ks)):=by
   rw [zz012 (by simp;omega)]
   congr 1
   rw [yl]
   simp only [Bool.not_eq_true',decide_eq_false_iff_not,decide_eq_true_eq,List.nodup_append,hn,List.nodup_cons,ya6,not_false_eq_true,ya5,and_self,true_and]
   constructor
   ·simp
   ·simp
  simp only [h3,yb,ea,decide_true,if_true,etw]
  by_cases hm:t∈ks
  ·obtain ⟨j',q1,q2⟩:=bad j2 t (by omega)
   simp only [hm,decide_true,if_true,z30,yb]
   exact ⟨rfl,j',ks++[t],q1,q2⟩
  ·obtain ⟨j3,a3,b3⟩:=z4y hs 0 h2
   have hat:=z5o 0 a3
   simp only [hm,decide_false,yn,if_false,yb,b3,hat]
   rw [take_one]
   have a3l:=a3.2
   cases hb:z0p r2 with
   | nil =>
    refine ⟨rfl,j3+1,ks++[t],by omega,?_⟩
    grind [hd,z30,w1]
   | cons d r3 =>
    rw [hb] at a3
    have t58:((d.toNat:Int)=58)↔d=58:=toNat_eq (n:=58) (by omega)
    by_cases hd58:d=58
    ·subst hd58
     have e58:hd (58::r3)=58:=rfl
     simp only [e58,decide_true,yq,yn,if_false,if_true,yb]
     exact ⟨r3,j3+1,a3.cons.2.1,rfl,by grind [w1]⟩
    ·have n58:¬hd (d::r3)=58:=fun e=>hd58 (t58.1 e)
     simp only [n58,hd58,decide_false,yp,if_true,if_false]
     refine ⟨rfl,j3+1,ks++[t],by omega,?_⟩
     grind [z30,w1]
def zpt (s:Z) (o:Bool) (en:UInt8) (B:Nat) (z:Option RL):Rd→Prop
 | .ok (x,r2)=>∃ r1 j,At s (en::r1) j∧z0p r1=r2∧z=some (⟨s,(j:Int),0⟩,x.zk,x.z08)∧x.zh=(if o=true then 6 else 5)∧x.z0i=[]
 | .pan c=>∃ (j:Nat) (e':Int) (l':List q04) (ks':List Z),j≤B+1∧z=some (⟨s,(j:Int),e'⟩,l',ks')∧((e'=c∧¬c=0)∨(e'=0∧c=20∧∃ r1,At s r1 j∧¬hd r1=(en.toNat:Int)))
def zni (s:Z) (B:Nat) (z:Option (q04 × RR)):Rd→Prop
 | .ok (x,r2)=>∃ j,At s r2 j∧z=some (x,⟨s,(j:Int),0⟩)
 | .pan c=>¬c=0∧∃ x,∃ j:Nat,j≤B∧z=some (x,⟨s,(j:Int),c⟩)
theorem zz011 (hs:s.length<1000000) {a3 p1 e:Int} {self:RR→Int→Option (q04 × RR)} {l:List q04} {ks:List Z} {i B:Nat} (he:¬e=0) (hB:i≤B) (hB2:B<2000000) (o:Bool) (en:UInt8) :
  zpt s o en B (zte a3 self p1 s (i:Int) e l ks) (.pan e):=by
 obtain ⟨c,hc⟩:=zal (s:=s) e i
 unfold zte
 simp only [he,decide_false,yn,if_false,ya,yb,hc]
 rw [w1 (by omega)]
 split
 ·exact ⟨i+1,e,l,ks,by omega,z9q _ _ _ _ _ _ _ _ _ (.inr he),.inl ⟨rfl,he⟩⟩
 ·exact ⟨i,e,l,ks,by omega,z9q _ _ _ _ _ _ _ _ _ (.inr he),.inl ⟨rfl,he⟩⟩
theorem zxt (hs:s.length<1000000) {o:Bool} {en:UInt8} (hen:en=if o=true then 125 else 93) {a3:Int} {w:Nat} (hw:w<16) {self:RR→Int→Option (q04 × RR)} {l:List q04} {ks:List Z} {B:Nat} (hB:s.length+3≤B) (hB2:B<2000000)
  {vr:Rd} {f:Nat} {vf:Z→Rd} (hv:zni s B (self ⟨s,(i:Int),0⟩ ((w+1:Nat):Int)) vr) (hl:l.length<1000000)
  (ih:∀ x r2 j,vr = .ok (x,44::r2)→At s (44::r2) j→zpt s o en B (M.zw a3 self (w:Int) true ⟨s,((j+1:Nat):Int),0⟩ (l++[x]) ks) (items vf o en f (z0p r2) (l++[x]) ks)) :
  zpt s o en B (zte a3 self (w:Int) s (i:Int) 0 l ks) (match (generalizing:=false) vr with
   | .pan c => .pan c
   | .ok (x,s2)=>match take s2 [en] with
    | some r => .ok (⟨if o=true then 6 else 5,[],l++[x],ks⟩,r)
    | none=>match take s2 [44] with
     | none => .pan 20
     | some r=>items vf o en f r (l++[x]) ks):=by
 unfold zte
 rw [w1 (by omega)]
 simp only [decide_true,if_true,ya]
 cases vr with
 | pan c =>
  obtain ⟨hc0,x,j,hj,hx⟩:=hv
  have ea:app 72 l [x]=some (l++[x]):=z36 (by simp;omega)
  obtain ⟨c',hc⟩:=zal (s:=s) c j
  simp only [hx,yb,ea,hc]
  rw [w1 (by omega)]
  split
  ·exact ⟨j+1,c,l++[x],ks,by omega,z9q _ _ _ _ _ _ _ _ _ (.inr hc0),.inl ⟨rfl,hc0⟩⟩
  ·exact ⟨j,c,l++[x],ks,by omega,z9q _ _ _ _ _ _ _ _ _ (.inr hc0),.inl ⟨rfl,hc0⟩⟩
 | ok p =>
  obtain ⟨x,s2⟩:=p
  obtain ⟨j,hj,hx⟩:=hv
  have hjl:=hj.2
  have ea:app 72 l [x]=some (l++[x]):=z36 (by simp;omega)
  simp only [hx,yb,ea,z5o 0 hj]
  rw [w1 (by omega),take_one,take_one]
  cases s2 with
  | nil =>
   have n44:¬((0:Int)=44):=by decide
   simp only [hd,n44,decide_false,yn,if_false]
   exact ⟨j,0,l++[x],ks,by omega,z9q _ _ _ _ _ _ _ _ _ (.inl rfl),.inr ⟨rfl,rfl,[],hj,by subst hen;cases o<;>decide⟩⟩
  | cons d r2 =>
   have t44:((d.toNat:Int)=44)↔d=44:=toNat_eq (n:=44) (by omega)
   by_cases h44:d=44
   ·subst h44
    have hne:¬((44:UInt8)=en):=by subst hen;cases o<;>decide
    have e44:hd (44::r2)=44:=rfl
    grind
   ·simp only [hd,t44,h44,decide_false,yn,if_false]
    by_cases hde:d=en
    ·subst hde
     simp only [if_true]
     exact ⟨r2,j,hj,rfl,z9q _ _ _ _ _ _ _ _ _ (.inl rfl),rfl,rfl⟩
    ·simp only [hde,if_false]
     refine ⟨j,0,l++[x],ks,by omega,z9q _ _ _ _ _ _ _ _ _ (.inl rfl),.inr ⟨rfl,rfl,d::r2,hj,fun e=>hde ?_⟩⟩
     grind [hd,ybw]
theorem zwz (hs:s.length<1000000) {o:Bool} {en:UInt8} (hen:en=if o=true then 125 else 93) {w:Nat} (hw:w<16) {self:RR→Int→Option (q04 × RR)} {vf:Z→Rd} {B:Nat} (hB:s.length+3≤B) (hB2:B<2000000)
  (hv:∀ r i,At s r i→zni s B (self ⟨s,(i:Int),0⟩ ((w+1:Nat):Int)) (vf (z0p r))) (hvl:∀ s x r,vf s = .ok (x,r)→r.length+1≤s.length) :
  ∀ (f:Nat) (r:Z) (i:Nat) (l:List J) (ks:List Z),r.length<f→At s r i→l.length≤i→ks.length≤i→ks.Nodup →
   zpt s o en B (M.zw (if o=true then 123 else 91) self (w:Int) true ⟨s,(i:Int),0⟩ l ks) (items vf o en f (z0p r) l ks):=by
 intro f
 induction f with
 | zero=>omega
 | succ f ih =>
  intro r i l ks hf h hl hk hn
  have hi:=h.2
  have hlen:=h.len
  rw [items]
  cases o with
  | false =>
   simp only [yn,if_false]
   rw [zz042]
   refine zxt (o:=false) (l:=l) hs hen hw hB hB2 (vf:=vf) (f:=f) (hv r i h) (by omega) fun x r2 j hx hj => ?_
   have h1:=hvl _ _ _ hx
   have h2:=z2v r
   have hjl:=hj.len
   simp only [yaw] at h1 hjl
   exact ih r2 (j+1) (l++[x]) ks (by omega) hj.cons.2.1 (by simp;omega) (by omega) hn
  | true =>
   simp only [if_true]
   rw [zz07p]
   have hkey:=zz045 hs (by omega) hn h
   cases hkx:zto (z0p r) ks with
   | pan c =>
    rw [hkx] at hkey
    obtain ⟨rfl,j,ks',hj,hx⟩:=hkey
    grind [zz011]
   | ok p =>
    obtain ⟨r2,ks1⟩:=p
    rw [hkx] at hkey
    obtain ⟨r1,j,hj,hb,hx⟩:=hkey
    obtain ⟨k1,k2⟩:=zqy hkx
    obtain ⟨kk,k3,k4,_⟩:=zvs hkx
    have h2:=z2v r
    have h3:=z2v r1
    have hjl:=hj.len
    have hgt:i<j∨¬i<j:=by omega
    subst hb
    simp only [hx,yb]
    refine zxt (o:=true) (l:=l) hs hen hw hB hB2 (vf:=vf) (f:=f) (hv r1 j hj) (by omega) fun x r3 j3 hx3 hj3 => ?_
    have h1:=hvl _ _ _ hx3
    have hjl3:=hj3.len
    simp only [yaw] at h1 hjl3
    refine ih r3 (j3+1) (l++[x]) ks1 (by omega) hj3.cons.2.1 (by simp;omega) (by omega) ?_
    grind
theorem zpo (hs:s.length<1000000) {r1:Z} {j:Nat} (h:At s r1 j) (x:q04) (B:Nat) :
  zni s B ((M.q50 (q0d.mk s (j:Int) 0)).bind fun a=>some (x,a)) (.ok (x,z0p r1)):=by
 obtain ⟨j2,h1,h2⟩:=z4y hs 0 h
 exact ⟨j2,h1,by rw [h2];rfl⟩
theorem zks (s:Z):z0p (z0p s)=z0p s:=by
 induction s with
 | nil=>rfl
 | cons c s ih =>
  cases h:bl c with
  | true=>simp_all [z0p]
  | false=>grind [zez]
theorem zmi (hs:s.length<1000000):∀ (f F:Nat) (r:Z) (i w:Nat),w≤16→17≤f+w→f≤F→f≤17→At s r i→zni s (s.length+4*f+4) (M.q57 F ⟨s,(i:Int),0⟩ (w:Int)) (val f (z0p r) w):=by
 intro f
 induction f with
 | zero=>omega
 | succ f ih =>
  intro F r i w hw hfw hF hf17 h
  obtain ⟨F,rfl⟩:∃ F',F=F'+1:=⟨F - 1,by omega⟩
  obtain ⟨j1,a1,b1⟩:=z4y hs 0 h
  have a1l:=a1.len
  have hat:=z5o 0 a1
  rw [M.q57,val]
  simp only [b1,hat,ya,yb]
  generalize hr1:z0p r=r1 at a1 a1l hat
  have htx:=zgm hs a1
  by_cases c34:hd r1=34
  ·-- a text
   have hh:r1.head? = some 34:=by
    cases r1 with
    | nil=>cases c34
    | cons c t =>
     have t34:((c.toNat:Int)=34)↔c=34:=toNat_eq (n:=34) (by omega)
     grind [hd]
   simp only [c34,decide_true,if_true]
   cases hx:text r1 with
   | none =>
    rw [hx] at htx
    obtain ⟨t,j,hj,ht⟩:=htx
    simp only [ht,yb,hh,if_true]
    have n20:¬((20:Int)=0):=by decide
    simp only [n20,decide_false,yn,if_false]
    exact ⟨by decide,_,j,by omega,rfl⟩
   | some p =>
    obtain ⟨t,r2⟩:=p
    rw [hx] at htx
    obtain ⟨j,hj,ht⟩:=htx
    simp_all [zpo]
  ·have hnh:¬r1.head? = some 34:=fun e=>c34 (by
    cases r1 with
    | nil=>cases e
    | cons c t=>cases e;rfl)
   have hxn:text r1=none:=by
    cases r1 with
    | nil=>rfl
    | cons c t=>grind [zxu]
   simp only [c34,decide_false,yn,if_false,hxn,hnh]
   -- a list or an object
   have nested:∀ (o:Bool) (r2:Z),r1=(if o=true then 123 else 91)::r2→zni s (s.length+4*(f+1)+4)
     ((if (decide (16≤(w:Int))) then
       (M.q59 ⟨s,(j1:Int),0⟩ 21).bind fun a_1140=>some (Jn.done ((q04.mk 0 ([]:Z) [] []),a_1140))
      else
       (M.q50 (q0d.mk s (ybu .i64 ((j1:Int)+1)) 0)).bind fun a_1145 =>
       ((M.q4z a_1145).bind fun a_1695=>M.zw (if o=true then 123 else 91) (M.q57 F) (w:Int) (!decide (a_1695=(if o=true then 125 else 93))) a_1145 [] []).bind fun j_1694 =>
       ((M.q4z j_1694.1).bind fun a_2249 =>
         if (!decide (a_2249=(if o=true then 125 else 93))) then
          (M.q59 j_1694.1 20).bind fun a_2251 =>
          some a_2251
         else
          some j_1694.1).bind fun j_2248 =>
       some (Jn.go ((q0d.mk j_2248.gs (ybu .i64 (j_2248.gi+1)) j_2248.ge),(if o=true then (6:Int) else 5),([]:Z),j_1694.2.1,j_1694.2.2))).bind fun q_1133=>match q_1133 with
      | .done r=>some r
      | .go j_1133 =>
       if (decide (j_1133.1.ge=0)) then
        (M.q50 j_1133.1).bind fun a_2255 =>
        some ((q04.mk j_1133.2.1 j_1133.2.2.1 j_1133.2.2.2.1 j_1133.2.2.2.2),a_2255)
       else
        some ((q04.mk j_1133.2.1 j_1133.2.2.1 j_1133.2.2.2.1 j_1133.2.2.2.2),j_1133.1))
     (nest (fun s=>val f s (w+1)) o w (z0p r2)):=by
    intro o r2 er
    subst er
    unfold nest
    by_cases h16:16≤w
    ·have h16i:(16:Int)≤(w:Int):=by omega
     simp only [h16,h16i,decide_true,if_true,z30,yb]
     exact ⟨by decide,_,j1,by omega,rfl⟩
    ·have h16i:¬(16:Int)≤(w:Int):=by omega
     obtain ⟨g1,g2,g3⟩:=a1.cons
     obtain ⟨j2,a2,b2⟩:=z4y hs 0 g2
     have a2l:=a2.len
     have hat2:=z5o 0 a2
     simp only [h16,h16i,decide_false,yn,if_false]
     rw [w1 (by omega)]
     simp only [b2,hat2,yb]
     have hen:∃ en:UInt8,en=if o=true then 125 else 93:=⟨_,rfl⟩
     obtain ⟨en,hen⟩:=hen
     have heni:(if o=true then (125:Int) else 93)=(en.toNat:Int):=by subst hen;cases o<;>rfl
     rw [←hen,heni]
     have hend:∀ (q:Z),(hd q=(en.toNat:Int))↔∃ t,q=en::t:=by
      intro q
      cases q with
      | nil =>
       grind [hd]
      | cons d t =>
       grind [ybw,hd]
     -- how it goes on behind the loop
     have fin_ok:∀ (j:Nat) (t:Z) (l:List J) (ks:List Z),At s (en::t) j→zni s (s.length+4*(f+1)+4)
       ((((M.q4z (q0d.mk s (j:Int) 0)).bind fun a_2249 =>
         if (!decide (a_2249=(en.toNat:Int))) then
          (M.q59 (q0d.mk s (j:Int) 0) 20).bind fun a_2251 =>
          some a_2251
         else
          some (q0d.mk s (j:Int) 0)).bind fun j_2248 =>
        (some (Jn.go ((q0d.mk j_2248.gs (ybu .i64 (j_2248.gi+1)) j_2248.ge),(if o=true then (6:Int) else 5),([]:Z),l,ks)):Option (Jn (q04 × RR) _))).bind fun q_1133=>match q_1133 with
        | .done r=>some r
        | .go j_1133 =>
         if (decide (j_1133.1.ge=0)) then
          (M.q50 j_1133.1).bind fun a_2255 =>
          some ((q04.mk j_1133.2.1 j_1133.2.2.1 j_1133.2.2.2.1 j_1133.2.2.2.2),a_2255)
         else
          some ((q04.mk j_1133.2.1 j_1133.2.2.1 j_1133.2.2.2.1 j_1133.2.2.2.2),j_1133.1))
       (.ok (⟨if o=true then 6 else 5,[],l,ks⟩,z0p t)):=by
      intro j t l ks hj
      have hjl:=hj.2
      have e1:hd (en::t)=(en.toNat:Int):=rfl
      simp only [z5o 0 hj,e1,yb,decide_true,yq,yn,if_false,if_true]
      rw [w1 (by omega)]
      exact zpo hs hj.cons.2.1 _ _
     by_cases he:hd (z0p r2)=(en.toNat:Int)
     ·obtain ⟨t,ht⟩:=(hend _).1 he
      rw [ht] at a2
      have et:take (z0p r2) [en]=some (z0p t):=by rw [ht,take_one];simp
      simp only [he,decide_true,yq,et]
      rw [z9q _ _ _ _ _ _ _ _ _ (.inl rfl)]
      grind
     ·have et:take (z0p r2) [en]=none:=by
       rw [take_one]
       cases hb:z0p r2 with
       | nil=>rfl
       | cons d t =>
        grind
      simp only [he,decide_false,yp,et]
      have hb0:z0p (z0p r2)=z0p r2:=zks r2
      have hit:=zwz (s:=s) (o:=o) hs hen (w:=w) (by omega) (self:=M.q57 F) (vf:=fun s=>val f s (w+1)) (B:=s.length+4*f+4) (by omega) (by omega)
       (fun r i hri=>ih F r i (w+1) (by omega) (by omega) (by omega) (by omega) hri) (fun s x r hx=>zy1 f s (w+1) x r hx) ((z0p r2).length+1) (z0p r2) j2 [] [] (by omega) a2 (ybq _) (ybq _) ya5
      rw [hb0] at hit
      cases hx:items (fun s=>val f s (w+1)) o en ((z0p r2).length+1) (z0p r2) [] [] with
      | ok p =>
       obtain ⟨x,r3⟩:=p
       rw [hx] at hit
       obtain ⟨t,j,hj,hbt,hz,hk,htx⟩:=hit
       simp only [hz,yb]
       have:=fin_ok j t x.zk x.z08 hj
       rw [hbt,←hk] at this
       obtain ⟨k,tx,l,ks⟩:=x
       simp only at hk htx this ⊢
       subst htx
       subst hk
       exact this
      | pan c =>
       rw [hx] at hit
       obtain ⟨j,e',l',ks',hj,hz,hc⟩:=hit
       simp only [hz,yb]
       rcases hc with ⟨rfl,hc⟩|⟨rfl,rfl,t,ht,hne⟩
       ·obtain ⟨c2,hc2⟩:=zal (s:=s) e' j
        simp only [hc2,yb,zbq hc]
        have hw1:=w1 (n:=j) (by omega)
        split
        ·simp only [yb,hc,decide_false,yn,if_false,hw1]
         exact ⟨hc,_,j+1,by omega,rfl⟩
        ·simp only [yb,hc,decide_false,yn,if_false,hw1]
         exact ⟨hc,_,j+1,by omega,rfl⟩
       ·have hw1:=w1 (n:=j) (by omega)
        have n20:¬((20:Int)=0):=by decide
        simp only [z5o 0 ht,yb,hne,decide_false,yp,if_true,z30,n20,yn,if_false,hw1]
        exact ⟨n20,_,j+1,by omega,rfl⟩
   by_cases c91:hd r1=91
   ·obtain ⟨r2,er⟩:∃ r2,r1=91::r2:=by
     cases r1 with
     | nil=>cases c91
     | cons c t =>
      have t91:((c.toNat:Int)=91)↔c=91:=toNat_eq (n:=91) (by omega)
      grind [hd]
    have et:take r1 [91]=some (z0p r2):=by rw [er,take_one];simp
    have hn:=nested false r2 er
    grind
   ·by_cases c123:hd r1=123
    ·obtain ⟨r2,er⟩:∃ r2,r1=123::r2:=by
      cases r1 with
      | nil=>cases c123
      | cons c t =>
       have t123:((c.toNat:Int)=123)↔c=123:=toNat_eq (n:=123) (by omega)
       grind [hd]
     have et:take r1 [123]=some (z0p r2):=by rw [er,take_one];simp
     have et0:take r1 [91]=none:=by rw [er,take_one];rfl
     grind
    ·-- a word or a number
     have et0:take r1 [91]=none:=by
      rw [take_one]
      cases r1 with
      | nil=>rfl
      | cons d t =>
       have:¬d=91:=fun e=>c91 (by rw [e];rfl)
       simp [this]
     have et1:take r1 [123]=none:=by
      rw [take_one]
      cases r1 with
      | nil=>rfl
      | cons d t =>
       have:¬d=123:=fun e=>c123 (by rw [e];rfl)
       simp [this]
     have hword:=zox hs a1
     simp only [c91,c123,decide_false,yn,if_false,yb,et0,et1]
     cases hx:word r1 with
     | ok p =>
      obtain ⟨x,r2⟩:=p
      rw [hx] at hword
      obtain ⟨t,j,hj,hb,hz⟩:=hword
      subst hb
      simp_all [zjn,zpo]
     | pan c =>
      rw [hx] at hword
      obtain ⟨rfl,x,j,hj,hz⟩:=hword
      have n20:¬((20:Int)=0):=by decide
      simp only [hz,yb,n20,decide_false,yn,if_false]
      exact ⟨n20,_,j,by omega,rfl⟩
theorem zmg (s:Z) {f:Nat} (hf:17≤f):M.q4q f s=some (parse s):=by
 unfold M.q4q parse
 by_cases hl:16384<s.length
 ·grind
 ·have:¬(16384:Int)<(s.length:Int):=by omega
  have hv:=zmi (s:=s) (by omega) 17 f s 0 0 (by omega) (by omega) hf (by omega) At.start
  have hv:zni s (s.length+4*17+4) (M.q57 f ⟨s,0,0⟩ 0) (val 17 (z0p s) 0):=hv
  simp only [this,decide_false,yn,if_false,hl,ya]
  cases hx:val 17 (z0p s) 0 with
  | pan c =>
   rw [hx] at hv
   obtain ⟨hc,x,j,hj,hz⟩:=hv
   grind [zbq]
  | ok p =>
   obtain ⟨x,r⟩:=p
   rw [hx] at hv
   obtain ⟨j,hj,hz⟩:=hv
   have hjl:=hj.len
   grind [ya0,z30]
end
end
theorem zt5 {v:J} (h:SzJ v) (hk:v.z08.length=v.zk.length):∀ (n i:Nat) (a:List q02),v.zk.length - i=n→i≤v.zk.length→a.length≤i →
  M.z3p v a (i:Int)=some (match zj9 (v.zk.drop i) (v.z08.drop i) with|some l => .go (a++l)|none => .done ([],false)):=by
 have hp:=h.parts
 intro n
 induction n with
 | zero =>
  intro i a hn hi ha
  rw [M.z3p,yae (by omega)]
  have:¬((i:Int)<(v.zk.length:Int)):=by omega
  simp [this,zj9]
 | succ n ih =>
  intro i a hn hi ha
  have hlt:i<v.zk.length:=by omega
  have hlt2:i<v.z08.length:=by omega
  have h1:((i:Int)<(v.zk.length:Int)):=by omega
  have hx:SzJ v.zk[i]:=h.mem (yaq hlt)
  rw [M.z3p,yac hlt,yac hlt2]
  simp only [h1,decide_true,if_true,z4k,yan hlt,yan hlt2,ya,yb]
  rw [zmh (by have:=hx.parts;omega)]
  simp only [yb]
  unfold zj9
  cases ht:(z7s v.zk[i]).2 with
  | false=>simp
  | true =>
   simp only [yq,yn,if_false,if_true,yba,yas,yc]
   rw [z36 (by simp;omega),w1 (by omega)]
   simp only [yb]
   rw [ih (i+1) _ (by omega) (by omega) (by simp;omega)]
   cases zj9 (v.zk.drop (i+1)) (v.z08.drop (i+1))<;>simp
theorem zt4 {v:J} (h:SzJ v) (hk:v.zh=6→v.z08.length=v.zk.length):M.q64 v=some (z98 v):=by
 unfold M.q64 z98
 by_cases h6:v.zh=6
 ·have hs:=zt5 h (hk h6) _ 0 [] rfl (ybq _) (by simp)
  have hs:M.z3p v [] 0=_:=hs
  rw [hs,yah,yah,if_pos h6]
  cases zj9 v.zk v.z08<;>simp [h6]
 ·rw [if_neg h6]
  simp [h6]
theorem zmk {s:Z} (hs:s.length<1000000000):M.q6k s=some (zb5 s):=by
 unfold M.q6k
 have tab:∀ b:UInt8,((((((decide (65≤(b.toNat:Int)))&&(decide ((b.toNat:Int)≤90)))||((decide (97≤(b.toNat:Int)))&&(decide ((b.toNat:Int)≤122))))||((decide (48≤(b.toNat:Int)))&&(decide ((b.toNat:Int)≤57))))||(decide ((b.toNat:Int)=45)))||(decide ((b.toNat:Int)=95)))=sesC b:=z5t (by decide +kernel)
 have hk:M.z4v s 0=some (match s.findIdx? (fun b => !sesC b) with|some i => .done false|none => .go ()):=by
  refine seek (fun _=>false) () (by omega) (fun i h => ?_) ?_
  ·rw [M.z4v]
   simp_all [z4k]
  ·grind [M.z4v]
 grind [zb5]
theorem zv1 {l:List q05} (h:zrj l≤10000000):zkg l:=fun p hp=>by
 have:=zz00i hp
 unfold q05.sz at this
 omega
theorem zz07e {q:q03} (h:q.sz≤10000000):fit q:=by
 unfold q03.sz at h
 have h1:=zg1 q.z09
 have h2:=zrk q.z0r
 have h3:=zrk q.z0h
 exact ⟨by omega,by omega,fun p hp=>by have:=zo7 hp;omega,by omega,zv1 (by omega),by omega,zv1 (by omega),by omega⟩
end Go.Sen
