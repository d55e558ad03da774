import Derived.Test.YtmmgdladipbedaaGreatDoorSpC
import Derived.Test.YtmmgdladipbedaaGreatDoorSpH
set_option linter.all false
section
namespace Go.Sen
open _root_.Option renaming bind_eq_bind → ya, bind_some → yb
open _root_.Bool renaming and_eq_true → yc, false_eq_true → yd
open _root_.List renaming dropWhile_cons → ye, getElem?_eq_getElem → yf, length_append → yg, length_cons → yh, length_drop → yi, length_nil → yj
open IntKind renaming wrap → yk
open Go.Lk Go.Pe
def bk (s:List UInt8):List UInt8:=s.dropWhile (fun c=>decide (c=32))
def wd (s:List UInt8):List UInt8:=(bk s).takeWhile wch
def tkB (p s:List UInt8):Bool:=decide (wd s=p)||decide (wd s=[])&&p.isPrefixOf (bk s)
def tk (p s:List UInt8):Bool × List UInt8:=if tkB p s=true then (true,(bk s).drop p.length) else (false,bk s)
theorem zfy {α:Type} (p:α→Bool) (l:List α):(l.dropWhile p).length≤l.length:=(List.dropWhile_sublist p).length_le
theorem zcu {α:Type} (p:α→Bool):∀ l:List α,(l.dropWhile p).dropWhile p=l.dropWhile p
 | []=>rfl
 | a::l=>by
  cases h:p a with
  | true=>simp [ye,h,zcu p l]
  | false=>simp [ye,h]
theorem z4m (s:List UInt8):(bk s).length≤s.length:=zfy _ s
theorem zmm (s:List UInt8):bk (bk s)=bk s:=zcu _ s
theorem zxd (s:List UInt8):wd (bk s)=wd s:=by unfold wd;rw [zmm]
theorem zux (p s:List UInt8):tk p (bk s)=tk p s:=by unfold tk tkB;rw [zxd,zmm]
theorem zhc (s:List UInt8):(wd s).length≤(bk s).length:=(List.takeWhile_sublist _).length_le
theorem zm2 {α:Type} (p:α→Bool) (l:List α):l.take (l.length - (l.dropWhile p).length)=l.takeWhile p:=by
 have h:=List.takeWhile_append_dropWhile (p:=p) (l:=l)
 have h2:l.length - (l.dropWhile p).length=(l.takeWhile p).length:=by
  have:=congrArg List.length h
  rw [yg] at this
  omega
 rw [h2]
 have h3:=List.take_left (l₁:=l.takeWhile p) (l₂:=l.dropWhile p)
 rwa [h] at h3
theorem ziv (s:List UInt8):M.trimLeft s [32]=some (bk s):=by
 unfold M.trimLeft
 rw [z30 (by decide)]
 simp only [ya,yb,Lib.trimLeftS,bk]
 congr 2
 funext c
 rw [Bool.eq_iff_iff]
 simp
theorem zm4 (s:List UInt8):M.trimLeft s z8t=some (s.dropWhile wch):=by
 unfold M.trimLeft
 rw [z30 (by decide)]
 simp only [ya,yb,Lib.trimLeftS]
 congr 2
 funext c
 exact zdm c
theorem z4c {s:List UInt8} (hs:s.length<1152921504606846976):M.q2b ⟨s⟩=some (wd s,⟨bk s⟩):=by
 have hb:=z4m s
 have hd:=zfy wch (bk s)
 show (M.trimLeft s [32]).bind (fun a_1=>(M.trimLeft a_1 z8t).bind fun a_3=>(sub a_1 0 (yk .i64 ((a_1.length:Int) - (a_3.length:Int)))).bind fun s_5=>some (s_5,q07.mk a_1))=_
 rw [ziv]
 simp only [yb]
 rw [zm4]
 simp only [yb]
 have e:yk .i64 (((bk s).length:Int) - (((bk s).dropWhile wch).length:Int))=(((bk s).length - ((bk s).dropWhile wch).length:Nat):Int):=by rw [w64]<;>omega
 rw [e,zit (by omega),zm2]
 rfl
theorem z2g {s p:List UInt8} (hs:s.length<1152921504606846976):M.q29 ⟨s⟩ p=some ((tk p s).1,⟨(tk p s).2⟩):=by
 have hb:=z4m s
 have hw:=zhc s
 unfold M.q29
 rw [z4c hs]
 simp only [ya,yb,z1t]
 unfold tk tkB
 by_cases h1:wd s=p
 ·have h2:p.length≤(bk s).length:=by rw [←h1];exact hw
  simp [h1,za9 h2]
 ·by_cases h2:wd s=[]
  ·cases h3:p.isPrefixOf (bk s) with
   | true =>
    have h4:=zbn h3
    have h5:¬ []=p:=fun e=>h1 (h2.trans e)
    simp [h2,h5,h3,za9 h4]
   | false =>
    have h5:¬ []=p:=fun e=>h1 (h2.trans e)
    simp [h2,h5,h3]
  ·simp [h1,h2]
theorem zaa (p s:List UInt8):(tk p s).2.length≤s.length:=by
 have:=z4m s
 unfold tk
 split
 ·simp only [yi];omega
 ·exact this
theorem zro {p s:List UInt8} (h:(tk p s).1=true):(tk p s).2.length+p.length≤s.length:=by
 have hb:=z4m s
 have hw:=zhc s
 unfold tk at h ⊢
 split at h
 ·rename_i h1
  rw [if_pos h1]
  unfold tkB at h1
  simp only [Bool.or_eq_true,yc,decide_eq_true_eq] at h1
  simp only [yi]
  rcases h1 with h1|⟨_,h1⟩
  ·rw [h1] at hw;omega
  ·have:=zbn h1;omega
 ·cases h
def zce:List UInt8:=[110,111,116]
def kPr:List UInt8:=[112,114]
def zm6:List UInt8:=[97,110,100]
def kOr:List UInt8:=[111,114]
theorem zh7 {α:Type} (p:α→Bool):∀ (a b:List α),a.all p=true→(a++b).takeWhile p=a++b.takeWhile p
 | [],b,_=>rfl
 | x::a,b,h=>by
  simp only [List.all_cons,yc] at h
  simp [List.takeWhile_cons,h.1,zh7 p a b h.2]
theorem zrn {p s:List UInt8} (h1:p.all wch=true) (h2:¬p=[]):tkB p s=decide (wd s=p):=by
 unfold tkB
 cases h:decide (wd s=p) with
 | true=>rfl
 | false =>
  simp only [Bool.false_or]
  rw [Bool.eq_false_iff]
  intro hh
  simp only [yc,decide_eq_true_eq] at hh
  obtain ⟨h3,h4⟩:=hh
  obtain ⟨r,hr⟩:=List.isPrefixOf_iff_prefix.1 h4
  unfold wd at h3
  rw [←hr,zh7 wch p r h1] at h3
  exact h2 (List.append_eq_nil_iff.1 h3).1
theorem zzk (s:List UInt8):tk (wd s) s=(true,(bk s).drop (wd s).length):=by
 unfold tk tkB
 simp
def qsc:List UInt8→Nat
 | []=>0
 | [c]=>if c=34 then 0 else if c=92 then 2 else 1
 | c::d::r=>if c=34 then 0 else if c=92 then 2+qsc r else 1+qsc (d::r)
theorem zra (c:UInt8) (r:List UInt8):qsc (c::r)=if c=34 then 0 else if c=92 then 2+qsc (r.drop 1) else 1+qsc r:=by
 cases r with
 | nil=>rfl
 | cons d r=>rfl
theorem zrs {w b:List UInt8} (hb:b.length<1000000000):∀ (n i:Nat),b.length+2 - i=n→i≤b.length+1→M.z0d (w,⟨b⟩) (i:Int)=some ((i+qsc (b.drop i):Nat):Int):=by
 intro n
 induction n using Nat.strongRecOn with
 | ind n ih =>
  intro i h1 h2
  rw [M.z0d]
  by_cases hi:i<b.length
  ·rw [z13 hi,zra]
   simp only [show ((i:Int)<(b.length:Int)) by omega,decide_true,if_true,z3d,yf hi,ya,yb]
   have e34:decide (((b[i].toNat:Nat):Int)=34)=decide (b[i]=34):=by rw [decide_eq_decide];exact toNat_eq (n:=34) (by decide)
   have e92:decide (((b[i].toNat:Nat):Int)=92)=decide (b[i]=92):=by rw [decide_eq_decide];exact toNat_eq (n:=92) (by decide)
   rw [e34,e92]
   by_cases h34:b[i]=34
   ·simp [h34]
   ·simp only [h34,decide_false,Bool.not_false,if_true,if_false]
    rw [w1 (by omega)]
    by_cases h92:b[i]=92
    ·simp only [h92,decide_true,if_true]
     rw [w1 (by omega),ih (b.length+2 - (i+1+1)) (by omega) (i+1+1) rfl (by omega),List.drop_drop]
     congr 2
     omega
    ·simp only [h92,decide_false,yd,if_false]
     rw [ih (b.length+2 - (i+1)) (by omega) (i+1) rfl (by omega)]
     congr 2
     omega
  ·have h3:¬((i:Int)<(b.length:Int)):=by omega
   rw [List.drop_eq_nil_of_le (by omega)]
   simp [h3,qsc]
def vl (s:List UInt8):Rs (List UInt8 × List UInt8) :=
 if (bk s).head? = some 34 then (if 1+qsc ((bk s).drop 1)<(bk s).length then (if (parse ((bk s).take (2+qsc ((bk s).drop 1)))).2=0∧(parse ((bk s).take (2+qsc ((bk s).drop 1)))).1.z0q.length≤128 then
  .ok ((parse ((bk s).take (2+qsc ((bk s).drop 1)))).1.z0q,(bk s).drop (2+qsc ((bk s).drop 1))) else .pan 190) else .pan 190) else .pan 190
theorem z4b (b:Bool) (e:Int):M.q1w b e=some (if b=true then .ok () else .pan e):=by cases b<;>simp [M.q1w]
theorem zeq {s:List UInt8} (hs:s.length<1000000000) {f:Nat} (hf:34≤f):M.q2a f ⟨s⟩=some (mRs (fun x=>(x.1,q07.mk x.2)) (vl s)):=by
 have hb:=z4m s
 unfold M.q2a vl
 rw [z4c (by omega)]
 simp only [ya,yb,z1t,z4h,z4b]
 by_cases h34:(bk s).head? = some 34
 ·have hw:wd s=[]:=by
   unfold wd
   cases hbk:bk s with
   | nil=>rfl
   | cons c r =>
    rw [hbk] at h34
    simp only [List.head?_cons,Option.some.injEq] at h34
    subst h34
    simp [show wch 34=false from by decide]
  simp only [hw,h34,decide_true,if_true]
  have hk:=zrs (w:=([]:List UInt8)) (b:=bk s) (by omega) _ 1 rfl (by omega)
  have hk':M.z0d ([],⟨bk s⟩) 1=_:=hk
  rw [hk']
  simp only [yb]
  generalize qsc ((bk s).drop 1)=q
  by_cases hl:1+q<(bk s).length
  ·have hl':(((1+q:Nat):Int)<((bk s).length:Int)):=by omega
   simp only [hl',hl,decide_true,if_true]
   rw [w1 (by omega),show 1+q+1=2+q by omega]
   rw [zit (by omega)]
   simp only [yb,z8e _ hf]
   generalize parse ((bk s).take (2+q))=v
   by_cases h1:v.2=0∧v.1.z0q.length≤128
   ·have h1':((decide (v.2=0))&&(decide ((v.1.z0q.length:Int)≤128)))=true:=by
     simp only [yc,decide_eq_true_eq];omega
    rw [if_pos h1',if_pos h1]
    simp only
    rw [za9 (by omega)]
    rfl
   ·have h1':¬((decide (v.2=0))&&(decide ((v.1.z0q.length:Int)≤128)))=true:=by
     simp only [yc,decide_eq_true_eq];omega
    rw [if_neg h1',if_neg h1]
    rfl
  ·have hl':¬(((1+q:Nat):Int)<((bk s).length:Int)):=by omega
   simp only [hl',hl,decide_false,yd,if_false]
   rfl
 ·simp only [h34,decide_false,if_false]
  by_cases hw:wd s=[]
  ·simp [hw,mRs]
  ·simp [hw,mRs]
theorem zxb {s t r:List UInt8} (h:vl s = .ok (t,r)):r.length+2≤s.length:=by
 have hb:=z4m s
 unfold vl at h
 split at h
 ·split at h
  ·split at h
   ·cases h
    simp only [yi]
    omega
   ·cases h
  ·cases h
 ·cases h
def zye:List (List UInt8):=[[101,113],[110,101],[99,111],[115,119],[101,119],[103,116],[103,101],[108,116],[108,101]]
def zkz (w:List UInt8):Option Nat:=zye.findIdx? (fun x=>decide (w=x))
def leaf (no:Bool) (s:List UInt8):Rs (EX × List UInt8) :=
 if (!no&&isName (wd s))=true then
  (if (tk kPr ((bk s).drop (wd s).length)).1=true then .ok (⟨3,wd s,[],[]⟩,(tk kPr ((bk s).drop (wd s).length)).2)
  else match zkz (wd ((bk s).drop (wd s).length)) with
   | none => .pan 190
   | some k=>match vl ((bk ((bk s).drop (wd s).length)).drop (wd ((bk s).drop (wd s).length)).length) with
    | .pan e => .pan e
    | .ok v => .ok (⟨4+k,wd s,v.1,[]⟩,v.2))
 else .pan 190
def zdc (S:Nat→List UInt8→Rs (EX × List UInt8)) (d:Nat) (s:List UInt8):Rs (EX × List UInt8) :=
 if (tk [40] (tk zce s).2).1=true then
  (if d<16 then match S (d+1) (tk [40] (tk zce s).2).2 with
   | .pan e => .pan e
   | .ok x=>if (tk [41] x.2).1=true then .ok (if (tk zce s).1=true then ⟨2,[],[],[x.1]⟩ else x.1,(tk [41] x.2).2) else .pan 190
  else .pan 193)
 else leaf (tk zce s).1 (tk [40] (tk zce s).2).2
def zlw (word:List UInt8) (next:List UInt8→Rs (EX × List UInt8)):Nat→List EX→List UInt8→Rs (List EX × List UInt8)
 | 0,acc,s => .ok (acc,s)
 | f+1,acc,s=>if (tk word s).1=true then (match next (tk word s).2 with
   | .pan e => .pan e
   | .ok x=>zlw word next f (acc++[x.1]) x.2) else .ok (acc,(tk word s).2)
def zlf (kind:Int):List EX→EX
 | [x]=>x
 | l=>⟨kind,[],[],l⟩
def row (kind:Int) (word:List UInt8) (next:List UInt8→Rs (EX × List UInt8)) (s:List UInt8):Rs (EX × List UInt8):=match next s with
 | .pan e => .pan e
 | .ok x=>match zlw word next (x.2.length+1) [x.1] x.2 with
  | .pan e => .pan e
  | .ok l => .ok (zlf kind l.1,l.2)
theorem zst (kind:Int) (word:List UInt8) (next:List UInt8→Rs (EX × List UInt8)) (s:List UInt8):row kind word next s=match next s with
 | .pan e => .pan e
 | .ok x=>match zlw word next (x.2.length+1) [x.1] x.2 with
  | .pan e => .pan e
  | .ok l => .ok (zlf kind l.1,l.2):=rfl
def z3p:Nat→Nat→List UInt8→Rs (EX × List UInt8)
 | 0,_,_ => .pan 0
 | m+1,d,s=>row 1 kOr (row 0 zm6 (zdc (z3p m) d)) s
def Le (next:List UInt8→Rs (EX × List UInt8)):Prop := ∀ s x r,next s = .ok (x,r)→r.length≤s.length
theorem zol {word:List UInt8} {next:List UInt8→Rs (EX × List UInt8)} (h:Le next):∀ (f:Nat) (acc:List EX) (s:List UInt8) (l:List EX) (r:List UInt8),zlw word next f acc s = .ok (l,r)→r.length≤s.length
 | 0,acc,s,l,r,hh=>by cases hh;exact Nat.le_refl _
 | f+1,acc,s,l,r,hh=>by
  have ht:=zaa word s
  unfold zlw at hh
  split at hh
  ·split at hh
   ·cases hh
   ·rename_i x hx
    have h1:=h _ _ _ hx
    have h2:=zol h f _ _ _ _ hh
    omega
  ·cases hh;exact ht
theorem zka {kind:Int} {word:List UInt8} {next:List UInt8→Rs (EX × List UInt8)} (h:Le next):Le (row kind word next):=by
 intro s x r hh
 unfold row at hh
 split at hh
 ·cases hh
 ·rename_i y hy
  have h1:=h _ _ _ hy
  split at hh
  ·cases hh
  ·rename_i l hl
   have h2:=zol h _ _ _ _ _ hl
   cases hh
   omega
theorem zu4 {no:Bool}:Le (leaf no):=by
 intro s x r hh
 have hb:=z4m s
 unfold leaf at hh
 split at hh
 ·split at hh
  ·cases hh
   have:=zaa kPr ((bk s).drop (wd s).length)
   simp only [yi] at this
   omega
  ·split at hh
   ·cases hh
   ·split at hh
    ·cases hh
    ·rename_i v hv
     have h1:=zxb hv
     have h2:=z4m ((bk s).drop (wd s).length)
     cases hh
     simp only [yi] at h1 h2
     omega
 ·cases hh
theorem zbm {S:Nat→List UInt8→Rs (EX × List UInt8)} {d:Nat} (h:Le (S (d+1))):Le (zdc S d):=by
 intro s x r hh
 have h1:=zaa zce s
 have h2:=zaa [40] (tk zce s).2
 unfold zdc at hh
 split at hh
 ·split at hh
  ·split at hh
   ·cases hh
   ·rename_i y hy
    have h3:=h _ _ _ hy
    split at hh
    ·cases hh
     have:=zaa [41] y.2
     omega
    ·cases hh
  ·cases hh
 ·have:=zu4 _ _ _ hh
  omega
theorem zag:∀ m d,Le (z3p m d)
 | 0,_=>fun _ _ _ h=>by cases h
 | m+1,d=>by
  have e:z3p (m+1) d=row 1 kOr (row 0 zm6 (zdc (z3p m) d)):=by funext s;rfl
  rw [e]
  exact zka (zka (zbm (zag m (d+1))))
theorem zr2 {c:q06} {s:List UInt8} (hs:s.length<1000000000):M.q22 c ⟨s⟩=some ((tk c.z48 s).1,⟨(tk c.z48 s).2⟩):=by
 unfold M.q22
 rw [z2g (by omega)]
 rfl
def zcb:List q06:=(M.q1g).getD []
theorem ztb:M.q1g=some zcb:=rfl
theorem zct:zcb.map (·.z48)=zye:=rfl
theorem zht {α:Type} {p:α→Bool} {l:List α} {i:Nat} (h:l.findIdx? p=some i):∃ hi:i<l.length,p l[i]=true:=by
 rw [List.findIdx?_eq_some_iff_getElem] at h
 obtain ⟨h1,h2,_⟩:=h
 exact ⟨h1,h2⟩
theorem zmx:∀ w∈zye,w.all wch=true∧¬w=[]:=by decide
theorem zq2 {c:q06} (h:c∈zcb):c.z48.all wch=true∧¬c.z48=[]:=zmx _ (by rw [←zct];exact List.mem_map.2 ⟨c,h,rfl⟩)
theorem znf {s:List UInt8} (hs:s.length<1000000000):M.q3w zcb ⟨s⟩=some (match zkz (wd s) with|some k=>((k:Int),⟨(bk s).drop (wd s).length⟩)|none=>(-1,⟨bk s⟩)):=by
 have hb:=z4m s
 have hw:∀ c∈zcb,tk c.z48 s=if wd s=c.z48 then (true,(bk s).drop (wd s).length) else (false,bk s):=fun c hc=>by
  obtain ⟨h1,h2⟩:=zq2 hc
  unfold tk
  rw [zrn h1 h2]
  by_cases h:wd s=c.z48
  ·rw [if_pos (by simpa using h),if_pos h,h]
  ·rw [if_neg (by simpa using h),if_neg h]
 have h0:∀ s':List UInt8,bk s'=bk s→s'.length<1000000000→∀ (i:Nat) (h:i<zcb.length),M.ze zcb (i:Int) s'=if decide (wd s=zcb[i].z48)=true then some (.done ((i:Int),⟨(bk s).drop (wd s).length⟩)) else M.ze zcb (yk .i64 ((i:Int)+1)) (bk s):=by
  intro s' hs' hl i h
  have ht:tk zcb[i].z48 s'=tk zcb[i].z48 s:=by rw [←zux,hs',zux]
  rw [M.ze]
  simp only [show ((i:Int)<(zcb.length:Int)) by omega,decide_true,if_true,z3d,yf h,ya,yb,zr2 hl,ht,hw _ (List.getElem_mem h)]
  by_cases hx:wd s=zcb[i].z48<;>simp [hx]
 have hk:M.ze zcb 0 (bk s)=some (match zcb.findIdx? (fun c=>decide (wd s=c.z48)) with|some i => .done ((i:Int),⟨(bk s).drop (wd s).length⟩)|none => .go (bk s)):=by
  refine z9a (l:=zcb) (p:=fun c=>decide (wd s=c.z48)) (F:=fun i=>M.ze zcb i (bk s)) (fun i:Nat=>((i:Int),(⟨(bk s).drop (wd s).length⟩:q07))) (bk s) (by decide) (fun i h=>h0 (bk s) (zmm s) (by omega) i h) ?_
  show M.ze zcb _ (bk s)=_
  rw [M.ze]
  simp
 have hs0:M.ze zcb 0 s=M.ze zcb 0 (bk s):=by
  have h1:=h0 s rfl hs 0 (by decide)
  have h2:=h0 (bk s) (zmm s) (by omega) 0 (by decide)
  exact h1.trans h2.symm
 have hix:zcb.findIdx? (fun c=>decide (wd s=c.z48))=zkz (wd s):=by
  unfold zkz
  rw [←zct,List.findIdx?_map]
  rfl
 unfold M.q3w
 rw [hix] at hk
 simp only [hs0,hk,ya,yb]
 cases zkz (wd s)<;>rfl
theorem zcv (x:EX):(q01.mk x.zc x.zg x.z07 x.zh)=x:=by cases x;rfl
theorem zon {N:Nat} (hN:N<1000000000) {word:List UInt8} (hword:¬word=[]) {self:q07→Int→Option (Rs (EX × q07 × Int))} {next:List UInt8→Rs (EX × List UInt8)} {d:Int} {F:List UInt8→Int→List EX→Option (Jn (Rs (EX × q07 × Int)) (List UInt8 × Int × List EX))}
  (hF:∀ s x l,F s x l=(M.q29 (q07.mk s) word).bind fun a=>if a.1=true then (self a.2 x).bind fun b=>match b with | .pan e=>some (.done (.pan e)) | .ok b=>(app 64 l [(q01.mk b.1.zc b.1.zg b.1.z07 b.1.zh)]).bind fun l=>F b.2.1.gs b.2.2 l else some (.go (a.2.gs,x,l)))
  (hs:∀ s,s.length≤N→self ⟨s⟩ d=some (mRs (fun x=>(x.1,q07.mk x.2,d)) (next s))) (hle:Le next):∀ (f:Nat) (s:List UInt8) (l:List EX),s.length<f→s.length≤N→l.length+s.length<2000000000 →
  F s d l=some (match zlw word next f l s with | .pan e => .done (.pan e) | .ok x => .go (x.2,d,x.1))
 | 0,s,l,h,_,_=>by omega
 | f+1,s,l,h,h2,h3=>by
  have ht:=zaa word s
  rw [hF,z2g (by omega)]
  simp only [yb]
  unfold zlw
  cases h4:(tk word s).1 with
  | false=>simp
  | true =>
   have h5:=zro h4
   have h6:0<word.length:=List.length_pos_iff.2 hword
   simp only [if_true]
   rw [hs _ (by omega)]
   simp only [yb]
   cases h7:next (tk word s).2 with
   | pan e=>rfl
   | ok x =>
    have h8:=hle _ _ _ h7
    simp only [mRs,zcv]
    rw [z2e (by simp only [yh,yj];omega)]
    simp only [yb]
    exact zon hN hword hF hs hle f x.2 (l++[x.1]) (by omega) (by omega) (by simp only [yg,yh,yj];omega)
theorem z65 {word:List UInt8} {next:List UInt8→Rs (EX × List UInt8)}:∀ (f:Nat) (acc:List EX) (s:List UInt8) (l:List EX) (r:List UInt8),zlw word next f acc s = .ok (l,r)→∃ t,l=acc++t
 | 0,acc,s,l,r,hh=>by cases hh;exact ⟨[],by simp⟩
 | f+1,acc,s,l,r,hh=>by
  unfold zlw at hh
  split at hh
  ·split at hh
   ·cases hh
   ·obtain ⟨t,ht⟩:=z65 f _ _ _ _ hh
    exact ⟨_,by rw [ht,List.append_assoc]⟩
  ·cases hh;exact ⟨[],by simp⟩
def cvE (x:EX × List UInt8):EX × q07:=(x.1,⟨x.2⟩)
theorem zug {kind:Int} {l:List EX} {r:List UInt8} {d:Int} (hne:¬l=[]):(if (decide ((l.length:Int)=1))=true then (ix l 0).bind fun _=>(ix l 0).bind fun y=>some (Rs.ok (y,q07.mk r,d)) else some (Rs.ok (q01.mk kind [] [] l,q07.mk r,d)))=some (Rs.ok (zlf kind l,q07.mk r,d)):=by
 match l,hne with
 | [x],_=>simp [zlf,zjp]
 | x::y::l,_ =>
  have:¬(((x::y::l).length:Int)=1):=by simp only [yh];omega
  rw [if_neg (by simpa using this)]
  rfl
theorem zk9 {kind:Int} {l:List EX} {r:List UInt8} {d:Int} (hne:¬l=[]):(if (decide ((l.length:Int)=1))=true then (ix l 0).bind fun _=>(ix l 0).bind fun y=>some (Rs.ok (y,q07.mk r,d)) else some (Rs.ok (q01.mk kind [] [] l,q07.mk r,d)))=some (mRs (fun x=>(x.1,q07.mk x.2,d)) (.ok (zlf kind l,r))):=zug hne
theorem zwr {N:Nat} (hN:N<1000000000) {S:Nat→List UInt8→Rs (EX × List UInt8)} {F d:Nat} (hF:34≤F) (hS:d<16→∀ s:List UInt8,s.length≤N→M.q25 F ⟨s⟩ ((d+1:Nat):Int)=some (mRs cvE (S (d+1) s))) (hle:Le (S (d+1))) {s:List UInt8} (hs:s.length≤N):M.q21 (F+1) ⟨s⟩ (d:Int)=some (mRs cvE (zdc S d s)):=by
 have h1:=zaa zce s
 have h2:=zaa [40] (tk zce s).2
 unfold M.q21 zdc
 have e1:M.q29 ⟨s⟩ [110,111,116]=some ((tk zce s).1,⟨(tk zce s).2⟩):=z2g (by omega)
 simp only [e1,ya,yb]
 rw [z2g (by omega)]
 simp only [yb]
 by_cases ho:(tk [40] (tk zce s).2).1=true
 ·rw [if_pos ho,if_pos ho]
  simp only [z4b,yb]
  by_cases hd:d<16
  ·have hd':((d:Int)<16):=by omega
   simp only [hd,hd',decide_true,if_true]
   rw [w1 (by omega),hS hd _ (by omega)]
   simp only [yb]
   cases hx:S (d+1) (tk [40] (tk zce s).2).2 with
   | pan e=>rfl
   | ok x =>
    have h3:=hle _ _ _ hx
    simp only [mRs,cvE]
    rw [z2g (by omega)]
    simp only [yb]
    by_cases hc:(tk [41] x.2).1=true
    ·simp only [hc,if_true,zcv]
     by_cases hn:(tk zce s).1=true
     ·simp [hn]
     ·simp [hn]
    ·simp [hc]
  ·have hd':¬((d:Int)<16):=by omega
   simp only [hd,hd',decide_false,yd,if_false]
   rfl
 ·rw [if_neg ho,if_neg ho]
  generalize hs2:(tk [40] (tk zce s).2).2=s2
  rw [hs2] at h2
  have hb2:=z4m s2
  have hw2:=zhc s2
  rw [z4c (by omega)]
  simp only [yb,z3o,z4b]
  unfold leaf
  have hj:(if (!(tk zce s).1)=true then some (isName (wd s2)) else some false:Option Bool)=some (!(tk zce s).1&&isName (wd s2)):=by
   cases (tk zce s).1<;>rfl
  rw [hj]
  simp only [yb]
  by_cases hn:(!(tk zce s).1&&isName (wd s2))=true
  ·rw [if_pos hn,if_pos hn]
   simp only
   rw [z2g (by omega)]
   have ew:tk (wd s2) (bk s2)=(true,(bk s2).drop (wd s2).length):=by rw [zux,zzk]
   rw [ew]
   simp only [yb]
   have hd5:((bk s2).drop (wd s2).length).length≤N:=by simp only [yi];omega
   generalize (bk s2).drop (wd s2).length=s5 at hd5 ⊢
   have e2:M.q29 ⟨s5⟩ [112,114]=some ((tk kPr s5).1,⟨(tk kPr s5).2⟩):=z2g (by omega)
   rw [e2]
   simp only [yb]
   by_cases hp:(tk kPr s5).1=true
   ·rw [if_pos hp,if_pos hp]
    rfl
   ·rw [if_neg hp,if_neg hp]
    have ep:(tk kPr s5).2=bk s5:=by
     unfold tk at hp ⊢
     split
     ·rename_i h;rw [if_pos h] at hp;exact absurd rfl hp
     ·rfl
    have hb5:=z4m s5
    rw [ep,ztb]
    simp only [yb]
    rw [znf (by omega),zxd,zmm]
    cases hk:zkz (wd s5) with
    | none=>simp [mRs]
    | some k =>
     have hk9:k<9:=by
      obtain ⟨h,_⟩:=zht hk
      exact h
     simp only [yb,show ((0:Int)≤(k:Int)) by omega,decide_true,if_true]
     rw [zeq (by simp only [yi];omega) hF]
     simp only [yb]
     cases hv:vl ((bk s5).drop (wd s5).length) with
     | pan e=>rfl
     | ok v =>
      simp only [mRs,cvE]
      rw [w64 (by omega) (by omega)]
  ·rw [if_neg hn,if_neg hn]
   rfl
theorem step {N:Nat} (hN:N<1000000000) {m F d:Nat} {s:List UInt8} (hle:Le (z3p m (d+1))) (hF:40≤F) (hS:d<16→∀ s:List UInt8,s.length≤N→M.q25 (F - 6) ⟨s⟩ ((d+1:Nat):Int)=some (mRs cvE (z3p m (d+1) s))) (hs:s.length≤N):M.q25 F ⟨s⟩ (d:Int)=some (mRs cvE (z3p (m+1) d s)):=by
 match F,hF with
 | F+6,hF =>
  have e6:F+6 - 6=F:=by omega
  rw [e6] at hS
  have h1:∀ s:List UInt8,s.length≤N→M.q28 (F+2) ⟨s⟩ (d:Int)=some (mRs (fun x=>(x.1,q07.mk x.2,(d:Int))) (zdc (z3p m) d s)):=fun s hs=>by
   unfold M.q28
   rw [zwr hN (by omega) hS hle hs]
   simp only [ya,yb]
   cases zdc (z3p m) d s<;>rfl
  have h2:∀ s:List UInt8,s.length≤N→M.q24 (F+3) ⟨s⟩ 0 [97,110,100] (d:Int)=some (mRs (fun x=>(x.1,q07.mk x.2,(d:Int))) (row 0 zm6 (zdc (z3p m) d) s)):=fun s hs=>by
   unfold M.q24 row
   rw [h1 s hs]
   simp only [ya,yb]
   cases hx:zdc (z3p m) d s with
   | pan e=>rfl
   | ok x =>
    have hxl:=zbm hle _ _ _ hx
    simp only [mRs,zcv]
    rw [zon (F:=fun s x l=>M.z04 [97,110,100] (M.q28 (F+2)) s x l) (word:=[97,110,100]) hN (by decide) (fun s x l=>by rw [M.z04];rfl) h1 (zbm hle) (x.2.length+1) x.2 [x.1] (by omega) (by omega) (by simp only [yh,yj];omega)]
    show (some _).bind _=_
    have ek:zm6=[97,110,100]:=rfl
    rw [ek]
    cases hr:zlw [97,110,100] (zdc (z3p m) d) (x.2.length+1) [x.1] x.2 with
    | pan e=>rfl
    | ok y =>
     obtain ⟨t,ht⟩:=z65 _ _ _ _ _ hr
     simp only [yb]
     exact zk9 (by rw [ht];simp)
  have h3:∀ s:List UInt8,s.length≤N→M.q26 (F+4) ⟨s⟩ (d:Int)=some (mRs (fun x=>(x.1,q07.mk x.2,(d:Int))) (row 0 zm6 (zdc (z3p m) d) s)):=fun s hs=>by
   unfold M.q26
   rw [h2 s hs]
   simp only [ya,yb]
   cases row 0 zm6 (zdc (z3p m) d) s<;>rfl
  have h4:M.q23 (F+5) ⟨s⟩ 1 [111,114] (d:Int)=some (mRs (fun x=>(x.1,q07.mk x.2,(d:Int))) (row 1 kOr (row 0 zm6 (zdc (z3p m) d)) s)):=by
   unfold M.q23
   rw [h3 s hs]
   rw [zst 1]
   simp only [ya,yb]
   cases hx:row 0 zm6 (zdc (z3p m) d) s with
   | pan e=>rfl
   | ok x =>
    have hxl:=zka (zbm hle) _ _ _ hx
    simp only [mRs,zcv]
    rw [zon (F:=fun s x l=>M.z06 [111,114] (M.q26 (F+4)) s x l) (word:=[111,114]) hN (by decide) (fun s x l=>by rw [M.z06];rfl) h3 (zka (zbm hle)) (x.2.length+1) x.2 [x.1] (by omega) (by omega) (by simp only [yh,yj];omega)]
    show (some _).bind _=_
    have ek:kOr=[111,114]:=rfl
    rw [ek]
    cases hr:zlw [111,114] (row 0 zm6 (zdc (z3p m) d)) (x.2.length+1) [x.1] x.2 with
    | pan e=>rfl
    | ok y =>
     obtain ⟨t,ht⟩:=z65 _ _ _ _ _ hr
     simp only [yb]
     exact zk9 (by rw [ht];simp)
  unfold M.q25
  rw [h4]
  simp only [ya,yb]
  show _=some (mRs cvE (row 1 kOr (row 0 zm6 (zdc (z3p m) d)) s))
  cases row 1 kOr (row 0 zm6 (zdc (z3p m) d)) s<;>rfl
theorem zci {N:Nat} (hN:N<1000000000):∀ (m F d:Nat) (s:List UInt8),d+m=16→6*m+40≤F→s.length≤N→M.q25 F ⟨s⟩ (d:Int)=some (mRs cvE (z3p (m+1) d s)):=by
 intro m
 induction m with
 | zero =>
  intro F d s hd hF hs
  have hS:d<16→∀ s:List UInt8,s.length≤N→M.q25 (F - 6) ⟨s⟩ ((d+1:Nat):Int)=some (mRs cvE (z3p 0 (d+1) s)):=fun h=>by omega
  exact step hN (zag 0 (d+1)) hF hS hs
 | succ m ih =>
  intro F d s hd hF hs
  exact step hN (zag (m+1) (d+1)) (by omega) (fun h s hs=>ih (F - 6) (d+1) s (by omega) (by omega) hs) hs
def zE:EX:=⟨0,[],[],[]⟩
def pP (s:List UInt8):EX × Int:=if 1024<s.length then (zE,191) else match z3p 17 0 s with
 | .pan e=>(zE,e)
 | .ok x=>if bk x.2=[] then (x.1,0) else (zE,190)
theorem z5f (s:List UInt8) {f:Nat} (hf:200≤f):M.q1a f s=some (pP s):=by
 unfold M.q1a pP
 by_cases hl:1024<s.length
 ·have hl':(1024:Int)<(s.length:Int):=by omega
  simp [hl,hl',zE]
 ·have hl':¬(1024:Int)<(s.length:Int):=by omega
  have h:=zci (N:=1024) (by omega) 16 f 0 s rfl (by omega) (by omega)
  have h':M.q25 f ⟨s⟩ 0=some (mRs cvE (z3p 17 0 s)):=h
  simp only [hl,hl',decide_false,yd,if_false,h',ya,yb]
  cases hx:z3p 17 0 s with
  | pan e=>rfl
  | ok x =>
   have h1:=zag 17 0 _ _ _ hx
   have hb:=zhc x.2
   simp only [mRs,cvE]
   rw [z4c (by omega)]
   simp only [yb,z4b]
   by_cases hbk:bk x.2=[]
   ·have hw:wd x.2=[]:=by unfold wd;rw [hbk];rfl
    simp [hbk,hw]
   ·by_cases hw:wd x.2=[]
    ·simp [hbk,hw,zE]
    ·simp [hbk,hw,zE]
end Go.Sen
end
section
namespace Go.Sen
open Go.Lk Go.Pe
def nch (c:UInt8):Bool:=isD c||decide (c=46)||decide (c=101)||decide (c=69)||decide (c=43)||decide (c=45)
def stop (r:List UInt8):Prop := ∀ c,r.head? = some c→nch c=false
theorem zb3 (c:UInt8) (s:List UInt8):za3 (c::s)=if c=46 then (if 0<z4v s then 1+z4v s else 0) else 0:=by
 by_cases h:c=46
 ·subst h;simp [za3]
 ·rw [if_neg h]
  unfold za3
  split
  ·rename_i r hr;injection hr with e1 e2;exact absurd e1 h
  ·rfl
theorem frac_nil:za3 []=0:=rfl
theorem zhj {c:UInt8} {r:List UInt8} (h:bl c=false):z2w (c::r)=c::r:=by
 unfold z2w
 rw [List.dropWhile_cons,h]
 rfl
end Go.Sen
end
section
namespace Go.Sen
open _root_.List renaming drop_take → ya, mem_append → yb, takeWhile_cons → yc, take_succ_cons → yd
open Go.Lk Go.Pe
theorem z7e {α:Type} (p:α→Bool):∀ (l:List α) (m:Nat),((l.take m).takeWhile p).length=min m (l.takeWhile p).length
 | [],m=>by simp
 | a::l,0=>by simp
 | a::l,m+1=>by
  rw [yd,yc,yc]
  cases p a with
  | false=>simp
  | true=>simp only [if_true,List.length_cons,z7e p l m];omega
theorem zar (s:List UInt8) (m:Nat):z4v (s.take m)=min m (z4v s):=z7e isD s m
theorem head_take {s:List UInt8} {m:Nat} (h:0<m):(s.take m).head? = s.head?:=by
 cases s with
 | nil=>simp
 | cons c r =>
  obtain ⟨m,rfl⟩:∃ k,m=k+1:=⟨m - 1,by omega⟩
  simp
theorem znh {s:List UInt8} {m:Nat} (h:0<m) (h2:z6t s≤m):z6t (s.take m)=z6t s:=by
 unfold z6t at *
 rw [head_take h,zar]
 split at h2
 ·rename_i hc;rw [if_pos hc,if_pos hc]
 ·rename_i hc;rw [if_neg hc,if_neg hc];omega
theorem znb {s:List UInt8} {m:Nat} (h:za3 s≤m):za3 (s.take m)=za3 s:=by
 cases s with
 | nil=>simp
 | cons c r =>
  cases m with
  | zero =>
   simp only [List.take_zero,frac_nil]
   omega
  | succ m =>
   rw [yd,zb3,zb3,zar]
   rw [zb3] at h
   by_cases hc:c=46
   ·simp only [hc,if_true] at h ⊢
    by_cases hd:0<z4v r
    ·rw [if_pos hd] at h ⊢
     have:min m (z4v r)=z4v r:=by omega
     rw [this,if_pos hd]
    ·rw [if_neg hd,if_neg (by omega)]
   ·simp [hc]
theorem zox {s:List UInt8} {m:Nat} (h:0<m):z7d (s.take m)=z7d s:=by unfold z7d;rw [head_take h]
theorem zre {s:List UInt8} {m:Nat} (h:0<m):sgn (s.take m)=sgn s:=by unfold sgn;rw [head_take h]
theorem zn7 (s:List UInt8):ze2 (s.take (ze2 s))=ze2 s:=by
 cases s with
 | nil=>rfl
 | cons c r =>
  by_cases hc:c=101∨c=69
  ·by_cases hd:0<z4v (r.drop (z7d r))
   ·have e:ze2 (c::r)=1+z7d r+z4v (r.drop (z7d r)):=by simp [ze2,hc,hd]
    rw [e]
    have e2:(c::r).take (1+z7d r+z4v (r.drop (z7d r)))=c::r.take (z7d r+z4v (r.drop (z7d r))):=by
     rw [show 1+z7d r+z4v (r.drop (z7d r))=(z7d r+z4v (r.drop (z7d r)))+1 by omega,yd]
    rw [e2]
    have e3:z7d (r.take (z7d r+z4v (r.drop (z7d r))))=z7d r:=zox (by omega)
    have e4:z4v ((r.take (z7d r+z4v (r.drop (z7d r)))).drop (z7d r))=z4v (r.drop (z7d r)):=by
     rw [ya,zar]
     omega
    unfold ze2
    simp only [hc,if_true,e3,e4,hd]
   ·have e:ze2 (c::r)=0:=by simp [ze2,hd]
    rw [e]
    rfl
  ·have e:ze2 (c::r)=0:=by simp [ze2,hc]
   rw [e]
   rfl
theorem zr0 (s:List UInt8):num (s.take (num s))=num s:=by
 by_cases hz:z6t (s.drop (sgn s))=0
 ·have:num s=0:=by unfold num;simp [hz]
  rw [this]
  rfl
 have e:num s=sgn s+z6t (s.drop (sgn s))+za3 (s.drop (sgn s+z6t (s.drop (sgn s))))+ze2 (s.drop (sgn s+z6t (s.drop (sgn s))+za3 (s.drop (sgn s+z6t (s.drop (sgn s)))))):=by
  conv=>lhs;unfold num
  simp only [hz,if_false]
 generalize hn:num s=n at e ⊢
 have hs:sgn (s.take n)=sgn s:=zre (by omega)
 have h1:z6t ((s.take n).drop (sgn s))=z6t (s.drop (sgn s)):=by
  rw [ya,znh (by omega) (by omega)]
 have h2:za3 ((s.take n).drop (sgn s+z6t (s.drop (sgn s))))=za3 (s.drop (sgn s+z6t (s.drop (sgn s)))):=by
  rw [ya,znb (by omega)]
 have h3:ze2 ((s.take n).drop (sgn s+z6t (s.drop (sgn s))+za3 (s.drop (sgn s+z6t (s.drop (sgn s))))))=ze2 (s.drop (sgn s+z6t (s.drop (sgn s))+za3 (s.drop (sgn s+z6t (s.drop (sgn s)))))):=by
  rw [ya]
  have:n - (sgn s+z6t (s.drop (sgn s))+za3 (s.drop (sgn s+z6t (s.drop (sgn s)))))=ze2 (s.drop (sgn s+z6t (s.drop (sgn s))+za3 (s.drop (sgn s+z6t (s.drop (sgn s)))))):=by omega
  rw [this,zn7]
 unfold num
 simp only [hs,h1,hz,if_false,h2,h3]
 exact e.symm
theorem zc3:∀ (f:Nat) (s acc t r:List UInt8),txt f s acc=some (t,r)→Lib.validD t=true
 | 0,_,_,_,_,h=>by simp [txt] at h
 | _+1,[],_,_,_,h=>by simp [txt] at h
 | f+1,c::s,acc,t,r,h=>by
  rw [txt] at h
  split at h
  ·cases h
  ·split at h
   ·split at h
    ·rename_i hv;cases h;exact hv
    ·cases h
   ·split at h
    ·split at h
     ·cases h
     ·exact zc3 f _ _ _ _ h
    ·exact zc3 f _ _ _ _ h
theorem z9f {s t r:List UInt8} (h:text s=some (t,r)):Lib.validD t=true:=by
 unfold text at h
 split at h
 ·split at h
  ·exact zc3 _ _ _ _ _ h
  ·cases h
 ·cases h
theorem ztt {s:List UInt8} {ks:List (List UInt8)} {r:List UInt8} {ks2:List (List UInt8)} (h:zqp s ks = .ok (r,ks2)):∃ k,ks2=ks++[k]∧¬k∈ks∧Lib.validD k=true:=by
 unfold zqp at h
 split at h
 ·cases h
 ·rename_i k r1 ht
  split at h
  ·cases h
  ·rename_i hk
   split at h
   ·cases h
   ·cases h;exact ⟨k,rfl,hk,z9f ht⟩
theorem zj8:∀ {l:List J} {w:Nat},zc5 l w=0↔∀ x∈l,z7z x w=0
 | [],w=>by simp [zc5]
 | x::l,w=>by
  rw [zam]
  by_cases hc:z7z x w=0
  ·simp [hc,zj8 (l:=l)]
  ·simp [hc]
theorem zl7 {n:Nat} {ks:List (List UInt8)} (h1:ks.length=n) (h2:ks.Nodup) (h3:∀ k∈ks,Lib.validD k=true):frm 6 [] n ks=true:=by
 unfold frm
 simp [h1,h2]
 exact h3
theorem znj {vf:List UInt8→Rd} {o:Bool} {e:UInt8} {w:Nat} (hw:w<16) (hv:∀ s x r,vf s = .ok (x,r)→z7z x (w+1)=0):∀ (f:Nat) (s:List UInt8) (l:List J) (ks:List (List UInt8)) (x:J) (r:List UInt8),
  zc5 l (w+1)=0→(o=true→ks.length=l.length)→(o=false→ks=[])→ks.Nodup→(∀ k∈ks,Lib.validD k=true)→items vf o e f s l ks = .ok (x,r)→z7z x w=0:=by
 intro f
 induction f with
 | zero=>intro s l ks x r _ _ _ _ _ h;simp [items] at h
 | succ f ih =>
  intro s l ks x r hl hk hk2 hnd hvk h
  rw [items] at h
  split at h
  ·cases h
  ·rename_i s1 ks1 hks
   have h1:(o=true→ks1.length=l.length+1)∧(o=false→ks1=[])∧ks1.Nodup∧∀ k∈ks1,Lib.validD k=true:=by
    split at hks
    ·rename_i ho
     obtain ⟨k,rfl,k1,k2⟩:=ztt hks
     refine ⟨fun _=>by simp [hk ho],fun h=>absurd (ho.symm.trans h) (by decide),?_,?_⟩
     ·rw [List.nodup_append]
      exact ⟨hnd,by simp,fun a ha b hb=>by simp at hb;subst hb;intro e;subst e;exact k1 ha⟩
     ·intro z hz
      rcases yb.1 hz with hz|hz
      ·exact hvk z hz
      ·simp at hz;subst hz;exact k2
    ·rename_i ho
     cases hks
     exact ⟨fun h=>absurd h ho,hk2,hnd,hvk⟩
   obtain ⟨a1,a2,a3,a4⟩:=h1
   split at h
   ·cases h
   ·rename_i x2 s2 hx
    have hx2:=hv _ _ _ hx
    have hl2:zc5 (l++[x2]) (w+1)=0:=by
     rw [zj8] at hl ⊢
     intro y hy
     rcases yb.1 hy with hy|hy
     ·exact hl y hy
     ·simp at hy;subst hy;exact hx2
    split at h
    ·cases h
     rw [z4x]
     simp only
     have h16:¬(16≤w):=by omega
     cases o with
     | false =>
      have:=a2 rfl
      subst this
      have hf:frm 5 [] (l++[x2]).length []=true:=by simp [frm]
      simp only [Bool.false_eq_true,if_false]
      rw [if_neg (fun h=>h16 h.2),hf]
      simpa using hl2
     | true =>
      have hf:frm 6 [] (l++[x2]).length ks1=true:=zl7 (by simpa using a1 rfl) a3 a4
      simp only [if_true]
      rw [if_neg (fun h=>h16 h.2),hf]
      simpa using hl2
    ·split at h
     ·cases h
     ·exact ih _ _ _ _ _ hl2 (fun h=>by simpa using a1 h) a2 a3 a4 h
theorem zjx {vf:List UInt8→Rd} {o:Bool} {w:Nat} (hv:w<16→∀ s x r,vf s = .ok (x,r)→z7z x (w+1)=0) {s r:List UInt8} {x:J} (h:nest vf o w s = .ok (x,r)):z7z x w=0:=by
 unfold nest at h
 split at h
 ·cases h
 ·rename_i h16
  split at h
  ·cases h
   rw [z4x]
   cases o with
   | false=>simp [frm,h16,zc5]
   | true=>simp [frm,h16,zc5]
  ·exact znj (by omega) (hv (by omega)) _ _ _ _ _ _ rfl (fun _=>rfl) (fun _=>rfl) (by simp) (fun k hk=>by cases hk) h
theorem zrt {s r:List UInt8} {x:J} {w:Nat} (h:word s = .ok (x,r)):z7z x w=0:=by
 unfold word at h
 split at h
 ·cases h;rw [z4x];simp [frm,zc5]
 ·split at h
  ·cases h;rw [z4x];simp [frm,zc5]
  ·split at h
   ·cases h;rw [z4x];simp [frm,zc5]
   ·split at h
    ·cases h
    ·rename_i hn
     cases h
     have h1:=zr0 s
     have h2:=zk1 s
     have h3:(s.take (num s)).length=num s:=by rw [List.length_take];omega
     have h4:¬s.take (num s)=[]:=fun e=>by rw [e] at h3;simp at h3;omega
     have hf:frm 3 (s.take (num s)) 0 []=true:=by
      unfold frm
      rw [if_neg (by decide),if_pos rfl,h1,h3]
      simp [h4]
     rw [z4x]
     simp [hf,zc5]
theorem zv3:∀ (f:Nat) (s:List UInt8) (w:Nat) (x:J) (r:List UInt8),val f s w = .ok (x,r)→z7z x w=0:=by
 intro f
 induction f with
 | zero=>intro s w x r h;simp [val] at h
 | succ f ih =>
  intro s w x r h
  rw [val] at h
  split at h
  ·rename_i t r2 ht
   have hv:=z9f ht
   cases h
   rw [z4x]
   simp [frm,zc5,hv]
  ·split at h
   ·cases h
   ·split at h
    ·exact zjx (fun _ s x r=>ih s (w+1) x r) h
    ·split at h
     ·exact zjx (fun _ s x r=>ih s (w+1) x r) h
     ·exact zrt h
theorem zqr {s:List UInt8} {ks:List (List UInt8)} {c:Int} (h:zqp s ks = .pan c):c=20:=by
 unfold zqp at h
 split at h
 ·injection h with h;exact h.symm
 ·split at h
  ·injection h with h;exact h.symm
  ·split at h
   ·injection h with h;exact h.symm
   ·cases h
theorem znk {vf:List UInt8→Rd} {o:Bool} {e:UInt8} (hv:∀ s c,vf s = .pan c→c=20∨c=21):∀ (f:Nat) (s:List UInt8) (l:List J) (ks:List (List UInt8)) (c:Int),items vf o e f s l ks = .pan c→c=20∨c=21:=by
 intro f
 induction f with
 | zero=>intro s l ks c h;simp only [items] at h;injection h with h;exact .inl h.symm
 | succ f ih =>
  intro s l ks c h
  rw [items] at h
  split at h
  ·rename_i hk
   split at hk
   ·injection h with h;subst h;exact .inl (zqr hk)
   ·cases hk
  ·split at h
   ·rename_i hx;injection h with h;subst h;exact hv _ _ hx
   ·split at h
    ·cases h
    ·split at h
     ·injection h with h;exact .inl h.symm
     ·exact ih _ _ _ _ h
theorem zjy {vf:List UInt8→Rd} {o:Bool} {w:Nat} (hv:∀ s c,vf s = .pan c→c=20∨c=21) {s:List UInt8} {c:Int} (h:nest vf o w s = .pan c):c=20∨c=21:=by
 unfold nest at h
 split at h
 ·injection h with h;exact .inr h.symm
 ·split at h
  ·cases h
  ·exact znk hv _ _ _ _ _ h
theorem zv4:∀ (f:Nat) (s:List UInt8) (w:Nat) (c:Int),val f s w = .pan c→c=20∨c=21:=by
 intro f
 induction f with
 | zero=>intro s w c h;simp only [val] at h;injection h with h;exact .inl h.symm
 | succ f ih =>
  intro s w c h
  rw [val] at h
  split at h
  ·cases h
  ·split at h
   ·injection h with h;exact .inl h.symm
   ·split at h
    ·exact zjy (fun s c=>ih s (w+1) c) h
    ·split at h
     ·exact zjy (fun s c=>ih s (w+1) c) h
     ·unfold word at h
      split at h
      ·cases h
      ·split at h
       ·cases h
       ·split at h
        ·cases h
        ·split at h
         ·injection h with h;exact .inl h.symm
         ·cases h
theorem zia (s:List UInt8):(∃ x,parse s=(x,0)∧z7z x 0=0)∨∃ c,parse s=(⟨0,[],[],[]⟩,c)∧(c=20∨c=21∨c=22):=by
 unfold parse
 split
 ·exact .inr ⟨22,rfl,by simp⟩
 ·split
  ·rename_i c hc
   rcases zv4 _ _ _ _ hc with h|h
   ·exact .inr ⟨c,rfl,.inl h⟩
   ·exact .inr ⟨c,rfl,.inr (.inl h)⟩
  ·rename_i y r hv
   split
   ·exact .inl ⟨y,rfl,zv3 _ _ _ _ _ hv⟩
   ·exact .inr ⟨20,rfl,.inl rfl⟩
end Go.Sen
end
section
namespace Go.Sen
open _root_.List renaming head?_cons → ya, length_append → yb, length_cons → yc, length_drop → yd, length_nil → ye
open Go.Lk Go.Pe
theorem zib {q:List UInt8} {x:J} (hh:q.head? = some 34) (hx:parse q=(x,0)):Lib.validD x.z0q=true:=by
 unfold parse at hx
 have hb:z2w q=q:=by
  cases q with
  | nil=>cases hh
  | cons c r =>
   simp only [ya,Option.some.injEq] at hh
   subst hh
   exact zhj (by decide)
 split at hx
 ·cases hx
 ·rw [hb] at hx
  unfold val at hx
  cases ht:text q with
  | some p =>
   obtain ⟨t,r⟩:=p
   rw [ht] at hx
   simp only at hx
   split at hx
   ·cases hx;exact z9f ht
   ·cases hx
  | none =>
   rw [ht] at hx
   simp only [hh,if_true] at hx
   cases hx
theorem zv6 {s t r:List UInt8} (h:vl s = .ok (t,r)):z1q t=true:=by
 unfold vl at h
 split at h
 ·split at h
  ·split at h
   ·rename_i h1 h2 h3
    cases h
    generalize hq:(bk s).take (2+qsc ((bk s).drop 1))=q at h3 ⊢
    have hh:q.head? = some 34:=by
     rw [←hq]
     cases hb:bk s with
     | nil=>rw [hb] at h1;cases h1
     | cons c r =>
      rw [hb] at h1
      simp only [ya,Option.some.injEq] at h1
      rw [h1,show 2+qsc ((34::r).drop 1)=(1+qsc ((34::r).drop 1))+1 by omega,List.take_succ_cons]
      rfl
    rcases zia q with ⟨x,hx,hc⟩|⟨c,hx,hc⟩
    ·have hk:=zib hh hx
     rw [hx] at h3 ⊢
     simp only at h3 ⊢
     unfold z1q
     rw [decide_eq_true h3.2,hk]
     rfl
    ·rw [hx] at h3
     simp only at h3
     omega
   ·cases h
  ·cases h
 ·cases h
def Sz (next:List UInt8→Rs (EX × List UInt8)):Prop := ∀ s x r,next s = .ok (x,r)→x.sz+200*r.length≤200*s.length
theorem z90 {t:List UInt8} (h:z1q t=true):t.length≤128:=by
 unfold z1q at h
 simp only [Bool.and_eq_true,decide_eq_true_eq] at h
 exact h.1
theorem zu5 {no:Bool}:Sz (leaf no):=fun s x r h=>by
 have hb:=z4m s
 have hw:=zhc s
 unfold leaf at h
 split at h
 ·split at h
  ·rename_i hk
   cases h
   have:=zro hk
   have hkl:kPr.length=2:=rfl
   simp only [yd] at this
   simp only [q01.sz,ezs,ye]
   omega
  ·split at h
   ·cases h
   ·split at h
    ·cases h
    ·rename_i v hv
     cases h
     have h1:=zxb hv
     have h2:=z4m ((bk s).drop (wd s).length)
     have h3:=z90 (zv6 hv)
     simp only [yd] at h1 h2
     simp only [q01.sz,ezs]
     omega
 ·cases h
theorem zu9 {S:Nat→List UInt8→Rs (EX × List UInt8)} {d:Nat} (hS:Sz (S (d+1))):Sz (zdc S d):=fun s x r h=>by
 have h1:=zaa zce s
 have h2:=zaa [40] (tk zce s).2
 unfold zdc at h
 split at h
 ·rename_i ho
  have h3:=zro ho
  split at h
  ·split at h
   ·cases h
   ·rename_i y hy
    have h4:=hS _ _ _ hy
    split at h
    ·have h5:=zaa [41] y.2
     cases h
     simp only [yc,ye] at h3
     split
     ·simp only [q01.sz,ezs,ye];omega
     ·omega
    ·cases h
  ·cases h
 ·have:=zu5 _ _ _ h
  omega
theorem zom {word:List UInt8} {next:List UInt8→Rs (EX × List UInt8)} (hw:1≤word.length) (hn:Sz next):∀ (f:Nat) (acc:List EX) (s:List UInt8) (l:List EX) (r:List UInt8),zlw word next f acc s = .ok (l,r)→ezs l+200*r.length+200*(l.length - acc.length)≤ezs acc+200*s.length
 | 0,acc,s,l,r,h=>by cases h;omega
 | f+1,acc,s,l,r,h=>by
  unfold zlw at h
  split at h
  ·rename_i ht
   have h1:=zro ht
   split at h
   ·cases h
   ·rename_i x hx
    have h2:=hn _ _ _ hx
    have h3:=zom hw hn f _ _ _ _ h
    have h4:ezs (acc++[x.1])=ezs acc+x.1.sz:=by
     clear h h3
     induction acc with
     | nil=>simp [ezs]
     | cons y ys ih=>simp [ezs,ih];omega
    obtain ⟨t,ht2⟩:=z65 _ _ _ _ _ h
    rw [ht2] at h3 ⊢
    simp only [yb,yc,ye] at h3 ⊢
    omega
  ·cases h
   have:=zaa word s
   omega
theorem zsu {k:Int} {word:List UInt8} {next:List UInt8→Rs (EX × List UInt8)} (hw:1≤word.length) (hn:Sz next):Sz (row k word next):=fun s x r h=>by
 rw [zst] at h
 split at h
 ·cases h
 ·rename_i y hy
  have h1:=hn _ _ _ hy
  split at h
  ·cases h
  ·rename_i l hl
   cases h
   have h2:=zom hw hn _ _ _ _ _ hl
   obtain ⟨t,ht⟩:=z65 _ _ _ _ _ hl
   cases t with
   | nil =>
    simp only [List.append_nil] at ht
    rw [ht] at h2 ⊢
    simp only [zlf,ezs,yc,ye] at h2 ⊢
    omega
   | cons z t =>
    rw [ht] at h2 ⊢
    simp only [yc,yb,ye,ezs] at h2
    show q01.sz ⟨k,[],[],y.1::z::t⟩+_≤_
    simp only [q01.sz,ye]
    have e:ezs ([y.1]++z::t)=ezs (y.1::z::t):=rfl
    rw [e] at h2
    omega
theorem zkf:∀ m d,Sz (z3p m d)
 | 0,_=>fun _ _ _ h=>by cases h
 | m+1,d=>zsu (k:=1) (word:=kOr) (by decide) (zsu (k:=0) (word:=zm6) (by decide) (zu9 (S:=z3p m) (zkf m (d+1))))
theorem zzb (s:List UInt8):(pP s).1.sz≤204801:=by
 have hz:zE.sz≤204801:=by decide
 unfold pP
 split
 ·exact hz
 ·split
  ·exact hz
  ·rename_i x hx
   have:=zkf 17 0 _ _ _ hx
   split
   ·simp only
    omega
   ·exact hz
end Go.Sen
end
