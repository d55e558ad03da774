import Derived.Test.YtmmgdladipbedaaGreatDoorLSpB
import Derived.Test.YtmmgdladipbedaaGreatDoorLSnI
set_option linter.all false
section
namespace Go.Sen
open _root_.Option renaming bind_eq_bind → ya, bind_some → yb
open _root_.Bool renaming and_eq_true → yc, false_eq_true → yd
open _root_.List renaming dropWhile_cons → ye, getElem?_eq_getElem → yf, length_append → yg, length_cons → yh, length_drop → yi, length_nil → yj
open IntKind renaming wrap → yk
open Go.Lk Go.Pe
def bk (s:List UInt8):List UInt8:=s.dropWhile (fun c=>decide (c=32))
def wd (s:List UInt8):List UInt8:=(bk s).takeWhile wch
def tkB (p s:List UInt8):Bool:=decide (wd s=p)||decide (wd s=[])&&p.isPrefixOf (bk s)
def tk (p s:List UInt8):Bool × List UInt8:=if tkB p s=true then (true,(bk s).drop p.length) else (false,bk s)
theorem zeh {α:Type} (p:α→Bool) (l:List α):(l.dropWhile p).length≤l.length:=(List.dropWhile_sublist p).length_le
theorem zbr {α:Type} (p:α→Bool):∀ l:List α,(l.dropWhile p).dropWhile p=l.dropWhile p
 | []=>rfl
 | a::l=>by
  cases h:p a with
  | true=>simp [ye,h,zbr p l]
  | false=>simp [ye,h]
theorem z3x (s:List UInt8):(bk s).length≤s.length:=zeh _ s
theorem zl0 (s:List UInt8):bk (bk s)=bk s:=zbr _ s
theorem zu9 (s:List UInt8):wd (bk s)=wd s:=by unfold wd;rw [zl0]
theorem zs1 (p s:List UInt8):tk p (bk s)=tk p s:=by unfold tk tkB;rw [zu9,zl0]
theorem zfv (s:List UInt8):(wd s).length≤(bk s).length:=(List.takeWhile_sublist _).length_le
theorem zke {α:Type} (p:α→Bool) (l:List α):l.take (l.length - (l.dropWhile p).length)=l.takeWhile p:=by
 have h:=List.takeWhile_append_dropWhile (p:=p) (l:=l)
 have h2:l.length - (l.dropWhile p).length=(l.takeWhile p).length:=by
  have:=congrArg List.length h
  rw [yg] at this
  omega
 rw [h2]
 have h3:=List.take_left (l₁:=l.takeWhile p) (l₂:=l.dropWhile p)
 rwa [h] at h3
theorem zhb (s:List UInt8):M.trimLeft s [32]=some (bk s):=by
 unfold M.trimLeft
 rw [z2g (by decide)]
 simp only [ya,yb,Lib.trimLeftS,bk]
 congr 2
 funext c
 rw [Bool.eq_iff_iff]
 simp
theorem zkg (s:List UInt8):M.trimLeft s z84=some (s.dropWhile wch):=by
 unfold M.trimLeft
 rw [z2g (by decide)]
 simp only [ya,yb,Lib.trimLeftS]
 congr 2
 funext c
 exact zci c
theorem z3o {s:List UInt8} (hs:s.length<1152921504606846976):M.q2m ⟨s⟩=some (wd s,⟨bk s⟩):=by
 have hb:=z3x s
 have hd:=zeh wch (bk s)
 show (M.trimLeft s [32]).bind (fun a_1=>(M.trimLeft a_1 z84).bind fun a_3=>(sub a_1 0 (yk .i64 ((a_1.length:Int) - (a_3.length:Int)))).bind fun s_5=>some (s_5,q07.mk a_1))=_
 rw [zhb]
 simp only [yb]
 rw [zkg]
 simp only [yb]
 have e:yk .i64 (((bk s).length:Int) - (((bk s).dropWhile wch).length:Int))=(((bk s).length - ((bk s).dropWhile wch).length:Nat):Int):=by rw [w64]<;>omega
 rw [e,zkd (by omega),zke]
 rfl
theorem z1u {s p:List UInt8} (hs:s.length<1152921504606846976):M.q2k ⟨s⟩ p=some ((tk p s).1,⟨(tk p s).2⟩):=by
 have hb:=z3x s
 have hw:=zfv s
 unfold M.q2k
 rw [z3o hs]
 simp only [ya,yb,z1s]
 unfold tk tkB
 by_cases h1:wd s=p
 ·have h2:p.length≤(bk s).length:=by rw [←h1];exact hw
  simp [h1,z9c h2]
 ·by_cases h2:wd s=[]
  ·cases h3:p.isPrefixOf (bk s) with
   | true =>
    have h4:=zam h3
    have h5:¬ []=p:=fun e=>h1 (h2.trans e)
    simp [h2,h5,h3,z9c h4]
   | false =>
    have h5:¬ []=p:=fun e=>h1 (h2.trans e)
    simp [h2,h5,h3]
  ·simp [h1,h2]
theorem z9d (p s:List UInt8):(tk p s).2.length≤s.length:=by
 have:=z3x s
 unfold tk
 split
 ·simp only [yi];omega
 ·exact this
theorem zpa {p s:List UInt8} (h:(tk p s).1=true):(tk p s).2.length+p.length≤s.length:=by
 have hb:=z3x s
 have hw:=zfv s
 unfold tk at h ⊢
 split at h
 ·rename_i h1
  rw [if_pos h1]
  unfold tkB at h1
  simp only [Bool.or_eq_true,yc,decide_eq_true_eq] at h1
  simp only [yi]
  rcases h1 with h1|⟨_,h1⟩
  ·rw [h1] at hw;omega
  ·have:=zam h1;omega
 ·cases h
def zbb:List UInt8:=[110,111,116]
def kPr:List UInt8:=[112,114]
def zkk:List UInt8:=[97,110,100]
def kOr:List UInt8:=[111,114]
theorem zfr {α:Type} (p:α→Bool):∀ (a b:List α),a.all p=true→(a++b).takeWhile p=a++b.takeWhile p
 | [],b,_=>rfl
 | x::a,b,h=>by
  simp only [List.all_cons,yc] at h
  simp [List.takeWhile_cons,h.1,zfr p a b h.2]
theorem zp9 {p s:List UInt8} (h1:p.all wch=true) (h2:¬p=[]):tkB p s=decide (wd s=p):=by
 unfold tkB
 cases h:decide (wd s=p) with
 | true=>rfl
 | false =>
  simp only [Bool.false_or]
  rw [Bool.eq_false_iff]
  intro hh
  simp only [yc,decide_eq_true_eq] at hh
  obtain ⟨h3,h4⟩:=hh
  obtain ⟨r,hr⟩:=List.isPrefixOf_iff_prefix.1 h4
  unfold wd at h3
  rw [←hr,zfr wch p r h1] at h3
  exact h2 (List.append_eq_nil_iff.1 h3).1
theorem zw4 (s:List UInt8):tk (wd s) s=(true,(bk s).drop (wd s).length):=by
 unfold tk tkB
 simp
def qsc:List UInt8→Nat
 | []=>0
 | [c]=>if c=34 then 0 else if c=92 then 2 else 1
 | c::d::r=>if c=34 then 0 else if c=92 then 2+qsc r else 1+qsc (d::r)
theorem zoz (c:UInt8) (r:List UInt8):qsc (c::r)=if c=34 then 0 else if c=92 then 2+qsc (r.drop 1) else 1+qsc r:=by
 cases r with
 | nil=>rfl
 | cons d r=>rfl
theorem zpc {w b:List UInt8} (hb:b.length<1000000000):∀ (n i:Nat),b.length+2 - i=n→i≤b.length+1→M.z0d (w,⟨b⟩) (i:Int)=some ((i+qsc (b.drop i):Nat):Int):=by
 intro n
 induction n using Nat.strongRecOn with
 | ind n ih =>
  intro i h1 h2
  rw [M.z0d]
  by_cases hi:i<b.length
  ·rw [z2s hi,zoz]
   simp only [show ((i:Int)<(b.length:Int)) by omega,decide_true,if_true,z48,yf hi,ya,yb]
   have e34:decide (((b[i].toNat:Nat):Int)=34)=decide (b[i]=34):=by rw [decide_eq_decide];exact toNat_eq (n:=34) (by decide)
   have e92:decide (((b[i].toNat:Nat):Int)=92)=decide (b[i]=92):=by rw [decide_eq_decide];exact toNat_eq (n:=92) (by decide)
   rw [e34,e92]
   by_cases h34:b[i]=34
   ·simp [h34]
   ·simp only [h34,decide_false,Bool.not_false,if_true,if_false]
    rw [w1 (by omega)]
    by_cases h92:b[i]=92
    ·simp only [h92,decide_true,if_true]
     rw [w1 (by omega),ih (b.length+2 - (i+1+1)) (by omega) (i+1+1) rfl (by omega),List.drop_drop]
     congr 2
     omega
    ·simp only [h92,decide_false,yd,if_false]
     rw [ih (b.length+2 - (i+1)) (by omega) (i+1) rfl (by omega)]
     congr 2
     omega
  ·have h3:¬((i:Int)<(b.length:Int)):=by omega
   rw [List.drop_eq_nil_of_le (by omega)]
   simp [h3,qsc]
def vl (s:List UInt8):Rs (List UInt8 × List UInt8) :=
 if (bk s).head? = some 34 then (if 1+qsc ((bk s).drop 1)<(bk s).length then (if (parse ((bk s).take (2+qsc ((bk s).drop 1)))).2=0∧(parse ((bk s).take (2+qsc ((bk s).drop 1)))).1.z0p.length≤128 then
  .ok ((parse ((bk s).take (2+qsc ((bk s).drop 1)))).1.z0p,(bk s).drop (2+qsc ((bk s).drop 1))) else .pan 190) else .pan 190) else .pan 190
theorem z3n (b:Bool) (e:Int):M.q28 b e=some (if b=true then .ok () else .pan e):=by cases b<;>simp [M.q28]
theorem zdk {s:List UInt8} (hs:s.length<1000000000) {f:Nat} (hf:34≤f):M.q2l f ⟨s⟩=some (mRs (fun x=>(x.1,q07.mk x.2)) (vl s)):=by
 have hb:=z3x s
 unfold M.q2l vl
 rw [z3o (by omega)]
 simp only [ya,yb,z1s,z3r,z3n]
 by_cases h34:(bk s).head? = some 34
 ·have hw:wd s=[]:=by
   unfold wd
   cases hbk:bk s with
   | nil=>rfl
   | cons c r =>
    rw [hbk] at h34
    simp only [List.head?_cons,Option.some.injEq] at h34
    subst h34
    simp [show wch 34=false from by decide]
  simp only [hw,h34,decide_true,if_true]
  have hk:=zpc (w:=([]:List UInt8)) (b:=bk s) (by omega) _ 1 rfl (by omega)
  have hk':M.z0d ([],⟨bk s⟩) 1=_:=hk
  rw [hk']
  simp only [yb]
  generalize qsc ((bk s).drop 1)=q
  by_cases hl:1+q<(bk s).length
  ·have hl':(((1+q:Nat):Int)<((bk s).length:Int)):=by omega
   simp only [hl',hl,decide_true,if_true]
   rw [w1 (by omega),show 1+q+1=2+q by omega]
   rw [zkd (by omega)]
   simp only [yb,z7m _ hf]
   generalize parse ((bk s).take (2+q))=v
   by_cases h1:v.2=0∧v.1.z0p.length≤128
   ·have h1':((decide (v.2=0))&&(decide ((v.1.z0p.length:Int)≤128)))=true:=by
     simp only [yc,decide_eq_true_eq];omega
    rw [if_pos h1',if_pos h1]
    simp only
    rw [z9c (by omega)]
    rfl
   ·have h1':¬((decide (v.2=0))&&(decide ((v.1.z0p.length:Int)≤128)))=true:=by
     simp only [yc,decide_eq_true_eq];omega
    rw [if_neg h1',if_neg h1]
    rfl
  ·have hl':¬(((1+q:Nat):Int)<((bk s).length:Int)):=by omega
   simp only [hl',hl,decide_false,yd,if_false]
   rfl
 ·simp only [h34,decide_false,if_false]
  by_cases hw:wd s=[]
  ·simp [hw,mRs]
  ·simp [hw,mRs]
theorem zu8 {s t r:List UInt8} (h:vl s = .ok (t,r)):r.length+2≤s.length:=by
 have hb:=z3x s
 unfold vl at h
 split at h
 ·split at h
  ·split at h
   ·cases h
    simp only [yi]
    omega
   ·cases h
  ·cases h
 ·cases h
def zv6:List (List UInt8):=[[101,113],[110,101],[99,111],[115,119],[101,119],[103,116],[103,101],[108,116],[108,101]]
def zjg (w:List UInt8):Option Nat:=zv6.findIdx? (fun x=>decide (w=x))
def leaf (no:Bool) (s:List UInt8):Rs (EX × List UInt8) :=
 if (!no&&isName (wd s))=true then
  (if (tk kPr ((bk s).drop (wd s).length)).1=true then .ok (⟨3,wd s,[],[]⟩,(tk kPr ((bk s).drop (wd s).length)).2)
  else match zjg (wd ((bk s).drop (wd s).length)) with
   | none => .pan 190
   | some k=>match vl ((bk ((bk s).drop (wd s).length)).drop (wd ((bk s).drop (wd s).length)).length) with
    | .pan e => .pan e
    | .ok v => .ok (⟨4+k,wd s,v.1,[]⟩,v.2))
 else .pan 190
def zcb (S:Nat→List UInt8→Rs (EX × List UInt8)) (d:Nat) (s:List UInt8):Rs (EX × List UInt8) :=
 if (tk [40] (tk zbb s).2).1=true then
  (if d<16 then match S (d+1) (tk [40] (tk zbb s).2).2 with
   | .pan e => .pan e
   | .ok x=>if (tk [41] x.2).1=true then .ok (if (tk zbb s).1=true then ⟨2,[],[],[x.1]⟩ else x.1,(tk [41] x.2).2) else .pan 190
  else .pan 193)
 else leaf (tk zbb s).1 (tk [40] (tk zbb s).2).2
def zk8 (word:List UInt8) (next:List UInt8→Rs (EX × List UInt8)):Nat→List EX→List UInt8→Rs (List EX × List UInt8)
 | 0,acc,s => .ok (acc,s)
 | f+1,acc,s=>if (tk word s).1=true then (match next (tk word s).2 with
   | .pan e => .pan e
   | .ok x=>zk8 word next f (acc++[x.1]) x.2) else .ok (acc,(tk word s).2)
def zjv (kind:Int):List EX→EX
 | [x]=>x
 | l=>⟨kind,[],[],l⟩
def row (kind:Int) (word:List UInt8) (next:List UInt8→Rs (EX × List UInt8)) (s:List UInt8):Rs (EX × List UInt8):=match next s with
 | .pan e => .pan e
 | .ok x=>match zk8 word next (x.2.length+1) [x.1] x.2 with
  | .pan e => .pan e
  | .ok l => .ok (zjv kind l.1,l.2)
theorem zq5 (kind:Int) (word:List UInt8) (next:List UInt8→Rs (EX × List UInt8)) (s:List UInt8):row kind word next s=match next s with
 | .pan e => .pan e
 | .ok x=>match zk8 word next (x.2.length+1) [x.1] x.2 with
  | .pan e => .pan e
  | .ok l => .ok (zjv kind l.1,l.2):=rfl
def z2w:Nat→Nat→List UInt8→Rs (EX × List UInt8)
 | 0,_,_ => .pan 0
 | m+1,d,s=>row 1 kOr (row 0 zkk (zcb (z2w m) d)) s
def Le (next:List UInt8→Rs (EX × List UInt8)):Prop := ∀ s x r,next s = .ok (x,r)→r.length≤s.length
theorem zms {word:List UInt8} {next:List UInt8→Rs (EX × List UInt8)} (h:Le next):∀ (f:Nat) (acc:List EX) (s:List UInt8) (l:List EX) (r:List UInt8),zk8 word next f acc s = .ok (l,r)→r.length≤s.length
 | 0,acc,s,l,r,hh=>by cases hh;exact Nat.le_refl _
 | f+1,acc,s,l,r,hh=>by
  have ht:=z9d word s
  unfold zk8 at hh
  split at hh
  ·split at hh
   ·cases hh
   ·rename_i x hx
    have h1:=h _ _ _ hx
    have h2:=zms h f _ _ _ _ hh
    omega
  ·cases hh;exact ht
theorem ziu {kind:Int} {word:List UInt8} {next:List UInt8→Rs (EX × List UInt8)} (h:Le next):Le (row kind word next):=by
 intro s x r hh
 unfold row at hh
 split at hh
 ·cases hh
 ·rename_i y hy
  have h1:=h _ _ _ hy
  split at hh
  ·cases hh
  ·rename_i l hl
   have h2:=zms h _ _ _ _ _ hl
   cases hh
   omega
theorem zrc {no:Bool}:Le (leaf no):=by
 intro s x r hh
 have hb:=z3x s
 unfold leaf at hh
 split at hh
 ·split at hh
  ·cases hh
   have:=z9d kPr ((bk s).drop (wd s).length)
   simp only [yi] at this
   omega
  ·split at hh
   ·cases hh
   ·split at hh
    ·cases hh
    ·rename_i v hv
     have h1:=zu8 hv
     have h2:=z3x ((bk s).drop (wd s).length)
     cases hh
     simp only [yi] at h1 h2
     omega
 ·cases hh
theorem zal {S:Nat→List UInt8→Rs (EX × List UInt8)} {d:Nat} (h:Le (S (d+1))):Le (zcb S d):=by
 intro s x r hh
 have h1:=z9d zbb s
 have h2:=z9d [40] (tk zbb s).2
 unfold zcb at hh
 split at hh
 ·split at hh
  ·split at hh
   ·cases hh
   ·rename_i y hy
    have h3:=h _ _ _ hy
    split at hh
    ·cases hh
     have:=z9d [41] y.2
     omega
    ·cases hh
  ·cases hh
 ·have:=zrc _ _ _ hh
  omega
theorem z9k:∀ m d,Le (z2w m d)
 | 0,_=>fun _ _ _ h=>by cases h
 | m+1,d=>by
  have e:z2w (m+1) d=row 1 kOr (row 0 zkk (zcb (z2w m) d)):=by funext s;rfl
  rw [e]
  exact ziu (ziu (zal (z9k m (d+1))))
theorem zou {c:q06} {s:List UInt8} (hs:s.length<1000000000):M.q2e c ⟨s⟩=some ((tk c.z3k s).1,⟨(tk c.z3k s).2⟩):=by
 unfold M.q2e
 rw [z1u (by omega)]
 rfl
def zb7:List q06:=(M.q1s).getD []
theorem zql:M.q1s=some zb7:=rfl
theorem zbp:zb7.map (·.z3k)=zv6:=rfl
theorem zge {α:Type} {p:α→Bool} {l:List α} {i:Nat} (h:l.findIdx? p=some i):∃ hi:i<l.length,p l[i]=true:=by
 rw [List.findIdx?_eq_some_iff_getElem] at h
 obtain ⟨h1,h2,_⟩:=h
 exact ⟨h1,h2⟩
theorem zl9:∀ w∈zv6,w.all wch=true∧¬w=[]:=by decide
theorem znz {c:q06} (h:c∈zb7):c.z3k.all wch=true∧¬c.z3k=[]:=zl9 _ (by rw [←zbp];exact List.mem_map.2 ⟨c,h,rfl⟩)
theorem zlq {s:List UInt8} (hs:s.length<1000000000):M.q5c zb7 ⟨s⟩=some (match zjg (wd s) with|some k=>((k:Int),⟨(bk s).drop (wd s).length⟩)|none=>(-1,⟨bk s⟩)):=by
 have hb:=z3x s
 have hw:∀ c∈zb7,tk c.z3k s=if wd s=c.z3k then (true,(bk s).drop (wd s).length) else (false,bk s):=fun c hc=>by
  obtain ⟨h1,h2⟩:=znz hc
  unfold tk
  rw [zp9 h1 h2]
  by_cases h:wd s=c.z3k
  ·rw [if_pos (by simpa using h),if_pos h,h]
  ·rw [if_neg (by simpa using h),if_neg h]
 have h0:∀ s':List UInt8,bk s'=bk s→s'.length<1000000000→∀ (i:Nat) (h:i<zb7.length),M.za zb7 (i:Int) s'=if decide (wd s=zb7[i].z3k)=true then some (.done ((i:Int),⟨(bk s).drop (wd s).length⟩)) else M.za zb7 (yk .i64 ((i:Int)+1)) (bk s):=by
  intro s' hs' hl i h
  have ht:tk zb7[i].z3k s'=tk zb7[i].z3k s:=by rw [←zs1,hs',zs1]
  rw [M.za]
  simp only [show ((i:Int)<(zb7.length:Int)) by omega,decide_true,if_true,z48,yf h,ya,yb,zou hl,ht,hw _ (List.getElem_mem h)]
  by_cases hx:wd s=zb7[i].z3k<;>simp [hx]
 have hk:M.za zb7 0 (bk s)=some (match zb7.findIdx? (fun c=>decide (wd s=c.z3k)) with|some i => .done ((i:Int),⟨(bk s).drop (wd s).length⟩)|none => .go (bk s)):=by
  refine zfi (l:=zb7) (p:=fun c=>decide (wd s=c.z3k)) (F:=fun i=>M.za zb7 i (bk s)) (fun i:Nat=>((i:Int),(⟨(bk s).drop (wd s).length⟩:q07))) (bk s) (by decide) (fun i h=>h0 (bk s) (zl0 s) (by omega) i h) ?_
  show M.za zb7 _ (bk s)=_
  rw [M.za]
  simp
 have hs0:M.za zb7 0 s=M.za zb7 0 (bk s):=by
  have h1:=h0 s rfl hs 0 (by decide)
  have h2:=h0 (bk s) (zl0 s) (by omega) 0 (by decide)
  exact h1.trans h2.symm
 have hix:zb7.findIdx? (fun c=>decide (wd s=c.z3k))=zjg (wd s):=by
  unfold zjg
  rw [←zbp,List.findIdx?_map]
  rfl
 unfold M.q5c
 rw [hix] at hk
 simp only [hs0,hk,ya,yb]
 cases zjg (wd s)<;>rfl
theorem z9w (x:EX):(q01.mk x.zb x.zk x.z03 x.zc)=x:=by cases x;rfl
theorem zmu {N:Nat} (hN:N<1000000000) {word:List UInt8} (hword:¬word=[]) {self:q07→Int→Option (Rs (EX × q07 × Int))} {next:List UInt8→Rs (EX × List UInt8)} {d:Int} {F:List UInt8→Int→List EX→Option (Jn (Rs (EX × q07 × Int)) (List UInt8 × Int × List EX))}
  (hF:∀ s x l,F s x l=(M.q2k (q07.mk s) word).bind fun a=>if a.1=true then (self a.2 x).bind fun b=>match b with | .pan e=>some (.done (.pan e)) | .ok b=>(app 64 l [(q01.mk b.1.zb b.1.zk b.1.z03 b.1.zc)]).bind fun l=>F b.2.1.gs b.2.2 l else some (.go (a.2.gs,x,l)))
  (hs:∀ s,s.length≤N→self ⟨s⟩ d=some (mRs (fun x=>(x.1,q07.mk x.2,d)) (next s))) (hle:Le next):∀ (f:Nat) (s:List UInt8) (l:List EX),s.length<f→s.length≤N→l.length+s.length<2000000000 →
  F s d l=some (match zk8 word next f l s with | .pan e => .done (.pan e) | .ok x => .go (x.2,d,x.1))
 | 0,s,l,h,_,_=>by omega
 | f+1,s,l,h,h2,h3=>by
  have ht:=z9d word s
  rw [hF,z1u (by omega)]
  simp only [yb]
  unfold zk8
  cases h4:(tk word s).1 with
  | false=>simp
  | true =>
   have h5:=zpa h4
   have h6:0<word.length:=List.length_pos_iff.2 hword
   simp only [if_true]
   rw [hs _ (by omega)]
   simp only [yb]
   cases h7:next (tk word s).2 with
   | pan e=>rfl
   | ok x =>
    have h8:=hle _ _ _ h7
    simp only [mRs,z9w]
    rw [z3l (by simp only [yh,yj];omega)]
    simp only [yb]
    exact zmu hN hword hF hs hle f x.2 (l++[x.1]) (by omega) (by omega) (by simp only [yg,yh,yj];omega)
theorem z5g {word:List UInt8} {next:List UInt8→Rs (EX × List UInt8)}:∀ (f:Nat) (acc:List EX) (s:List UInt8) (l:List EX) (r:List UInt8),zk8 word next f acc s = .ok (l,r)→∃ t,l=acc++t
 | 0,acc,s,l,r,hh=>by cases hh;exact ⟨[],by simp⟩
 | f+1,acc,s,l,r,hh=>by
  unfold zk8 at hh
  split at hh
  ·split at hh
   ·cases hh
   ·obtain ⟨t,ht⟩:=z5g f _ _ _ _ hh
    exact ⟨_,by rw [ht,List.append_assoc]⟩
  ·cases hh;exact ⟨[],by simp⟩
def cvE (x:EX × List UInt8):EX × q07:=(x.1,⟨x.2⟩)
theorem zrp {kind:Int} {l:List EX} {r:List UInt8} {d:Int} (hne:¬l=[]):(if (decide ((l.length:Int)=1))=true then (ix l 0).bind fun _=>(ix l 0).bind fun y=>some (Rs.ok (y,q07.mk r,d)) else some (Rs.ok (q01.mk kind [] [] l,q07.mk r,d)))=some (Rs.ok (zjv kind l,q07.mk r,d)):=by
 match l,hne with
 | [x],_=>simp [zjv,zkj]
 | x::y::l,_ =>
  have:¬(((x::y::l).length:Int)=1):=by simp only [yh];omega
  rw [if_neg (by simpa using this)]
  rfl
theorem zit {kind:Int} {l:List EX} {r:List UInt8} {d:Int} (hne:¬l=[]):(if (decide ((l.length:Int)=1))=true then (ix l 0).bind fun _=>(ix l 0).bind fun y=>some (Rs.ok (y,q07.mk r,d)) else some (Rs.ok (q01.mk kind [] [] l,q07.mk r,d)))=some (mRs (fun x=>(x.1,q07.mk x.2,d)) (.ok (zjv kind l,r))):=zrp hne
theorem ztt {N:Nat} (hN:N<1000000000) {S:Nat→List UInt8→Rs (EX × List UInt8)} {F d:Nat} (hF:34≤F) (hS:d<16→∀ s:List UInt8,s.length≤N→M.q2h F ⟨s⟩ ((d+1:Nat):Int)=some (mRs cvE (S (d+1) s))) (hle:Le (S (d+1))) {s:List UInt8} (hs:s.length≤N):M.q2d (F+1) ⟨s⟩ (d:Int)=some (mRs cvE (zcb S d s)):=by
 have h1:=z9d zbb s
 have h2:=z9d [40] (tk zbb s).2
 unfold M.q2d zcb
 have e1:M.q2k ⟨s⟩ [110,111,116]=some ((tk zbb s).1,⟨(tk zbb s).2⟩):=z1u (by omega)
 simp only [e1,ya,yb]
 rw [z1u (by omega)]
 simp only [yb]
 by_cases ho:(tk [40] (tk zbb s).2).1=true
 ·rw [if_pos ho,if_pos ho]
  simp only [z3n,yb]
  by_cases hd:d<16
  ·have hd':((d:Int)<16):=by omega
   simp only [hd,hd',decide_true,if_true]
   rw [w1 (by omega),hS hd _ (by omega)]
   simp only [yb]
   cases hx:S (d+1) (tk [40] (tk zbb s).2).2 with
   | pan e=>rfl
   | ok x =>
    have h3:=hle _ _ _ hx
    simp only [mRs,cvE]
    rw [z1u (by omega)]
    simp only [yb]
    by_cases hc:(tk [41] x.2).1=true
    ·simp only [hc,if_true,z9w]
     by_cases hn:(tk zbb s).1=true
     ·simp [hn]
     ·simp [hn]
    ·simp [hc]
  ·have hd':¬((d:Int)<16):=by omega
   simp only [hd,hd',decide_false,yd,if_false]
   rfl
 ·rw [if_neg ho,if_neg ho]
  generalize hs2:(tk [40] (tk zbb s).2).2=s2
  rw [hs2] at h2
  have hb2:=z3x s2
  have hw2:=zfv s2
  rw [z3o (by omega)]
  simp only [yb,z2v,z3n]
  unfold leaf
  have hj:(if (!(tk zbb s).1)=true then some (isName (wd s2)) else some false:Option Bool)=some (!(tk zbb s).1&&isName (wd s2)):=by
   cases (tk zbb s).1<;>rfl
  rw [hj]
  simp only [yb]
  by_cases hn:(!(tk zbb s).1&&isName (wd s2))=true
  ·rw [if_pos hn,if_pos hn]
   simp only
   rw [z1u (by omega)]
   have ew:tk (wd s2) (bk s2)=(true,(bk s2).drop (wd s2).length):=by rw [zs1,zw4]
   rw [ew]
   simp only [yb]
   have hd5:((bk s2).drop (wd s2).length).length≤N:=by simp only [yi];omega
   generalize (bk s2).drop (wd s2).length=s5 at hd5 ⊢
   have e2:M.q2k ⟨s5⟩ [112,114]=some ((tk kPr s5).1,⟨(tk kPr s5).2⟩):=z1u (by omega)
   rw [e2]
   simp only [yb]
   by_cases hp:(tk kPr s5).1=true
   ·rw [if_pos hp,if_pos hp]
    rfl
   ·rw [if_neg hp,if_neg hp]
    have ep:(tk kPr s5).2=bk s5:=by
     unfold tk at hp ⊢
     split
     ·rename_i h;rw [if_pos h] at hp;exact absurd rfl hp
     ·rfl
    have hb5:=z3x s5
    rw [ep,zql]
    simp only [yb]
    rw [zlq (by omega),zu9,zl0]
    cases hk:zjg (wd s5) with
    | none=>simp [mRs]
    | some k =>
     have hk9:k<9:=by
      obtain ⟨h,_⟩:=zge hk
      exact h
     simp only [yb,show ((0:Int)≤(k:Int)) by omega,decide_true,if_true]
     rw [zdk (by simp only [yi];omega) hF]
     simp only [yb]
     cases hv:vl ((bk s5).drop (wd s5).length) with
     | pan e=>rfl
     | ok v =>
      simp only [mRs,cvE]
      rw [w64 (by omega) (by omega)]
  ·rw [if_neg hn,if_neg hn]
   rfl
theorem step {N:Nat} (hN:N<1000000000) {m F d:Nat} {s:List UInt8} (hle:Le (z2w m (d+1))) (hF:40≤F) (hS:d<16→∀ s:List UInt8,s.length≤N→M.q2h (F - 6) ⟨s⟩ ((d+1:Nat):Int)=some (mRs cvE (z2w m (d+1) s))) (hs:s.length≤N):M.q2h F ⟨s⟩ (d:Int)=some (mRs cvE (z2w (m+1) d s)):=by
 match F,hF with
 | F+6,hF =>
  have e6:F+6 - 6=F:=by omega
  rw [e6] at hS
  have h1:∀ s:List UInt8,s.length≤N→M.q2j (F+2) ⟨s⟩ (d:Int)=some (mRs (fun x=>(x.1,q07.mk x.2,(d:Int))) (zcb (z2w m) d s)):=fun s hs=>by
   unfold M.q2j
   rw [ztt hN (by omega) hS hle hs]
   simp only [ya,yb]
   cases zcb (z2w m) d s<;>rfl
  have h2:∀ s:List UInt8,s.length≤N→M.q2g (F+3) ⟨s⟩ 0 [97,110,100] (d:Int)=some (mRs (fun x=>(x.1,q07.mk x.2,(d:Int))) (row 0 zkk (zcb (z2w m) d) s)):=fun s hs=>by
   unfold M.q2g row
   rw [h1 s hs]
   simp only [ya,yb]
   cases hx:zcb (z2w m) d s with
   | pan e=>rfl
   | ok x =>
    have hxl:=zal hle _ _ _ hx
    simp only [mRs,z9w]
    rw [zmu (F:=fun s x l=>M.z04 [97,110,100] (M.q2j (F+2)) s x l) (word:=[97,110,100]) hN (by decide) (fun s x l=>by rw [M.z04];rfl) h1 (zal hle) (x.2.length+1) x.2 [x.1] (by omega) (by omega) (by simp only [yh,yj];omega)]
    show (some _).bind _=_
    have ek:zkk=[97,110,100]:=rfl
    rw [ek]
    cases hr:zk8 [97,110,100] (zcb (z2w m) d) (x.2.length+1) [x.1] x.2 with
    | pan e=>rfl
    | ok y =>
     obtain ⟨t,ht⟩:=z5g _ _ _ _ _ hr
     simp only [yb]
     exact zit (by rw [ht];simp)
  have h3:∀ s:List UInt8,s.length≤N→M.q2i (F+4) ⟨s⟩ (d:Int)=some (mRs (fun x=>(x.1,q07.mk x.2,(d:Int))) (row 0 zkk (zcb (z2w m) d) s)):=fun s hs=>by
   unfold M.q2i
   rw [h2 s hs]
   simp only [ya,yb]
   cases row 0 zkk (zcb (z2w m) d) s<;>rfl
  have h4:M.q2f (F+5) ⟨s⟩ 1 [111,114] (d:Int)=some (mRs (fun x=>(x.1,q07.mk x.2,(d:Int))) (row 1 kOr (row 0 zkk (zcb (z2w m) d)) s)):=by
   unfold M.q2f
   rw [h3 s hs]
   rw [zq5 1]
   simp only [ya,yb]
   cases hx:row 0 zkk (zcb (z2w m) d) s with
   | pan e=>rfl
   | ok x =>
    have hxl:=ziu (zal hle) _ _ _ hx
    simp only [mRs,z9w]
    rw [zmu (F:=fun s x l=>M.z06 [111,114] (M.q2i (F+4)) s x l) (word:=[111,114]) hN (by decide) (fun s x l=>by rw [M.z06];rfl) h3 (ziu (zal hle)) (x.2.length+1) x.2 [x.1] (by omega) (by omega) (by simp only [yh,yj];omega)]
    show (some _).bind _=_
    have ek:kOr=[111,114]:=rfl
    rw [ek]
    cases hr:zk8 [111,114] (row 0 zkk (zcb (z2w m) d)) (x.2.length+1) [x.1] x.2 with
    | pan e=>rfl
    | ok y =>
     obtain ⟨t,ht⟩:=z5g _ _ _ _ _ hr
     simp only [yb]
     exact zit (by rw [ht];simp)
  unfold M.q2h
  rw [h4]
  simp only [ya,yb]
  show _=some (mRs cvE (row 1 kOr (row 0 zkk (zcb (z2w m) d)) s))
  cases row 1 kOr (row 0 zkk (zcb (z2w m) d)) s<;>rfl
theorem zbe {N:Nat} (hN:N<1000000000):∀ (m F d:Nat) (s:List UInt8),d+m=16→6*m+40≤F→s.length≤N→M.q2h F ⟨s⟩ (d:Int)=some (mRs cvE (z2w (m+1) d s)):=by
 intro m
 induction m with
 | zero =>
  intro F d s hd hF hs
  have hS:d<16→∀ s:List UInt8,s.length≤N→M.q2h (F - 6) ⟨s⟩ ((d+1:Nat):Int)=some (mRs cvE (z2w 0 (d+1) s)):=fun h=>by omega
  exact step hN (z9k 0 (d+1)) hF hS hs
 | succ m ih =>
  intro F d s hd hF hs
  exact step hN (z9k (m+1) (d+1)) (by omega) (fun h s hs=>ih (F - 6) (d+1) s (by omega) (by omega) hs) hs
def zE:EX:=⟨0,[],[],[]⟩
def pP (s:List UInt8):EX × Int:=if 1024<s.length then (zE,191) else match z2w 17 0 s with
 | .pan e=>(zE,e)
 | .ok x=>if bk x.2=[] then (x.1,0) else (zE,190)
theorem z4o (s:List UInt8) {f:Nat} (hf:200≤f):M.q1l f s=some (pP s):=by
 unfold M.q1l pP
 by_cases hl:1024<s.length
 ·have hl':(1024:Int)<(s.length:Int):=by omega
  simp [hl,hl',zE]
 ·have hl':¬(1024:Int)<(s.length:Int):=by omega
  have h:=zbe (N:=1024) (by omega) 16 f 0 s rfl (by omega) (by omega)
  have h':M.q2h f ⟨s⟩ 0=some (mRs cvE (z2w 17 0 s)):=h
  simp only [hl,hl',decide_false,yd,if_false,h',ya,yb]
  cases hx:z2w 17 0 s with
  | pan e=>rfl
  | ok x =>
   have h1:=z9k 17 0 _ _ _ hx
   have hb:=zfv x.2
   simp only [mRs,cvE]
   rw [z3o (by omega)]
   simp only [yb,z3n]
   by_cases hbk:bk x.2=[]
   ·have hw:wd x.2=[]:=by unfold wd;rw [hbk];rfl
    simp [hbk,hw]
   ·by_cases hw:wd x.2=[]
    ·simp [hbk,hw,zE]
    ·simp [hbk,hw,zE]
end Go.Sen
end
section
namespace Go.Sen
open Go.Lk Go.Pe
def nch (c:UInt8):Bool:=isD c||decide (c=46)||decide (c=101)||decide (c=69)||decide (c=43)||decide (c=45)
def stop (r:List UInt8):Prop := ∀ c,r.head? = some c→nch c=false
theorem za4 (c:UInt8) (s:List UInt8):z98 (c::s)=if c=46 then (if 0<z47 s then 1+z47 s else 0) else 0:=by
 by_cases h:c=46
 ·subst h;simp [z98]
 ·rw [if_neg h]
  unfold z98
  split
  ·rename_i r hr;injection hr with e1 e2;exact absurd e1 h
  ·rfl
theorem frac_nil:z98 []=0:=rfl
theorem zg0 {c:UInt8} {r:List UInt8} (h:bl c=false):z2d (c::r)=c::r:=by
 unfold z2d
 rw [List.dropWhile_cons,h]
 rfl
end Go.Sen
end
