import Derived.Test.YtmmgdladipbedaaGreatDoorSpC
import Derived.Test.YtmmgdladipbedaaGreatDoorSnI
set_option linter.all false
namespace Go.Sen
open Go.Lk Go.Pe
def bk (s:List UInt8):List UInt8:=s.dropWhile (fun c=>decide (c=32))
def wd (s:List UInt8):List UInt8:=(bk s).takeWhile wch
def tkB (p s:List UInt8):Bool:=decide (wd s=p)||decide (wd s=[])&&p.isPrefixOf (bk s)
def tk (p s:List UInt8):Bool × List UInt8:=if tkB p s=true then (true,(bk s).drop p.length) else (false,bk s)
theorem zhp {α:Type} (p:α→Bool) (l:List α):(l.dropWhile p).length≤l.length:=(List.dropWhile_sublist p).length_le
theorem zen {α:Type} (p:α→Bool):∀ l:List α,(l.dropWhile p).dropWhile p=l.dropWhile p
 | []=>rfl
 | a::l=>by
  cases h:p a with
  | true=>simp [List.dropWhile_cons,h,zen p l]
  | false=>simp [List.dropWhile_cons,h]
theorem z4q (s:List UInt8):(bk s).length≤s.length:=zhp _ s
theorem zhc (s:List UInt8):bk (bk s)=bk s:=zen _ s
theorem zjf (s:List UInt8):wd (bk s)=wd s:=by unfold wd;rw [zhc]
theorem z9y (p s:List UInt8):tk p (bk s)=tk p s:=by unfold tk tkB;rw [zjf,zhc]
theorem zjg (s:List UInt8):(wd s).length≤(bk s).length:=(List.takeWhile_sublist _).length_le
theorem zoc {α:Type} (p:α→Bool) (l:List α):l.take (l.length - (l.dropWhile p).length)=l.takeWhile p:=by
 have h:=List.takeWhile_append_dropWhile (p:=p) (l:=l)
 have h2:l.length - (l.dropWhile p).length=(l.takeWhile p).length:=by
  have:=congrArg List.length h
  rw [List.length_append] at this
  omega
 rw [h2]
 have h3:=List.take_left (l₁:=l.takeWhile p) (l₂:=l.dropWhile p)
 rwa [h] at h3
theorem zl3 (s:List UInt8):M.trimLeft s [32]=some (bk s):=by
 unfold M.trimLeft
 rw [z3i (by decide)]
 simp only [Option.bind_eq_bind,Option.bind_some,Lib.trimLeftS,bk]
 congr 2
 funext c
 rw [Bool.eq_iff_iff]
 simp
theorem zog (s:List UInt8):M.trimLeft s za0=some (s.dropWhile wch):=by
 unfold M.trimLeft
 rw [z3i (by decide)]
 simp only [Option.bind_eq_bind,Option.bind_some,Lib.trimLeftS]
 congr 2
 funext c
 exact zfk c
theorem z5f {s:List UInt8} (hs:s.length<1152921504606846976):M.q2p ⟨s⟩=some (wd s,⟨bk s⟩):=by
 have hb:=z4q s
 have hd:=zhp wch (bk s)
 show (M.trimLeft s [32]).bind (fun a_1=>(M.trimLeft a_1 za0).bind fun a_3=>(sub a_1 0 (IntKind.wrap .i64 ((a_1.length:Int) - (a_3.length:Int)))).bind fun s_5=>some (s_5,q07.mk a_1))=_
 rw [zl3]
 simp only [Option.bind_some]
 rw [zog]
 simp only [Option.bind_some]
 have e:IntKind.wrap .i64 (((bk s).length:Int) - (((bk s).dropWhile wch).length:Int))=(((bk s).length - ((bk s).dropWhile wch).length:Nat):Int):=by rw [w64]<;>omega
 rw [e,zl0 (by omega),zoc]
 rfl
theorem z2r {s p:List UInt8} (hs:s.length<1152921504606846976):M.q2n ⟨s⟩ p=some ((tk p s).1,⟨(tk p s).2⟩):=by
 have hb:=z4q s
 have hw:=zjg s
 unfold M.q2n
 rw [z5f hs]
 simp only [Option.bind_eq_bind,Option.bind_some,z2b]
 unfold tk tkB
 by_cases h1:wd s=p
 ·have h2:p.length≤(bk s).length:=by rw [←h1];exact hw
  simp [h1,zbr h2]
 ·by_cases h2:wd s=[]
  ·cases h3:p.isPrefixOf (bk s) with
   | true =>
    have h4:=zdh h3
    have h5:¬ []=p:=fun e=>h1 (h2.trans e)
    simp [h2,h5,h3,zbr h4]
   | false =>
    have h5:¬ []=p:=fun e=>h1 (h2.trans e)
    simp [h2,h5,h3]
  ·simp [h1,h2]
theorem zbs (p s:List UInt8):(tk p s).2.length≤s.length:=by
 have:=z4q s
 unfold tk
 split
 ·simp only [List.length_drop];omega
 ·exact this
theorem zuj {p s:List UInt8} (h:(tk p s).1=true):(tk p s).2.length+p.length≤s.length:=by
 have hb:=z4q s
 have hw:=zjg s
 unfold tk at h ⊢
 split at h
 ·rename_i h1
  rw [if_pos h1]
  unfold tkB at h1
  simp only [Bool.or_eq_true,Bool.and_eq_true,decide_eq_true_eq] at h1
  simp only [List.length_drop]
  rcases h1 with h1|⟨_,h1⟩
  ·rw [h1] at hw;omega
  ·have:=zdh h1;omega
 ·cases h
def zbb:List UInt8:=[110,111,116]
def kPr:List UInt8:=[112,114]
def zae:List UInt8:=[97,110,100]
def kOr:List UInt8:=[111,114]
theorem zdz {α:Type} (p:α→Bool):∀ (a b:List α),a.all p=true→(a++b).takeWhile p=a++b.takeWhile p
 | [],b,_=>rfl
 | x::a,b,h=>by
  simp only [List.all_cons,Bool.and_eq_true] at h
  simp [List.takeWhile_cons,h.1,zdz p a b h.2]
/-- A word is taken where it is the next one. -/
theorem zgy {p s:List UInt8} (h1:p.all wch=true) (h2:¬p=[]):tkB p s=decide (wd s=p):=by
 unfold tkB
 cases h:decide (wd s=p) with
 | true=>rfl
 | false =>
  simp only [Bool.false_or]
  rw [Bool.eq_false_iff]
  intro hh
  simp only [Bool.and_eq_true,decide_eq_true_eq] at hh
  obtain ⟨h3,h4⟩:=hh
  obtain ⟨r,hr⟩:=List.isPrefixOf_iff_prefix.1 h4
  unfold wd at h3
  rw [←hr,zdz wch p r h1] at h3
  exact h2 (List.append_eq_nil_iff.1 h3).1
theorem zmx {c:UInt8} {s:List UInt8} (h:wch c=false):tkB [c] s=decide ((bk s).head? = some c):=by
 unfold tkB wd
 rw [z3z]
 cases hb:bk s with
 | nil=>simp
 | cons d r =>
  simp only [List.takeWhile_cons,List.head?_cons]
  cases hd:wch d with
  | true =>
   have:¬d=c:=fun e=>by rw [e,h] at hd;cases hd
   simp [this]
  | false=>simp
theorem tk_wd (s:List UInt8):tk (wd s) s=(true,(bk s).drop (wd s).length):=by
 unfold tk tkB
 simp
/-! The value. -/
def qsc:List UInt8→Nat
 | []=>0
 | [c]=>if c=34 then 0 else if c=92 then 2 else 1
 | c::d::r=>if c=34 then 0 else if c=92 then 2+qsc r else 1+qsc (d::r)
theorem zc2 (c:UInt8) (r:List UInt8):qsc (c::r)=if c=34 then 0 else if c=92 then 2+qsc (r.drop 1) else 1+qsc r:=by
 cases r with
 | nil=>rfl
 | cons d r=>rfl
theorem zum {w b:List UInt8} (hb:b.length<1000000000):∀ (n i:Nat),b.length+2 - i=n→i≤b.length+1→M.z0f (w,⟨b⟩) (i:Int)=some ((i+qsc (b.drop i):Nat):Int):=by
 intro n
 induction n using Nat.strongRecOn with
 | ind n ih =>
  intro i h1 h2
  rw [M.z0f]
  by_cases hi:i<b.length
  ·rw [z1y hi,zc2]
   simp only [show ((i:Int)<(b.length:Int)) by omega,decide_true,if_true,z4a,List.getElem?_eq_getElem hi,Option.bind_eq_bind,Option.bind_some]
   have e34:decide (((b[i].toNat:Nat):Int)=34)=decide (b[i]=34):=by rw [decide_eq_decide];exact toNat_eq (n:=34) (by decide)
   have e92:decide (((b[i].toNat:Nat):Int)=92)=decide (b[i]=92):=by rw [decide_eq_decide];exact toNat_eq (n:=92) (by decide)
   rw [e34,e92]
   by_cases h34:b[i]=34
   ·simp [h34]
   ·simp only [h34,decide_false,Bool.not_false,if_true,if_false]
    rw [w1 (by omega)]
    by_cases h92:b[i]=92
    ·simp only [h92,decide_true,if_true]
     rw [w1 (by omega),ih (b.length+2 - (i+1+1)) (by omega) (i+1+1) rfl (by omega),List.drop_drop]
     congr 2
     omega
    ·simp only [h92,decide_false,Bool.false_eq_true,if_false]
     rw [ih (b.length+2 - (i+1)) (by omega) (i+1) rfl (by omega)]
     congr 2
     omega
  ·have h3:¬((i:Int)<(b.length:Int)):=by omega
   rw [List.drop_eq_nil_of_le (by omega)]
   simp [h3,qsc]
def vl (s:List UInt8):Rs (List UInt8 × List UInt8) :=
 if (bk s).head? = some 34 then (if 1+qsc ((bk s).drop 1)<(bk s).length then (if (parse ((bk s).take (2+qsc ((bk s).drop 1)))).2=0∧(parse ((bk s).take (2+qsc ((bk s).drop 1)))).1.z0d.length≤128 then
  .ok ((parse ((bk s).take (2+qsc ((bk s).drop 1)))).1.z0d,(bk s).drop (2+qsc ((bk s).drop 1))) else .pan 190) else .pan 190) else .pan 190
theorem z5e (b:Bool) (e:Int):M.q2b b e=some (if b=true then .ok () else .pan e):=by cases b<;>simp [M.q2b]
theorem zgi {s:List UInt8} (hs:s.length<1000000000) {f:Nat} (hf:34≤f):M.q2o f ⟨s⟩=some (mRs (fun x=>(x.1,q07.mk x.2)) (vl s)):=by
 have hb:=z4q s
 unfold M.q2o vl
 rw [z5f (by omega)]
 simp only [Option.bind_eq_bind,Option.bind_some,z2b,z3z,z5e]
 by_cases h34:(bk s).head? = some 34
 ·have hw:wd s=[]:=by
   unfold wd
   cases hbk:bk s with
   | nil=>rfl
   | cons c r =>
    rw [hbk] at h34
    simp only [List.head?_cons,Option.some.injEq] at h34
    subst h34
    simp [show wch 34=false from by decide]
  simp only [hw,h34,decide_true,if_true]
  have hk:=zum (w:=([]:List UInt8)) (b:=bk s) (by omega) _ 1 rfl (by omega)
  have hk':M.z0f ([],⟨bk s⟩) 1=_:=hk
  rw [hk']
  simp only [Option.bind_some]
  generalize qsc ((bk s).drop 1)=q
  by_cases hl:1+q<(bk s).length
  ·have hl':(((1+q:Nat):Int)<((bk s).length:Int)):=by omega
   simp only [hl',hl,decide_true,if_true]
   rw [w1 (by omega),show 1+q+1=2+q by omega]
   rw [zl0 (by omega)]
   simp only [Option.bind_some,z9h _ hf]
   generalize parse ((bk s).take (2+q))=v
   by_cases h1:v.2=0∧v.1.z0d.length≤128
   ·have h1':((decide (v.2=0))&&(decide ((v.1.z0d.length:Int)≤128)))=true:=by
     simp only [Bool.and_eq_true,decide_eq_true_eq];omega
    rw [if_pos h1',if_pos h1]
    simp only
    rw [zbr (by omega)]
    rfl
   ·have h1':¬((decide (v.2=0))&&(decide ((v.1.z0d.length:Int)≤128)))=true:=by
     simp only [Bool.and_eq_true,decide_eq_true_eq];omega
    rw [if_neg h1',if_neg h1]
    rfl
  ·have hl':¬(((1+q:Nat):Int)<((bk s).length:Int)):=by omega
   simp only [hl',hl,decide_false,Bool.false_eq_true,if_false]
   rfl
 ·simp only [h34,decide_false,if_false]
  by_cases hw:wd s=[]
  ·simp [hw,mRs]
  ·simp [hw,mRs]
theorem vl_le {s t r:List UInt8} (h:vl s = .ok (t,r)):r.length+2≤s.length:=by
 have hb:=z4q s
 unfold vl at h
 split at h
 ·split at h
  ·split at h
   ·cases h
    simp only [List.length_drop]
    omega
   ·cases h
  ·cases h
 ·cases h
/-! The whole. -/
def cmpW:List (List UInt8):=[[101,113],[110,101],[99,111],[115,119],[101,119],[103,116],[103,101],[108,116],[108,101]]
def zjq (w:List UInt8):Option Nat:=cmpW.findIdx? (fun x=>decide (w=x))
def leaf (no:Bool) (s:List UInt8):Rs (EX × List UInt8) :=
 if (!no&&isName (wd s))=true then
  (if (tk kPr ((bk s).drop (wd s).length)).1=true then .ok (⟨3,wd s,[],[]⟩,(tk kPr ((bk s).drop (wd s).length)).2)
  else match zjq (wd ((bk s).drop (wd s).length)) with
   | none => .pan 190
   | some k=>match vl ((bk ((bk s).drop (wd s).length)).drop (wd ((bk s).drop (wd s).length)).length) with
    | .pan e => .pan e
    | .ok v => .ok (⟨4+k,wd s,v.1,[]⟩,v.2))
 else .pan 190
def z5b (S:Nat→List UInt8→Rs (EX × List UInt8)) (d:Nat) (s:List UInt8):Rs (EX × List UInt8) :=
 if (tk [40] (tk zbb s).2).1=true then
  (if d<16 then match S (d+1) (tk [40] (tk zbb s).2).2 with
   | .pan e => .pan e
   | .ok x=>if (tk [41] x.2).1=true then .ok (if (tk zbb s).1=true then ⟨2,[],[],[x.1]⟩ else x.1,(tk [41] x.2).2) else .pan 190
  else .pan 193)
 else leaf (tk zbb s).1 (tk [40] (tk zbb s).2).2
def zc3 (word:List UInt8) (next:List UInt8→Rs (EX × List UInt8)):Nat→List EX→List UInt8→Rs (List EX × List UInt8)
 | 0,acc,s => .ok (acc,s)
 | f+1,acc,s=>if (tk word s).1=true then (match next (tk word s).2 with
   | .pan e => .pan e
   | .ok x=>zc3 word next f (acc++[x.1]) x.2) else .ok (acc,(tk word s).2)
def zi2 (kind:Int):List EX→EX
 | [x]=>x
 | l=>⟨kind,[],[],l⟩
def row (kind:Int) (word:List UInt8) (next:List UInt8→Rs (EX × List UInt8)) (s:List UInt8):Rs (EX × List UInt8):=match next s with
 | .pan e => .pan e
 | .ok x=>match zc3 word next (x.2.length+1) [x.1] x.2 with
  | .pan e => .pan e
  | .ok l => .ok (zi2 kind l.1,l.2)
theorem zdo (kind:Int) (word:List UInt8) (next:List UInt8→Rs (EX × List UInt8)) (s:List UInt8):row kind word next s=match next s with
 | .pan e => .pan e
 | .ok x=>match zc3 word next (x.2.length+1) [x.1] x.2 with
  | .pan e => .pan e
  | .ok l => .ok (zi2 kind l.1,l.2):=rfl
def z29:Nat→Nat→List UInt8→Rs (EX × List UInt8)
 | 0,_,_ => .pan 0
 | m+1,d,s=>row 1 kOr (row 0 zae (z5b (z29 m) d)) s
/-- What is left is no longer than what there was. -/
def Le (next:List UInt8→Rs (EX × List UInt8)):Prop := ∀ s x r,next s = .ok (x,r)→r.length≤s.length
theorem zr7 {word:List UInt8} {next:List UInt8→Rs (EX × List UInt8)} (h:Le next):∀ (f:Nat) (acc:List EX) (s:List UInt8) (l:List EX) (r:List UInt8),zc3 word next f acc s = .ok (l,r)→r.length≤s.length
 | 0,acc,s,l,r,hh=>by cases hh;exact Nat.le_refl _
 | f+1,acc,s,l,r,hh=>by
  have ht:=zbs word s
  unfold zc3 at hh
  split at hh
  ·split at hh
   ·cases hh
   ·rename_i x hx
    have h1:=h _ _ _ hx
    have h2:=zr7 h f _ _ _ _ hh
    omega
  ·cases hh;exact ht
theorem zmq {kind:Int} {word:List UInt8} {next:List UInt8→Rs (EX × List UInt8)} (h:Le next):Le (row kind word next):=by
 intro s x r hh
 unfold row at hh
 split at hh
 ·cases hh
 ·rename_i y hy
  have h1:=h _ _ _ hy
  split at hh
  ·cases hh
  ·rename_i l hl
   have h2:=zr7 h _ _ _ _ _ hl
   cases hh
   omega
theorem zwm {no:Bool}:Le (leaf no):=by
 intro s x r hh
 have hb:=z4q s
 unfold leaf at hh
 split at hh
 ·split at hh
  ·cases hh
   have:=zbs kPr ((bk s).drop (wd s).length)
   simp only [List.length_drop] at this
   omega
  ·split at hh
   ·cases hh
   ·split at hh
    ·cases hh
    ·rename_i v hv
     have h1:=vl_le hv
     have h2:=z4q ((bk s).drop (wd s).length)
     cases hh
     simp only [List.length_drop] at h1 h2
     omega
 ·cases hh
theorem zdd {S:Nat→List UInt8→Rs (EX × List UInt8)} {d:Nat} (h:Le (S (d+1))):Le (z5b S d):=by
 intro s x r hh
 have h1:=zbs zbb s
 have h2:=zbs [40] (tk zbb s).2
 unfold z5b at hh
 split at hh
 ·split at hh
  ·split at hh
   ·cases hh
   ·rename_i y hy
    have h3:=h _ _ _ hy
    split at hh
    ·cases hh
     have:=zbs [41] y.2
     omega
    ·cases hh
  ·cases hh
 ·have:=zwm _ _ _ hh
  omega
theorem zc4:∀ m d,Le (z29 m d)
 | 0,_=>fun _ _ _ h=>by cases h
 | m+1,d=>by
  have e:z29 (m+1) d=row 1 kOr (row 0 zae (z5b (z29 m) d)):=by funext s;rfl
  rw [e]
  exact zmq (zmq (zdd (zc4 m (d+1))))
theorem ztt {c:q06} {s:List UInt8} (hs:s.length<1000000000):M.q2h c ⟨s⟩=some ((tk c.z4z s).1,⟨(tk c.z4z s).2⟩):=by
 unfold M.q2h
 rw [z2r (by omega)]
 rfl
def ze4:List q06:=(M.q1s).getD []
theorem zvx:M.q1s=some ze4:=rfl
theorem zem:ze4.map (·.z4z)=cmpW:=rfl
theorem zcn {α:Type} {p:α→Bool} {l:List α} {i:Nat} (h:l.findIdx? p=some i):∃ hi:i<l.length,p l[i]=true:=by
 rw [List.findIdx?_eq_some_iff_getElem] at h
 obtain ⟨h1,h2,_⟩:=h
 exact ⟨h1,h2⟩
theorem zpb:∀ w∈cmpW,w.all wch=true∧¬w=[]:=by decide
theorem zsl {c:q06} (h:c∈ze4):c.z4z.all wch=true∧¬c.z4z=[]:=zpb _ (by rw [←zem];exact List.mem_map.2 ⟨c,h,rfl⟩)
theorem zpt {s:List UInt8} (hs:s.length<1000000000):M.q5h ze4 ⟨s⟩=some (match zjq (wd s) with|some k=>((k:Int),⟨(bk s).drop (wd s).length⟩)|none=>(-1,⟨bk s⟩)):=by
 have hb:=z4q s
 have hw:∀ c∈ze4,tk c.z4z s=if wd s=c.z4z then (true,(bk s).drop (wd s).length) else (false,bk s):=fun c hc=>by
  obtain ⟨h1,h2⟩:=zsl hc
  unfold tk
  rw [zgy h1 h2]
  by_cases h:wd s=c.z4z
  ·rw [if_pos (by simpa using h),if_pos h,h]
  ·rw [if_neg (by simpa using h),if_neg h]
 have h0:∀ s':List UInt8,bk s'=bk s→s'.length<1000000000→∀ (i:Nat) (h:i<ze4.length),M.zb ze4 (i:Int) s'=if decide (wd s=ze4[i].z4z)=true then some (.done ((i:Int),⟨(bk s).drop (wd s).length⟩)) else M.zb ze4 (IntKind.wrap .i64 ((i:Int)+1)) (bk s):=by
  intro s' hs' hl i h
  have ht:tk ze4[i].z4z s'=tk ze4[i].z4z s:=by rw [←z9y,hs',z9y]
  rw [M.zb]
  simp only [show ((i:Int)<(ze4.length:Int)) by omega,decide_true,if_true,z4a,List.getElem?_eq_getElem h,Option.bind_eq_bind,Option.bind_some,ztt hl,ht,hw _ (List.getElem_mem h)]
  by_cases hx:wd s=ze4[i].z4z<;>simp [hx]
 have hk:M.zb ze4 0 (bk s)=some (match ze4.findIdx? (fun c=>decide (wd s=c.z4z)) with|some i => .done ((i:Int),⟨(bk s).drop (wd s).length⟩)|none => .go (bk s)):=by
  refine zef (l:=ze4) (p:=fun c=>decide (wd s=c.z4z)) (F:=fun i=>M.zb ze4 i (bk s)) (fun i:Nat=>((i:Int),(⟨(bk s).drop (wd s).length⟩:q07))) (bk s) (by decide) (fun i h=>h0 (bk s) (zhc s) (by omega) i h) ?_
  show M.zb ze4 _ (bk s)=_
  rw [M.zb]
  simp
 have hs0:M.zb ze4 0 s=M.zb ze4 0 (bk s):=by
  have h1:=h0 s rfl hs 0 (by decide)
  have h2:=h0 (bk s) (zhc s) (by omega) 0 (by decide)
  exact h1.trans h2.symm
 have hix:ze4.findIdx? (fun c=>decide (wd s=c.z4z))=zjq (wd s):=by
  unfold zjq
  rw [←zem,List.findIdx?_map]
  rfl
 unfold M.q5h
 rw [hix] at hk
 simp only [hs0,hk,Option.bind_eq_bind,Option.bind_some]
 cases zjq (wd s)<;>rfl
theorem z9e (x:EX):(q01.mk x.za x.zg x.z04 x.zf)=x:=by cases x;rfl
theorem zra {N:Nat} (hN:N<1000000000) {word:List UInt8} (hword:¬word=[]) {self:q07→Int→Option (Rs (EX × q07 × Int))} {next:List UInt8→Rs (EX × List UInt8)} {d:Int} {F:List UInt8→Int→List EX→Option (Jn (Rs (EX × q07 × Int)) (List UInt8 × Int × List EX))}
  (hF:∀ s x l,F s x l=(M.q2n (q07.mk s) word).bind fun a=>if a.1=true then (self a.2 x).bind fun b=>match b with | .pan e=>some (.done (.pan e)) | .ok b=>(app 64 l [(q01.mk b.1.za b.1.zg b.1.z04 b.1.zf)]).bind fun l=>F b.2.1.gs b.2.2 l else some (.go (a.2.gs,x,l)))
  (hs:∀ s,s.length≤N→self ⟨s⟩ d=some (mRs (fun x=>(x.1,q07.mk x.2,d)) (next s))) (hle:Le next):∀ (f:Nat) (s:List UInt8) (l:List EX),s.length<f→s.length≤N→l.length+s.length<2000000000 →
  F s d l=some (match zc3 word next f l s with | .pan e => .done (.pan e) | .ok x => .go (x.2,d,x.1))
 | 0,s,l,h,_,_=>by omega
 | f+1,s,l,h,h2,h3=>by
  have ht:=zbs word s
  rw [hF,z2r (by omega)]
  simp only [Option.bind_some]
  unfold zc3
  cases h4:(tk word s).1 with
  | false=>simp
  | true =>
   have h5:=zuj h4
   have h6:0<word.length:=List.length_pos_iff.2 hword
   simp only [if_true]
   rw [hs _ (by omega)]
   simp only [Option.bind_some]
   cases h7:next (tk word s).2 with
   | pan e=>rfl
   | ok x =>
    have h8:=hle _ _ _ h7
    simp only [mRs,z9e]
    rw [z3g (by simp only [List.length_cons,List.length_nil];omega)]
    simp only [Option.bind_some]
    exact zra hN hword hF hs hle f x.2 (l++[x.1]) (by omega) (by omega) (by simp only [List.length_append,List.length_cons,List.length_nil];omega)
theorem z5u {word:List UInt8} {next:List UInt8→Rs (EX × List UInt8)}:∀ (f:Nat) (acc:List EX) (s:List UInt8) (l:List EX) (r:List UInt8),zc3 word next f acc s = .ok (l,r)→∃ t,l=acc++t
 | 0,acc,s,l,r,hh=>by cases hh;exact ⟨[],by simp⟩
 | f+1,acc,s,l,r,hh=>by
  unfold zc3 at hh
  split at hh
  ·split at hh
   ·cases hh
   ·obtain ⟨t,ht⟩:=z5u f _ _ _ _ hh
    exact ⟨_,by rw [ht,List.append_assoc]⟩
  ·cases hh;exact ⟨[],by simp⟩
def cvE (x:EX × List UInt8):EX × q07:=(x.1,⟨x.2⟩)
theorem zxb {kind:Int} {l:List EX} {r:List UInt8} {d:Int} (hne:¬l=[]):(if (decide ((l.length:Int)=1))=true then (ix l 0).bind fun _=>(ix l 0).bind fun y=>some (Rs.ok (y,q07.mk r,d)) else some (Rs.ok (q01.mk kind [] [] l,q07.mk r,d)))=some (Rs.ok (zi2 kind l,q07.mk r,d)):=by
 match l,hne with
 | [x],_=>simp [zi2,znq]
 | x::y::l,_ =>
  have:¬(((x::y::l).length:Int)=1):=by simp only [List.length_cons];omega
  rw [if_neg (by simpa using this)]
  rfl
theorem zmp {kind:Int} {l:List EX} {r:List UInt8} {d:Int} (hne:¬l=[]):(if (decide ((l.length:Int)=1))=true then (ix l 0).bind fun _=>(ix l 0).bind fun y=>some (Rs.ok (y,q07.mk r,d)) else some (Rs.ok (q01.mk kind [] [] l,q07.mk r,d)))=some (mRs (fun x=>(x.1,q07.mk x.2,d)) (.ok (zi2 kind l,r))):=zxb hne
theorem zzn {N:Nat} (hN:N<1000000000) {S:Nat→List UInt8→Rs (EX × List UInt8)} {F d:Nat} (hF:34≤F) (hS:d<16→∀ s:List UInt8,s.length≤N→M.q2k F ⟨s⟩ ((d+1:Nat):Int)=some (mRs cvE (S (d+1) s))) (hle:Le (S (d+1))) {s:List UInt8} (hs:s.length≤N):M.q2g (F+1) ⟨s⟩ (d:Int)=some (mRs cvE (z5b S d s)):=by
 have h1:=zbs zbb s
 have h2:=zbs [40] (tk zbb s).2
 unfold M.q2g z5b
 have e1:M.q2n ⟨s⟩ [110,111,116]=some ((tk zbb s).1,⟨(tk zbb s).2⟩):=z2r (by omega)
 simp only [e1,Option.bind_eq_bind,Option.bind_some]
 rw [z2r (by omega)]
 simp only [Option.bind_some]
 by_cases ho:(tk [40] (tk zbb s).2).1=true
 ·rw [if_pos ho,if_pos ho]
  simp only [z5e,Option.bind_some]
  by_cases hd:d<16
  ·have hd':((d:Int)<16):=by omega
   simp only [hd,hd',decide_true,if_true]
   rw [w1 (by omega),hS hd _ (by omega)]
   simp only [Option.bind_some]
   cases hx:S (d+1) (tk [40] (tk zbb s).2).2 with
   | pan e=>rfl
   | ok x =>
    have h3:=hle _ _ _ hx
    simp only [mRs,cvE]
    rw [z2r (by omega)]
    simp only [Option.bind_some]
    by_cases hc:(tk [41] x.2).1=true
    ·simp only [hc,if_true,z9e]
     by_cases hn:(tk zbb s).1=true
     ·simp [hn]
     ·simp [hn]
    ·simp [hc]
  ·have hd':¬((d:Int)<16):=by omega
   simp only [hd,hd',decide_false,Bool.false_eq_true,if_false]
   rfl
 ·rw [if_neg ho,if_neg ho]
  generalize hs2:(tk [40] (tk zbb s).2).2=s2
  rw [hs2] at h2
  have hb2:=z4q s2
  have hw2:=zjg s2
  rw [z5f (by omega)]
  simp only [Option.bind_some,z4c,z5e]
  unfold leaf
  have hj:(if (!(tk zbb s).1)=true then some (isName (wd s2)) else some false:Option Bool)=some (!(tk zbb s).1&&isName (wd s2)):=by
   cases (tk zbb s).1<;>rfl
  rw [hj]
  simp only [Option.bind_some]
  by_cases hn:(!(tk zbb s).1&&isName (wd s2))=true
  ·rw [if_pos hn,if_pos hn]
   simp only
   rw [z2r (by omega)]
   have ew:tk (wd s2) (bk s2)=(true,(bk s2).drop (wd s2).length):=by rw [z9y,tk_wd]
   rw [ew]
   simp only [Option.bind_some]
   have hd5:((bk s2).drop (wd s2).length).length≤N:=by simp only [List.length_drop];omega
   generalize (bk s2).drop (wd s2).length=s5 at hd5 ⊢
   have e2:M.q2n ⟨s5⟩ [112,114]=some ((tk kPr s5).1,⟨(tk kPr s5).2⟩):=z2r (by omega)
   rw [e2]
   simp only [Option.bind_some]
   by_cases hp:(tk kPr s5).1=true
   ·rw [if_pos hp,if_pos hp]
    rfl
   ·rw [if_neg hp,if_neg hp]
    have ep:(tk kPr s5).2=bk s5:=by
     unfold tk at hp ⊢
     split
     ·rename_i h;rw [if_pos h] at hp;exact absurd rfl hp
     ·rfl
    have hb5:=z4q s5
    rw [ep,zvx]
    simp only [Option.bind_some]
    rw [zpt (by omega),zjf,zhc]
    cases hk:zjq (wd s5) with
    | none=>simp [mRs]
    | some k =>
     have hk9:k<9:=by
      obtain ⟨h,_⟩:=zcn hk
      exact h
     simp only [Option.bind_some,show ((0:Int)≤(k:Int)) by omega,decide_true,if_true]
     rw [zgi (by simp only [List.length_drop];omega) hF]
     simp only [Option.bind_some]
     cases hv:vl ((bk s5).drop (wd s5).length) with
     | pan e=>rfl
     | ok v =>
      simp only [mRs,cvE]
      rw [w64 (by omega) (by omega)]
  ·rw [if_neg hn,if_neg hn]
   rfl
theorem step {N:Nat} (hN:N<1000000000) {m F d:Nat} {s:List UInt8} (hle:Le (z29 m (d+1))) (hF:40≤F) (hS:d<16→∀ s:List UInt8,s.length≤N→M.q2k (F - 6) ⟨s⟩ ((d+1:Nat):Int)=some (mRs cvE (z29 m (d+1) s))) (hs:s.length≤N):M.q2k F ⟨s⟩ (d:Int)=some (mRs cvE (z29 (m+1) d s)):=by
 match F,hF with
 | F+6,hF =>
  have e6:F+6 - 6=F:=by omega
  rw [e6] at hS
  have h1:∀ s:List UInt8,s.length≤N→M.q2m (F+2) ⟨s⟩ (d:Int)=some (mRs (fun x=>(x.1,q07.mk x.2,(d:Int))) (z5b (z29 m) d s)):=fun s hs=>by
   unfold M.q2m
   rw [zzn hN (by omega) hS hle hs]
   simp only [Option.bind_eq_bind,Option.bind_some]
   cases z5b (z29 m) d s<;>rfl
  have h2:∀ s:List UInt8,s.length≤N→M.q2j (F+3) ⟨s⟩ 0 [97,110,100] (d:Int)=some (mRs (fun x=>(x.1,q07.mk x.2,(d:Int))) (row 0 zae (z5b (z29 m) d) s)):=fun s hs=>by
   unfold M.q2j row
   rw [h1 s hs]
   simp only [Option.bind_eq_bind,Option.bind_some]
   cases hx:z5b (z29 m) d s with
   | pan e=>rfl
   | ok x =>
    have hxl:=zdd hle _ _ _ hx
    simp only [mRs,z9e]
    rw [zra (F:=fun s x l=>M.z05 [97,110,100] (M.q2m (F+2)) s x l) (word:=[97,110,100]) hN (by decide) (fun s x l=>by rw [M.z05];rfl) h1 (zdd hle) (x.2.length+1) x.2 [x.1] (by omega) (by omega) (by simp only [List.length_cons,List.length_nil];omega)]
    show (some _).bind _=_
    have ek:zae=[97,110,100]:=rfl
    rw [ek]
    cases hr:zc3 [97,110,100] (z5b (z29 m) d) (x.2.length+1) [x.1] x.2 with
    | pan e=>rfl
    | ok y =>
     obtain ⟨t,ht⟩:=z5u _ _ _ _ _ hr
     simp only [Option.bind_some]
     exact zmp (by rw [ht];simp)
  have h3:∀ s:List UInt8,s.length≤N→M.q2l (F+4) ⟨s⟩ (d:Int)=some (mRs (fun x=>(x.1,q07.mk x.2,(d:Int))) (row 0 zae (z5b (z29 m) d) s)):=fun s hs=>by
   unfold M.q2l
   rw [h2 s hs]
   simp only [Option.bind_eq_bind,Option.bind_some]
   cases row 0 zae (z5b (z29 m) d) s<;>rfl
  have h4:M.q2i (F+5) ⟨s⟩ 1 [111,114] (d:Int)=some (mRs (fun x=>(x.1,q07.mk x.2,(d:Int))) (row 1 kOr (row 0 zae (z5b (z29 m) d)) s)):=by
   unfold M.q2i
   rw [h3 s hs]
   rw [zdo 1]
   simp only [Option.bind_eq_bind,Option.bind_some]
   cases hx:row 0 zae (z5b (z29 m) d) s with
   | pan e=>rfl
   | ok x =>
    have hxl:=zmq (zdd hle) _ _ _ hx
    simp only [mRs,z9e]
    rw [zra (F:=fun s x l=>M.z06 [111,114] (M.q2l (F+4)) s x l) (word:=[111,114]) hN (by decide) (fun s x l=>by rw [M.z06];rfl) h3 (zmq (zdd hle)) (x.2.length+1) x.2 [x.1] (by omega) (by omega) (by simp only [List.length_cons,List.length_nil];omega)]
    show (some _).bind _=_
    have ek:kOr=[111,114]:=rfl
    rw [ek]
    cases hr:zc3 [111,114] (row 0 zae (z5b (z29 m) d)) (x.2.length+1) [x.1] x.2 with
    | pan e=>rfl
    | ok y =>
     obtain ⟨t,ht⟩:=z5u _ _ _ _ _ hr
     simp only [Option.bind_some]
     exact zmp (by rw [ht];simp)
  unfold M.q2k
  rw [h4]
  simp only [Option.bind_eq_bind,Option.bind_some]
  show _=some (mRs cvE (row 1 kOr (row 0 zae (z5b (z29 m) d)) s))
  cases row 1 kOr (row 0 zae (z5b (z29 m) d)) s<;>rfl
theorem zea {N:Nat} (hN:N<1000000000):∀ (m F d:Nat) (s:List UInt8),d+m=16→6*m+40≤F→s.length≤N→M.q2k F ⟨s⟩ (d:Int)=some (mRs cvE (z29 (m+1) d s)):=by
 intro m
 induction m with
 | zero =>
  intro F d s hd hF hs
  have hS:d<16→∀ s:List UInt8,s.length≤N→M.q2k (F - 6) ⟨s⟩ ((d+1:Nat):Int)=some (mRs cvE (z29 0 (d+1) s)):=fun h=>by omega
  exact step hN (zc4 0 (d+1)) hF hS hs
 | succ m ih =>
  intro F d s hd hF hs
  exact step hN (zc4 (m+1) (d+1)) (by omega) (fun h s hs=>ih (F - 6) (d+1) s (by omega) (by omega) hs) hs
def zE:EX:=⟨0,[],[],[]⟩
/-- The expression of a filter's text. -/
def pP (s:List UInt8):EX × Int:=if 1024<s.length then (zE,191) else match z29 17 0 s with
 | .pan e=>(zE,e)
 | .ok x=>if bk x.2=[] then (x.1,0) else (zE,190)
theorem z2w (s:List UInt8) {f:Nat} (hf:200≤f):M.q1l f s=some (pP s):=by
 unfold M.q1l pP
 by_cases hl:1024<s.length
 ·have hl':(1024:Int)<(s.length:Int):=by omega
  simp [hl,hl',zE]
 ·have hl':¬(1024:Int)<(s.length:Int):=by omega
  have h:=zea (N:=1024) (by omega) 16 f 0 s rfl (by omega) (by omega)
  have h':M.q2k f ⟨s⟩ 0=some (mRs cvE (z29 17 0 s)):=h
  simp only [hl,hl',decide_false,Bool.false_eq_true,if_false,h',Option.bind_eq_bind,Option.bind_some]
  cases hx:z29 17 0 s with
  | pan e=>rfl
  | ok x =>
   have h1:=zc4 17 0 _ _ _ hx
   have hb:=zjg x.2
   simp only [mRs,cvE]
   rw [z5f (by omega)]
   simp only [Option.bind_some,z5e]
   by_cases hbk:bk x.2=[]
   ·have hw:wd x.2=[]:=by unfold wd;rw [hbk];rfl
    simp [hbk,hw]
   ·by_cases hw:wd x.2=[]
    ·simp [hbk,hw,zE]
    ·simp [hbk,hw,zE]
end Go.Sen
