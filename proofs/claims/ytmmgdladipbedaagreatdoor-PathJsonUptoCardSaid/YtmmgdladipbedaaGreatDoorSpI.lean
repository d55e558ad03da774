import Derived.Test.YtmmgdladipbedaaGreatDoorSpH
import Derived.Test.YtmmgdladipbedaaGreatDoorSpG
import Derived.Test.YtmmgdladipbedaaGreatDoorSnN
import Derived.Test.YtmmgdladipbedaaGreatDoorPaM
import Derived.Test.YtmmgdladipbedaaGreatDoorSnA
set_option linter.all false
section
namespace Go.Sen
open Go.Lk Go.Pe
/-! Apply. -/
abbrev MP:=List (List UInt8 × List (List UInt8))
def mp0 (l:List q02):MP:=l.foldl (fun m f=>z3r m f.zg f.zh) []
def z3e (m:MP) (x:ED):Int × MP :=
 let v:=dn x (z14 m x.zg [])
 if v.2=0 then (let m':=if 0<v.1.length then z3r (z6k m x.zg) x.zg v.1 else z6k m x.zg
  if 64<v.1.length∨32<m'.length then (191,[]) else (0,m')) else (v.2,[])
def z1f:List ED→MP→Int × MP
 | [],m=>(0,m)
 | x::l,m=>if (z3e m x).1=0 then z1f l (z3e m x).2 else ((z3e m x).1,[])
def srt (m:MP):List q02:=(m.map fun x=>q02.mk x.1 x.2).mergeSort fun x y=>decide (x.zg≤y.zg)
def zT:TH:=⟨[],[],[],[]⟩
def apT (l:List ED) (t:TH):TH × Int:=if zjh t=0 then (if z4y l=0 then (if (z1f l (mp0 t.ze)).1=0 then (⟨t.gId,t.za,t.z4f,srt (z1f l (mp0 t.ze)).2⟩,0) else (zT,(z1f l (mp0 t.ze)).1)) else (zT,z4y l)) else (zT,zjh t)
/-- The keys are different zs5, and the values may be. -/
structure Good (m:MP):Prop where
 nd:(m.map (·.1)).Nodup
 sm:∀ x∈m,x.2.length≤64∧∀ v∈x.2,v.length≤128
theorem zdb (k:List UInt8) (v:List (List UInt8)):∀ m:MP,(z3r m k v).map (·.1)=if k∈m.map (·.1) then m.map (·.1) else m.map (·.1)++[k]
 | []=>by simp [z3r]
 | (a,b)::r=>by
  have ih:=zdb k v r
  unfold z3r
  by_cases h:k=a
  ·simp [h]
  ·rw [if_neg h]
   simp only [List.map_cons,ih,List.mem_cons,h,false_or]
   split<;>simp
theorem zm8 {k:List UInt8} {v:List (List UInt8)} {x:List UInt8 × List (List UInt8)}:∀ {m:MP},x∈z3r m k v→x=(k,v)∨x∈m
 | [],h=>by simpa [z3r] using h
 | (a,b)::r,h=>by
  unfold z3r at h
  split at h
  ·rcases List.mem_cons.1 h with h|h
   ·exact .inl h
   ·exact .inr (List.mem_cons_of_mem _ h)
  ·rcases List.mem_cons.1 h with h|h
   ·exact .inr (by rw [h];exact List.mem_cons_self)
   ·rcases zm8 h with h|h
    ·exact .inl h
    ·exact .inr (List.mem_cons_of_mem _ h)
theorem zga (k:List UInt8):∀ m:MP,(z6k m k).Sublist m
 | []=>List.Sublist.slnil
 | (a,b)::r=>by
  unfold z6k
  split
  ·exact List.sublist_cons_self _ _
  ·exact (zga k r).cons_cons _
theorem zbz {k:List UInt8} {z:List (List UInt8)}:∀ m:MP,z14 m k z=z∨(k,z14 m k z)∈m
 | [] => .inl rfl
 | (a,b)::r=>by
  unfold z14
  split
  ·rename_i h;exact .inr (by rw [h];exact List.mem_cons_self)
  ·rcases zbz (k:=k) (z:=z) r with h|h
   ·exact .inl h
   ·exact .inr (List.mem_cons_of_mem _ h)
theorem Good.put {m:MP} (h:Good m) {k:List UInt8} {v:List (List UInt8)} (hv:v.length≤64∧∀ s∈v,s.length≤128):Good (z3r m k v):=by
 refine ⟨?_,fun x hx => ?_⟩
 ·rw [zdb]
  split
  ·exact h.nd
  ·rename_i hn
   rw [List.nodup_append]
   exact ⟨h.nd,by simp,fun a ha b hb=>by rw [List.mem_singleton] at hb;rw [hb];exact fun e=>hn (e▸ha)⟩
 ·rcases zm8 hx with rfl|hx
  ·exact hv
  ·exact h.sm x hx
theorem Good.del {m:MP} (h:Good m) (k:List UInt8):Good (z6k m k) :=
 ⟨((zga k m).map _).nodup h.nd,fun x hx=>h.sm x ((zga k m).subset hx)⟩
theorem Good.nil:Good []:=⟨by simp,fun x hx=>by cases hx⟩
theorem Good.get {m:MP} (h:Good m) (k:List UInt8):(z14 m k []).length≤64∧∀ s∈z14 m k [],s.length≤128:=by
 rcases zbz (k:=k) (z:=[]) m with e|e
 ·rw [e];exact ⟨by simp,fun s hs=>by cases hs⟩
 ·exact h.sm _ e
theorem z7g {l:List (List UInt8)} (h:sgl l=true):l.length≤64∧∀ v∈l,v.length≤128:=by
 unfold sgl at h
 simp only [Bool.and_eq_true,decide_eq_true_eq,List.all_eq_true] at h
 exact ⟨h.1.1,fun v hv=>zf2 (h.2 v hv)⟩
theorem z9b {x:ED} (h:z5j x=true):sgl x.zh=true:=by
 unfold z5j at h
 simp only [Bool.and_eq_true] at h
 exact h.1.1.2
theorem zft {x:ED} {first:Nat} {v:List UInt8}:∀ {l:List (List UInt8)} {i:Nat},v∈dnL x first i l→v∈l∨v=x.zh.head?.getD []
 | [],_,h=>by simp [dnL] at h
 | a::r,i,h=>by
  simp only [dnL,List.mem_append] at h
  rcases h with h|h
  ·split at h
   ·rw [List.mem_singleton] at h;exact .inr h
   ·split at h
    ·rw [List.mem_singleton] at h;exact .inl (by rw [h];exact List.mem_cons_self)
    ·cases h
  ·rcases zft h with h|h
   ·exact .inl (List.mem_cons_of_mem _ h)
   ·exact .inr h
theorem zso {x:ED} {old:List (List UInt8)} (hx:z5j x=true) (ho:∀ s∈old,s.length≤128):∀ s∈(dn x old).1,s.length≤128:=by
 have hv:=(z7g (z9b hx)).2
 unfold dn
 split
 ·intro s hs
  rcases List.mem_append.1 hs with h|h
  ·exact ho s h
  ·exact hv s (List.mem_filter.1 h).1
 ·split
  ·exact hv
  ·intro s hs;cases hs
  ·intro s hs
   rcases zft hs with h|h
   ·exact ho s h
   ·rw [h]
    cases hvv:x.zh with
    | nil=>simp
    | cons a b=>exact hv a (by rw [hvv];exact List.mem_cons_self)
def z4i (m:MP) (x:ED) (v:List (List UInt8)):MP:=if 0<v.length then z3r (z6k m x.zg) x.zg v else z6k m x.zg
theorem z9w (m:MP) (x:ED):z3e m x=if (dn x (z14 m x.zg [])).2=0 then (if 64<(dn x (z14 m x.zg [])).1.length∨32<(z4i m x (dn x (z14 m x.zg [])).1).length then (191,[]) else (0,z4i m x (dn x (z14 m x.zg [])).1)) else ((dn x (z14 m x.zg [])).2,[]):=rfl
theorem z6d {m:MP} {x:ED} (h0:(z3e m x).1=0):(dn x (z14 m x.zg [])).2=0∧(dn x (z14 m x.zg [])).1.length≤64∧(z4i m x (dn x (z14 m x.zg [])).1).length≤32∧(z3e m x).2=z4i m x (dn x (z14 m x.zg [])).1:=by
 rw [z9w] at h0 ⊢
 by_cases h1:(dn x (z14 m x.zg [])).2=0
 ·rw [if_pos h1] at h0 ⊢
  by_cases h2:64<(dn x (z14 m x.zg [])).1.length∨32<(z4i m x (dn x (z14 m x.zg [])).1).length
  ·rw [if_pos h2] at h0;cases h0
  ·rw [if_neg h2]
   exact ⟨h1,by omega,by omega,rfl⟩
 ·rw [if_neg h1] at h0
  exact (h1 h0).elim
theorem zfh {m:MP} {x:ED} (h:Good m) (hx:z5j x=true) (h0:(z3e m x).1=0):Good (z3e m x).2:=by
 have hg:=h.get x.zg
 have hd:=zso hx hg.2
 obtain ⟨h1,h2,h3,h4⟩:=z6d h0
 rw [h4]
 unfold z4i
 split
 ·exact (h.del _).put ⟨h2,hd⟩
 ·exact h.del _
theorem z1p (x:ED) (l:List ED) (m:MP):z1f (x::l) m=if (z3e m x).1=0 then z1f l (z3e m x).2 else ((z3e m x).1,[]):=rfl
theorem zcs:∀ (l:List ED) (m:MP) (n:Nat),m.length≤n→32≤n→(z1f l m).1=0→(z1f l m).2.length≤n
 | [],m,n,h,_,_=>h
 | x::l,m,n,h,hn,h0=>by
  rw [z1p] at h0 ⊢
  by_cases h1:(z3e m x).1=0
  ·rw [if_pos h1] at h0 ⊢
   obtain ⟨_,_,h3,h4⟩:=z6d h1
   exact zcs l _ n (by rw [h4];omega) hn h0
  ·rw [if_neg h1] at h0
   exact (h1 h0).elim
theorem zqi:∀ (l:List q02) (m:MP),(l.foldl (fun m f=>z3r m f.zg f.zh) m).length≤m.length+l.length
 | [],m=>by simp
 | f::l,m=>by
  have h1:=zqi l (z3r m f.zg f.zh)
  have h2:(z3r m f.zg f.zh).length≤m.length+1:=by
   have:=congrArg List.length (zdb f.zg f.zh m)
   simp only [List.length_map] at this
   rw [this]
   split<;>simp
  simp only [List.foldl_cons,List.length_cons]
  omega
theorem zm7:∀ (l:List q02) (m:MP),Good m→(∀ f∈l,sgl f.zh=true)→Good (l.foldl (fun m f=>z3r m f.zg f.zh) m)
 | [],m,h,_=>h
 | f::l,m,h,hl=>zm7 l _ (h.put (z7g (hl f List.mem_cons_self))) fun g hg=>hl g (List.mem_cons_of_mem _ hg)
theorem zli:∀ {l:List q02} {p:Option (List UInt8)},zjn p l=true→∀ f∈l,sgl f.zh=true
 | f::l,p,h,g,hg=>by
  simp only [zjn,Bool.and_eq_true] at h
  rcases List.mem_cons.1 hg with rfl|hg
  ·exact h.1.2
  ·exact zli h.2 g hg
theorem zey:∀ {l:List ED} {m:MP},Good m→(∀ x∈l,z5j x=true)→(z1f l m).1=0→Good (z1f l m).2
 | [],m,h,_,_=>h
 | x::l,m,h,hl,h0=>by
  unfold z1f at h0 ⊢
  split at h0
  ·rename_i h1
   rw [if_pos h1]
   exact zey (zfh h (hl x List.mem_cons_self) h1) (fun y hy=>hl y (List.mem_cons_of_mem _ hy)) h0
  ·rename_i h1
   exact (h1 h0).elim
theorem zhk {l:List (List UInt8)} (h:l.length<1000000000):M.z16 l=some l:=by
 unfold M.z16
 rw [z3i (by rw [decide_eq_true_iff];omega)]
 rfl
theorem zse {t:TH} (ht:z1b t):∀ (n i:Nat) (m:MP),t.ze.length - i=n→i≤t.ze.length→M.z1t t (i:Int) m=some ((t.ze.drop i).foldl (fun m f=>z3r m f.zg f.zh) m):=by
 obtain ⟨h1,_,_,h4⟩:=ht.parts
 intro n
 induction n with
 | zero =>
  intro i m h2 h3
  have:i=t.ze.length:=by omega
  subst this
  rw [M.z1t]
  simp
 | succ n ih =>
  intro i m h2 h3
  have hi:i<t.ze.length:=by omega
  rw [M.z1t,z1y hi]
  simp only [show ((i:Int)<(t.ze.length:Int)) by omega,decide_true,if_true,z4a,List.getElem?_eq_getElem hi,Option.bind_eq_bind,Option.bind_some,zhk (h4 _ (List.getElem_mem hi)).2.1]
  rw [w1 (by omega),ih (i+1) _ (by omega) (by omega)]
  rfl
theorem zsf {l:List ED} {f:Nat} (hf:4*z4g l+17≤f) (hl:z4g l<1000000000) (hok:∀ x∈l,z5j x=true):∀ (n i:Nat) (m:MP),l.length - i=n→i≤l.length→Good m→M.z1u l f (i:Int) m=some (if (z1f (l.drop i) m).1=0 then .go (z1f (l.drop i) m).2 else .done (zT,(z1f (l.drop i) m).1)):=by
 have hlen:l.length≤z4g l:=z7l (g:=fun x:ED=>x.sz) (fun x=>by unfold q00.sz;omega) l
 have hm:∀ x∈l,x.sz≤z4g l:=fun x hx=>zaq (g:=fun x:ED=>x.sz) hx
 intro n
 induction n with
 | zero =>
  intro i m h2 h3 hg
  have:i=l.length:=by omega
  subst this
  rw [M.z1u]
  simp [z1f]
 | succ n ih =>
  intro i m h2 h3 hg
  have hi:i<l.length:=by omega
  have hxm:=List.getElem_mem hi
  have hsz:=hm _ hxm
  have hgg:=hg.get l[i].zg
  rw [M.z1u,z1y hi]
  simp only [show ((i:Int)<(l.length:Int)) by omega,decide_true,if_true,z4a,List.getElem?_eq_getElem hi,Option.bind_eq_bind,Option.bind_some]
  rw [ziu (by omega) (fun v hv=>by have:=hgg.2 v hv;omega) (by omega) (by unfold z52;omega) (hok _ hxm)]
  simp only [Option.bind_some]
  have hst:=z9w m l[i]
  have hfc:=z1p l[i] (l.drop (i+1)) m
  have hgood:(z3e m l[i]).1=0→Good (z3e m l[i]).2:=zfh hg (hok _ hxm)
  generalize dn l[i] (z14 m l[i].zg [])=v at hst ⊢
  by_cases h0:v.2=0
  ·rw [if_pos h0] at hst
   simp only [h0,decide_true,Bool.not_true,Bool.false_eq_true,if_false]
   have hj:(if decide ((0:Int)<(v.1.length:Int))=true then some (z3r (z6k m l[i].zg) l[i].zg v.1) else some (z6k m l[i].zg):Option MP)=some (z4i m l[i] v.1):=by
    unfold z4i
    by_cases hp:0<v.1.length
    ·have:(0:Int)<(v.1.length:Int):=by omega
     simp [hp]
    ·have:¬(0:Int)<(v.1.length:Int):=by omega
     simp [hp]
   rw [hj]
   simp only [Option.bind_some]
   generalize z4i m l[i] v.1=m' at hst ⊢
   by_cases hc:64<v.1.length∨32<m'.length
   ·have hc':((decide ((64:Int)<(v.1.length:Int)))||(decide ((32:Int)<(m'.length:Int))))=true:=by
     simp only [Bool.or_eq_true,decide_eq_true_eq];omega
    rw [if_pos hc] at hst
    rw [hst] at hfc
    have hfc:z1f (l[i]::l.drop (i+1)) m=(191,[]):=hfc
    rw [if_pos hc',hfc]
    rfl
   ·have hc':¬((decide ((64:Int)<(v.1.length:Int)))||(decide ((32:Int)<(m'.length:Int))))=true:=by
     simp only [Bool.or_eq_true,decide_eq_true_eq];omega
    rw [if_neg hc] at hst
    rw [if_neg hc']
    rw [hst] at hgood hfc
    have hfc:z1f (l[i]::l.drop (i+1)) m=z1f (l.drop (i+1)) m':=hfc
    rw [w1 (by omega),ih (i+1) m' (by omega) (by omega) (hgood rfl),hfc]
  ·rw [if_neg h0] at hst
   rw [hst] at hfc
   have hfc:z1f (l[i]::l.drop (i+1)) m=(v.2,[]):=hfc.trans (if_neg h0)
   simp only [h0,decide_false,Bool.not_false,if_true,hfc,if_false]
   rfl
theorem z1s {l:List ED} {t:TH} {f:Nat} (hf:4*z4g l+17≤f) (hl:z4g l<1000000000) (ht:z1b t):M.q1e f l t=some (apT l t):=by
 unfold M.q1e apT
 rw [z3m ht]
 simp only [Option.bind_eq_bind,Option.bind_some]
 by_cases h1:zjh t=0
 ·simp only [h1,decide_true,Bool.not_true,Bool.false_eq_true,if_false,if_true]
  rw [z2o hf hl]
  simp only [Option.bind_some]
  by_cases h2:z4y l=0
  ·simp only [h2,decide_true,Bool.not_true,Bool.false_eq_true,if_false,if_true]
   have hF:zjn none t.ze=true:=by
    unfold zjh at h1
    split at h1
    ·rename_i h;exact h.2
    ·cases h1
   have hok:∀ x∈l,z5j x=true:=by
    unfold z4y at h2
    split at h2
    ·cases h2
    ·split at h2
     ·cases h2
     ·rename_i h;simpa using h
   have hg:Good (mp0 t.ze):=zm7 t.ze [] .nil (zli hF)
   have e1:=zse ht _ 0 [] rfl (Nat.zero_le _)
   have e1':M.z1t t 0 []=some (mp0 t.ze):=e1
   have e2:=zsf hf hl hok _ 0 (mp0 t.ze) rfl (Nat.zero_le _) hg
   have e2':M.z1u l f 0 (mp0 t.ze)=_:=e2
   simp only [e1',e2',List.drop_zero,Option.bind_some]
   by_cases h3:(z1f l (mp0 t.ze)).1=0
   ·have hgf:=zey hg hok h3
    have h5:(mp0 t.ze).length≤t.ze.length:=Nat.le_trans (zqi t.ze []) (by simp)
    have h6:=zcs l (mp0 t.ze) (t.ze.length+32) (Nat.le_trans h5 (Nat.le_add_right _ _)) (by omega) h3
    have h7:=ht.parts.1
    obtain ⟨q,hq⟩:∃ q,(z1f l (mp0 t.ze)).2.length=q:=⟨_,rfl⟩
    have hml:q<2000000000:=by
     have:q≤t.ze.length+32:=hq▸h6
     omega
    rw [if_pos h3,if_pos h3]
    simp only
    rw [ztd]
    rw [if_pos (.inr (by rw [List.length_nil,hq];omega))]
    unfold M.q5o
    rw [z3i]
    ·rfl
    ·simp only [List.nil_append,List.length_map,List.map_map,Bool.and_eq_true,decide_eq_true_eq]
     exact ⟨by rw [hq];omega,hgf.nd⟩
   ·rw [if_neg h3,if_neg h3]
  ·simp [h2,zT]
 ·simp [h1,zT]
/-! Edits of a JSON text. -/
def say (v:J) (k:List UInt8):List UInt8 × Bool:=((z7v v k).1.z0d,(z7v v k).2&&decide ((z7v v k).1.za=4))
theorem z47 {v:J} {k:List UInt8} (h:v.z0a.length<1000000000):M.q2r v k=some (say v k):=by
 unfold M.q2r say
 rw [z5m h]
 rfl
def zoi (s:List UInt8):List UInt8 × Bool:=if ([93]:List UInt8).isSuffixOf s then (s.take (s.length - 1),true) else (s,false)
theorem zhn {s:List UInt8} (h:s.length<1000000000):M.q5u s [93]=some (zoi s):=by
 have hs:=zb6 (s:=s) (p:=[93]) (by omega)
 unfold M.q5w at hs
 unfold M.q5u M.q0f zoi
 cases h1:M.q0h s [93] with
 | none=>rw [h1] at hs;cases hs
 | some b =>
  rw [h1] at hs
  simp only [Option.bind_eq_bind,Option.bind_some,Option.some.injEq] at hs
  subst hs
  cases hb:([93]:List UInt8).isSuffixOf s with
  | false=>simp
  | true =>
   have hl:=(List.isSuffixOf_iff_suffix.1 hb).length_le
   simp only [List.length_cons,List.length_nil] at hl
   have e:IntKind.wrap .i64 ((s.length:Int) - (([93]:List UInt8).length:Int))=((s.length - 1:Nat):Int):=by
    simp only [List.length_cons,List.length_nil]
    rw [w64]<;>omega
   simp only [Option.bind_eq_bind,Option.bind_some,Bool.not_true,Bool.false_eq_true,if_false,e,if_true]
   rw [zl0 (by omega)]
   rfl
def kOp:List UInt8:=[111,112]
def z3q:List UInt8:=[112,97,116,104]
def z2c:List UInt8:=[118,97,108,117,101]
def zte:List UInt8:=[79,112,101,114,97,116,105,111,110,115]
def opW:List (List UInt8):=[[97,100,100],[114,101,109,111,118,101],[114,101,112,108,97,99,101]]
def zzo (s:List UInt8):Int:=match opW.findIdx? (fun x=>decide (s=x)) with
 | some i=>(i:Int)
 | none => -1
/-- The edit of an object: what it zds, or why there is none. -/
def z3o (p:List UInt8):EX × Int:=if (Lib.cut p [91]).2.2=true then pP (zoi (Lib.cut p [91]).2.1).1 else (zE,0)
def z5g (o:J):List (List UInt8) × Bool:=if (z7v o z2c).1.za=4 then ([(z7v o z2c).1.z0d],true) else if (z7v o z2c).2=true then zau (z7v o z2c).1 else ([],true)
def rdE (o:J):Rs ED :=
 let op:=zzo (say o kOp).1
 let c:=Lib.cut (say o z3q).1 [91]
 if op<0∨isName c.1=false∨c.2.2=true∧(zoi c.2.1).2=false then .pan 190 else
 if (z3o (say o z3q).1).2≠0 then .pan (z3o (say o z3q).1).2 else
 if (z7v o z2c).2=decide (op=1) then .pan 190 else
 if (z5g o).2=false then .pan 190 else
 if z5j ⟨op,c.1,c.2.2,(z3o (say o z3q).1).1,(z5g o).1⟩=false then .pan 194 else .ok ⟨op,c.1,c.2.2,(z3o (say o z3q).1).1,(z5g o).1⟩
theorem zt7 (s:List UInt8):M.q5n opW s=some (zzo s):=by
 unfold M.q5n zzo
 rw [zi0 (by decide)]
 cases opW.findIdx? (fun x=>decide (s=x))<;>rfl
theorem zyo (p q:List UInt8):(Lib.cut p q).1.length≤p.length∧(Lib.cut p q).2.1.length≤p.length:=by
 unfold Lib.cut
 split
 ·exact ⟨by simp only [List.length_take];omega,by simp only [List.length_drop];omega⟩
 ·exact ⟨Nat.le_refl _,by simp⟩
theorem zxc (v:J) (k:List UInt8):(say v k).1.length≤v.sz:=by
 have h1:=zgb v k
 have h2:=(z7v v k).1.z1m
 unfold say
 simp only
 omega
theorem zja:∀ {l:List J} {r:List (List UInt8)},texts l=some r→kys r≤szs l
 | [],r,h=>by simp only [texts,Option.some.injEq] at h;subst h;simp [kys,szs]
 | x::l,r,h=>by
  unfold texts at h
  split at h
  ·cases ht:texts l with
   | none=>rw [ht] at h;cases h
   | some q =>
    rw [ht] at h
    simp only [Option.map_some,Option.some.injEq] at h
    subst h
    have:=zja ht
    have h2:=x.z1m
    rw [z38]
    simp only [szs]
    omega
  ·cases h
theorem zo5 (o:J):kys (z5g o).1≤o.sz:=by
 have h1:=zgb o z2c
 have h2:=(z7v o z2c).1.z1m
 unfold z5g
 split
 ·rw [z38,z4d];omega
 ·split
  ·unfold zau
   split
   ·split
    ·rename_i l hl
     have:=zja hl
     simp only
     omega
    ·simp [kys]
   ·simp [kys]
  ·simp [kys]
theorem ziv {o:J} {f:Nat} (ho:o.sz≤1000000) (hf:20000000≤f):∃ x,M.q2f f o=some (match rdE o with | .ok x=>(x,0) | .pan c=>(x,c)):=by
 have hk:o.z0a.length<1000000000:=by have:=o.z1m;have:=z69 o.z0a;omega
 have hms:=zgb o z2c
 have hmz:=(z7v o z2c).1.z1m
 have hml:=zdy (z7v o z2c).1.zf
 have hmk:=z69 (z7v o z2c).1.z0a
 have hkys:=zo5 o
 have hpl:=zxc o z3q
 obtain ⟨hc1,hc2⟩:=zyo (say o z3q).1 [91]
 have hcut:M.cut (say o z3q).1 [91]=some (Lib.cut (say o z3q).1 [91]):=by
  unfold M.cut
  rw [z3i (by rw [decide_eq_true_iff];omega)]
  rfl
 have hws:(z3o (say o z3q).1).1.sz≤204801:=by
  unfold z3o
  split
  ·exact zx4 _
  ·decide
 have hop:M.q2d=some opW:=rfl
 unfold M.q2f rdE
 have e1:M.q2r o [111,112]=some (say o kOp):=z47 hk
 have e2:M.q2r o [112,97,116,104]=some (say o z3q):=z47 hk
 have e3:M.q0j o [118,97,108,117,101]=some (z7v o z2c):=z5m hk
 simp only [e1,e2,e3,hop,Option.bind_eq_bind,Option.bind_some,zt7,hcut]
 rw [zhn (by omega)]
 simp only [Option.bind_some,z4c]
 generalize hso:zzo (say o kOp).1=op
 have hwh:z3o (say o z3q).1=if (Lib.cut (say o z3q).1 [91]).2.2=true then pP (zoi (Lib.cut (say o z3q).1 [91]).2.1).1 else (zE,0):=rfl
 generalize hcc:Lib.cut (say o z3q).1 [91]=c at hc1 hc2 hwh ⊢
 generalize z3o (say o z3q).1=wh at hwh hws ⊢
 have hj:(if decide (op<0)=true then some true else some (!isName c.1):Option Bool)=some (decide (op<0) || !isName c.1):=by
  by_cases h:op<0<;>simp [h]
 rw [hj]
 simp only [Option.bind_some]
 by_cases h1:op<0∨isName c.1=false∨c.2.2=true∧(zoi c.2.1).2=false
 ·have h1':((decide (op<0) || !isName c.1)||(c.2.2 && !(zoi c.2.1).2))=true:=by
   simp only [Bool.or_eq_true,decide_eq_true_eq,Bool.not_eq_true',Bool.and_eq_true]
   rcases h1 with h|h|h
   ·exact .inl (.inl h)
   ·exact .inl (.inr h)
   ·exact .inr h
  rw [if_pos h1',if_pos h1]
  exact ⟨_,rfl⟩
 ·have h1':¬((decide (op<0) || !isName c.1)||(c.2.2 && !(zoi c.2.1).2))=true:=by
   simp only [Bool.or_eq_true,decide_eq_true_eq,Bool.not_eq_true',Bool.and_eq_true]
   rintro ((h|h)|h)
   ·exact h1 (.inl h)
   ·exact h1 (.inr (.inl h))
   ·exact h1 (.inr (.inr h))
  rw [if_neg h1',if_neg h1]
  have hq:(if c.2.2=true then (M.q1l f (zoi c.2.1).1).bind fun a_40=>if (!decide (a_40.2=0))=true then some (Jn.done (q00.mk op c.1 c.2.2 a_40.1 [],a_40.2)) else some (Jn.go (a_40.1.za,a_40.1.zg,a_40.1.z04,a_40.1.zf)) else some (Jn.go (0,([]:List UInt8),([]:List UInt8),([]:List EX))):Option (Jn (q00 × Int) (Int × (List UInt8) × (List UInt8) × (List EX)))) =
    some (if wh.2=0 then Jn.go (wh.1.za,wh.1.zg,wh.1.z04,wh.1.zf) else Jn.done (q00.mk op c.1 c.2.2 wh.1 [],wh.2)):=by
   by_cases hs:c.2.2=true
   ·rw [if_pos hs,z2w _ (by omega)]
    rw [if_pos hs] at hwh
    rw [←hwh]
    simp only [Option.bind_some]
    by_cases h0:wh.2=0
    ·simp [h0]
    ·simp [h0]
   ·rw [if_neg hs]
    rw [if_neg hs] at hwh
    rw [hwh]
    rfl
  rw [hq]
  simp only [Option.bind_some]
  by_cases h2:wh.2=0
  ·rw [if_pos h2,if_neg (by simp [h2])]
   simp only [z9e]
   by_cases h3:(z7v o z2c).2=decide (op=1)
   ·rw [if_pos (by simpa using h3),if_pos h3]
    exact ⟨_,rfl⟩
   ·rw [if_neg (by simpa using h3),if_neg h3]
    have hq2:(if decide ((z7v o z2c).1.za=4)=true then some (Jn.go [(z7v o z2c).1.z0d]) else if (z7v o z2c).2=true then (M.q0m (z7v o z2c).1).bind fun a_50=>if (!a_50.2)=true then some (Jn.done (q00.mk op c.1 c.2.2 wh.1 a_50.1,(190:Int))) else some (Jn.go a_50.1) else some (Jn.go []):Option (Jn (q00 × Int) (List (List UInt8)))) =
      some (if (z5g o).2=true then Jn.go (z5g o).1 else Jn.done (q00.mk op c.1 c.2.2 wh.1 (z5g o).1,190)):=by
     unfold z5g
     by_cases h4:(z7v o z2c).1.za=4
     ·simp [h4]
     ·simp only [h4,decide_false,Bool.false_eq_true,if_false]
      by_cases h5:(z7v o z2c).2=true
      ·rw [if_pos h5,if_pos h5,zg2 (by omega)]
       simp only [Option.bind_some]
       cases (zau (z7v o z2c).1).2<;>rfl
      ·rw [if_neg h5,if_neg h5]
       rfl
    rw [hq2]
    simp only [Option.bind_some]
    cases h4:(z5g o).2 with
    | false =>
     simp only [Bool.false_eq_true,if_false,if_true]
     exact ⟨_,rfl⟩
    | true =>
     simp only [if_true,Bool.true_eq_false,if_false]
     have hsz:q00.sz ⟨op,c.1,c.2.2,wh.1,(z5g o).1⟩≤4000000:=by
      unfold q00.sz
      simp only
      omega
     rw [zbe (by omega) (by unfold z52;omega)]
     simp only [Option.bind_some]
     cases h5:z5j ⟨op,c.1,c.2.2,wh.1,(z5g o).1⟩ with
     | false=>exact ⟨_,rfl⟩
     | true=>exact ⟨⟨0,[],false,zE,[]⟩,rfl⟩
  ·rw [if_neg h2,if_pos h2]
   exact ⟨_,rfl⟩
def rdL:List J→Rs (List ED)
 | [] => .ok []
 | o::l=>match rdE o with
  | .pan c => .pan c
  | .ok x=>match rdL l with
   | .pan c => .pan c
   | .ok xs => .ok (x::xs)
def zds (o:J):Bool:=(say o kOp).2&&(say o z3q).2
def pEs (s:List UInt8):List ED × Int :=
 let v:=parse s
 let all:=z7v v.1 zte
 if ¬v.2=0∨all.2=false∨¬all.1.za=5∨all.1.zf.all zds=false then ([],190) else
 if 16<all.1.zf.length then ([],191) else match rdL all.1.zf with
  | .pan c=>([],c)
  | .ok l=>(l,0)
theorem zr1 {o:J} {c:Int} (h:rdE o = .pan c):¬c=0:=by
 unfold rdE at h
 simp only at h
 split at h
 ·cases h;decide
 ·split at h
  ·rename_i h2;cases h;exact h2
  ·split at h
   ·cases h;decide
   ·split at h
    ·cases h;decide
    ·split at h
     ·cases h;decide
     ·cases h
theorem z5c (s:List UInt8) {f:Nat} (hf:20000000≤f):M.q1m f s=some (pEs s):=by
 have hps:=ztz s
 have hpz:=(parse s).1.z1m
 have hpk:=z69 (parse s).1.z0a
 unfold M.q1m pEs
 have e1:∀ v:J,v.sz≤131072→M.q0j v [79,112,101,114,97,116,105,111,110,115]=some (z7v v zte):=fun v hv=>z5m (by have:=v.z1m;have:=z69 v.z0a;omega)
 rw [z9h s (by omega)]
 simp only [Option.bind_eq_bind,Option.bind_some,e1 _ hps]
 have hms:=zgb (parse s).1 zte
 generalize (parse s).2=bad
 generalize z7v (parse s).1 zte=all at hms ⊢
 have haz:=all.1.z1m
 have hal:=zdy all.1.zf
 have hmm:∀ x∈all.1.zf,x.sz≤131072:=fun x hx=>by have:=zgv hx;omega
 have hk:M.zo all.1.zf 0=some (match all.1.zf.findIdx? (fun x => !zds x) with|some i => .done (i:Int)|none => .go ()):=by
  refine zef (fun i:Nat=>(i:Int)) () (by omega) (fun i h => ?_) ?_
  ·have h1:=hmm _ (List.getElem_mem h)
   have hkk:all.1.zf[i].z0a.length<1000000000:=by have:=all.1.zf[i].z1m;have:=z69 all.1.zf[i].z0a;omega
   have e2:M.q2r all.1.zf[i] [111,112]=some (say all.1.zf[i] kOp):=z47 hkk
   have e3:M.q2r all.1.zf[i] [112,97,116,104]=some (say all.1.zf[i] z3q):=z47 hkk
   have e4:M.q1n all.1.zf[i]=some (!zds all.1.zf[i]):=by
    unfold M.q1n zds
    simp only [e2,e3,Option.bind_eq_bind,Option.bind_some]
    cases (say all.1.zf[i] kOp).2<;>cases (say all.1.zf[i] z3q).2<;>rfl
   rw [M.zo]
   simp only [show ((i:Int)<(all.1.zf.length:Int)) by omega,decide_true,if_true,z4a,List.getElem?_eq_getElem h,Option.bind_eq_bind,Option.bind_some,e4]
  ·rw [M.zo]
   simp
 have hc:M.q4z all.1.zf=some (!all.1.zf.all zds):=by
  unfold M.q4z M.q5g
  rw [hk]
  rcases z5a all.1.zf zds with ⟨h1,h2⟩|⟨i,h1,h2⟩
  ·rw [h1,h2];rfl
  ·rw [h1,h2];simp
 have hk1:∀ (n i:Nat) (acc:List ED),all.1.zf.length - i=n→i≤all.1.zf.length→acc.length≤i→M.z0p all f acc (i:Int)=some (match rdL (all.1.zf.drop i) with | .pan c => .done ([],c) | .ok l => .go (acc++l)):=by
  intro n
  induction n with
  | zero =>
   intro i acc h1 h2 h3
   have:i=all.1.zf.length:=by omega
   subst this
   rw [M.z0p]
   simp [rdL]
  | succ n ih =>
   intro i acc h1 h2 h3
   have hi:i<all.1.zf.length:=by omega
   obtain ⟨x,hx⟩:=ziv (o:=all.1.zf[i]) (by have:=hmm _ (List.getElem_mem hi);omega) hf
   rw [M.z0p,z1y hi]
   simp only [show ((i:Int)<(all.1.zf.length:Int)) by omega,decide_true,if_true,z4a,List.getElem?_eq_getElem hi,Option.bind_eq_bind,Option.bind_some,hx,rdL]
   cases hr:rdE all.1.zf[i] with
   | pan c=>simp [zr1 hr]
   | ok y =>
    simp only [decide_true,Bool.not_true,Bool.false_eq_true,if_false,z9e]
    rw [z3g (by simp only [List.length_cons,List.length_nil];omega)]
    simp only [Option.bind_some]
    rw [w1 (by omega),ih (i+1) _ (by omega) (by omega) (by simp;omega)]
    cases rdL (all.1.zf.drop (i+1)) with
    | pan c=>rfl
    | ok l=>simp
 have hj:(if ((!decide (bad=0))||(!all.2)||(!decide (all.1.za=5)))=true then some true else (M.q4z all.1.zf).bind fun a=>some a:Option Bool)=some ((!decide (bad=0))||(!all.2)||(!decide (all.1.za=5)) || !all.1.zf.all zds):=by
  rw [hc]
  by_cases h:((!decide (bad=0))||(!all.2)||(!decide (all.1.za=5)))=true
  ·rw [if_pos h,h];rfl
  ·rw [if_neg h]
   have:((!decide (bad=0))||(!all.2)||(!decide (all.1.za=5)))=false:=by simpa using h
   rw [this];rfl
 rw [hj]
 simp only [Option.bind_some]
 by_cases h1:¬bad=0∨all.2=false∨¬all.1.za=5∨all.1.zf.all zds=false
 ·have h1':((!decide (bad=0))||(!all.2)||(!decide (all.1.za=5)) || !all.1.zf.all zds)=true:=by
   simp only [Bool.or_eq_true,Bool.not_eq_true',decide_eq_false_iff_not]
   rcases h1 with h|h|h|h
   ·exact .inl (.inl (.inl h))
   ·exact .inl (.inl (.inr h))
   ·exact .inl (.inr h)
   ·exact .inr h
  rw [if_pos h1',if_pos h1]
 ·have h1':¬((!decide (bad=0))||(!all.2)||(!decide (all.1.za=5)) || !all.1.zf.all zds)=true:=by
   simp only [Bool.or_eq_true,Bool.not_eq_true',decide_eq_false_iff_not]
   rintro (((h|h)|h)|h)
   ·exact h1 (.inl h)
   ·exact h1 (.inr (.inl h))
   ·exact h1 (.inr (.inr (.inl h)))
   ·exact h1 (.inr (.inr (.inr h)))
  rw [if_neg h1',if_neg h1]
  by_cases h2:16<all.1.zf.length
  ·have h2':((16:Int)<(all.1.zf.length:Int)):=by omega
   simp [h2,h2']
  ·have h2':¬((16:Int)<(all.1.zf.length:Int)):=by omega
   have h3:=hk1 _ 0 [] rfl (Nat.zero_le _) (Nat.le_refl _)
   have h3':M.z0p all f [] 0=_:=h3
   simp only [h2,h2',decide_false,Bool.false_eq_true,if_false,h3',List.drop_zero,List.nil_append,Option.bind_some]
   cases rdL all.1.zf<;>rfl
/-! What 'fixed' asks. -/
def fx1:EX:=⟨0,[],[],[⟨4,[97],[120],[]⟩,⟨1,[],[],[⟨3,[98],[],[]⟩,⟨2,[],[],[⟨6,[99],[195,169],[]⟩]⟩]⟩]⟩
def fxT:TH:=⟨[55],[],[],[⟨[97],[[120],[121]]⟩]⟩
def fxL:List ED:=[⟨0,[97],false,zE,[[122]]⟩]
def fxM:List ED:=[⟨1,[97],true,⟨3,[118,97,108,117,101],[],[]⟩,[]⟩,⟨1,[97],true,⟨3,[118,97,108,117,101],[],[]⟩,[]⟩]
theorem fx_1:pP [97,32,101,113,32,34,120,34,97,110,100,40,32,98,32,112,114,32,111,114,40,110,111,116,40,99,32,99,111,32,34,92,117,48,48,101,57,34,41,41,32,41]=(fx1,0):=by kernel_rfl
theorem fx_2:prE fx1=([97,32,101,113,32,34,120,34,32,97,110,100,32,40,98,32,112,114,32,111,114,32,110,111,116,32,40,99,32,99,111,32,34,195,169,34,41,41],0):=by kernel_rfl
theorem fx_3:(pP [97]).2=190:=by kernel_rfl
theorem fx_4:pEs [123,34,79,112,101,114,97,116,105,111,110,115,34,58,91,123,34,111,112,34,58,34,97,100,100,34,44,34,112,97,116,104,34,58,34,97,34,44,34,118,97,108,117,101,34,58,91,34,122,34,93,125,93,125]=(fxL,0):=by kernel_rfl
theorem fx_5:zjh fxT=0:=by kernel_rfl
theorem fx_6:z4y fxL=0:=by kernel_rfl
theorem fx_7:z1f fxL (mp0 fxT.ze)=(0,[([97],[[120],[121],[122]])]):=by kernel_rfl
theorem fx_8:z4y fxM=0:=by kernel_rfl
theorem fx_9:(z1f fxM (mp0 fxT.ze)).1=192:=by kernel_rfl
theorem fx_10:mat ⟨4,[97],[121],[]⟩ fxT=true:=by kernel_rfl
theorem z7q {f:Nat} (hf:20000000≤f):M.q1d f=some true:=by
 have h7:apT fxL fxT=(⟨[55],[],[],[⟨[97],[[120],[121],[122]]⟩]⟩,0):=by
  unfold apT
  rw [if_pos fx_5,if_pos fx_6,fx_7]
  simp only [if_true,srt,List.map_cons,List.map_nil,List.mergeSort_singleton]
  rfl
 have h9:(apT fxM fxT).2=192:=by
  unfold apT
  have h:=fx_9
  rw [if_pos fx_5,if_pos fx_8,if_neg (by rw [h];decide)]
  exact h
 have hT:z1b fxT:=by unfold z1b;decide
 unfold M.q1d
 rw [z2w _ (by omega),fx_1]
 simp only [Option.bind_eq_bind,Option.bind_some]
 rw [z3n (e:=fx1) (f:=f) (by have:fx1.sz≤100:=(by decide);omega) (by unfold z0l;decide),fx_2]
 simp only [Option.bind_some]
 rw [z2w _ (by omega)]
 simp only [Option.bind_some]
 rw [z5c _ hf,fx_4]
 simp only [Option.bind_some]
 have e7:=z1s (l:=fxL) (t:=fxT) (f:=f) (by have:z4g fxL≤100:=(by decide);omega) (by decide) hT
 rw [h7] at e7
 have e7':M.q1e f fxL ⟨[55],[],[],[⟨[97],[[120],[121]]⟩]⟩=_:=e7
 rw [e7']
 simp only [Option.bind_some]
 have e9:=z1s (l:=fxM) (t:=fxT) (f:=f) (by have:z4g fxM≤100:=(by decide);omega) (by decide) hT
 have e9':M.q1e f [⟨1,[97],true,⟨3,[118,97,108,117,101],[],[]⟩,[]⟩,⟨1,[97],true,⟨3,[118,97,108,117,101],[],[]⟩,[]⟩] ⟨[55],[],[],[⟨[97],[[120],[121]]⟩]⟩=_:=e9
 rw [e9']
 simp only [Option.bind_some,decide_true,Bool.true_and,fx_3,if_true]
 have e10:=z9p (e:=⟨4,[97],[121],[]⟩) (t:=fxT) (f:=f) (by have:q01.sz ⟨4,[97],[121],[]⟩≤100:=(by decide);omega) (by unfold z0l;decide) hT
 rw [fx_10] at e10
 have e10':M.q1k f ⟨4,[97],[121],[]⟩ ⟨[55],[],[],[⟨[97],[[120],[121]]⟩]⟩=_:=e10
 have e11:=z3m hT
 rw [fx_5] at e11
 have e11':M.q1j ⟨[55],[],[],[⟨[97],[[120],[121]]⟩]⟩=_:=e11
 rw [e10']
 simp [h9,e11',znq]
end Go.Sen
end
section
namespace Go.Sen
open Go.Lk Go.Pe
end Go.Sen
end
