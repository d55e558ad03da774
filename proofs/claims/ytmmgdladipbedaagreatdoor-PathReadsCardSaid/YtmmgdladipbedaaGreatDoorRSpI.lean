import Derived.Test.YtmmgdladipbedaaGreatDoorRSpD
import Derived.Test.YtmmgdladipbedaaGreatDoorRSnK
set_option linter.all false
namespace Go.Sen
open _root_.Option renaming bind_eq_bind → ya, bind_some → yb
open _root_.Bool renaming and_eq_true → yc, false_eq_true → yd, not_eq_true' → ye, not_true → yf, or_eq_true → yg
open _root_.List renaming drop_zero → yh, getElem?_eq_getElem → yi, getElem_mem → yj, length_cons → yk, length_map → yl, length_nil → ym, mem_append → yn, mem_cons → yo, mem_cons_of_mem → yp, mem_cons_self → yq, mem_singleton → yr, nil_append → ys
open _root_.Nat renaming zero_le → yt
open Go.Lk Go.Pe
abbrev MP:=List (List UInt8 × List (List UInt8))
def mp0 (l:List q02):MP:=l.foldl (fun m f=>z3r m f.zk f.zq) []
def z97 (m:MP) (x:ED):Int × MP :=
 let v:=dn x (z3q m x.zk [])
 if v.2=0 then (let m':=if 0<v.1.length then z3r (z7c m x.zk) x.zk v.1 else z7c m x.zk
  if 64<v.1.length∨32<m'.length then (191,[]) else (0,m')) else (v.2,[])
def z48:List ED→MP→Int × MP
 | [],m=>(0,m)
 | x::l,m=>if (z97 m x).1=0 then z48 l (z97 m x).2 else ((z97 m x).1,[])
def srt (m:MP):List q02:=(m.map fun x=>q02.mk x.1 x.2).mergeSort fun x y=>decide (x.zk≤y.zk)
def zT:TH:=⟨[],[],[],[]⟩
def apT (l:List ED) (t:TH):TH × Int:=if zss t=0 then (if zfm l=0 then (if (z48 l (mp0 t.zj)).1=0 then (⟨t.gId,t.zc,t.z7b,srt (z48 l (mp0 t.zj)).2⟩,0) else (zT,(z48 l (mp0 t.zj)).1)) else (zT,zfm l)) else (zT,zss t)
structure Good (m:MP):Prop where
 nd:(m.map (·.1)).Nodup
 sm:∀ x∈m,x.2.length≤64∧∀ v∈x.2,v.length≤128
theorem zbt (k:List UInt8) (v:List (List UInt8)):∀ m:MP,(z3r m k v).map (·.1)=if k∈m.map (·.1) then m.map (·.1) else m.map (·.1)++[k]
 | []=>by simp [z3r]
 | (a,b)::r=>by
  have ih:=zbt k v r
  unfold z3r
  by_cases h:k=a
  ·simp [h]
  ·rw [if_neg h]
   simp only [List.map_cons,ih,yo,h,false_or]
   split<;>simp
theorem zkf {k:List UInt8} {v:List (List UInt8)} {x:List UInt8 × List (List UInt8)}:∀ {m:MP},x∈z3r m k v→x=(k,v)∨x∈m
 | [],h=>by simpa [z3r] using h
 | (a,b)::r,h=>by
  unfold z3r at h
  split at h
  ·rcases yo.1 h with h|h
   ·exact .inl h
   ·exact .inr (yp _ h)
  ·rcases yo.1 h with h|h
   ·exact .inr (by rw [h];exact yq)
   ·rcases zkf h with h|h
    ·exact .inl h
    ·exact .inr (yp _ h)
theorem zei (k:List UInt8):∀ m:MP,(z7c m k).Sublist m
 | []=>List.Sublist.slnil
 | (a,b)::r=>by
  unfold z7c
  split
  ·exact List.sublist_cons_self _ _
  ·exact (zei k r).cons_cons _
theorem zkc {k:List UInt8} {z:List (List UInt8)}:∀ m:MP,z3q m k z=z∨(k,z3q m k z)∈m
 | [] => .inl rfl
 | (a,b)::r=>by
  unfold z3q
  split
  ·rename_i h;exact .inr (by rw [h];exact yq)
  ·rcases zkc (k:=k) (z:=z) r with h|h
   ·exact .inl h
   ·exact .inr (yp _ h)
theorem Good.put {m:MP} (h:Good m) {k:List UInt8} {v:List (List UInt8)} (hv:v.length≤64∧∀ s∈v,s.length≤128):Good (z3r m k v):=by
 refine ⟨?_,fun x hx => ?_⟩
 ·rw [zbt]
  split
  ·exact h.nd
  ·rename_i hn
   rw [List.nodup_append]
   exact ⟨h.nd,by simp,fun a ha b hb=>by rw [yr] at hb;rw [hb];exact fun e=>hn (e▸ha)⟩
 ·rcases zkf hx with rfl|hx
  ·exact hv
  ·exact h.sm x hx
theorem Good.del {m:MP} (h:Good m) (k:List UInt8):Good (z7c m k) :=
 ⟨((zei k m).map _).nodup h.nd,fun x hx=>h.sm x ((zei k m).subset hx)⟩
theorem Good.nil:Good []:=⟨by simp,fun x hx=>by cases hx⟩
theorem Good.get {m:MP} (h:Good m) (k:List UInt8):(z3q m k []).length≤64∧∀ s∈z3q m k [],s.length≤128:=by
 rcases zkc (k:=k) (z:=[]) m with e|e
 ·rw [e];exact ⟨by simp,fun s hs=>by cases hs⟩
 ·exact h.sm _ e
theorem zh6 {l:List (List UInt8)} (h:sgl l=true):l.length≤64∧∀ v∈l,v.length≤128:=by
 unfold sgl at h
 simp only [yc,decide_eq_true_eq,List.all_eq_true] at h
 exact ⟨h.1.1,fun v hv=>zde (h.2 v hv)⟩
theorem zq5 {x:ED} (h:zhg x=true):sgl x.zq=true:=by
 unfold zhg at h
 simp only [yc] at h
 exact h.1.1.2
theorem znb {x:ED} {first:Nat} {v:List UInt8}:∀ {l:List (List UInt8)} {i:Nat},v∈dnL x first i l→v∈l∨v=x.zq.head?.getD []
 | [],_,h=>by simp [dnL] at h
 | a::r,i,h=>by
  simp only [dnL,yn] at h
  rcases h with h|h
  ·split at h
   ·rw [yr] at h;exact .inr h
   ·split at h
    ·rw [yr] at h;exact .inl (by rw [h];exact yq)
    ·cases h
  ·rcases znb h with h|h
   ·exact .inl (yp _ h)
   ·exact .inr h
theorem zq3 {x:ED} {old:List (List UInt8)} (hx:zhg x=true) (ho:∀ s∈old,s.length≤128):∀ s∈(dn x old).1,s.length≤128:=by
 have hv:=(zh6 (zq5 hx)).2
 unfold dn
 split
 ·intro s hs
  rcases yn.1 hs with h|h
  ·exact ho s h
  ·exact hv s (List.mem_filter.1 h).1
 ·split
  ·exact hv
  ·intro s hs;cases hs
  ·intro s hs
   rcases znb hs with h|h
   ·exact ho s h
   ·rw [h]
    cases hvv:x.zq with
    | nil=>simp
    | cons a b=>exact hv a (by rw [hvv];exact yq)
def zel (m:MP) (x:ED) (v:List (List UInt8)):MP:=if 0<v.length then z3r (z7c m x.zk) x.zk v else z7c m x.zk
theorem zl1 (m:MP) (x:ED):z97 m x=if (dn x (z3q m x.zk [])).2=0 then (if 64<(dn x (z3q m x.zk [])).1.length∨32<(zel m x (dn x (z3q m x.zk [])).1).length then (191,[]) else (0,zel m x (dn x (z3q m x.zk [])).1)) else ((dn x (z3q m x.zk [])).2,[]):=rfl
theorem zl2 {m:MP} {x:ED} (h0:(z97 m x).1=0):(dn x (z3q m x.zk [])).2=0∧(dn x (z3q m x.zk [])).1.length≤64∧(zel m x (dn x (z3q m x.zk [])).1).length≤32∧(z97 m x).2=zel m x (dn x (z3q m x.zk [])).1:=by
 rw [zl1] at h0 ⊢
 by_cases h1:(dn x (z3q m x.zk [])).2=0
 ·rw [if_pos h1] at h0 ⊢
  by_cases h2:64<(dn x (z3q m x.zk [])).1.length∨32<(zel m x (dn x (z3q m x.zk [])).1).length
  ·rw [if_pos h2] at h0;cases h0
  ·rw [if_neg h2]
   exact ⟨h1,by omega,by omega,rfl⟩
 ·rw [if_neg h1] at h0
  exact (h1 h0).elim
theorem zdq {m:MP} {x:ED} (h:Good m) (hx:zhg x=true) (h0:(z97 m x).1=0):Good (z97 m x).2:=by
 have hg:=h.get x.zk
 have hd:=zq3 hx hg.2
 obtain ⟨h1,h2,h3,h4⟩:=zl2 h0
 rw [h4]
 unfold zel
 split
 ·exact (h.del _).put ⟨h2,hd⟩
 ·exact h.del _
theorem zdb (x:ED) (l:List ED) (m:MP):z48 (x::l) m=if (z97 m x).1=0 then z48 l (z97 m x).2 else ((z97 m x).1,[]):=rfl
theorem zg1:∀ (l:List ED) (m:MP) (n:Nat),m.length≤n→32≤n→(z48 l m).1=0→(z48 l m).2.length≤n
 | [],m,n,h,_,_=>h
 | x::l,m,n,h,hn,h0=>by
  rw [zdb] at h0 ⊢
  by_cases h1:(z97 m x).1=0
  ·rw [if_pos h1] at h0 ⊢
   obtain ⟨_,_,h3,h4⟩:=zl2 h1
   exact zg1 l _ n (by rw [h4];omega) hn h0
  ·rw [if_neg h1] at h0
   exact (h1 h0).elim
theorem zo9:∀ (l:List q02) (m:MP),(l.foldl (fun m f=>z3r m f.zk f.zq) m).length≤m.length+l.length
 | [],m=>by simp
 | f::l,m=>by
  have h1:=zo9 l (z3r m f.zk f.zq)
  have h2:(z3r m f.zk f.zq).length≤m.length+1:=by
   have:=congrArg List.length (zbt f.zk f.zq m)
   simp only [yl] at this
   rw [this]
   split<;>simp
  simp only [List.foldl_cons,yk]
  omega
theorem zke:∀ (l:List q02) (m:MP),Good m→(∀ f∈l,sgl f.zq=true)→Good (l.foldl (fun m f=>z3r m f.zk f.zq) m)
 | [],m,h,_=>h
 | f::l,m,h,hl=>zke l _ (h.put (zh6 (hl f yq))) fun g hg=>hl g (yp _ hg)
theorem zjn:∀ {l:List q02} {p:Option (List UInt8)},zpz p l=true→∀ f∈l,sgl f.zq=true
 | f::l,p,h,g,hg=>by
  simp only [zpz,yc] at h
  rcases yo.1 hg with rfl|hg
  ·exact h.1.2
  ·exact zjn h.2 g hg
theorem zdc:∀ {l:List ED} {m:MP},Good m→(∀ x∈l,zhg x=true)→(z48 l m).1=0→Good (z48 l m).2
 | [],m,h,_,_=>h
 | x::l,m,h,hl,h0=>by
  unfold z48 at h0 ⊢
  split at h0
  ·rename_i h1
   rw [if_pos h1]
   exact zdc (zdq h (hl x yq) h1) (fun y hy=>hl y (yp _ hy)) h0
  ·rename_i h1
   exact (h1 h0).elim
theorem zfn {l:List (List UInt8)} (h:l.length<1000000000):M.z16 l=some l:=by
 unfold M.z16
 rw [z2z (by rw [decide_eq_true_iff];omega)]
 rfl
theorem zpt {t:TH} (ht:z4y t):∀ (n i:Nat) (m:MP),t.zj.length - i=n→i≤t.zj.length→M.z1o t (i:Int) m=some ((t.zj.drop i).foldl (fun m f=>z3r m f.zk f.zq) m):=by
 obtain ⟨h1,_,_,h4⟩:=ht.parts
 intro n
 induction n with
 | zero =>
  intro i m h2 h3
  have:i=t.zj.length:=by omega
  subst this
  rw [M.z1o]
  simp
 | succ n ih =>
  intro i m h2 h3
  have hi:i<t.zj.length:=by omega
  rw [M.z1o,z2k hi]
  simp only [show ((i:Int)<(t.zj.length:Int)) by omega,decide_true,if_true,z2r,yi hi,ya,yb,zfn (h4 _ (yj hi)).2.1]
  rw [w1 (by omega),ih (i+1) _ (by omega) (by omega)]
  rfl
theorem zpu {l:List ED} {f:Nat} (hf:4*zdz l+17≤f) (hl:zdz l<1000000000) (hok:∀ x∈l,zhg x=true):∀ (n i:Nat) (m:MP),l.length - i=n→i≤l.length→Good m→M.z1p l f (i:Int) m=some (if (z48 (l.drop i) m).1=0 then .go (z48 (l.drop i) m).2 else .done (zT,(z48 (l.drop i) m).1)):=by
 have hlen:l.length≤zdz l:=zf1 (g:=fun x:ED=>x.sz) (fun x=>by unfold q00.sz;omega) l
 have hm:∀ x∈l,x.sz≤zdz l:=fun x hx=>zf2 (g:=fun x:ED=>x.sz) hx
 intro n
 induction n with
 | zero =>
  intro i m h2 h3 hg
  have:i=l.length:=by omega
  subst this
  rw [M.z1p]
  simp [z48]
 | succ n ih =>
  intro i m h2 h3 hg
  have hi:i<l.length:=by omega
  have hxm:=yj hi
  have hsz:=hm _ hxm
  have hgg:=hg.get l[i].zk
  rw [M.z1p,z2k hi]
  simp only [show ((i:Int)<(l.length:Int)) by omega,decide_true,if_true,z2r,yi hi,ya,yb]
  rw [zgq (by omega) (fun v hv=>by have:=hgg.2 v hv;omega) (by omega) (by unfold z7d;omega) (hok _ hxm)]
  simp only [yb]
  have hst:=zl1 m l[i]
  have hfc:=zdb l[i] (l.drop (i+1)) m
  have hgood:(z97 m l[i]).1=0→Good (z97 m l[i]).2:=zdq hg (hok _ hxm)
  generalize dn l[i] (z3q m l[i].zk [])=v at hst ⊢
  by_cases h0:v.2=0
  ·rw [if_pos h0] at hst
   simp only [h0,decide_true,yf,yd,if_false]
   have hj:(if decide ((0:Int)<(v.1.length:Int))=true then some (z3r (z7c m l[i].zk) l[i].zk v.1) else some (z7c m l[i].zk):Option MP)=some (zel m l[i] v.1):=by
    unfold zel
    by_cases hp:0<v.1.length
    ·have:(0:Int)<(v.1.length:Int):=by omega
     simp [hp]
    ·have:¬(0:Int)<(v.1.length:Int):=by omega
     simp [hp]
   rw [hj]
   simp only [yb]
   generalize zel m l[i] v.1=m' at hst ⊢
   by_cases hc:64<v.1.length∨32<m'.length
   ·have hc':((decide ((64:Int)<(v.1.length:Int)))||(decide ((32:Int)<(m'.length:Int))))=true:=by
     simp only [yg,decide_eq_true_eq];omega
    rw [if_pos hc] at hst
    rw [hst] at hfc
    have hfc:z48 (l[i]::l.drop (i+1)) m=(191,[]):=hfc
    rw [if_pos hc',hfc]
    rfl
   ·have hc':¬((decide ((64:Int)<(v.1.length:Int)))||(decide ((32:Int)<(m'.length:Int))))=true:=by
     simp only [yg,decide_eq_true_eq];omega
    rw [if_neg hc] at hst
    rw [if_neg hc']
    rw [hst] at hgood hfc
    have hfc:z48 (l[i]::l.drop (i+1)) m=z48 (l.drop (i+1)) m':=hfc
    rw [w1 (by omega),ih (i+1) m' (by omega) (by omega) (hgood rfl),hfc]
  ·rw [if_neg h0] at hst
   rw [hst] at hfc
   have hfc:z48 (l[i]::l.drop (i+1)) m=(v.2,[]):=hfc.trans (if_neg h0)
   simp only [h0,decide_false,Bool.not_false,if_true,hfc,if_false]
   rfl
theorem z8x {l:List ED} {t:TH} {f:Nat} (hf:4*zdz l+17≤f) (hl:zdz l<1000000000) (ht:z4y t):M.q1e f l t=some (apT l t):=by
 unfold M.q1e apT
 rw [z4m ht]
 simp only [ya,yb]
 by_cases h1:zss t=0
 ·simp only [h1,decide_true,yf,yd,if_false,if_true]
  rw [z8y hf hl]
  simp only [yb]
  by_cases h2:zfm l=0
  ·simp only [h2,decide_true,yf,yd,if_false,if_true]
   have hF:zpz none t.zj=true:=by
    unfold zss at h1
    split at h1
    ·rename_i h;exact h.2
    ·cases h1
   have hok:∀ x∈l,zhg x=true:=by
    unfold zfm at h2
    split at h2
    ·cases h2
    ·split at h2
     ·cases h2
     ·rename_i h;simpa using h
   have hg:Good (mp0 t.zj):=zke t.zj [] .nil (zjn hF)
   have e1:=zpt ht _ 0 [] rfl (yt _)
   have e1':M.z1o t 0 []=some (mp0 t.zj):=e1
   have e2:=zpu hf hl hok _ 0 (mp0 t.zj) rfl (yt _) hg
   have e2':M.z1p l f 0 (mp0 t.zj)=_:=e2
   simp only [e1',e2',yh,yb]
   by_cases h3:(z48 l (mp0 t.zj)).1=0
   ·have hgf:=zdc hg hok h3
    have h5:(mp0 t.zj).length≤t.zj.length:=Nat.le_trans (zo9 t.zj []) (by simp)
    have h6:=zg1 l (mp0 t.zj) (t.zj.length+32) (Nat.le_trans h5 (Nat.le_add_right _ _)) (by omega) h3
    have h7:=ht.parts.1
    obtain ⟨q,hq⟩:∃ q,(z48 l (mp0 t.zj)).2.length=q:=⟨_,rfl⟩
    have hml:q<2000000000:=by
     have:q≤t.zj.length+32:=hq▸h6
     omega
    rw [if_pos h3,if_pos h3]
    simp only
    rw [zqm]
    rw [if_pos (.inr (by rw [ym,hq];omega))]
    unfold M.q5t
    rw [z2z]
    ·rfl
    ·simp only [ys,yl,List.map_map,yc,decide_eq_true_eq]
     exact ⟨by rw [hq];omega,hgf.nd⟩
   ·rw [if_neg h3,if_neg h3]
  ·simp [h2,zT]
 ·simp [h1,zT]
def say (v:J) (k:List UInt8):List UInt8 × Bool:=((z8u v k).1.z0r,(z8u v k).2&&decide ((z8u v k).1.zc=4))
theorem z3n {v:J} {k:List UInt8} (h:v.z0m.length<1000000000):M.q2t v k=some (say v k):=by
 unfold M.q2t say
 rw [z4t h]
 rfl
def zq2 (s:List UInt8):List UInt8 × Bool:=if ([93]:List UInt8).isSuffixOf s then (s.take (s.length - 1),true) else (s,false)
theorem zfs {s:List UInt8} (h:s.length<1000000000):M.q5z s [93]=some (zq2 s):=by
 have hs:=za1 (s:=s) (p:=[93]) (by omega)
 unfold M.q61 at hs
 unfold M.q5z M.q0f zq2
 cases h1:M.q0h s [93] with
 | none=>rw [h1] at hs;cases hs
 | some b =>
  rw [h1] at hs
  simp only [ya,yb,Option.some.injEq] at hs
  subst hs
  cases hb:([93]:List UInt8).isSuffixOf s with
  | false=>simp
  | true =>
   have hl:=(List.isSuffixOf_iff_suffix.1 hb).length_le
   simp only [yk,ym] at hl
   have e:IntKind.wrap .i64 ((s.length:Int) - (([93]:List UInt8).length:Int))=((s.length - 1:Nat):Int):=by
    simp only [yk,ym]
    rw [w64]<;>omega
   simp only [ya,yb,yf,yd,if_false,e,if_true]
   rw [zmc (by omega)]
   rfl
def kOp:List UInt8:=[111,112]
def z5p:List UInt8:=[112,97,116,104]
def z30:List UInt8:=[118,97,108,117,101]
def zxb:List UInt8:=[79,112,101,114,97,116,105,111,110,115]
def opW:List (List UInt8):=[[97,100,100],[114,101,109,111,118,101],[114,101,112,108,97,99,101]]
def zxi (s:List UInt8):Int:=match opW.findIdx? (fun x=>decide (s=x)) with
 | some i=>(i:Int)
 | none => -1
def z6j (p:List UInt8):EX × Int:=if (Lib.cut p [91]).2.2=true then pP (zq2 (Lib.cut p [91]).2.1).1 else (zE,0)
def z62 (o:J):List (List UInt8) × Bool:=if (z8u o z30).1.zc=4 then ([(z8u o z30).1.z0r],true) else if (z8u o z30).2=true then zcb (z8u o z30).1 else ([],true)
def rdE (o:J):Rs ED :=
 let op:=zxi (say o kOp).1
 let c:=Lib.cut (say o z5p).1 [91]
 if op<0∨isName c.1=false∨c.2.2=true∧(zq2 c.2.1).2=false then .pan 190 else
 if (z6j (say o z5p).1).2≠0 then .pan (z6j (say o z5p).1).2 else
 if (z8u o z30).2=decide (op=1) then .pan 190 else
 if (z62 o).2=false then .pan 190 else
 if zhg ⟨op,c.1,c.2.2,(z6j (say o z5p).1).1,(z62 o).1⟩=false then .pan 194 else .ok ⟨op,c.1,c.2.2,(z6j (say o z5p).1).1,(z62 o).1⟩
theorem zqi (s:List UInt8):M.q5s opW s=some (zxi s):=by
 unfold M.q5s zxi
 rw [zg6 (by decide)]
 cases opW.findIdx? (fun x=>decide (s=x))<;>rfl
theorem zv9 (p q:List UInt8):(Lib.cut p q).1.length≤p.length∧(Lib.cut p q).2.1.length≤p.length:=by
 unfold Lib.cut
 split
 ·exact ⟨by simp only [List.length_take];omega,by simp only [List.length_drop];omega⟩
 ·exact ⟨Nat.le_refl _,by simp⟩
theorem ztx (v:J) (k:List UInt8):(say v k).1.length≤v.sz:=by
 have h1:=zej v k
 have h2:=(z8u v k).1.z2c
 unfold say
 simp only
 omega
theorem zhb:∀ {l:List J} {r:List (List UInt8)},texts l=some r→kys r≤szs l
 | [],r,h=>by simp only [texts,Option.some.injEq] at h;subst h;simp [kys,szs]
 | x::l,r,h=>by
  unfold texts at h
  split at h
  ·cases ht:texts l with
   | none=>rw [ht] at h;cases h
   | some q =>
    rw [ht] at h
    simp only [Option.map_some,Option.some.injEq] at h
    subst h
    have:=zhb ht
    have h2:=x.z2c
    rw [z3t]
    simp only [szs]
    omega
  ·cases h
theorem zm5 (o:J):kys (z62 o).1≤o.sz:=by
 have h1:=zej o z30
 have h2:=(z8u o z30).1.z2c
 unfold z62
 split
 ·rw [z3t,z7x];omega
 ·split
  ·unfold zcb
   split
   ·split
    ·rename_i l hl
     have:=zhb hl
     simp only
     omega
    ·simp [kys]
   ·simp [kys]
  ·simp [kys]
theorem zgr {o:J} {f:Nat} (ho:o.sz≤1000000) (hf:20000000≤f):∃ x,M.q2g f o=some (match rdE o with | .ok x=>(x,0) | .pan c=>(x,c)):=by
 have hk:o.z0m.length<1000000000:=by have:=o.z2c;have:=z5q o.z0m;omega
 have hms:=zej o z30
 have hmz:=(z8u o z30).1.z2c
 have hml:=zca (z8u o z30).1.ze
 have hmk:=z5q (z8u o z30).1.z0m
 have hkys:=zm5 o
 have hpl:=ztx o z5p
 obtain ⟨hc1,hc2⟩:=zv9 (say o z5p).1 [91]
 have hcut:M.cut (say o z5p).1 [91]=some (Lib.cut (say o z5p).1 [91]):=by
  unfold M.cut
  rw [z2z (by rw [decide_eq_true_iff];omega)]
  rfl
 have hws:(z6j (say o z5p).1).1.sz≤204801:=by
  unfold z6j
  split
  ·exact zw9 _
  ·decide
 have hop:M.q2e=some opW:=rfl
 unfold M.q2g rdE
 have e1:M.q2t o [111,112]=some (say o kOp):=z3n hk
 have e2:M.q2t o [112,97,116,104]=some (say o z5p):=z3n hk
 have e3:M.q0j o [118,97,108,117,101]=some (z8u o z30):=z4t hk
 simp only [e1,e2,e3,hop,ya,yb,zqi,hcut]
 rw [zfs (by omega)]
 simp only [yb,z3p]
 generalize hso:zxi (say o kOp).1=op
 have hwh:z6j (say o z5p).1=if (Lib.cut (say o z5p).1 [91]).2.2=true then pP (zq2 (Lib.cut (say o z5p).1 [91]).2.1).1 else (zE,0):=rfl
 generalize hcc:Lib.cut (say o z5p).1 [91]=c at hc1 hc2 hwh ⊢
 generalize z6j (say o z5p).1=wh at hwh hws ⊢
 have hj:(if decide (op<0)=true then some true else some (!isName c.1):Option Bool)=some (decide (op<0) || !isName c.1):=by
  by_cases h:op<0<;>simp [h]
 rw [hj]
 simp only [yb]
 by_cases h1:op<0∨isName c.1=false∨c.2.2=true∧(zq2 c.2.1).2=false
 ·have h1':((decide (op<0) || !isName c.1)||(c.2.2 && !(zq2 c.2.1).2))=true:=by
   simp only [yg,decide_eq_true_eq,ye,yc]
   rcases h1 with h|h|h
   ·exact .inl (.inl h)
   ·exact .inl (.inr h)
   ·exact .inr h
  rw [if_pos h1',if_pos h1]
  exact ⟨_,rfl⟩
 ·have h1':¬((decide (op<0) || !isName c.1)||(c.2.2 && !(zq2 c.2.1).2))=true:=by
   simp only [yg,decide_eq_true_eq,ye,yc]
   rintro ((h|h)|h)
   ·exact h1 (.inl h)
   ·exact h1 (.inr (.inl h))
   ·exact h1 (.inr (.inr h))
  rw [if_neg h1',if_neg h1]
  have hq:(if c.2.2=true then (M.q1m f (zq2 c.2.1).1).bind fun a_40=>if (!decide (a_40.2=0))=true then some (Jn.done (q00.mk op c.1 c.2.2 a_40.1 [],a_40.2)) else some (Jn.go (a_40.1.zc,a_40.1.zk,a_40.1.z06,a_40.1.ze)) else some (Jn.go (0,([]:List UInt8),([]:List UInt8),([]:List EX))):Option (Jn (q00 × Int) (Int × (List UInt8) × (List UInt8) × (List EX)))) =
    some (if wh.2=0 then Jn.go (wh.1.zc,wh.1.zk,wh.1.z06,wh.1.ze) else Jn.done (q00.mk op c.1 c.2.2 wh.1 [],wh.2)):=by
   by_cases hs:c.2.2=true
   ·rw [if_pos hs,z3w _ (by omega)]
    rw [if_pos hs] at hwh
    rw [←hwh]
    simp only [yb]
    by_cases h0:wh.2=0
    ·simp [h0]
    ·simp [h0]
   ·rw [if_neg hs]
    rw [if_neg hs] at hwh
    rw [hwh]
    rfl
  rw [hq]
  simp only [yb]
  by_cases h2:wh.2=0
  ·rw [if_pos h2,if_neg (by simp [h2])]
   simp only [z4l]
   by_cases h3:(z8u o z30).2=decide (op=1)
   ·rw [if_pos (by simpa using h3),if_pos h3]
    exact ⟨_,rfl⟩
   ·rw [if_neg (by simpa using h3),if_neg h3]
    have hq2:(if decide ((z8u o z30).1.zc=4)=true then some (Jn.go [(z8u o z30).1.z0r]) else if (z8u o z30).2=true then (M.q0m (z8u o z30).1).bind fun a_50=>if (!a_50.2)=true then some (Jn.done (q00.mk op c.1 c.2.2 wh.1 a_50.1,(190:Int))) else some (Jn.go a_50.1) else some (Jn.go []):Option (Jn (q00 × Int) (List (List UInt8)))) =
      some (if (z62 o).2=true then Jn.go (z62 o).1 else Jn.done (q00.mk op c.1 c.2.2 wh.1 (z62 o).1,190)):=by
     unfold z62
     by_cases h4:(z8u o z30).1.zc=4
     ·simp [h4]
     ·simp only [h4,decide_false,yd,if_false]
      by_cases h5:(z8u o z30).2=true
      ·rw [if_pos h5,if_pos h5,zea (by omega)]
       simp only [yb]
       cases (zcb (z8u o z30).1).2<;>rfl
      ·rw [if_neg h5,if_neg h5]
       rfl
    rw [hq2]
    simp only [yb]
    cases h4:(z62 o).2 with
    | false =>
     simp only [yd,if_false,if_true]
     exact ⟨_,rfl⟩
    | true =>
     simp only [if_true,Bool.true_eq_false,if_false]
     have hsz:q00.sz ⟨op,c.1,c.2.2,wh.1,(z62 o).1⟩≤4000000:=by
      unfold q00.sz
      simp only
      omega
     rw [za8 (by omega) (by unfold z7d;omega)]
     simp only [yb]
     cases h5:zhg ⟨op,c.1,c.2.2,wh.1,(z62 o).1⟩ with
     | false=>exact ⟨_,rfl⟩
     | true=>exact ⟨⟨0,[],false,zE,[]⟩,rfl⟩
  ·rw [if_neg h2,if_pos h2]
   exact ⟨_,rfl⟩
def rdL:List J→Rs (List ED)
 | [] => .ok []
 | o::l=>match rdE o with
  | .pan c => .pan c
  | .ok x=>match rdL l with
   | .pan c => .pan c
   | .ok xs => .ok (x::xs)
def zch (o:J):Bool:=(say o kOp).2&&(say o z5p).2
def pEs (s:List UInt8):List ED × Int :=
 let v:=parse s
 let all:=z8u v.1 zxb
 if ¬v.2=0∨all.2=false∨¬all.1.zc=5∨all.1.ze.all zch=false then ([],190) else
 if 16<all.1.ze.length then ([],191) else match rdL all.1.ze with
  | .pan c=>([],c)
  | .ok l=>(l,0)
theorem ztu {o:J} {c:Int} (h:rdE o = .pan c):¬c=0:=by
 unfold rdE at h
 simp only at h
 split at h
 ·cases h;decide
 ·split at h
  ·rename_i h2;cases h;exact h2
  ·split at h
   ·cases h;decide
   ·split at h
    ·cases h;decide
    ·split at h
     ·cases h;decide
     ·cases h
theorem z8z (s:List UInt8) {f:Nat} (hf:20000000≤f):M.q1n f s=some (pEs s):=by
 have hps:=zr3 s
 have hpz:=(parse s).1.z2c
 have hpk:=z5q (parse s).1.z0m
 unfold M.q1n pEs
 have e1:∀ v:J,v.sz≤131072→M.q0j v [79,112,101,114,97,116,105,111,110,115]=some (z8u v zxb):=fun v hv=>z4t (by have:=v.z2c;have:=z5q v.z0m;omega)
 rw [z8q s (by omega)]
 simp only [ya,yb,e1 _ hps]
 have hms:=zej (parse s).1 zxb
 generalize (parse s).2=bad
 generalize z8u (parse s).1 zxb=all at hms ⊢
 have haz:=all.1.z2c
 have hal:=zca all.1.ze
 have hmm:∀ x∈all.1.ze,x.sz≤131072:=fun x hx=>by have:=zf3 hx;omega
 have hk:M.zn all.1.ze 0=some (match all.1.ze.findIdx? (fun x => !zch x) with|some i => .done (i:Int)|none => .go ()):=by
  refine zh1 (fun i:Nat=>(i:Int)) () (by omega) (fun i h => ?_) ?_
  ·have h1:=hmm _ (yj h)
   have hkk:all.1.ze[i].z0m.length<1000000000:=by have:=all.1.ze[i].z2c;have:=z5q all.1.ze[i].z0m;omega
   have e2:M.q2t all.1.ze[i] [111,112]=some (say all.1.ze[i] kOp):=z3n hkk
   have e3:M.q2t all.1.ze[i] [112,97,116,104]=some (say all.1.ze[i] z5p):=z3n hkk
   have e4:M.q1o all.1.ze[i]=some (!zch all.1.ze[i]):=by
    unfold M.q1o zch
    simp only [e2,e3,ya,yb]
    cases (say all.1.ze[i] kOp).2<;>cases (say all.1.ze[i] z5p).2<;>rfl
   rw [M.zn]
   simp only [show ((i:Int)<(all.1.ze.length:Int)) by omega,decide_true,if_true,z2r,yi h,ya,yb,e4]
  ·rw [M.zn]
   simp
 have hc:M.q56 all.1.ze=some (!all.1.ze.all zch):=by
  unfold M.q56 M.q5l
  rw [hk]
  rcases z6t all.1.ze zch with ⟨h1,h2⟩|⟨i,h1,h2⟩
  ·rw [h1,h2];rfl
  ·rw [h1,h2];simp
 have hk1:∀ (n i:Nat) (acc:List ED),all.1.ze.length - i=n→i≤all.1.ze.length→acc.length≤i→M.z0x all f acc (i:Int)=some (match rdL (all.1.ze.drop i) with | .pan c => .done ([],c) | .ok l => .go (acc++l)):=by
  intro n
  induction n with
  | zero =>
   intro i acc h1 h2 h3
   have:i=all.1.ze.length:=by omega
   subst this
   rw [M.z0x]
   simp [rdL]
  | succ n ih =>
   intro i acc h1 h2 h3
   have hi:i<all.1.ze.length:=by omega
   obtain ⟨x,hx⟩:=zgr (o:=all.1.ze[i]) (by have:=hmm _ (yj hi);omega) hf
   rw [M.z0x,z2k hi]
   simp only [show ((i:Int)<(all.1.ze.length:Int)) by omega,decide_true,if_true,z2r,yi hi,ya,yb,hx,rdL]
   cases hr:rdE all.1.ze[i] with
   | pan c=>simp [ztu hr]
   | ok y =>
    simp only [decide_true,yf,yd,if_false,z4l]
    rw [z1v (by simp only [yk,ym];omega)]
    simp only [yb]
    rw [w1 (by omega),ih (i+1) _ (by omega) (by omega) (by simp;omega)]
    cases rdL (all.1.ze.drop (i+1)) with
    | pan c=>rfl
    | ok l=>simp
 have hj:(if ((!decide (bad=0))||(!all.2)||(!decide (all.1.zc=5)))=true then some true else (M.q56 all.1.ze).bind fun a=>some a:Option Bool)=some ((!decide (bad=0))||(!all.2)||(!decide (all.1.zc=5)) || !all.1.ze.all zch):=by
  rw [hc]
  by_cases h:((!decide (bad=0))||(!all.2)||(!decide (all.1.zc=5)))=true
  ·rw [if_pos h,h];rfl
  ·rw [if_neg h]
   have:((!decide (bad=0))||(!all.2)||(!decide (all.1.zc=5)))=false:=by simpa using h
   rw [this];rfl
 rw [hj]
 simp only [yb]
 by_cases h1:¬bad=0∨all.2=false∨¬all.1.zc=5∨all.1.ze.all zch=false
 ·have h1':((!decide (bad=0))||(!all.2)||(!decide (all.1.zc=5)) || !all.1.ze.all zch)=true:=by
   simp only [yg,ye,decide_eq_false_iff_not]
   rcases h1 with h|h|h|h
   ·exact .inl (.inl (.inl h))
   ·exact .inl (.inl (.inr h))
   ·exact .inl (.inr h)
   ·exact .inr h
  rw [if_pos h1',if_pos h1]
 ·have h1':¬((!decide (bad=0))||(!all.2)||(!decide (all.1.zc=5)) || !all.1.ze.all zch)=true:=by
   simp only [yg,ye,decide_eq_false_iff_not]
   rintro (((h|h)|h)|h)
   ·exact h1 (.inl h)
   ·exact h1 (.inr (.inl h))
   ·exact h1 (.inr (.inr (.inl h)))
   ·exact h1 (.inr (.inr (.inr h)))
  rw [if_neg h1',if_neg h1]
  by_cases h2:16<all.1.ze.length
  ·have h2':((16:Int)<(all.1.ze.length:Int)):=by omega
   simp [h2,h2']
  ·have h2':¬((16:Int)<(all.1.ze.length:Int)):=by omega
   have h3:=hk1 _ 0 [] rfl (yt _) (Nat.le_refl _)
   have h3':M.z0x all f [] 0=_:=h3
   simp only [h2,h2',decide_false,yd,if_false,h3',yh,ys,yb]
   cases rdL all.1.ze<;>rfl
def fx1:EX:=⟨0,[],[],[⟨4,[97],[120],[]⟩,⟨1,[],[],[⟨3,[98],[],[]⟩,⟨2,[],[],[⟨6,[99],[195,169],[]⟩]⟩]⟩]⟩
def fxT:TH:=⟨[55],[],[],[⟨[97],[[120],[121]]⟩]⟩
def fxL:List ED:=[⟨0,[97],false,zE,[[122]]⟩]
def fxM:List ED:=[⟨1,[97],true,⟨3,[118,97,108,117,101],[],[]⟩,[]⟩,⟨1,[97],true,⟨3,[118,97,108,117,101],[],[]⟩,[]⟩]
theorem zzo:pP [97,32,101,113,32,34,120,34,97,110,100,40,32,98,32,112,114,32,111,114,40,110,111,116,40,99,32,99,111,32,34,92,117,48,48,101,57,34,41,41,32,41]=(fx1,0):=by kernel_rfl
theorem zzp:prE fx1=([97,32,101,113,32,34,120,34,32,97,110,100,32,40,98,32,112,114,32,111,114,32,110,111,116,32,40,99,32,99,111,32,34,195,169,34,41,41],0):=by kernel_rfl
theorem zzq:(pP [97]).2=190:=by kernel_rfl
theorem zzr:pEs [123,34,79,112,101,114,97,116,105,111,110,115,34,58,91,123,34,111,112,34,58,34,97,100,100,34,44,34,112,97,116,104,34,58,34,97,34,44,34,118,97,108,117,101,34,58,91,34,122,34,93,125,93,125]=(fxL,0):=by kernel_rfl
theorem zy8:zss fxT=0:=by kernel_rfl
theorem zzs:zfm fxL=0:=by kernel_rfl
theorem zzt:z48 fxL (mp0 fxT.zj)=(0,[([97],[[120],[121],[122]])]):=by kernel_rfl
theorem zzu:zfm fxM=0:=by kernel_rfl
theorem zzv:(z48 fxM (mp0 fxT.zj)).1=192:=by kernel_rfl
theorem zy7:mat ⟨4,[97],[121],[]⟩ fxT=true:=by kernel_rfl
theorem zk0 {f:Nat} (hf:20000000≤f):M.q1d f=some true:=by
 have h7:apT fxL fxT=(⟨[55],[],[],[⟨[97],[[120],[121],[122]]⟩]⟩,0):=by
  unfold apT
  rw [if_pos zy8,if_pos zzs,zzt]
  simp only [if_true,srt,List.map_cons,List.map_nil,List.mergeSort_singleton]
  rfl
 have h9:(apT fxM fxT).2=192:=by
  unfold apT
  have h:=zzv
  rw [if_pos zy8,if_pos zzu,if_neg (by rw [h];decide)]
  exact h
 have hT:z4y fxT:=by unfold z4y;decide
 unfold M.q1d
 rw [z3w _ (by omega),zzo]
 simp only [ya,yb]
 rw [z90 (e:=fx1) (f:=f) (by have:fx1.sz≤100:=(by decide);omega) (by unfold z15;decide),zzp]
 simp only [yb]
 rw [z3w _ (by omega)]
 simp only [yb]
 rw [z8z _ hf,zzr]
 simp only [yb]
 have e7:=z8x (l:=fxL) (t:=fxT) (f:=f) (by have:zdz fxL≤100:=(by decide);omega) (by decide) hT
 rw [h7] at e7
 have e7':M.q1e f fxL ⟨[55],[],[],[⟨[97],[[120],[121]]⟩]⟩=_:=e7
 rw [e7']
 simp only [yb]
 have e9:=z8x (l:=fxM) (t:=fxT) (f:=f) (by have:zdz fxM≤100:=(by decide);omega) (by decide) hT
 have e9':M.q1e f [⟨1,[97],true,⟨3,[118,97,108,117,101],[],[]⟩,[]⟩,⟨1,[97],true,⟨3,[118,97,108,117,101],[],[]⟩,[]⟩] ⟨[55],[],[],[⟨[97],[[120],[121]]⟩]⟩=_:=e9
 rw [e9']
 simp only [yb,decide_true,Bool.true_and,zzq,if_true]
 have e10:=zep (e:=⟨4,[97],[121],[]⟩) (t:=fxT) (f:=f) (by have:q01.sz ⟨4,[97],[121],[]⟩≤100:=(by decide);omega) (by unfold z15;decide) hT
 rw [zy7] at e10
 have e10':M.q1l f ⟨4,[97],[121],[]⟩ ⟨[55],[],[],[⟨[97],[[120],[121]]⟩]⟩=_:=e10
 have e11:=z4m hT
 rw [zy8] at e11
 have e11':M.q1k ⟨[55],[],[],[⟨[97],[[120],[121]]⟩]⟩=_:=e11
 rw [e10']
 simp [h9,e11',zlt]
end Go.Sen
