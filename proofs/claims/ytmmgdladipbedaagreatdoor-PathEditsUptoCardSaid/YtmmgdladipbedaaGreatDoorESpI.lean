import Derived.Test.YtmmgdladipbedaaGreatDoorESpD
import Derived.Test.YtmmgdladipbedaaGreatDoorESnK
set_option linter.all false
namespace Go.Sen
open _root_.Option renaming bind_eq_bind → ya, bind_some → yb
open _root_.Bool renaming and_eq_true → yc, false_eq_true → yd, not_eq_true' → ye, not_true → yf, or_eq_true → yg
open _root_.List renaming drop_zero → yh, getElem?_eq_getElem → yi, getElem_mem → yj, length_cons → yk, length_map → yl, length_nil → ym, mem_append → yn, mem_cons → yo, mem_cons_of_mem → yp, mem_cons_self → yq, mem_singleton → yr, nil_append → ys
open _root_.Nat renaming zero_le → yt
open Go.Lk Go.Pe
abbrev MP:=List (List UInt8 × List (List UInt8))
def mp0 (l:List q02):MP:=l.foldl (fun m f=>z4v m f.zi f.zf) []
def zai (m:MP) (x:ED):Int × MP :=
 let v:=dn x (z4u m x.zi [])
 if v.2=0 then (let m':=if 0<v.1.length then z4v (z8n m x.zi) x.zi v.1 else z8n m x.zi
  if 64<v.1.length∨32<m'.length then (191,[]) else (0,m')) else (v.2,[])
def z5g:List ED→MP→Int × MP
 | [],m=>(0,m)
 | x::l,m=>if (zai m x).1=0 then z5g l (zai m x).2 else ((zai m x).1,[])
def srt (m:MP):List q02:=(m.map fun x=>q02.mk x.1 x.2).mergeSort fun x y=>decide (x.zi≤y.zi)
def zT:TH:=⟨[],[],[],[]⟩
def apT (l:List ED) (t:TH):TH × Int:=if zv7 t=0 then (if z7m l=0 then (if (z5g l (mp0 t.zl)).1=0 then (⟨t.gId,t.zb,t.z8m,srt (z5g l (mp0 t.zl)).2⟩,0) else (zT,(z5g l (mp0 t.zl)).1)) else (zT,z7m l)) else (zT,zv7 t)
structure Good (m:MP):Prop where
 nd:(m.map (·.1)).Nodup
 sm:∀ x∈m,x.2.length≤64∧∀ v∈x.2,v.length≤128
theorem zdk (k:List UInt8) (v:List (List UInt8)):∀ m:MP,(z4v m k v).map (·.1)=if k∈m.map (·.1) then m.map (·.1) else m.map (·.1)++[k]
 | []=>by simp [z4v]
 | (a,b)::r=>by
  have ih:=zdk k v r
  unfold z4v
  by_cases h:k=a
  ·simp [h]
  ·rw [if_neg h]
   simp only [List.map_cons,ih,yo,h,false_or]
   split<;>simp
theorem zm2 {k:List UInt8} {v:List (List UInt8)} {x:List UInt8 × List (List UInt8)}:∀ {m:MP},x∈z4v m k v→x=(k,v)∨x∈m
 | [],h=>by simpa [z4v] using h
 | (a,b)::r,h=>by
  unfold z4v at h
  split at h
  ·rcases yo.1 h with h|h
   ·exact .inl h
   ·exact .inr (yp _ h)
  ·rcases yo.1 h with h|h
   ·exact .inr (by rw [h];exact yq)
   ·rcases zm2 h with h|h
    ·exact .inl h
    ·exact .inr (yp _ h)
theorem zg7 (k:List UInt8):∀ m:MP,(z8n m k).Sublist m
 | []=>List.Sublist.slnil
 | (a,b)::r=>by
  unfold z8n
  split
  ·exact List.sublist_cons_self _ _
  ·exact (zg7 k r).cons_cons _
theorem zlz {k:List UInt8} {z:List (List UInt8)}:∀ m:MP,z4u m k z=z∨(k,z4u m k z)∈m
 | [] => .inl rfl
 | (a,b)::r=>by
  unfold z4u
  split
  ·rename_i h;exact .inr (by rw [h];exact yq)
  ·rcases zlz (k:=k) (z:=z) r with h|h
   ·exact .inl h
   ·exact .inr (yp _ h)
theorem Good.put {m:MP} (h:Good m) {k:List UInt8} {v:List (List UInt8)} (hv:v.length≤64∧∀ s∈v,s.length≤128):Good (z4v m k v):=by
 refine ⟨?_,fun x hx => ?_⟩
 ·rw [zdk]
  split
  ·exact h.nd
  ·rename_i hn
   rw [List.nodup_append]
   exact ⟨h.nd,by simp,fun a ha b hb=>by rw [yr] at hb;rw [hb];exact fun e=>hn (e▸ha)⟩
 ·rcases zm2 hx with rfl|hx
  ·exact hv
  ·exact h.sm x hx
theorem Good.del {m:MP} (h:Good m) (k:List UInt8):Good (z8n m k) :=
 ⟨((zg7 k m).map _).nodup h.nd,fun x hx=>h.sm x ((zg7 k m).subset hx)⟩
theorem Good.nil:Good []:=⟨by simp,fun x hx=>by cases hx⟩
theorem Good.get {m:MP} (h:Good m) (k:List UInt8):(z4u m k []).length≤64∧∀ s∈z4u m k [],s.length≤128:=by
 rcases zlz (k:=k) (z:=[]) m with e|e
 ·rw [e];exact ⟨by simp,fun s hs=>by cases hs⟩
 ·exact h.sm _ e
theorem zah {l:List (List UInt8)} (h:sgl l=true):l.length≤64∧∀ v∈l,v.length≤128:=by
 unfold sgl at h
 simp only [yc,decide_eq_true_eq,List.all_eq_true] at h
 exact ⟨h.1.1,fun v hv=>zf3 (h.2 v hv)⟩
theorem zft {x:ED} (h:z6q x=true):sgl x.zf=true:=by
 unfold z6q at h
 simp only [yc] at h
 exact h.1.1.2
theorem zp0 {x:ED} {first:Nat} {v:List UInt8}:∀ {l:List (List UInt8)} {i:Nat},v∈dnL x first i l→v∈l∨v=x.zf.head?.getD []
 | [],_,h=>by simp [dnL] at h
 | a::r,i,h=>by
  simp only [dnL,yn] at h
  rcases h with h|h
  ·split at h
   ·rw [yr] at h;exact .inr h
   ·split at h
    ·rw [yr] at h;exact .inl (by rw [h];exact yq)
    ·cases h
  ·rcases zp0 h with h|h
   ·exact .inl (yp _ h)
   ·exact .inr h
theorem zsa {x:ED} {old:List (List UInt8)} (hx:z6q x=true) (ho:∀ s∈old,s.length≤128):∀ s∈(dn x old).1,s.length≤128:=by
 have hv:=(zah (zft hx)).2
 unfold dn
 split
 ·intro s hs
  rcases yn.1 hs with h|h
  ·exact ho s h
  ·exact hv s (List.mem_filter.1 h).1
 ·split
  ·exact hv
  ·intro s hs;cases hs
  ·intro s hs
   rcases zp0 hs with h|h
   ·exact ho s h
   ·rw [h]
    cases hvv:x.zf with
    | nil=>simp
    | cons a b=>exact hv a (by rw [hvv];exact yq)
def zg9 (m:MP) (x:ED) (v:List (List UInt8)):MP:=if 0<v.length then z4v (z8n m x.zi) x.zi v else z8n m x.zi
theorem zmp (m:MP) (x:ED):zai m x=if (dn x (z4u m x.zi [])).2=0 then (if 64<(dn x (z4u m x.zi [])).1.length∨32<(zg9 m x (dn x (z4u m x.zi [])).1).length then (191,[]) else (0,zg9 m x (dn x (z4u m x.zi [])).1)) else ((dn x (z4u m x.zi [])).2,[]):=rfl
theorem zmq {m:MP} {x:ED} (h0:(zai m x).1=0):(dn x (z4u m x.zi [])).2=0∧(dn x (z4u m x.zi [])).1.length≤64∧(zg9 m x (dn x (z4u m x.zi [])).1).length≤32∧(zai m x).2=zg9 m x (dn x (z4u m x.zi [])).1:=by
 rw [zmp] at h0 ⊢
 by_cases h1:(dn x (z4u m x.zi [])).2=0
 ·rw [if_pos h1] at h0 ⊢
  by_cases h2:64<(dn x (z4u m x.zi [])).1.length∨32<(zg9 m x (dn x (z4u m x.zi [])).1).length
  ·rw [if_pos h2] at h0;cases h0
  ·rw [if_neg h2]
   exact ⟨h1,by omega,by omega,rfl⟩
 ·rw [if_neg h1] at h0
  exact (h1 h0).elim
theorem zfh {m:MP} {x:ED} (h:Good m) (hx:z6q x=true) (h0:(zai m x).1=0):Good (zai m x).2:=by
 have hg:=h.get x.zi
 have hd:=zsa hx hg.2
 obtain ⟨h1,h2,h3,h4⟩:=zmq h0
 rw [h4]
 unfold zg9
 split
 ·exact (h.del _).put ⟨h2,hd⟩
 ·exact h.del _
theorem zf0 (x:ED) (l:List ED) (m:MP):z5g (x::l) m=if (zai m x).1=0 then z5g l (zai m x).2 else ((zai m x).1,[]):=rfl
theorem zhr:∀ (l:List ED) (m:MP) (n:Nat),m.length≤n→32≤n→(z5g l m).1=0→(z5g l m).2.length≤n
 | [],m,n,h,_,_=>h
 | x::l,m,n,h,hn,h0=>by
  rw [zf0] at h0 ⊢
  by_cases h1:(zai m x).1=0
  ·rw [if_pos h1] at h0 ⊢
   obtain ⟨_,_,h3,h4⟩:=zmq h1
   exact zhr l _ n (by rw [h4];omega) hn h0
  ·rw [if_neg h1] at h0
   exact (h1 h0).elim
theorem zpz:∀ (l:List q02) (m:MP),(l.foldl (fun m f=>z4v m f.zi f.zf) m).length≤m.length+l.length
 | [],m=>by simp
 | f::l,m=>by
  have h1:=zpz l (z4v m f.zi f.zf)
  have h2:(z4v m f.zi f.zf).length≤m.length+1:=by
   have:=congrArg List.length (zdk f.zi f.zf m)
   simp only [yl] at this
   rw [this]
   split<;>simp
  simp only [List.foldl_cons,yk]
  omega
theorem zm1:∀ (l:List q02) (m:MP),Good m→(∀ f∈l,sgl f.zf=true)→Good (l.foldl (fun m f=>z4v m f.zi f.zf) m)
 | [],m,h,_=>h
 | f::l,m,h,hl=>zm1 l _ (h.put (zah (hl f yq))) fun g hg=>hl g (yp _ hg)
theorem zlb:∀ {l:List q02} {p:Option (List UInt8)},zs7 p l=true→∀ f∈l,sgl f.zf=true
 | f::l,p,h,g,hg=>by
  simp only [zs7,yc] at h
  rcases yo.1 hg with rfl|hg
  ·exact h.1.2
  ·exact zlb h.2 g hg
theorem zf1:∀ {l:List ED} {m:MP},Good m→(∀ x∈l,z6q x=true)→(z5g l m).1=0→Good (z5g l m).2
 | [],m,h,_,_=>h
 | x::l,m,h,hl,h0=>by
  unfold z5g at h0 ⊢
  split at h0
  ·rename_i h1
   rw [if_pos h1]
   exact zf1 (zfh h (hl x yq) h1) (fun y hy=>hl y (yp _ hy)) h0
  ·rename_i h1
   exact (h1 h0).elim
theorem zhc {l:List (List UInt8)} (h:l.length<1000000000):M.z1o l=some l:=by
 unfold M.z1o
 rw [z48 (by rw [decide_eq_true_iff];omega)]
 rfl
theorem zs0 {t:TH} (ht:z69 t):∀ (n i:Nat) (m:MP),t.zl.length - i=n→i≤t.zl.length→M.z2k t (i:Int) m=some ((t.zl.drop i).foldl (fun m f=>z4v m f.zi f.zf) m):=by
 obtain ⟨h1,_,_,h4⟩:=ht.parts
 intro n
 induction n with
 | zero =>
  intro i m h2 h3
  have:i=t.zl.length:=by omega
  subst this
  rw [M.z2k]
  simp
 | succ n ih =>
  intro i m h2 h3
  have hi:i<t.zl.length:=by omega
  rw [M.z2k,z1x hi]
  simp only [show ((i:Int)<(t.zl.length:Int)) by omega,decide_true,if_true,z2u,yi hi,ya,yb,zhc (h4 _ (yj hi)).2.1]
  rw [w1 (by omega),ih (i+1) _ (by omega) (by omega)]
  rfl
theorem zs1 {l:List ED} {f:Nat} (hf:4*z5b l+17≤f) (hl:z5b l<1000000000) (hok:∀ x∈l,z6q x=true):∀ (n i:Nat) (m:MP),l.length - i=n→i≤l.length→Good m→M.z2l l f (i:Int) m=some (if (z5g (l.drop i) m).1=0 then .go (z5g (l.drop i) m).2 else .done (zT,(z5g (l.drop i) m).1)):=by
 have hlen:l.length≤z5b l:=z7z (g:=fun x:ED=>x.sz) (fun x=>by unfold q00.sz;omega) l
 have hm:∀ x∈l,x.sz≤z5b l:=fun x hx=>z81 (g:=fun x:ED=>x.sz) hx
 intro n
 induction n with
 | zero =>
  intro i m h2 h3 hg
  have:i=l.length:=by omega
  subst this
  rw [M.z2l]
  simp [z5g]
 | succ n ih =>
  intro i m h2 h3 hg
  have hi:i<l.length:=by omega
  have hxm:=yj hi
  have hsz:=hm _ hxm
  have hgg:=hg.get l[i].zi
  rw [M.z2l,z1x hi]
  simp only [show ((i:Int)<(l.length:Int)) by omega,decide_true,if_true,z2u,yi hi,ya,yb]
  rw [zif (by omega) (fun v hv=>by have:=hgg.2 v hv;omega) (by omega) (by unfold z4a;omega) (hok _ hxm)]
  simp only [yb]
  have hst:=zmp m l[i]
  have hfc:=zf0 l[i] (l.drop (i+1)) m
  have hgood:(zai m l[i]).1=0→Good (zai m l[i]).2:=zfh hg (hok _ hxm)
  generalize dn l[i] (z4u m l[i].zi [])=v at hst ⊢
  by_cases h0:v.2=0
  ·rw [if_pos h0] at hst
   simp only [h0,decide_true,yf,yd,if_false]
   have hj:(if decide ((0:Int)<(v.1.length:Int))=true then some (z4v (z8n m l[i].zi) l[i].zi v.1) else some (z8n m l[i].zi):Option MP)=some (zg9 m l[i] v.1):=by
    unfold zg9
    by_cases hp:0<v.1.length
    ·have:(0:Int)<(v.1.length:Int):=by omega
     simp [hp]
    ·have:¬(0:Int)<(v.1.length:Int):=by omega
     simp [hp]
   rw [hj]
   simp only [yb]
   generalize zg9 m l[i] v.1=m' at hst ⊢
   by_cases hc:64<v.1.length∨32<m'.length
   ·have hc':((decide ((64:Int)<(v.1.length:Int)))||(decide ((32:Int)<(m'.length:Int))))=true:=by
     simp only [yg,decide_eq_true_eq];omega
    rw [if_pos hc] at hst
    rw [hst] at hfc
    have hfc:z5g (l[i]::l.drop (i+1)) m=(191,[]):=hfc
    rw [if_pos hc',hfc]
    rfl
   ·have hc':¬((decide ((64:Int)<(v.1.length:Int)))||(decide ((32:Int)<(m'.length:Int))))=true:=by
     simp only [yg,decide_eq_true_eq];omega
    rw [if_neg hc] at hst
    rw [if_neg hc']
    rw [hst] at hgood hfc
    have hfc:z5g (l[i]::l.drop (i+1)) m=z5g (l.drop (i+1)) m':=hfc
    rw [w1 (by omega),ih (i+1) m' (by omega) (by omega) (hgood rfl),hfc]
  ·rw [if_neg h0] at hst
   rw [hst] at hfc
   have hfc:z5g (l[i]::l.drop (i+1)) m=(v.2,[]):=hfc.trans (if_neg h0)
   simp only [h0,decide_false,Bool.not_false,if_true,hfc,if_false]
   rfl
theorem zaa {l:List ED} {t:TH} {f:Nat} (hf:4*z5b l+17≤f) (hl:z5b l<1000000000) (ht:z69 t):M.q1f f l t=some (apT l t):=by
 unfold M.q1f apT
 rw [z5s ht]
 simp only [ya,yb]
 by_cases h1:zv7 t=0
 ·simp only [h1,decide_true,yf,yd,if_false,if_true]
  rw [z4g hf hl]
  simp only [yb]
  by_cases h2:z7m l=0
  ·simp only [h2,decide_true,yf,yd,if_false,if_true]
   have hF:zs7 none t.zl=true:=by
    unfold zv7 at h1
    split at h1
    ·rename_i h;exact h.2
    ·cases h1
   have hok:∀ x∈l,z6q x=true:=by
    unfold z7m at h2
    split at h2
    ·cases h2
    ·split at h2
     ·cases h2
     ·rename_i h;simpa using h
   have hg:Good (mp0 t.zl):=zm1 t.zl [] .nil (zlb hF)
   have e1:=zs0 ht _ 0 [] rfl (yt _)
   have e1':M.z2k t 0 []=some (mp0 t.zl):=e1
   have e2:=zs1 hf hl hok _ 0 (mp0 t.zl) rfl (yt _) hg
   have e2':M.z2l l f 0 (mp0 t.zl)=_:=e2
   simp only [e1',e2',yh,yb]
   by_cases h3:(z5g l (mp0 t.zl)).1=0
   ·have hgf:=zf1 hg hok h3
    have h5:(mp0 t.zl).length≤t.zl.length:=Nat.le_trans (zpz t.zl []) (by simp)
    have h6:=zhr l (mp0 t.zl) (t.zl.length+32) (Nat.le_trans h5 (Nat.le_add_right _ _)) (by omega) h3
    have h7:=ht.parts.1
    obtain ⟨q,hq⟩:∃ q,(z5g l (mp0 t.zl)).2.length=q:=⟨_,rfl⟩
    have hml:q<2000000000:=by
     have:q≤t.zl.length+32:=hq▸h6
     omega
    rw [if_pos h3,if_pos h3]
    simp only
    rw [zsr]
    rw [if_pos (.inr (by rw [ym,hq];omega))]
    unfold M.q5y
    rw [z48]
    ·rfl
    ·simp only [ys,yl,List.map_map,yc,decide_eq_true_eq]
     exact ⟨by rw [hq];omega,hgf.nd⟩
   ·rw [if_neg h3,if_neg h3]
  ·simp [h2,zT]
 ·simp [h1,zT]
def say (v:J) (k:List UInt8):List UInt8 × Bool:=((z2v v k).1.z03,(z2v v k).2&&decide ((z2v v k).1.zb=4))
theorem z4r {v:J} {k:List UInt8} (h:v.z05.length<1000000000):M.q2w v k=some (say v k):=by
 unfold M.q2w say
 rw [z61 h]
 rfl
def zc9 (s:List UInt8):List UInt8 × Bool:=if ([93]:List UInt8).isSuffixOf s then (s.take (s.length - 1),true) else (s,false)
theorem zhh {s:List UInt8} (h:s.length<1000000000):M.q64 s [93]=some (zc9 s):=by
 have hs:=zbi (s:=s) (p:=[93]) (by omega)
 unfold M.q68 at hs
 unfold M.q64 M.q0f zc9
 cases h1:M.q0h s [93] with
 | none=>rw [h1] at hs;cases hs
 | some b =>
  rw [h1] at hs
  simp only [ya,yb,Option.some.injEq] at hs
  subst hs
  cases hb:([93]:List UInt8).isSuffixOf s with
  | false=>simp
  | true =>
   have hl:=(List.isSuffixOf_iff_suffix.1 hb).length_le
   simp only [yk,ym] at hl
   have e:IntKind.wrap .i64 ((s.length:Int) - (([93]:List UInt8).length:Int))=((s.length - 1:Nat):Int):=by
    simp only [yk,ym]
    rw [w64]<;>omega
   simp only [ya,yb,yf,yd,if_false,e,if_true]
   rw [zkp (by omega)]
   rfl
def kOp:List UInt8:=[111,112]
def z1s:List UInt8:=[112,97,116,104]
def z1f:List UInt8:=[118,97,108,117,101]
def zro:List UInt8:=[79,112,101,114,97,116,105,111,110,115]
def opW:List (List UInt8):=[[97,100,100],[114,101,109,111,118,101],[114,101,112,108,97,99,101]]
def zq6 (s:List UInt8):Int:=match opW.findIdx? (fun x=>decide (s=x)) with
 | some i=>(i:Int)
 | none => -1
def z1m (p:List UInt8):EX × Int:=if (Lib.cut p [91]).2.2=true then pP (zc9 (Lib.cut p [91]).2.1).1 else (zE,0)
def z3w (o:J):List (List UInt8) × Bool:=if (z2v o z1f).1.zb=4 then ([(z2v o z1f).1.z03],true) else if (z2v o z1f).2=true then z84 (z2v o z1f).1 else ([],true)
def rdE (o:J):Rs ED :=
 let op:=zq6 (say o kOp).1
 let c:=Lib.cut (say o z1s).1 [91]
 if op<0∨isName c.1=false∨c.2.2=true∧(zc9 c.2.1).2=false then .pan 190 else
 if (z1m (say o z1s).1).2≠0 then .pan (z1m (say o z1s).1).2 else
 if (z2v o z1f).2=decide (op=1) then .pan 190 else
 if (z3w o).2=false then .pan 190 else
 if z6q ⟨op,c.1,c.2.2,(z1m (say o z1s).1).1,(z3w o).1⟩=false then .pan 194 else .ok ⟨op,c.1,c.2.2,(z1m (say o z1s).1).1,(z3w o).1⟩
theorem zsn (s:List UInt8):M.q5x opW s=some (zq6 s):=by
 unfold M.q5x zq6
 rw [zhw (by decide)]
 cases opW.findIdx? (fun x=>decide (s=x))<;>rfl
theorem zu8 (p q:List UInt8):(Lib.cut p q).1.length≤p.length∧(Lib.cut p q).2.1.length≤p.length:=by
 unfold Lib.cut
 split
 ·exact ⟨by simp only [List.length_take];omega,by simp only [List.length_drop];omega⟩
 ·exact ⟨Nat.le_refl _,by simp⟩
theorem zwl (v:J) (k:List UInt8):(say v k).1.length≤v.sz:=by
 have h1:=z9c v k
 have h2:=(z2v v k).1.z1n
 unfold say
 simp only
 omega
theorem zj1:∀ {l:List J} {r:List (List UInt8)},texts l=some r→kys r≤szs l
 | [],r,h=>by simp only [texts,Option.some.injEq] at h;subst h;simp [kys,szs]
 | x::l,r,h=>by
  unfold texts at h
  split at h
  ·cases ht:texts l with
   | none=>rw [ht] at h;cases h
   | some q =>
    rw [ht] at h
    simp only [Option.map_some,Option.some.injEq] at h
    subst h
    have:=zj1 ht
    have h2:=x.z1n
    rw [z3y]
    simp only [szs]
    omega
  ·cases h
theorem zfc (o:J):kys (z3w o).1≤o.sz:=by
 have h1:=z9c o z1f
 have h2:=(z2v o z1f).1.z1n
 unfold z3w
 split
 ·rw [z3y,z5h];omega
 ·split
  ·unfold z84
   split
   ·split
    ·rename_i l hl
     have:=zj1 hl
     simp only
     omega
    ·simp [kys]
   ·simp [kys]
  ·simp [kys]
theorem zig {o:J} {f:Nat} (ho:o.sz≤1000000) (hf:20000000≤f):∃ x,M.q2k f o=some (match rdE o with | .ok x=>(x,0) | .pan c=>(x,c)):=by
 have hk:o.z05.length<1000000000:=by have:=o.z1n;have:=z4m o.z05;omega
 have hms:=z9c o z1f
 have hmz:=(z2v o z1f).1.z1n
 have hml:=z83 (z2v o z1f).1.zc
 have hmk:=z4m (z2v o z1f).1.z05
 have hkys:=zfc o
 have hpl:=zwl o z1s
 obtain ⟨hc1,hc2⟩:=zu8 (say o z1s).1 [91]
 have hcut:M.cut (say o z1s).1 [91]=some (Lib.cut (say o z1s).1 [91]):=by
  unfold M.cut
  rw [z48 (by rw [decide_eq_true_iff];omega)]
  rfl
 have hws:(z1m (say o z1s).1).1.sz≤204801:=by
  unfold z1m
  split
  ·exact zwf _
  ·decide
 have hop:M.q2h=some opW:=rfl
 unfold M.q2k rdE
 have e1:M.q2w o [111,112]=some (say o kOp):=z4r hk
 have e2:M.q2w o [112,97,116,104]=some (say o z1s):=z4r hk
 have e3:M.q0j o [118,97,108,117,101]=some (z2v o z1f):=z61 hk
 simp only [e1,e2,e3,hop,ya,yb,zsn,hcut]
 rw [zhh (by omega)]
 simp only [yb,z4t]
 generalize hso:zq6 (say o kOp).1=op
 have hwh:z1m (say o z1s).1=if (Lib.cut (say o z1s).1 [91]).2.2=true then pP (zc9 (Lib.cut (say o z1s).1 [91]).2.1).1 else (zE,0):=rfl
 generalize hcc:Lib.cut (say o z1s).1 [91]=c at hc1 hc2 hwh ⊢
 generalize z1m (say o z1s).1=wh at hwh hws ⊢
 have hj:(if decide (op<0)=true then some true else some (!isName c.1):Option Bool)=some (decide (op<0) || !isName c.1):=by
  by_cases h:op<0<;>simp [h]
 rw [hj]
 simp only [yb]
 by_cases h1:op<0∨isName c.1=false∨c.2.2=true∧(zc9 c.2.1).2=false
 ·have h1':((decide (op<0) || !isName c.1)||(c.2.2 && !(zc9 c.2.1).2))=true:=by
   simp only [yg,decide_eq_true_eq,ye,yc]
   rcases h1 with h|h|h
   ·exact .inl (.inl h)
   ·exact .inl (.inr h)
   ·exact .inr h
  rw [if_pos h1',if_pos h1]
  exact ⟨_,rfl⟩
 ·have h1':¬((decide (op<0) || !isName c.1)||(c.2.2 && !(zc9 c.2.1).2))=true:=by
   simp only [yg,decide_eq_true_eq,ye,yc]
   rintro ((h|h)|h)
   ·exact h1 (.inl h)
   ·exact h1 (.inr (.inl h))
   ·exact h1 (.inr (.inr h))
  rw [if_neg h1',if_neg h1]
  have hq:(if c.2.2=true then (M.q1n f (zc9 c.2.1).1).bind fun a_40=>if (!decide (a_40.2=0))=true then some (Jn.done (q00.mk op c.1 c.2.2 a_40.1 [],a_40.2)) else some (Jn.go (a_40.1.zb,a_40.1.zi,a_40.1.z08,a_40.1.zc)) else some (Jn.go (0,([]:List UInt8),([]:List UInt8),([]:List EX))):Option (Jn (q00 × Int) (Int × (List UInt8) × (List UInt8) × (List EX)))) =
    some (if wh.2=0 then Jn.go (wh.1.zb,wh.1.zi,wh.1.z08,wh.1.zc) else Jn.done (q00.mk op c.1 c.2.2 wh.1 [],wh.2)):=by
   by_cases hs:c.2.2=true
   ·rw [if_pos hs,z6x _ (by omega)]
    rw [if_pos hs] at hwh
    rw [←hwh]
    simp only [yb]
    by_cases h0:wh.2=0
    ·simp [h0]
    ·simp [h0]
   ·rw [if_neg hs]
    rw [if_neg hs] at hwh
    rw [hwh]
    rfl
  rw [hq]
  simp only [yb]
  by_cases h2:wh.2=0
  ·rw [if_pos h2,if_neg (by simp [h2])]
   simp only [z5e]
   by_cases h3:(z2v o z1f).2=decide (op=1)
   ·rw [if_pos (by simpa using h3),if_pos h3]
    exact ⟨_,rfl⟩
   ·rw [if_neg (by simpa using h3),if_neg h3]
    have hq2:(if decide ((z2v o z1f).1.zb=4)=true then some (Jn.go [(z2v o z1f).1.z03]) else if (z2v o z1f).2=true then (M.q0m (z2v o z1f).1).bind fun a_50=>if (!a_50.2)=true then some (Jn.done (q00.mk op c.1 c.2.2 wh.1 a_50.1,(190:Int))) else some (Jn.go a_50.1) else some (Jn.go []):Option (Jn (q00 × Int) (List (List UInt8)))) =
      some (if (z3w o).2=true then Jn.go (z3w o).1 else Jn.done (q00.mk op c.1 c.2.2 wh.1 (z3w o).1,190)):=by
     unfold z3w
     by_cases h4:(z2v o z1f).1.zb=4
     ·simp [h4]
     ·simp only [h4,decide_false,yd,if_false]
      by_cases h5:(z2v o z1f).2=true
      ·rw [if_pos h5,if_pos h5,zfz (by omega)]
       simp only [yb]
       cases (z84 (z2v o z1f).1).2<;>rfl
      ·rw [if_neg h5,if_neg h5]
       rfl
    rw [hq2]
    simp only [yb]
    cases h4:(z3w o).2 with
    | false =>
     simp only [yd,if_false,if_true]
     exact ⟨_,rfl⟩
    | true =>
     simp only [if_true,Bool.true_eq_false,if_false]
     have hsz:q00.sz ⟨op,c.1,c.2.2,wh.1,(z3w o).1⟩≤4000000:=by
      unfold q00.sz
      simp only
      omega
     rw [zbp (by omega) (by unfold z4a;omega)]
     simp only [yb]
     cases h5:z6q ⟨op,c.1,c.2.2,wh.1,(z3w o).1⟩ with
     | false=>exact ⟨_,rfl⟩
     | true=>exact ⟨⟨0,[],false,zE,[]⟩,rfl⟩
  ·rw [if_neg h2,if_pos h2]
   exact ⟨_,rfl⟩
def rdL:List J→Rs (List ED)
 | [] => .ok []
 | o::l=>match rdE o with
  | .pan c => .pan c
  | .ok x=>match rdL l with
   | .pan c => .pan c
   | .ok xs => .ok (x::xs)
def zam (o:J):Bool:=(say o kOp).2&&(say o z1s).2
def pEs (s:List UInt8):List ED × Int :=
 let v:=parse s
 let all:=z2v v.1 zro
 if ¬v.2=0∨all.2=false∨¬all.1.zb=5∨all.1.zc.all zam=false then ([],190) else
 if 16<all.1.zc.length then ([],191) else match rdL all.1.zc with
  | .pan c=>([],c)
  | .ok l=>(l,0)
theorem zqg {o:J} {c:Int} (h:rdE o = .pan c):¬c=0:=by
 unfold rdE at h
 simp only at h
 split at h
 ·cases h;decide
 ·split at h
  ·rename_i h2;cases h;exact h2
  ·split at h
   ·cases h;decide
   ·split at h
    ·cases h;decide
    ·split at h
     ·cases h;decide
     ·cases h
theorem z5t (s:List UInt8) {f:Nat} (hf:20000000≤f):M.q1o f s=some (pEs s):=by
 have hps:=zm9 s
 have hpz:=(parse s).1.z1n
 have hpk:=z4m (parse s).1.z05
 unfold M.q1o pEs
 have e1:∀ v:J,v.sz≤131072→M.q0j v [79,112,101,114,97,116,105,111,110,115]=some (z2v v zro):=fun v hv=>z61 (by have:=v.z1n;have:=z4m v.z05;omega)
 rw [za3 s (by omega)]
 simp only [ya,yb,e1 _ hps]
 have hms:=z9c (parse s).1 zro
 generalize (parse s).2=bad
 generalize z2v (parse s).1 zro=all at hms ⊢
 have haz:=all.1.z1n
 have hal:=z83 all.1.zc
 have hmm:∀ x∈all.1.zc,x.sz≤131072:=fun x hx=>by have:=zb5 hx;omega
 have hk:M.zp all.1.zc 0=some (match all.1.zc.findIdx? (fun x => !zam x) with|some i => .done (i:Int)|none => .go ()):=by
  refine zcg (fun i:Nat=>(i:Int)) () (by omega) (fun i h => ?_) ?_
  ·have h1:=hmm _ (yj h)
   have hkk:all.1.zc[i].z05.length<1000000000:=by have:=all.1.zc[i].z1n;have:=z4m all.1.zc[i].z05;omega
   have e2:M.q2w all.1.zc[i] [111,112]=some (say all.1.zc[i] kOp):=z4r hkk
   have e3:M.q2w all.1.zc[i] [112,97,116,104]=some (say all.1.zc[i] z1s):=z4r hkk
   have e4:M.q1p all.1.zc[i]=some (!zam all.1.zc[i]):=by
    unfold M.q1p zam
    simp only [e2,e3,ya,yb]
    cases (say all.1.zc[i] kOp).2<;>cases (say all.1.zc[i] z1s).2<;>rfl
   rw [M.zp]
   simp only [show ((i:Int)<(all.1.zc.length:Int)) by omega,decide_true,if_true,z2u,yi h,ya,yb,e4]
  ·rw [M.zp]
   simp
 have hc:M.q5c all.1.zc=some (!all.1.zc.all zam):=by
  unfold M.q5c M.q5q
  rw [hk]
  rcases z4o all.1.zc zam with ⟨h1,h2⟩|⟨i,h1,h2⟩
  ·rw [h1,h2];rfl
  ·rw [h1,h2];simp
 have hk1:∀ (n i:Nat) (acc:List ED),all.1.zc.length - i=n→i≤all.1.zc.length→acc.length≤i→M.z15 all f acc (i:Int)=some (match rdL (all.1.zc.drop i) with | .pan c => .done ([],c) | .ok l => .go (acc++l)):=by
  intro n
  induction n with
  | zero =>
   intro i acc h1 h2 h3
   have:i=all.1.zc.length:=by omega
   subst this
   rw [M.z15]
   simp [rdL]
  | succ n ih =>
   intro i acc h1 h2 h3
   have hi:i<all.1.zc.length:=by omega
   obtain ⟨x,hx⟩:=zig (o:=all.1.zc[i]) (by have:=hmm _ (yj hi);omega) hf
   rw [M.z15,z1x hi]
   simp only [show ((i:Int)<(all.1.zc.length:Int)) by omega,decide_true,if_true,z2u,yi hi,ya,yb,hx,rdL]
   cases hr:rdE all.1.zc[i] with
   | pan c=>simp [zqg hr]
   | ok y =>
    simp only [decide_true,yf,yd,if_false,z5e]
    rw [z0w (by simp only [yk,ym];omega)]
    simp only [yb]
    rw [w1 (by omega),ih (i+1) _ (by omega) (by omega) (by simp;omega)]
    cases rdL (all.1.zc.drop (i+1)) with
    | pan c=>rfl
    | ok l=>simp
 have hj:(if ((!decide (bad=0))||(!all.2)||(!decide (all.1.zb=5)))=true then some true else (M.q5c all.1.zc).bind fun a=>some a:Option Bool)=some ((!decide (bad=0))||(!all.2)||(!decide (all.1.zb=5)) || !all.1.zc.all zam):=by
  rw [hc]
  by_cases h:((!decide (bad=0))||(!all.2)||(!decide (all.1.zb=5)))=true
  ·rw [if_pos h,h];rfl
  ·rw [if_neg h]
   have:((!decide (bad=0))||(!all.2)||(!decide (all.1.zb=5)))=false:=by simpa using h
   rw [this];rfl
 rw [hj]
 simp only [yb]
 by_cases h1:¬bad=0∨all.2=false∨¬all.1.zb=5∨all.1.zc.all zam=false
 ·have h1':((!decide (bad=0))||(!all.2)||(!decide (all.1.zb=5)) || !all.1.zc.all zam)=true:=by
   simp only [yg,ye,decide_eq_false_iff_not]
   rcases h1 with h|h|h|h
   ·exact .inl (.inl (.inl h))
   ·exact .inl (.inl (.inr h))
   ·exact .inl (.inr h)
   ·exact .inr h
  rw [if_pos h1',if_pos h1]
 ·have h1':¬((!decide (bad=0))||(!all.2)||(!decide (all.1.zb=5)) || !all.1.zc.all zam)=true:=by
   simp only [yg,ye,decide_eq_false_iff_not]
   rintro (((h|h)|h)|h)
   ·exact h1 (.inl h)
   ·exact h1 (.inr (.inl h))
   ·exact h1 (.inr (.inr (.inl h)))
   ·exact h1 (.inr (.inr (.inr h)))
  rw [if_neg h1',if_neg h1]
  by_cases h2:16<all.1.zc.length
  ·have h2':((16:Int)<(all.1.zc.length:Int)):=by omega
   simp [h2,h2']
  ·have h2':¬((16:Int)<(all.1.zc.length:Int)):=by omega
   have h3:=hk1 _ 0 [] rfl (yt _) (Nat.le_refl _)
   have h3':M.z15 all f [] 0=_:=h3
   simp only [h2,h2',decide_false,yd,if_false,h3',yh,ys,yb]
   cases rdL all.1.zc<;>rfl
def fx1:EX:=⟨0,[],[],[⟨4,[97],[120],[]⟩,⟨1,[],[],[⟨3,[98],[],[]⟩,⟨2,[],[],[⟨6,[99],[195,169],[]⟩]⟩]⟩]⟩
def fxT:TH:=⟨[55],[],[],[⟨[97],[[120],[121]]⟩]⟩
def fxL:List ED:=[⟨0,[97],false,zE,[[122]]⟩]
def fxM:List ED:=[⟨1,[97],true,⟨3,[118,97,108,117,101],[],[]⟩,[]⟩,⟨1,[97],true,⟨3,[118,97,108,117,101],[],[]⟩,[]⟩]
theorem fx_1:pP [97,32,101,113,32,34,120,34,97,110,100,40,32,98,32,112,114,32,111,114,40,110,111,116,40,99,32,99,111,32,34,92,117,48,48,101,57,34,41,41,32,41]=(fx1,0):=by kernel_rfl
theorem fx_2:prE fx1=([97,32,101,113,32,34,120,34,32,97,110,100,32,40,98,32,112,114,32,111,114,32,110,111,116,32,40,99,32,99,111,32,34,195,169,34,41,41],0):=by kernel_rfl
theorem fx_3:(pP [97]).2=190:=by kernel_rfl
theorem fx_4:pEs [123,34,79,112,101,114,97,116,105,111,110,115,34,58,91,123,34,111,112,34,58,34,97,100,100,34,44,34,112,97,116,104,34,58,34,97,34,44,34,118,97,108,117,101,34,58,91,34,122,34,93,125,93,125]=(fxL,0):=by kernel_rfl
theorem fx_5:zv7 fxT=0:=by kernel_rfl
theorem fx_6:z7m fxL=0:=by kernel_rfl
theorem fx_7:z5g fxL (mp0 fxT.zl)=(0,[([97],[[120],[121],[122]])]):=by kernel_rfl
theorem fx_8:z7m fxM=0:=by kernel_rfl
theorem fx_9:(z5g fxM (mp0 fxT.zl)).1=192:=by kernel_rfl
theorem fx_10:mat ⟨4,[97],[121],[]⟩ fxT=true:=by kernel_rfl
theorem zln {f:Nat} (hf:20000000≤f):M.q1e f=some true:=by
 have h7:apT fxL fxT=(⟨[55],[],[],[⟨[97],[[120],[121],[122]]⟩]⟩,0):=by
  unfold apT
  rw [if_pos fx_5,if_pos fx_6,fx_7]
  simp only [if_true,srt,List.map_cons,List.map_nil,List.mergeSort_singleton]
  rfl
 have h9:(apT fxM fxT).2=192:=by
  unfold apT
  have h:=fx_9
  rw [if_pos fx_5,if_pos fx_8,if_neg (by rw [h];decide)]
  exact h
 have hT:z69 fxT:=by unfold z69;decide
 unfold M.q1e
 rw [z6x _ (by omega),fx_1]
 simp only [ya,yb]
 rw [z6y (e:=fx1) (f:=f) (by have:fx1.sz≤100:=(by decide);omega) (by unfold z1b;decide),fx_2]
 simp only [yb]
 rw [z6x _ (by omega)]
 simp only [yb]
 rw [z5t _ hf,fx_4]
 simp only [yb]
 have e7:=zaa (l:=fxL) (t:=fxT) (f:=f) (by have:z5b fxL≤100:=(by decide);omega) (by decide) hT
 rw [h7] at e7
 have e7':M.q1f f fxL ⟨[55],[],[],[⟨[97],[[120],[121]]⟩]⟩=_:=e7
 rw [e7']
 simp only [yb]
 have e9:=zaa (l:=fxM) (t:=fxT) (f:=f) (by have:z5b fxM≤100:=(by decide);omega) (by decide) hT
 have e9':M.q1f f [⟨1,[97],true,⟨3,[118,97,108,117,101],[],[]⟩,[]⟩,⟨1,[97],true,⟨3,[118,97,108,117,101],[],[]⟩,[]⟩] ⟨[55],[],[],[⟨[97],[[120],[121]]⟩]⟩=_:=e9
 rw [e9']
 simp only [yb,decide_true,Bool.true_and,fx_3,if_true]
 have e10:=zgd (e:=⟨4,[97],[121],[]⟩) (t:=fxT) (f:=f) (by have:q01.sz ⟨4,[97],[121],[]⟩≤100:=(by decide);omega) (by unfold z1b;decide) hT
 rw [fx_10] at e10
 have e10':M.q1m f ⟨4,[97],[121],[]⟩ ⟨[55],[],[],[⟨[97],[[120],[121]]⟩]⟩=_:=e10
 have e11:=z5s hT
 rw [fx_5] at e11
 have e11':M.q1l ⟨[55],[],[],[⟨[97],[[120],[121]]⟩]⟩=_:=e11
 rw [e10']
 simp [h9,e11',zni]
end Go.Sen
