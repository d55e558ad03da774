import Derived.Test.YtmmgdladipbedaaGreatDoorLSpD
import Derived.Test.YtmmgdladipbedaaGreatDoorLSnK
import Derived.Test.YtmmgdladipbedaaGreatDoorLPaM
import Derived.Test.YtmmgdladipbedaaGreatDoorLSnA
import Derived.Test.YtmmgdladipbedaaGreatDoorLSpE
set_option linter.all false
section
namespace Go.Sen
open _root_.Option renaming bind_eq_bind → ya, bind_some → yb
open _root_.Bool renaming and_eq_true → yc, false_eq_true → yd, not_eq_true' → ye, not_true → yf, or_eq_true → yg
open _root_.List renaming drop_zero → yh, getElem?_eq_getElem → yi, getElem_mem → yj, length_cons → yk, length_map → yl, length_nil → ym, mem_append → yn, mem_cons → yo, mem_cons_of_mem → yp, mem_cons_self → yq, mem_singleton → yr, nil_append → ys
open _root_.Nat renaming zero_le → yt
open Go.Lk Go.Pe
abbrev MP:=List (List UInt8 × List (List UInt8))
def mp0 (l:List q02):MP:=l.foldl (fun m f=>z2y m f.zk f.zt) []
def z81 (m:MP) (x:ED):Int × MP :=
 let v:=dn x (z2x m x.zk [])
 if v.2=0 then (let m':=if 0<v.1.length then z2y (z62 m x.zk) x.zk v.1 else z62 m x.zk
  if 64<v.1.length∨32<m'.length then (191,[]) else (0,m')) else (v.2,[])
def z3h:List ED→MP→Int × MP
 | [],m=>(0,m)
 | x::l,m=>if (z81 m x).1=0 then z3h l (z81 m x).2 else ((z81 m x).1,[])
def srt (m:MP):List q02:=(m.map fun x=>q02.mk x.1 x.2).mergeSort fun x y=>decide (x.zk≤y.zk)
def zT:TH:=⟨[],[],[],[]⟩
def apT (l:List ED) (t:TH):TH × Int:=if zqk t=0 then (if zec l=0 then (if (z3h l (mp0 t.zl)).1=0 then (⟨t.gId,t.zb,t.z68,srt (z3h l (mp0 t.zl)).2⟩,0) else (zT,(z3h l (mp0 t.zl)).1)) else (zT,zec l)) else (zT,zqk t)
structure Good (m:MP):Prop where
 nd:(m.map (·.1)).Nodup
 sm:∀ x∈m,x.2.length≤64∧∀ v∈x.2,v.length≤128
theorem zai (k:List UInt8) (v:List (List UInt8)):∀ m:MP,(z2y m k v).map (·.1)=if k∈m.map (·.1) then m.map (·.1) else m.map (·.1)++[k]
 | []=>by simp [z2y]
 | (a,b)::r=>by
  have ih:=zai k v r
  unfold z2y
  by_cases h:k=a
  ·simp [h]
  ·rw [if_neg h]
   simp only [List.map_cons,ih,yo,h,false_or]
   split<;>simp
theorem zie {k:List UInt8} {v:List (List UInt8)} {x:List UInt8 × List (List UInt8)}:∀ {m:MP},x∈z2y m k v→x=(k,v)∨x∈m
 | [],h=>by simpa [z2y] using h
 | (a,b)::r,h=>by
  unfold z2y at h
  split at h
  ·rcases yo.1 h with h|h
   ·exact .inl h
   ·exact .inr (yp _ h)
  ·rcases yo.1 h with h|h
   ·exact .inr (by rw [h];exact yq)
   ·rcases zie h with h|h
    ·exact .inl h
    ·exact .inr (yp _ h)
theorem zdd (k:List UInt8):∀ m:MP,(z62 m k).Sublist m
 | []=>List.Sublist.slnil
 | (a,b)::r=>by
  unfold z62
  split
  ·exact List.sublist_cons_self _ _
  ·exact (zdd k r).cons_cons _
theorem zib {k:List UInt8} {z:List (List UInt8)}:∀ m:MP,z2x m k z=z∨(k,z2x m k z)∈m
 | [] => .inl rfl
 | (a,b)::r=>by
  unfold z2x
  split
  ·rename_i h;exact .inr (by rw [h];exact yq)
  ·rcases zib (k:=k) (z:=z) r with h|h
   ·exact .inl h
   ·exact .inr (yp _ h)
theorem Good.put {m:MP} (h:Good m) {k:List UInt8} {v:List (List UInt8)} (hv:v.length≤64∧∀ s∈v,s.length≤128):Good (z2y m k v):=by
 refine ⟨?_,fun x hx => ?_⟩
 ·rw [zai]
  split
  ·exact h.nd
  ·rename_i hn
   rw [List.nodup_append]
   exact ⟨h.nd,by simp,fun a ha b hb=>by rw [yr] at hb;rw [hb];exact fun e=>hn (e▸ha)⟩
 ·rcases zie hx with rfl|hx
  ·exact hv
  ·exact h.sm x hx
theorem Good.del {m:MP} (h:Good m) (k:List UInt8):Good (z62 m k) :=
 ⟨((zdd k m).map _).nodup h.nd,fun x hx=>h.sm x ((zdd k m).subset hx)⟩
theorem Good.nil:Good []:=⟨by simp,fun x hx=>by cases hx⟩
theorem Good.get {m:MP} (h:Good m) (k:List UInt8):(z2x m k []).length≤64∧∀ s∈z2x m k [],s.length≤128:=by
 rcases zib (k:=k) (z:=[]) m with e|e
 ·rw [e];exact ⟨by simp,fun s hs=>by cases hs⟩
 ·exact h.sm _ e
theorem zfn {l:List (List UInt8)} (h:sgl l=true):l.length≤64∧∀ v∈l,v.length≤128:=by
 unfold sgl at h
 simp only [yc,decide_eq_true_eq,List.all_eq_true] at h
 exact ⟨h.1.1,fun v hv=>zc3 (h.2 v hv)⟩
theorem zo3 {x:ED} (h:zfw x=true):sgl x.zt=true:=by
 unfold zfw at h
 simp only [yc] at h
 exact h.1.1.2
theorem zlf {x:ED} {first:Nat} {v:List UInt8}:∀ {l:List (List UInt8)} {i:Nat},v∈dnL x first i l→v∈l∨v=x.zt.head?.getD []
 | [],_,h=>by simp [dnL] at h
 | a::r,i,h=>by
  simp only [dnL,yn] at h
  rcases h with h|h
  ·split at h
   ·rw [yr] at h;exact .inr h
   ·split at h
    ·rw [yr] at h;exact .inl (by rw [h];exact yq)
    ·cases h
  ·rcases zlf h with h|h
   ·exact .inl (yp _ h)
   ·exact .inr h
theorem zo1 {x:ED} {old:List (List UInt8)} (hx:zfw x=true) (ho:∀ s∈old,s.length≤128):∀ s∈(dn x old).1,s.length≤128:=by
 have hv:=(zfn (zo3 hx)).2
 unfold dn
 split
 ·intro s hs
  rcases yn.1 hs with h|h
  ·exact ho s h
  ·exact hv s (List.mem_filter.1 h).1
 ·split
  ·exact hv
  ·intro s hs;cases hs
  ·intro s hs
   rcases zlf hs with h|h
   ·exact ho s h
   ·rw [h]
    cases hvv:x.zt with
    | nil=>simp
    | cons a b=>exact hv a (by rw [hvv];exact yq)
def zdg (m:MP) (x:ED) (v:List (List UInt8)):MP:=if 0<v.length then z2y (z62 m x.zk) x.zk v else z62 m x.zk
theorem zj0 (m:MP) (x:ED):z81 m x=if (dn x (z2x m x.zk [])).2=0 then (if 64<(dn x (z2x m x.zk [])).1.length∨32<(zdg m x (dn x (z2x m x.zk [])).1).length then (191,[]) else (0,zdg m x (dn x (z2x m x.zk [])).1)) else ((dn x (z2x m x.zk [])).2,[]):=rfl
theorem zj1 {m:MP} {x:ED} (h0:(z81 m x).1=0):(dn x (z2x m x.zk [])).2=0∧(dn x (z2x m x.zk [])).1.length≤64∧(zdg m x (dn x (z2x m x.zk [])).1).length≤32∧(z81 m x).2=zdg m x (dn x (z2x m x.zk [])).1:=by
 rw [zj0] at h0 ⊢
 by_cases h1:(dn x (z2x m x.zk [])).2=0
 ·rw [if_pos h1] at h0 ⊢
  by_cases h2:64<(dn x (z2x m x.zk [])).1.length∨32<(zdg m x (dn x (z2x m x.zk [])).1).length
  ·rw [if_pos h2] at h0;cases h0
  ·rw [if_neg h2]
   exact ⟨h1,by omega,by omega,rfl⟩
 ·rw [if_neg h1] at h0
  exact (h1 h0).elim
theorem zcf {m:MP} {x:ED} (h:Good m) (hx:zfw x=true) (h0:(z81 m x).1=0):Good (z81 m x).2:=by
 have hg:=h.get x.zk
 have hd:=zo1 hx hg.2
 obtain ⟨h1,h2,h3,h4⟩:=zj1 h0
 rw [h4]
 unfold zdg
 split
 ·exact (h.del _).put ⟨h2,hd⟩
 ·exact h.del _
theorem zbz (x:ED) (l:List ED) (m:MP):z3h (x::l) m=if (z81 m x).1=0 then z3h l (z81 m x).2 else ((z81 m x).1,[]):=rfl
theorem zem:∀ (l:List ED) (m:MP) (n:Nat),m.length≤n→32≤n→(z3h l m).1=0→(z3h l m).2.length≤n
 | [],m,n,h,_,_=>h
 | x::l,m,n,h,hn,h0=>by
  rw [zbz] at h0 ⊢
  by_cases h1:(z81 m x).1=0
  ·rw [if_pos h1] at h0 ⊢
   obtain ⟨_,_,h3,h4⟩:=zj1 h1
   exact zem l _ n (by rw [h4];omega) hn h0
  ·rw [if_neg h1] at h0
   exact (h1 h0).elim
theorem zmc:∀ (l:List q02) (m:MP),(l.foldl (fun m f=>z2y m f.zk f.zt) m).length≤m.length+l.length
 | [],m=>by simp
 | f::l,m=>by
  have h1:=zmc l (z2y m f.zk f.zt)
  have h2:(z2y m f.zk f.zt).length≤m.length+1:=by
   have:=congrArg List.length (zai f.zk f.zt m)
   simp only [yl] at this
   rw [this]
   split<;>simp
  simp only [List.foldl_cons,yk]
  omega
theorem zid:∀ (l:List q02) (m:MP),Good m→(∀ f∈l,sgl f.zt=true)→Good (l.foldl (fun m f=>z2y m f.zk f.zt) m)
 | [],m,h,_=>h
 | f::l,m,h,hl=>zid l _ (h.put (zfn (hl f yq))) fun g hg=>hl g (yp _ hg)
theorem zho:∀ {l:List q02} {p:Option (List UInt8)},znx p l=true→∀ f∈l,sgl f.zt=true
 | f::l,p,h,g,hg=>by
  simp only [znx,yc] at h
  rcases yo.1 hg with rfl|hg
  ·exact h.1.2
  ·exact zho h.2 g hg
theorem zc0:∀ {l:List ED} {m:MP},Good m→(∀ x∈l,zfw x=true)→(z3h l m).1=0→Good (z3h l m).2
 | [],m,h,_,_=>h
 | x::l,m,h,hl,h0=>by
  unfold z3h at h0 ⊢
  split at h0
  ·rename_i h1
   rw [if_pos h1]
   exact zc0 (zcf h (hl x yq) h1) (fun y hy=>hl y (yp _ hy)) h0
  ·rename_i h1
   exact (h1 h0).elim
theorem zed {l:List (List UInt8)} (h:l.length<1000000000):M.z0s l=some l:=by
 unfold M.z0s
 rw [z2g (by rw [decide_eq_true_iff];omega)]
 rfl
theorem znr {t:TH} (ht:z3d t):∀ (n i:Nat) (m:MP),t.zl.length - i=n→i≤t.zl.length→M.z16 t (i:Int) m=some ((t.zl.drop i).foldl (fun m f=>z2y m f.zk f.zt) m):=by
 obtain ⟨h1,_,_,h4⟩:=ht.parts
 intro n
 induction n with
 | zero =>
  intro i m h2 h3
  have:i=t.zl.length:=by omega
  subst this
  rw [M.z16]
  simp
 | succ n ih =>
  intro i m h2 h3
  have hi:i<t.zl.length:=by omega
  rw [M.z16,z2s hi]
  simp only [show ((i:Int)<(t.zl.length:Int)) by omega,decide_true,if_true,z48,yi hi,ya,yb,zed (h4 _ (yj hi)).2.1]
  rw [w1 (by omega),ih (i+1) _ (by omega) (by omega)]
  rfl
theorem zns {l:List ED} {f:Nat} (hf:4*zki l+17≤f) (hl:zki l<1000000000) (hok:∀ x∈l,zfw x=true):∀ (n i:Nat) (m:MP),l.length - i=n→i≤l.length→Good m→M.z18 l f (i:Int) m=some (if (z3h (l.drop i) m).1=0 then .go (z3h (l.drop i) m).2 else .done (zT,(z3h (l.drop i) m).1)):=by
 have hlen:l.length≤zki l:=zdr (g:=fun x:ED=>x.sz) (fun x=>by unfold q00.sz;omega) l
 have hm:∀ x∈l,x.sz≤zki l:=fun x hx=>zds (g:=fun x:ED=>x.sz) hx
 intro n
 induction n with
 | zero =>
  intro i m h2 h3 hg
  have:i=l.length:=by omega
  subst this
  rw [M.z18]
  simp [z3h]
 | succ n ih =>
  intro i m h2 h3 hg
  have hi:i<l.length:=by omega
  have hxm:=yj hi
  have hsz:=hm _ hxm
  have hgg:=hg.get l[i].zk
  rw [M.z18,z2s hi]
  simp only [show ((i:Int)<(l.length:Int)) by omega,decide_true,if_true,z48,yi hi,ya,yb]
  rw [zfb (by omega) (fun v hv=>by have:=hgg.2 v hv;omega) (by omega) (by unfold z63;omega) (hok _ hxm)]
  simp only [yb]
  have hst:=zj0 m l[i]
  have hfc:=zbz l[i] (l.drop (i+1)) m
  have hgood:(z81 m l[i]).1=0→Good (z81 m l[i]).2:=zcf hg (hok _ hxm)
  generalize dn l[i] (z2x m l[i].zk [])=v at hst ⊢
  by_cases h0:v.2=0
  ·rw [if_pos h0] at hst
   simp only [h0,decide_true,yf,yd,if_false]
   have hj:(if decide ((0:Int)<(v.1.length:Int))=true then some (z2y (z62 m l[i].zk) l[i].zk v.1) else some (z62 m l[i].zk):Option MP)=some (zdg m l[i] v.1):=by
    unfold zdg
    by_cases hp:0<v.1.length
    ·have:(0:Int)<(v.1.length:Int):=by omega
     simp [hp]
    ·have:¬(0:Int)<(v.1.length:Int):=by omega
     simp [hp]
   rw [hj]
   simp only [yb]
   generalize zdg m l[i] v.1=m' at hst ⊢
   by_cases hc:64<v.1.length∨32<m'.length
   ·have hc':((decide ((64:Int)<(v.1.length:Int)))||(decide ((32:Int)<(m'.length:Int))))=true:=by
     simp only [yg,decide_eq_true_eq];omega
    rw [if_pos hc] at hst
    rw [hst] at hfc
    have hfc:z3h (l[i]::l.drop (i+1)) m=(191,[]):=hfc
    rw [if_pos hc',hfc]
    rfl
   ·have hc':¬((decide ((64:Int)<(v.1.length:Int)))||(decide ((32:Int)<(m'.length:Int))))=true:=by
     simp only [yg,decide_eq_true_eq];omega
    rw [if_neg hc] at hst
    rw [if_neg hc']
    rw [hst] at hgood hfc
    have hfc:z3h (l[i]::l.drop (i+1)) m=z3h (l.drop (i+1)) m':=hfc
    rw [w1 (by omega),ih (i+1) m' (by omega) (by omega) (hgood rfl),hfc]
  ·rw [if_neg h0] at hst
   rw [hst] at hfc
   have hfc:z3h (l[i]::l.drop (i+1)) m=(v.2,[]):=hfc.trans (if_neg h0)
   simp only [h0,decide_false,Bool.not_false,if_true,hfc,if_false]
   rfl
theorem z7s {l:List ED} {t:TH} {f:Nat} (hf:4*zki l+17≤f) (hl:zki l<1000000000) (ht:z3d t):M.q1e f l t=some (apT l t):=by
 unfold M.q1e apT
 rw [z3m ht]
 simp only [ya,yb]
 by_cases h1:zqk t=0
 ·simp only [h1,decide_true,yf,yd,if_false,if_true]
  rw [z7t hf hl]
  simp only [yb]
  by_cases h2:zec l=0
  ·simp only [h2,decide_true,yf,yd,if_false,if_true]
   have hF:znx none t.zl=true:=by
    unfold zqk at h1
    split at h1
    ·rename_i h;exact h.2
    ·cases h1
   have hok:∀ x∈l,zfw x=true:=by
    unfold zec at h2
    split at h2
    ·cases h2
    ·split at h2
     ·cases h2
     ·rename_i h;simpa using h
   have hg:Good (mp0 t.zl):=zid t.zl [] .nil (zho hF)
   have e1:=znr ht _ 0 [] rfl (yt _)
   have e1':M.z16 t 0 []=some (mp0 t.zl):=e1
   have e2:=zns hf hl hok _ 0 (mp0 t.zl) rfl (yt _) hg
   have e2':M.z18 l f 0 (mp0 t.zl)=_:=e2
   simp only [e1',e2',yh,yb]
   by_cases h3:(z3h l (mp0 t.zl)).1=0
   ·have hgf:=zc0 hg hok h3
    have h5:(mp0 t.zl).length≤t.zl.length:=Nat.le_trans (zmc t.zl []) (by simp)
    have h6:=zem l (mp0 t.zl) (t.zl.length+32) (Nat.le_trans h5 (Nat.le_add_right _ _)) (by omega) h3
    have h7:=ht.parts.1
    obtain ⟨q,hq⟩:∃ q,(z3h l (mp0 t.zl)).2.length=q:=⟨_,rfl⟩
    have hml:q<2000000000:=by
     have:q≤t.zl.length+32:=hq▸h6
     omega
    rw [if_pos h3,if_pos h3]
    simp only
    rw [zoi]
    rw [if_pos (.inr (by rw [ym,hq];omega))]
    unfold M.q5j
    rw [z2g]
    ·rfl
    ·simp only [ys,yl,List.map_map,yc,decide_eq_true_eq]
     exact ⟨by rw [hq];omega,hgf.nd⟩
   ·rw [if_neg h3,if_neg h3]
  ·simp [h2,zT]
 ·simp [h1,zT]
def say (v:J) (k:List UInt8):List UInt8 × Bool:=((z7q v k).1.z0p,(z7q v k).2&&decide ((z7q v k).1.zb=4))
theorem z2u {v:J} {k:List UInt8} (h:v.z0l.length<1000000000):M.q2o v k=some (say v k):=by
 unfold M.q2o say
 rw [z3s h]
 rfl
def zo0 (s:List UInt8):List UInt8 × Bool:=if ([93]:List UInt8).isSuffixOf s then (s.take (s.length - 1),true) else (s,false)
theorem zef {s:List UInt8} (h:s.length<1000000000):M.q5p s [93]=some (zo0 s):=by
 have hs:=z8t (s:=s) (p:=[93]) (by omega)
 unfold M.q5r at hs
 unfold M.q5p M.q0f zo0
 cases h1:M.q0h s [93] with
 | none=>rw [h1] at hs;cases hs
 | some b =>
  rw [h1] at hs
  simp only [ya,yb,Option.some.injEq] at hs
  subst hs
  cases hb:([93]:List UInt8).isSuffixOf s with
  | false=>simp
  | true =>
   have hl:=(List.isSuffixOf_iff_suffix.1 hb).length_le
   simp only [yk,ym] at hl
   have e:IntKind.wrap .i64 ((s.length:Int) - (([93]:List UInt8).length:Int))=((s.length - 1:Nat):Int):=by
    simp only [yk,ym]
    rw [w64]<;>omega
   simp only [ya,yb,yf,yd,if_false,e,if_true]
   rw [zkd (by omega)]
   rfl
def kOp:List UInt8:=[111,112]
def z4k:List UInt8:=[112,97,116,104]
def z2e:List UInt8:=[118,97,108,117,101]
def zuo:List UInt8:=[79,112,101,114,97,116,105,111,110,115]
def opW:List (List UInt8):=[[97,100,100],[114,101,109,111,118,101],[114,101,112,108,97,99,101]]
def zuv (s:List UInt8):Int:=match opW.findIdx? (fun x=>decide (s=x)) with
 | some i=>(i:Int)
 | none => -1
def z5e (p:List UInt8):EX × Int:=if (Lib.cut p [91]).2.2=true then pP (zo0 (Lib.cut p [91]).2.1).1 else (zE,0)
def z4t (o:J):List (List UInt8) × Bool:=if (z7q o z2e).1.zb=4 then ([(z7q o z2e).1.z0p],true) else if (z7q o z2e).2=true then zb0 (z7q o z2e).1 else ([],true)
def rdE (o:J):Rs ED :=
 let op:=zuv (say o kOp).1
 let c:=Lib.cut (say o z4k).1 [91]
 if op<0∨isName c.1=false∨c.2.2=true∧(zo0 c.2.1).2=false then .pan 190 else
 if (z5e (say o z4k).1).2≠0 then .pan (z5e (say o z4k).1).2 else
 if (z7q o z2e).2=decide (op=1) then .pan 190 else
 if (z4t o).2=false then .pan 190 else
 if zfw ⟨op,c.1,c.2.2,(z5e (say o z4k).1).1,(z4t o).1⟩=false then .pan 194 else .ok ⟨op,c.1,c.2.2,(z5e (say o z4k).1).1,(z4t o).1⟩
theorem zoe (s:List UInt8):M.q5i opW s=some (zuv s):=by
 unfold M.q5i zuv
 rw [zes (by decide)]
 cases opW.findIdx? (fun x=>decide (s=x))<;>rfl
theorem zsw (p q:List UInt8):(Lib.cut p q).1.length≤p.length∧(Lib.cut p q).2.1.length≤p.length:=by
 unfold Lib.cut
 split
 ·exact ⟨by simp only [List.length_take];omega,by simp only [List.length_drop];omega⟩
 ·exact ⟨Nat.le_refl _,by simp⟩
theorem zrq (v:J) (k:List UInt8):(say v k).1.length≤v.sz:=by
 have h1:=zde v k
 have h2:=(z7q v k).1.z1k
 unfold say
 simp only
 omega
theorem zfs:∀ {l:List J} {r:List (List UInt8)},texts l=some r→kys r≤szs l
 | [],r,h=>by simp only [texts,Option.some.injEq] at h;subst h;simp [kys,szs]
 | x::l,r,h=>by
  unfold texts at h
  split at h
  ·cases ht:texts l with
   | none=>rw [ht] at h;cases h
   | some q =>
    rw [ht] at h
    simp only [Option.map_some,Option.some.injEq] at h
    subst h
    have:=zfs ht
    have h2:=x.z1k
    rw [z34]
    simp only [szs]
    omega
  ·cases h
theorem zk7 (o:J):kys (z4t o).1≤o.sz:=by
 have h1:=zde o z2e
 have h2:=(z7q o z2e).1.z1k
 unfold z4t
 split
 ·rw [z34,z6s];omega
 ·split
  ·unfold zb0
   split
   ·split
    ·rename_i l hl
     have:=zfs hl
     simp only
     omega
    ·simp [kys]
   ·simp [kys]
  ·simp [kys]
theorem zfc {o:J} {f:Nat} (ho:o.sz≤1000000) (hf:20000000≤f):∃ x,M.q2c f o=some (match rdE o with | .ok x=>(x,0) | .pan c=>(x,c)):=by
 have hk:o.z0l.length<1000000000:=by have:=o.z1k;have:=z4l o.z0l;omega
 have hms:=zde o z2e
 have hmz:=(z7q o z2e).1.z1k
 have hml:=zaz (z7q o z2e).1.zc
 have hmk:=z4l (z7q o z2e).1.z0l
 have hkys:=zk7 o
 have hpl:=zrq o z4k
 obtain ⟨hc1,hc2⟩:=zsw (say o z4k).1 [91]
 have hcut:M.cut (say o z4k).1 [91]=some (Lib.cut (say o z4k).1 [91]):=by
  unfold M.cut
  rw [z2g (by rw [decide_eq_true_iff];omega)]
  rfl
 have hws:(z5e (say o z4k).1).1.sz≤204801:=by
  unfold z5e
  split
  ·exact zw0 _
  ·decide
 have hop:M.q2a=some opW:=rfl
 unfold M.q2c rdE
 have e1:M.q2o o [111,112]=some (say o kOp):=z2u hk
 have e2:M.q2o o [112,97,116,104]=some (say o z4k):=z2u hk
 have e3:M.q0j o [118,97,108,117,101]=some (z7q o z2e):=z3s hk
 simp only [e1,e2,e3,hop,ya,yb,zoe,hcut]
 rw [zef (by omega)]
 simp only [yb,z2v]
 generalize hso:zuv (say o kOp).1=op
 have hwh:z5e (say o z4k).1=if (Lib.cut (say o z4k).1 [91]).2.2=true then pP (zo0 (Lib.cut (say o z4k).1 [91]).2.1).1 else (zE,0):=rfl
 generalize hcc:Lib.cut (say o z4k).1 [91]=c at hc1 hc2 hwh ⊢
 generalize z5e (say o z4k).1=wh at hwh hws ⊢
 have hj:(if decide (op<0)=true then some true else some (!isName c.1):Option Bool)=some (decide (op<0) || !isName c.1):=by
  by_cases h:op<0<;>simp [h]
 rw [hj]
 simp only [yb]
 by_cases h1:op<0∨isName c.1=false∨c.2.2=true∧(zo0 c.2.1).2=false
 ·have h1':((decide (op<0) || !isName c.1)||(c.2.2 && !(zo0 c.2.1).2))=true:=by
   simp only [yg,decide_eq_true_eq,ye,yc]
   rcases h1 with h|h|h
   ·exact .inl (.inl h)
   ·exact .inl (.inr h)
   ·exact .inr h
  rw [if_pos h1',if_pos h1]
  exact ⟨_,rfl⟩
 ·have h1':¬((decide (op<0) || !isName c.1)||(c.2.2 && !(zo0 c.2.1).2))=true:=by
   simp only [yg,decide_eq_true_eq,ye,yc]
   rintro ((h|h)|h)
   ·exact h1 (.inl h)
   ·exact h1 (.inr (.inl h))
   ·exact h1 (.inr (.inr h))
  rw [if_neg h1',if_neg h1]
  have hq:(if c.2.2=true then (M.q1l f (zo0 c.2.1).1).bind fun a_40=>if (!decide (a_40.2=0))=true then some (Jn.done (q00.mk op c.1 c.2.2 a_40.1 [],a_40.2)) else some (Jn.go (a_40.1.zb,a_40.1.zk,a_40.1.z03,a_40.1.zc)) else some (Jn.go (0,([]:List UInt8),([]:List UInt8),([]:List EX))):Option (Jn (q00 × Int) (Int × (List UInt8) × (List UInt8) × (List EX)))) =
    some (if wh.2=0 then Jn.go (wh.1.zb,wh.1.zk,wh.1.z03,wh.1.zc) else Jn.done (q00.mk op c.1 c.2.2 wh.1 [],wh.2)):=by
   by_cases hs:c.2.2=true
   ·rw [if_pos hs,z4o _ (by omega)]
    rw [if_pos hs] at hwh
    rw [←hwh]
    simp only [yb]
    by_cases h0:wh.2=0
    ·simp [h0]
    ·simp [h0]
   ·rw [if_neg hs]
    rw [if_neg hs] at hwh
    rw [hwh]
    rfl
  rw [hq]
  simp only [yb]
  by_cases h2:wh.2=0
  ·rw [if_pos h2,if_neg (by simp [h2])]
   simp only [z9w]
   by_cases h3:(z7q o z2e).2=decide (op=1)
   ·rw [if_pos (by simpa using h3),if_pos h3]
    exact ⟨_,rfl⟩
   ·rw [if_neg (by simpa using h3),if_neg h3]
    have hq2:(if decide ((z7q o z2e).1.zb=4)=true then some (Jn.go [(z7q o z2e).1.z0p]) else if (z7q o z2e).2=true then (M.q0m (z7q o z2e).1).bind fun a_50=>if (!a_50.2)=true then some (Jn.done (q00.mk op c.1 c.2.2 wh.1 a_50.1,(190:Int))) else some (Jn.go a_50.1) else some (Jn.go []):Option (Jn (q00 × Int) (List (List UInt8)))) =
      some (if (z4t o).2=true then Jn.go (z4t o).1 else Jn.done (q00.mk op c.1 c.2.2 wh.1 (z4t o).1,190)):=by
     unfold z4t
     by_cases h4:(z7q o z2e).1.zb=4
     ·simp [h4]
     ·simp only [h4,decide_false,yd,if_false]
      by_cases h5:(z7q o z2e).2=true
      ·rw [if_pos h5,if_pos h5,zd5 (by omega)]
       simp only [yb]
       cases (zb0 (z7q o z2e).1).2<;>rfl
      ·rw [if_neg h5,if_neg h5]
       rfl
    rw [hq2]
    simp only [yb]
    cases h4:(z4t o).2 with
    | false =>
     simp only [yd,if_false,if_true]
     exact ⟨_,rfl⟩
    | true =>
     simp only [if_true,Bool.true_eq_false,if_false]
     have hsz:q00.sz ⟨op,c.1,c.2.2,wh.1,(z4t o).1⟩≤4000000:=by
      unfold q00.sz
      simp only
      omega
     rw [z8y (by omega) (by unfold z63;omega)]
     simp only [yb]
     cases h5:zfw ⟨op,c.1,c.2.2,wh.1,(z4t o).1⟩ with
     | false=>exact ⟨_,rfl⟩
     | true=>exact ⟨⟨0,[],false,zE,[]⟩,rfl⟩
  ·rw [if_neg h2,if_pos h2]
   exact ⟨_,rfl⟩
def rdL:List J→Rs (List ED)
 | [] => .ok []
 | o::l=>match rdE o with
  | .pan c => .pan c
  | .ok x=>match rdL l with
   | .pan c => .pan c
   | .ok xs => .ok (x::xs)
def zb5 (o:J):Bool:=(say o kOp).2&&(say o z4k).2
def pEs (s:List UInt8):List ED × Int :=
 let v:=parse s
 let all:=z7q v.1 zuo
 if ¬v.2=0∨all.2=false∨¬all.1.zb=5∨all.1.zc.all zb5=false then ([],190) else
 if 16<all.1.zc.length then ([],191) else match rdL all.1.zc with
  | .pan c=>([],c)
  | .ok l=>(l,0)
theorem zrm {o:J} {c:Int} (h:rdE o = .pan c):¬c=0:=by
 unfold rdE at h
 simp only at h
 split at h
 ·cases h;decide
 ·split at h
  ·rename_i h2;cases h;exact h2
  ·split at h
   ·cases h;decide
   ·split at h
    ·cases h;decide
    ·split at h
     ·cases h;decide
     ·cases h
theorem z7u (s:List UInt8) {f:Nat} (hf:20000000≤f):M.q1m f s=some (pEs s):=by
 have hps:=zox s
 have hpz:=(parse s).1.z1k
 have hpk:=z4l (parse s).1.z0l
 unfold M.q1m pEs
 have e1:∀ v:J,v.sz≤131072→M.q0j v [79,112,101,114,97,116,105,111,110,115]=some (z7q v zuo):=fun v hv=>z3s (by have:=v.z1k;have:=z4l v.z0l;omega)
 rw [z7m s (by omega)]
 simp only [ya,yb,e1 _ hps]
 have hms:=zde (parse s).1 zuo
 generalize (parse s).2=bad
 generalize z7q (parse s).1 zuo=all at hms ⊢
 have haz:=all.1.z1k
 have hal:=zaz all.1.zc
 have hmm:∀ x∈all.1.zc,x.sz≤131072:=fun x hx=>by have:=zdt hx;omega
 have hk:M.zo all.1.zc 0=some (match all.1.zc.findIdx? (fun x => !zb5 x) with|some i => .done (i:Int)|none => .go ()):=by
  refine zfi (fun i:Nat=>(i:Int)) () (by omega) (fun i h => ?_) ?_
  ·have h1:=hmm _ (yj h)
   have hkk:all.1.zc[i].z0l.length<1000000000:=by have:=all.1.zc[i].z1k;have:=z4l all.1.zc[i].z0l;omega
   have e2:M.q2o all.1.zc[i] [111,112]=some (say all.1.zc[i] kOp):=z2u hkk
   have e3:M.q2o all.1.zc[i] [112,97,116,104]=some (say all.1.zc[i] z4k):=z2u hkk
   have e4:M.q1n all.1.zc[i]=some (!zb5 all.1.zc[i]):=by
    unfold M.q1n zb5
    simp only [e2,e3,ya,yb]
    cases (say all.1.zc[i] kOp).2<;>cases (say all.1.zc[i] z4k).2<;>rfl
   rw [M.zo]
   simp only [show ((i:Int)<(all.1.zc.length:Int)) by omega,decide_true,if_true,z48,yi h,ya,yb,e4]
  ·rw [M.zo]
   simp
 have hc:M.q4v all.1.zc=some (!all.1.zc.all zb5):=by
  unfold M.q4v M.q5b
  rw [hk]
  rcases z5p all.1.zc zb5 with ⟨h1,h2⟩|⟨i,h1,h2⟩
  ·rw [h1,h2];rfl
  ·rw [h1,h2];simp
 have hk1:∀ (n i:Nat) (acc:List ED),all.1.zc.length - i=n→i≤all.1.zc.length→acc.length≤i→M.z0k all f acc (i:Int)=some (match rdL (all.1.zc.drop i) with | .pan c => .done ([],c) | .ok l => .go (acc++l)):=by
  intro n
  induction n with
  | zero =>
   intro i acc h1 h2 h3
   have:i=all.1.zc.length:=by omega
   subst this
   rw [M.z0k]
   simp [rdL]
  | succ n ih =>
   intro i acc h1 h2 h3
   have hi:i<all.1.zc.length:=by omega
   obtain ⟨x,hx⟩:=zfc (o:=all.1.zc[i]) (by have:=hmm _ (yj hi);omega) hf
   rw [M.z0k,z2s hi]
   simp only [show ((i:Int)<(all.1.zc.length:Int)) by omega,decide_true,if_true,z48,yi hi,ya,yb,hx,rdL]
   cases hr:rdE all.1.zc[i] with
   | pan c=>simp [zrm hr]
   | ok y =>
    simp only [decide_true,yf,yd,if_false,z9w]
    rw [z3l (by simp only [yk,ym];omega)]
    simp only [yb]
    rw [w1 (by omega),ih (i+1) _ (by omega) (by omega) (by simp;omega)]
    cases rdL (all.1.zc.drop (i+1)) with
    | pan c=>rfl
    | ok l=>simp
 have hj:(if ((!decide (bad=0))||(!all.2)||(!decide (all.1.zb=5)))=true then some true else (M.q4v all.1.zc).bind fun a=>some a:Option Bool)=some ((!decide (bad=0))||(!all.2)||(!decide (all.1.zb=5)) || !all.1.zc.all zb5):=by
  rw [hc]
  by_cases h:((!decide (bad=0))||(!all.2)||(!decide (all.1.zb=5)))=true
  ·rw [if_pos h,h];rfl
  ·rw [if_neg h]
   have:((!decide (bad=0))||(!all.2)||(!decide (all.1.zb=5)))=false:=by simpa using h
   rw [this];rfl
 rw [hj]
 simp only [yb]
 by_cases h1:¬bad=0∨all.2=false∨¬all.1.zb=5∨all.1.zc.all zb5=false
 ·have h1':((!decide (bad=0))||(!all.2)||(!decide (all.1.zb=5)) || !all.1.zc.all zb5)=true:=by
   simp only [yg,ye,decide_eq_false_iff_not]
   rcases h1 with h|h|h|h
   ·exact .inl (.inl (.inl h))
   ·exact .inl (.inl (.inr h))
   ·exact .inl (.inr h)
   ·exact .inr h
  rw [if_pos h1',if_pos h1]
 ·have h1':¬((!decide (bad=0))||(!all.2)||(!decide (all.1.zb=5)) || !all.1.zc.all zb5)=true:=by
   simp only [yg,ye,decide_eq_false_iff_not]
   rintro (((h|h)|h)|h)
   ·exact h1 (.inl h)
   ·exact h1 (.inr (.inl h))
   ·exact h1 (.inr (.inr (.inl h)))
   ·exact h1 (.inr (.inr (.inr h)))
  rw [if_neg h1',if_neg h1]
  by_cases h2:16<all.1.zc.length
  ·have h2':((16:Int)<(all.1.zc.length:Int)):=by omega
   simp [h2,h2']
  ·have h2':¬((16:Int)<(all.1.zc.length:Int)):=by omega
   have h3:=hk1 _ 0 [] rfl (yt _) (Nat.le_refl _)
   have h3':M.z0k all f [] 0=_:=h3
   simp only [h2,h2',decide_false,yd,if_false,h3',yh,ys,yb]
   cases rdL all.1.zc<;>rfl
def fx1:EX:=⟨0,[],[],[⟨4,[97],[120],[]⟩,⟨1,[],[],[⟨3,[98],[],[]⟩,⟨2,[],[],[⟨6,[99],[195,169],[]⟩]⟩]⟩]⟩
def fxT:TH:=⟨[55],[],[],[⟨[97],[[120],[121]]⟩]⟩
def fxL:List ED:=[⟨0,[97],false,zE,[[122]]⟩]
def fxM:List ED:=[⟨1,[97],true,⟨3,[118,97,108,117,101],[],[]⟩,[]⟩,⟨1,[97],true,⟨3,[118,97,108,117,101],[],[]⟩,[]⟩]
theorem zwx:pP [97,32,101,113,32,34,120,34,97,110,100,40,32,98,32,112,114,32,111,114,40,110,111,116,40,99,32,99,111,32,34,92,117,48,48,101,57,34,41,41,32,41]=(fx1,0):=by kernel_rfl
theorem zwy:prE fx1=([97,32,101,113,32,34,120,34,32,97,110,100,32,40,98,32,112,114,32,111,114,32,110,111,116,32,40,99,32,99,111,32,34,195,169,34,41,41],0):=by kernel_rfl
theorem zwz:(pP [97]).2=190:=by kernel_rfl
theorem zx0:pEs [123,34,79,112,101,114,97,116,105,111,110,115,34,58,91,123,34,111,112,34,58,34,97,100,100,34,44,34,112,97,116,104,34,58,34,97,34,44,34,118,97,108,117,101,34,58,91,34,122,34,93,125,93,125]=(fxL,0):=by kernel_rfl
theorem zvk:zqk fxT=0:=by kernel_rfl
theorem zx1:zec fxL=0:=by kernel_rfl
theorem zx2:z3h fxL (mp0 fxT.zl)=(0,[([97],[[120],[121],[122]])]):=by kernel_rfl
theorem zx3:zec fxM=0:=by kernel_rfl
theorem zx4:(z3h fxM (mp0 fxT.zl)).1=192:=by kernel_rfl
theorem zvj:mat ⟨4,[97],[121],[]⟩ fxT=true:=by kernel_rfl
theorem zi3 {f:Nat} (hf:20000000≤f):M.q1d f=some true:=by
 have h7:apT fxL fxT=(⟨[55],[],[],[⟨[97],[[120],[121],[122]]⟩]⟩,0):=by
  unfold apT
  rw [if_pos zvk,if_pos zx1,zx2]
  simp only [if_true,srt,List.map_cons,List.map_nil,List.mergeSort_singleton]
  rfl
 have h9:(apT fxM fxT).2=192:=by
  unfold apT
  have h:=zx4
  rw [if_pos zvk,if_pos zx3,if_neg (by rw [h];decide)]
  exact h
 have hT:z3d fxT:=by unfold z3d;decide
 unfold M.q1d
 rw [z4o _ (by omega),zwx]
 simp only [ya,yb]
 rw [z7v (e:=fx1) (f:=f) (by have:fx1.sz≤100:=(by decide);omega) (by unfold z0n;decide),zwy]
 simp only [yb]
 rw [z4o _ (by omega)]
 simp only [yb]
 rw [z7u _ hf,zx0]
 simp only [yb]
 have e7:=z7s (l:=fxL) (t:=fxT) (f:=f) (by have:zki fxL≤100:=(by decide);omega) (by decide) hT
 rw [h7] at e7
 have e7':M.q1e f fxL ⟨[55],[],[],[⟨[97],[[120],[121]]⟩]⟩=_:=e7
 rw [e7']
 simp only [yb]
 have e9:=z7s (l:=fxM) (t:=fxT) (f:=f) (by have:zki fxM≤100:=(by decide);omega) (by decide) hT
 have e9':M.q1e f [⟨1,[97],true,⟨3,[118,97,108,117,101],[],[]⟩,[]⟩,⟨1,[97],true,⟨3,[118,97,108,117,101],[],[]⟩,[]⟩] ⟨[55],[],[],[⟨[97],[[120],[121]]⟩]⟩=_:=e9
 rw [e9']
 simp only [yb,decide_true,Bool.true_and,zwz,if_true]
 have e10:=z1i (e:=⟨4,[97],[121],[]⟩) (t:=fxT) (f:=f) (by have:q01.sz ⟨4,[97],[121],[]⟩≤100:=(by decide);omega) (by unfold z0n;decide) hT
 rw [zvj] at e10
 have e10':M.q1k f ⟨4,[97],[121],[]⟩ ⟨[55],[],[],[⟨[97],[[120],[121]]⟩]⟩=_:=e10
 have e11:=z3m hT
 rw [zvk] at e11
 have e11':M.q1j ⟨[55],[],[],[⟨[97],[[120],[121]]⟩]⟩=_:=e11
 rw [e10']
 simp [h9,e11',zkj]
end Go.Sen
end
section
namespace Go.Sen
open Go.Lk Go.Pe
end Go.Sen
end
section
namespace Go.Sen
open Go.Lk Go.Pe
def At (s r:List UInt8) (i:Nat):Prop:=s.drop i=r∧i≤s.length
section
variable {s r:List UInt8} {c:UInt8} {i:Nat}
def hd:List UInt8→Int
 | []=>0
 | c::_=>(c.toNat:Int)
end
end Go.Sen
end
section
namespace Go.Sen
open Go.Lk Go.Pe
section
variable {s r:List UInt8} {c:UInt8} {i:Nat}
end
end Go.Sen
end
section
namespace Go.Sen
open Go.Lk Go.Pe
end Go.Sen
end
section
namespace Go.Sen
open Go.Lk Go.Pe
theorem law_PathChecks {e:EX} {f:Nat} (h:e.sz≤1048576) (hf:20000000≤f):M.q15 f e=some true:=by
 have hs:z0n e:=by unfold z0n;omega
 unfold M.q15
 rw [z7v (by omega) hs,zfe (by omega) hs,zi3 hf,z19 (by omega) hs,z90 (by omega) hs]
 simp
end Go.Sen
end
