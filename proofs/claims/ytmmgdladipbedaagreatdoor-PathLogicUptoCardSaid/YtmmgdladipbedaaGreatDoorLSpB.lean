import Derived.Test.YtmmgdladipbedaaGreatDoorLSpA
import Derived.Test.YtmmgdladipbedaaGreatDoorLSnH
set_option linter.all false
section
namespace Go.Sen
open _root_.Option renaming bind_eq_bind → ya, bind_some → yb
open _root_.Bool renaming false_eq_true → yc, false_or → yd
open _root_.List renaming getElem?_eq_getElem → ye, getElem_mem → yf, length_append → yg, length_cons → yh, length_nil → yi, map_cons → yj, sum_cons → yk
open Go.Lk Go.Pe
abbrev EX:=q01
mutual
def q01.sz:EX→Nat
 | ⟨_,n,v,l⟩=>ezs l+n.length+v.length+1
def ezs:List EX→Nat
 | []=>0
 | x::xs=>x.sz+ezs xs
end
theorem q01.z1k (e:EX):e.sz=ezs e.zc+e.zk.length+e.z03.length+1:=by cases e;simp [q01.sz]
theorem z2a:∀ {l:List EX} {x:EX},x∈l→x.sz≤ezs l
 | y::l,x,h=>by
  simp only [ezs]
  rcases List.mem_cons.1 h with rfl|h
  ·omega
  ·have:=z2a h;omega
theorem z4i:∀ l:List EX,l.length≤ezs l
 | []=>by simp [ezs]
 | x::l=>by
  have:=z4i l
  simp only [ezs,yh,q01.z1k x]
  omega
def fm0 (k:Int) (n v:List UInt8) (m:Nat):Bool :=
 if k=0∨k=1 then decide (2≤m)&&decide (n=[])&&decide (v=[]) else if k=2 then decide (m=1)&&decide (n=[])&&decide (v=[]) else
  decide (2<k∧k<13)&&decide (m=0)&&isName n&&z2n v&&(!decide (k=3)||decide (v=[]))
mutual
def fm:EX→Bool
 | ⟨k,n,v,l⟩=>fm0 k n v l.length&&(decide (2<k)||fmL l)
def fmL:List EX→Bool
 | []=>true
 | x::xs=>fm x&&fmL xs
end
theorem zba (e:EX):fm e=(fm0 e.zb e.zk e.z03 e.zc.length&&(decide (2<e.zb)||fmL e.zc)):=by cases e;simp only [fm]
theorem zcy:∀ l:List EX,fmL l=l.all fm
 | []=>rfl
 | x::l=>by simp [fmL,zcy l]
def z0n (e:EX):Prop:=e.sz<1000000000
theorem z0n.mem {e x:EX} (h:z0n e) (hx:x∈e.zc):z0n x:=by
 have:=z2a hx
 have h2:=e.z1k
 unfold z0n at *
 omega
theorem z5c:∀ (f:Nat) (e:EX),4*e.sz≤f→z0n e→M.q21 f e=some (fm e)
 | 0,e,hf,_=>by have:=e.z1k;omega
 | f+1,e,hf,hs=>by
  have hz:=e.z1k
  have hlen:=z4i e.zc
  have hs':=hs
  unfold z0n at hs'
  have hself:∀ g,4*ezs e.zc+1≤g→g≤f→∀ x∈e.zc,M.q22 g x=some (!fm x):=fun g hg hgf x hx=>by
   have hm:=z2a hx
   match g,hg,hgf with
   | g+1,hg,hgf =>
    unfold M.q22
    rw [z5c g x (by omega) (hs.mem hx)]
    rfl
  have hloop:∀ g,4*ezs e.zc+3≤g→g≤f→M.q4s g e.zc=some (!fmL e.zc):=fun g hg hgf=>by
   match g,hg,hgf with
   | g+2,hg,hgf =>
    have hk:M.zv e.zc (M.q22 g) 0=some (match e.zc.findIdx? (fun x => !fm x) with|some i => .done (i:Int)|none => .go ()):=by
     refine zfi (fun i:Nat=>(i:Int)) () (by omega) (fun i h => ?_) ?_
     ·rw [M.zv]
      simp only [show ((i:Int)<(e.zc.length:Int)) by omega,decide_true,if_true,z48,ye h,ya,yb,hself g (by omega) (by omega) _ (yf h)]
     ·rw [M.zv]
      simp
    unfold M.q4s M.q56
    rw [hk,zcy]
    rcases z5p e.zc fm with ⟨h1,h2⟩|⟨i,h1,h2⟩
    ·rw [h1,h2];rfl
    ·rw [h1,h2];simp
  unfold M.q21
  have hcat:cat e.zk e.z03=some (e.zk++e.z03):=z1q (by omega)
  by_cases h1:e.zb<0∨13≤e.zb
  ·have h2:((decide (e.zb<0))||(decide (13≤e.zb)))=true:=by simpa using h1
   have h3:fm e=false:=by
    rw [zba]
    have:fm0 e.zb e.zk e.z03 e.zc.length=false:=by
     unfold fm0
     rw [if_neg (by omega),if_neg (by omega)]
     have:¬(2<e.zb∧e.zb<13):=by omega
     simp [this]
    simp [this]
   simp only [h2,if_true,ya,yb,h3]
  ·have h2:((decide (e.zb<0))||(decide (13≤e.zb)))=false:=by simpa using h1
   simp only [h2,yc,if_false]
   by_cases h3:2<e.zb
   ·have h4:¬(e.zb=0∨e.zb=1):=by omega
    have h5:¬e.zb=2:=by omega
    have h6:(2<e.zb∧e.zb<13):=by omega
    simp only [h3,decide_true,if_true,z2v,z8z,ya,yb,zba,fm0,h4,h5,h6,if_false,Bool.true_and,Bool.true_or,Bool.and_true]
    by_cases g1:e.zc.length=0<;>cases g2:isName e.zk<;>cases g3:z2n e.z03<;>simp [g1,g2,g3]
   ·simp only [h3,decide_false,yc,if_false]
    have hl:=hloop f (by omega) (Nat.le_refl _)
    have hcd:(decide (e.zk++e.z03=([]:List UInt8)))=(decide (e.zk=[])&&decide (e.z03=[])):=by
     rw [Bool.eq_iff_iff];simp
    by_cases h5:e.zb=2
    ·have h4:¬(e.zb=0∨e.zb=1):=by omega
     simp only [h5,decide_true,if_true,ya,yb,hcat,hl,hcd,zba,fm0,h4,if_false,h3,decide_false,yd]
     by_cases g1:e.zk=[]<;>by_cases g2:e.z03=[]<;>by_cases g3:e.zc.length=1<;>simp [g1,g2,g3]
     all_goals omega
    ·have h4:(e.zb=0∨e.zb=1):=by omega
     simp only [h5,decide_false,yc,if_false,ya,yb,hcat,hl,hcd,zba,fm0,h4,if_true,h3,yd]
     by_cases g1:e.zk=[]<;>by_cases g2:e.z03=[]<;>by_cases g3:2≤e.zc.length<;>simp [g1,g2,g3]
     all_goals omega
termination_by f=>f
decreasing_by omega
theorem zas:∀ (f:Nat) (e:EX),e.sz≤f→z0n e→M.q44 f e=some (fm e)
 | 0,e,hf,_=>by have:=e.z1k;omega
 | f+1,e,hf,hs=>by
  have hz:=e.z1k
  have hlen:=z4i e.zc
  have hs':=hs
  unfold z0n at hs'
  have hk:M.z2c e (M.q44 f) 0=some (match e.zc.findIdx? (fun x => !fm x) with|some i => .done false|none => .go ()):=by
   refine zfi (fun _=>false) () (by omega) (fun i h => ?_) ?_
   ·have hm:=z2a (yf h)
    rw [M.z2c]
    simp only [show ((i:Int)<(e.zc.length:Int)) by omega,decide_true,if_true,z48,ye h,ya,yb,zas f _ (by omega) (hs.mem (yf h))]
   ·rw [M.z2c]
    simp
  have hk2:(match e.zc.findIdx? (fun x => !fm x) with|some i=>(.done false:Jn Bool Unit)|none => .go ())=if fmL e.zc=true then .go () else .done false:=by
   rw [zcy]
   rcases z5p e.zc fm with ⟨h1,h2⟩|⟨i,h1,h2⟩
   ·rw [h1,h2];rfl
   ·rw [h1,h2];rfl
  rw [hk2] at hk
  have hlen2:∀ m:Nat,decide ((e.zc.length:Int)=m)=decide (e.zc.length=m):=fun m=>by rw [decide_eq_decide];omega
  have hlen3:decide ((e.zc.length:Int)<2) = !decide (2≤e.zc.length):=by rw [←decide_not,decide_eq_decide];omega
  have hnt:=zh1 (s:=e.zk) (by omega)
  unfold M.q44
  rw [hk,zba]
  by_cases h4:e.zb=0∨e.zb=1
  ·have h4':((decide (e.zb=0))||(decide (e.zb=1)))=true:=by simpa using h4
   have h3:¬2<e.zb:=by omega
   simp only [h4',if_true,fm0,h4,hlen3,h3,decide_false,yd]
   by_cases g1:e.zk=[]<;>by_cases g2:e.z03=[]<;>by_cases g3:2≤e.zc.length<;>cases g4:fmL e.zc<;>simp [g1,g2,g3]
  ·have h4':((decide (e.zb=0))||(decide (e.zb=1)))=false:=by simpa using h4
   simp only [h4',yc,if_false,fm0,h4]
   by_cases h5:e.zb=2
   ·have h1:=hlen2 1
    have h3:¬2<e.zb:=by omega
    simp only [h5,decide_true,if_true,show ((1:Nat):Int)=1 from rfl] at h1 ⊢
    simp only [h1]
    by_cases g1:e.zk=[]<;>by_cases g2:e.z03=[]<;>by_cases g3:e.zc.length=1<;>cases g4:fmL e.zc<;>simp [g1,g2,g3]
   ·simp only [h5,decide_false,yc,if_false]
    by_cases h6:2<e.zb∧e.zb<13
    ·have h6':((decide (2<e.zb))&&(decide (e.zb<13)))=true:=by simpa using h6
     have h0:=hlen2 0
     simp only [h6',if_true,hnt,zh2,ya,yb,h6.1,h6.2,and_self,decide_true,Bool.true_and,Bool.true_or,Bool.and_true]
     by_cases g1:e.zc.length=0<;>cases g2:isName e.zk<;>cases g3:z2n e.z03<;>simp [g1,g2,g3]
    ·have h6':((decide (2<e.zb))&&(decide (e.zb<13)))=false:=by
      rw [Bool.eq_false_iff]
      simpa using h6
     simp [h6',h6]
def wrd (k:Int):List UInt8:=(match ([[101,113],[110,101],[99,111],[115,119],[101,119],[103,116],[103,101],[108,116],[108,101]]:List (List UInt8))[(k - 4).toNat]? with|some w=>w|none=>[])
def bra (k:Int) (x:EX):Bool:=decide (k=2)||decide (x.zb=1)||decide (x.zb=0)&&decide (k=0)
def sep (k:Int):List UInt8:=if k=0 then [32,97,110,100,32] else [32,111,114,32]
mutual
def tx:EX→List UInt8
 | ⟨k,n,v,l⟩=>if k=3 then n++[32,112,114] else if 3<k then n++[32]++wrd k++[32]++qt v else if k=2 then [110,111,116,32]++(txL k l).head?.getD [] else Lib.join (txL k l) (sep k)
def txL (k:Int):List EX→List (List UInt8)
 | []=>[]
 | x::xs=>(if bra k x=true then 40::(tx x++[41]) else tx x)::txL k xs
end
mutual
def dp:EX→Nat
 | ⟨k,_,_,l⟩=>if 2<k then 0 else dpL k l
def dpL (k:Int):List EX→Nat
 | []=>0
 | x::xs=>max (dp x+(if bra k x=true then 1 else 0)) (dpL k xs)
end
theorem zft (e:EX):tx e=if e.zb=3 then e.zk++[32,112,114] else if 3<e.zb then e.zk++[32]++wrd e.zb++[32]++qt e.z03 else if e.zb=2 then [110,111,116,32]++(txL e.zb e.zc).head?.getD [] else Lib.join (txL e.zb e.zc) (sep e.zb):=by cases e;simp only [tx]
theorem zg8 (e:EX):dp e=if 2<e.zb then 0 else dpL e.zb e.zc:=by cases e;simp only [dp]
def txb (k:Int) (x:EX):List UInt8:=if bra k x=true then 40::(tx x++[41]) else tx x
theorem zdu (k:Int):∀ l,txL k l=l.map (txb k)
 | []=>by simp [txL]
 | x::l=>by simp [txL,zdu k l,txb]
theorem zhe (k:Int):(wrd k).length≤2:=by
 unfold wrd
 split
 ·rename_i w h
  have:=List.mem_of_getElem? h
  simp only [List.mem_cons,List.not_mem_nil,or_false] at this
  rcases this with rfl|rfl|rfl|rfl|rfl|rfl|rfl|rfl|rfl<;>decide
 ·decide
theorem z8u (sep:List UInt8):∀ l:List (List UInt8),(Lib.joinTail sep l).length=(l.map fun x=>x.length+sep.length).sum
 | []=>rfl
 | x::l=>by
  have:=z8u sep l
  unfold Lib.joinTail at this ⊢
  simp [this]
  omega
theorem za7 (l:List (List UInt8)) (sep:List UInt8):(Lib.join l sep).length≤(l.map fun x=>x.length+sep.length).sum:=by
 cases l with
 | nil=>simp [Lib.join_nil]
 | cons x l =>
  rw [Lib.join_cons]
  simp [z8u]
theorem zh7 (k:Int):(sep k).length≤5:=by unfold sep;split<;>decide
mutual
theorem zch:∀ e:EX,(tx e).length+7≤16*e.sz
 | ⟨k,n,v,l⟩=>by
  have h1:=zdv k l
  have h2:=zao v
  have h3:=zhe k
  have h4:=zh7 k
  simp only [tx,q01.sz]
  split
  ·simp;omega
  ·split
   ·simp;omega
   ·split
    ·cases l with
     | nil=>simp [txL];omega
     | cons x l =>
      simp only [txL,yj,yk,ezs] at h1 ⊢
      simp only [List.head?_cons,Option.getD_some,yg,yh,yi]
      omega
    ·have h5:=za7 (txL k l) (sep k)
     have h6:((txL k l).map fun x=>x.length+(sep k).length).sum≤((txL k l).map fun x=>x.length+5).sum:=by
      generalize txL k l=L
      induction L with
      | nil=>simp
      | cons x L ih=>simp only [yj,yk];omega
     omega
theorem zdv (k:Int):∀ l:List EX,((txL k l).map fun x=>x.length+5).sum≤16*ezs l
 | []=>by simp [txL]
 | x::l=>by
  have h1:=zch x
  have h2:=zdv k l
  simp only [txL,yj,yk,ezs]
  split
  ·simp only [yh,yg,yi];omega
  ·omega
end
end Go.Sen
end
section
namespace Go.Sen
open _root_.Option renaming bind_assoc → ya, bind_eq_bind → yb, bind_some → yc, getD_some → yd
open _root_.Bool renaming and_eq_true → ye, and_false → yf, and_true → yg, false_eq_true → yh, not_true → yi, or_eq_true → yj
open _root_.List renaming append_assoc → yk, append_nil → yl, cons_append → ym, drop_zero → yn, getElem?_cons_zero → yo, getElem?_eq_getElem → yp, getElem_mem → yq, head?_cons → yr, length_append → ys, length_cons → yt, length_nil → yu, mem_singleton → yv, nil_append → yw, take_succ_cons → yx
open _root_.Nat renaming max_assoc → yy, zero_le → yz
open _root_.Int renaming natCast_zero → yaa
open IntKind renaming wrap → yab
open Go.Lk Go.Pe
theorem zsz:∀ e:EX,dp e≤e.sz:=by
 have key:(∀ e:EX,dp e≤e.sz):=by
  intro e
  induction h:e.sz using Nat.strongRecOn generalizing e with
  | ind n ih =>
   subst h
   have hz:=e.z1k
   rw [zg8]
   split
   ·omega
   ·have:∀ l:List EX,(∀ x∈l,x.sz<e.sz)→dpL e.zb l≤ezs l+1:=by
     intro l
     induction l with
     | nil=>intro _;simp [dpL]
     | cons x l ih2 =>
      intro hl
      have h1:=ih x.sz (hl x List.mem_cons_self) x rfl
      have h2:=ih2 fun y hy=>hl y (List.mem_cons_of_mem _ hy)
      simp only [dpL,ezs]
      have h3:=x.z1k
      split<;>omega
    have h:=this e.zc fun x hx=>by have:=z2a hx;omega
    omega
 exact key
theorem z9h (a b:Nat):zma (a:Int) (b:Int)=((max a b:Nat):Int):=by
 unfold zma
 split<;>omega
theorem zs2 {e:EX} {self:EX→Option (List UInt8 × Int)} (hs:z0n e) (hself:∀ x∈e.zc,self x=some (tx x,(dp x:Int))):∀ (n i:Nat) (acc:List (List UInt8)) (d:Nat),e.zc.length - i=n→i≤e.zc.length→acc.length≤i →
  M.z1g e self acc (d:Int) (i:Int)=some (acc++txL e.zb (e.zc.drop i),((max d (dpL e.zb (e.zc.drop i)):Nat):Int)):=by
 have hz:=e.z1k
 have hlen:=z4i e.zc
 unfold z0n at hs
 intro n
 induction n with
 | zero =>
  intro i acc d h1 h2 h3
  have:i=e.zc.length:=by omega
  subst this
  rw [M.z1g]
  simp [txL,dpL]
 | succ n ih =>
  intro i acc d h1 h2 h3
  have hi:i<e.zc.length:=by omega
  have hm:=yq hi
  have hx:=z2a hm
  have hxl:=zch e.zc[i]
  have hdl:=zsz e.zc[i]
  have hb:(((decide (e.zb=2))||(decide (e.zc[i].zb=1)))||((decide (e.zc[i].zb=0))&&(decide (e.zb=0))))=bra e.zb e.zc[i]:=rfl
  rw [M.z1g]
  simp only [show ((i:Int)<(e.zc.length:Int)) by omega,decide_true,if_true,z48,yp hi,yb,yc,hself _ hm,hb]
  rw [z2s hi]
  simp only [txL,dpL]
  cases hbr:bra e.zb e.zc[i] with
  | true =>
   simp only [if_true]
   rw [z1q (by simp only [yt,yu];omega)]
   simp only [yc]
   rw [z1q (by simp only [yt,yu,ys];omega)]
   simp only [yc]
   rw [z3l (by simp only [yt,yu];omega)]
   simp only [yc]
   rw [w1 (by omega),w1 (by omega),z9h,ih (i+1) _ _ (by omega) (by omega) (by simp;omega)]
   simp only [yk,ym,yw,yy]
  | false =>
   simp only [yh,if_false,yc]
   rw [z3l (by simp only [yt,yu];omega)]
   simp only [yc]
   rw [w1 (by omega),z9h,ih (i+1) _ _ (by omega) (by omega) (by simp;omega)]
   simp only [yk,ym,yw,yy,Nat.add_zero]
theorem zkf {v:List UInt8} (h:z2n v=true) {f:Nat} (hf:17≤f):M.q0l f ⟨4,v,[],[]⟩=some (qt v,0):=by
 unfold z2n at h
 simp only [ye,decide_eq_true_eq] at h
 have hq:=zao v
 rw [zd4 hf (by unfold Small;simp [q03.sz,szs,kys];omega)]
 have h1:z73 ⟨4,v,[],[]⟩ 0=0:=by simp [z73,frm,h.2,zb2]
 have h2:prJ ⟨4,v,[],[]⟩=qt v:=by simp [prJ]
 unfold print
 rw [if_pos h1,h2,if_neg (by omega)]
theorem zua {k:Int} (h1:3<k) (h2:k<13):∃ c:q06,(do let a←M.q1s;ix a (yab .i64 (k - 4)))=some c∧c.z3k=wrd k:=by
 have:k=4∨k=5∨k=6∨k=7∨k=8∨k=9∨k=10∨k=11∨k=12:=by omega
 rcases this with rfl|rfl|rfl|rfl|rfl|rfl|rfl|rfl|rfl<;>exact ⟨_,rfl,rfl⟩
theorem zcz {e:EX} (h:fm e=true):0≤e.zb∧e.zb<13:=by
 rw [zba] at h
 simp only [ye] at h
 have h1:=h.1
 unfold fm0 at h1
 split at h1
 ·omega
 ·split at h1
  ·omega
  ·simp only [ye,decide_eq_true_eq] at h1;omega
theorem zd0 {e:EX} (h:fm e=true) (hk:2<e.zb):e.zc=[]∧isName e.zk=true∧z2n e.z03=true∧(e.zb=3→e.z03=[]):=by
 rw [zba] at h
 simp only [ye] at h
 have h1:=h.1
 unfold fm0 at h1
 rw [if_neg (by omega),if_neg (by omega)] at h1
 simp only [ye,decide_eq_true_eq,yj,Bool.not_eq_true',decide_eq_false_iff_not] at h1
 obtain ⟨⟨⟨⟨_,h2⟩,h3⟩,h4⟩,h5⟩:=h1
 exact ⟨List.eq_nil_of_length_eq_zero h2,h3,h4,fun hk=>h5.resolve_left fun hn=>hn hk⟩
theorem zi6 {e:EX} (h:fm e=true) (hk:e.zb=2):∃ x,e.zc=[x]∧e.zk=[]∧e.z03=[]∧fm x=true:=by
 rw [zba] at h
 simp only [ye,yj,decide_eq_true_eq] at h
 have h1:=h.1
 unfold fm0 at h1
 rw [if_neg (by omega),if_pos hk] at h1
 simp only [ye,decide_eq_true_eq] at h1
 obtain ⟨x,hx⟩:=List.length_eq_one_iff.1 h1.1.1
 have h2:=h.2.resolve_left (by omega)
 rw [hx] at h2
 simp only [fmL,yg] at h2
 exact ⟨x,hx,h1.1.2,h1.2,h2⟩
theorem zta {e:EX} (h:fm e=true) (hk:e.zb=0∨e.zb=1):2≤e.zc.length∧e.zk=[]∧e.z03=[]∧∀ x∈e.zc,fm x=true:=by
 rw [zba] at h
 simp only [ye,yj,decide_eq_true_eq] at h
 have h1:=h.1
 unfold fm0 at h1
 rw [if_pos hk] at h1
 simp only [ye,decide_eq_true_eq] at h1
 have h2:=h.2.resolve_left (by omega)
 rw [zcy,List.all_eq_true] at h2
 exact ⟨h1.1.1,h1.1.2,h1.2,h2⟩
theorem zby {e x:EX} (h:fm e=true) (hx:x∈e.zc):fm x=true:=by
 by_cases h2:2<e.zb
 ·rw [(zd0 h h2).1] at hx;cases hx
 ·have hk:=zcz h
  by_cases h3:e.zb=2
  ·obtain ⟨y,hy,_,_,h4⟩:=zi6 h h3
   rw [hy,yv] at hx
   rw [hx];exact h4
  ·exact (zta h (by omega)).2.2.2 x hx
theorem z5d:∀ (f:Nat) (e:EX),e.sz+17≤f→z0n e→fm e=true→M.q2r f e=some (tx e,(dp e:Int))
 | 0,e,hf,_,_=>by omega
 | f+1,e,hf,hs,hfm=>by
  have hz:=e.z1k
  have hs':=hs
  unfold z0n at hs'
  have hk:=zcz hfm
  unfold M.q2r
  by_cases h3:e.zb=3
  ·simp only [h3,decide_true,if_true]
   rw [z1q (by simp only [yt,yu];omega),zft e,zg8 e,if_pos h3,if_pos (by omega)]
   rfl
  ·simp only [h3,decide_false,yh,if_false]
   by_cases h4:3<e.zb
   ·obtain ⟨h5,h6,h7,_⟩:=zd0 hfm (by omega)
    obtain ⟨c,hc1,hc2⟩:=zua h4 hk.2
    have hq:=zao e.z03
    have hw:=zhe e.zb
    simp only [h4,decide_true,if_true,zkf h7 (f:=f) (by omega),yb,yc]
    rw [z1q (by simp only [yt,yu];omega)]
    simp only [yc]
    have hc1':(M.q1s.bind fun a=>(ix a (yab .i64 (e.zb - 4))).bind fun x=>(cat (e.zk++[32]) x.z3k).bind fun s=>(cat s [32]).bind fun s=>(cat s (qt e.z03)).bind fun s=>some (s,(0:Int))) =
      ((do let a←M.q1s;ix a (yab .i64 (e.zb - 4))):Option q06).bind fun x=>(cat (e.zk++[32]) x.z3k).bind fun s=>(cat s [32]).bind fun s=>(cat s (qt e.z03)).bind fun s=>some (s,(0:Int)):=by
     simp [ya]
    rw [hc1',hc1]
    simp only [yc,hc2]
    rw [z1q (by simp only [yt,yu,ys];omega)]
    simp only [yc]
    rw [z1q (by simp only [yt,yu,ys];omega)]
    simp only [yc]
    rw [z1q (by simp only [yt,yu,ys];omega)]
    rw [zft e,zg8 e,if_neg h3,if_pos h4,if_pos (by omega)]
    rfl
   ·have hk1:=zs2 (self:=M.q2r f) hs (fun x hx=>z5d f x (by have:=z2a hx;omega) (hs.mem hx) (zby hfm hx)) _ 0 [] 0 rfl (yz _) (Nat.le_refl _)
    simp only [yn,yw,Nat.zero_max] at hk1
    simp only [h4,decide_false,yh,if_false,yb]
    have hk1':M.z1g e (M.q2r f) [] 0 0=some (txL e.zb e.zc,(dpL e.zb e.zc:Int)):=hk1
    rw [hk1']
    have ht:=zch e
    rw [zft e,zg8 e,if_neg (by omega:¬2<e.zb)]
    rw [zft e,if_neg h3,if_neg h4] at ht
    rw [if_neg h3,if_neg h4]
    by_cases h2:e.zb=2
    ·obtain ⟨x,hx,_,_,_⟩:=zi6 hfm h2
     rw [if_pos h2] at ht ⊢
     simp only [h2,hx,txL,yr,yd,ys,yt,yu] at ht
     simp only [h2,decide_true,if_true,hx,txL,yr,yd,yc,zkj,yo]
     rw [z1q (by simp only [yt,yu];omega)]
     rfl
    ·have h01:e.zb=0∨e.zb=1:=by omega
     rw [if_neg h2] at ht ⊢
     have hsep:ix [([32,97,110,100,32]:List UInt8),([32,111,114,32]:List UInt8)] e.zb=some (sep e.zb):=by
      rcases h01 with h|h<;>rw [h]<;>rfl
     have hll:(txL e.zb e.zc).length=e.zc.length:=by rw [zdu];simp
     have hlen:=z4i e.zc
     simp only [h2,decide_false,yh,if_false,yc,hsep]
     unfold M.join
     rw [z2g (by simp only [ye,decide_eq_true_eq];omega)]
     rfl
theorem zar:∀ (f:Nat) (e:EX),e.sz≤f→z0n e→fm e=true→M.q3z f e=some (dp e:Int)
 | 0,e,hf,_,_=>by have:=e.z1k;omega
 | f+1,e,hf,hs,hfm=>by
  have hz:=e.z1k
  have hs':=hs
  unfold z0n at hs'
  have hlen:=z4i e.zc
  have hk:∀ (n i d:Nat),e.zc.length - i=n→i≤e.zc.length→M.z1j e (M.q3z f) (d:Int) (i:Int)=some ((max d (dpL e.zb (e.zc.drop i)):Nat):Int):=by
   intro n
   induction n with
   | zero =>
    intro i d h1 h2
    have:i=e.zc.length:=by omega
    subst this
    rw [M.z1j]
    simp [dpL]
   | succ n ih =>
    intro i d h1 h2
    have hi:i<e.zc.length:=by omega
    have hm:=yq hi
    have hx:=z2a hm
    have hdl:=zsz e.zc[i]
    have hb:M.q3y e.zc[i] e=some (bra e.zb e.zc[i]):=rfl
    rw [M.z1j]
    simp only [show ((i:Int)<(e.zc.length:Int)) by omega,decide_true,if_true,z48,yp hi,yb,yc,zar f _ (by omega) (hs.mem hm) (zby hfm hm),hb]
    rw [z2s hi]
    simp only [dpL]
    cases hbr:bra e.zb e.zc[i] with
    | true =>
     simp only [if_true]
     rw [w1 (by omega),w1 (by omega),z9h,ih (i+1) _ (by omega) (by omega),yy]
    | false =>
     simp only [yh,if_false,Nat.add_zero]
     rw [w1 (by omega),z9h,ih (i+1) _ (by omega) (by omega),yy]
  unfold M.q3z
  have:=hk _ 0 0 rfl (yz _)
  simp only [yn,Nat.zero_max] at this
  have h0:M.z1j e (M.q3z f) 0 0=some (dpL e.zb e.zc:Int):=this
  simp only [h0,yb,yc]
  rw [zg8]
  split
  ·rename_i h2
   rw [(zd0 hfm h2).1]
   rfl
  ·rfl
def z88 (e:EX):Int:=if fm e=false then 194 else if 16<dp e then 193 else 0
theorem z19 {e:EX} {f:Nat} (hf:4*e.sz+17≤f) (hs:z0n e):M.q1f f e=some (z88 e):=by
 unfold M.q1f z88
 rw [z5c f e (by omega) hs]
 cases h:fm e with
 | false=>rfl
 | true =>
  simp only [yb,yc,yi,yh,if_false,z5d f e (by omega) hs h]
  by_cases hd:16<dp e
  ·have:(16:Int)<(dp e:Int):=by omega
   simp [hd,this]
  ·have:¬(16:Int)<(dp e:Int):=by omega
   simp [hd,this]
theorem z90 {e:EX} {f:Nat} (hf:e.sz≤f) (hs:z0n e):M.q3j f e=some (z88 e):=by
 unfold M.q3j z88
 rw [zas f e hf hs]
 cases h:fm e with
 | false=>rfl
 | true =>
  simp only [yb,yc,yi,yh,if_false,zar f e hf hs h]
  by_cases hd:16<dp e
  ·have:(16:Int)<(dp e:Int):=by omega
   simp [hd,this]
  ·have:¬(16:Int)<(dp e:Int):=by omega
   simp [hd,this]
theorem zlx (L:List (List UInt8)) (sp:List UInt8) (i:Nat) (hi:i<L.length):Lib.join (L.take (i+1)) sp=Lib.join (L.take i) sp++(if i=0 then [] else sp)++L[i]:=by
 cases L with
 | nil=>simp at hi
 | cons x L =>
  cases i with
  | zero=>simp [Lib.join_one,Lib.join_nil]
  | succ i =>
   have hi':i<L.length:=by simpa using hi
   simp only [yx,Lib.join_cons,Lib.joinTail,List.getElem_cons_succ]
   rw [List.take_add_one (l:=L),yp hi',if_neg (by omega)]
   simp only [Option.toList_some,List.map_append,List.map_cons,List.map_nil,List.flatten_append,List.flatten_cons,List.flatten_nil,yl,yk]
theorem zaq:∀ (f:Nat) (e:EX),e.sz≤f→z0n e→fm e=true→M.q3v f e=some (tx e)
 | 0,e,hf,_,_=>by have:=e.z1k;omega
 | f+1,e,hf,hs,hfm=>by
  have hz:=e.z1k
  have hs':=hs
  unfold z0n at hs'
  have hlen:=z4i e.zc
  have hkk:=zcz hfm
  have htx:=zch e
  have hself:∀ x∈e.zc,M.q3v f x=some (tx x):=fun x hx=>zaq f x (by have:=z2a hx;omega) (hs.mem hx) (zby hfm hx)
  have hL:=zdv e.zb e.zc
  have hjl:∀ i,(Lib.join ((txL e.zb e.zc).take i) (sep e.zb)).length≤16*ezs e.zc:=fun i=>by
   have h1:=za7 ((txL e.zb e.zc).take i) (sep e.zb)
   have h2:=zh7 e.zb
   have h3:∀ (L:List (List UInt8)) (i:Nat),((L.take i).map fun x=>x.length+(sep e.zb).length).sum≤(L.map fun x=>x.length+5).sum:=by
    intro L
    induction L with
    | nil=>simp
    | cons x L ih =>
     intro i
     cases i with
     | zero=>simp
     | succ i =>
      have:=ih i
      simp only [yx,List.map_cons,List.sum_cons]
      omega
   have h4:=h3 (txL e.zb e.zc) i
   omega
  have hk:(e.zb=0∨e.zb=1)→∀ (n i:Nat),e.zc.length - i=n→i≤e.zc.length→M.z0v e (M.q3v f) (Lib.join ((txL e.zb e.zc).take i) (sep e.zb)) (i:Int)=some (Lib.join (txL e.zb e.zc) (sep e.zb)):=by
   intro h01 n
   have hll:(txL e.zb e.zc).length=e.zc.length:=by rw [zdu];simp
   induction n with
   | zero =>
    intro i h1 h2
    have:i=e.zc.length:=by omega
    subst this
    rw [M.z0v]
    simp [←hll]
   | succ n ih =>
    intro i h1 h2
    have hi:i<e.zc.length:=by omega
    have hm:=yq hi
    have hx:=z2a hm
    have hxl:=zch e.zc[i]
    have hb:M.q3y e.zc[i] e=some (bra e.zb e.zc[i]):=rfl
    have hj:=hjl i
    have hLi:(txL e.zb e.zc)[i]'(by omega)=txb e.zb e.zc[i]:=by simp [zdu]
    have hjt:=zlx (txL e.zb e.zc) (sep e.zb) i (by omega)
    have hih:=ih (i+1) (by omega) (by omega)
    rw [hjt,hLi] at hih
    generalize Lib.join ((txL e.zb e.zc).take i) (sep e.zb)=J at hj hih ⊢
    have hsl:=zh7 e.zb
    have hstep:∀ (t:List UInt8),t.length≤16*ezs e.zc+5→(M.q3y e.zc[i] e).bind (fun a=>if a=true then (cat [40] (tx e.zc[i])).bind fun s=>(cat s [41]).bind fun s=>(cat t s).bind fun s=>M.z0v e (M.q3v f) s (yab .i64 ((i:Int)+1)) else (cat t (tx e.zc[i])).bind fun s=>M.z0v e (M.q3v f) s (yab .i64 ((i:Int)+1))) =
      M.z0v e (M.q3v f) (t++txb e.zb e.zc[i]) ((i+1:Nat):Int):=fun t ht=>by
     rw [hb,w1 (by omega)]
     simp only [yc]
     unfold txb
     cases hbr:bra e.zb e.zc[i] with
     | true =>
      simp only [if_true]
      rw [z1q (by simp only [yt,yu];omega)]
      simp only [yc]
      rw [z1q (by simp only [yt,yu,ys];omega)]
      simp only [yc]
      rw [z1q (by simp only [yt,yu,ys];omega)]
      simp
     | false =>
      simp only [yh,if_false]
      rw [z1q (by omega)]
      simp
    rw [M.z0v]
    simp only [show ((i:Int)<(e.zc.length:Int)) by omega,decide_true,if_true,z48,yp hi,yb,yc,hself _ hm]
    by_cases hi0:i=0
    ·subst hi0
     simp only [yaa,Int.lt_irrefl,decide_false,Bool.false_and,yh,if_false,yc]
     have:=hstep J (by omega)
     simp only [yaa] at this
     rw [if_pos rfl,yl] at hih
     exact this.trans hih
    ·have h0i:(0:Int)<(i:Int):=by omega
     rw [if_neg hi0] at hih
     rcases h01 with h0|h0
     ·have h1':¬e.zb=1:=by omega
      simp only [h0i,h0,decide_true,yg,if_true]
      rw [z1q (by simp only [yt,yu];omega)]
      simp only [yc,show decide ((0:Int)=1)=false from rfl,yf,yh,if_false]
      have:=hstep (J++[32,97,110,100,32]) (by simp only [ys,yt,yu];omega)
      rw [show sep e.zb=[32,97,110,100,32] by rw [h0];rfl] at hih
      rw [h0] at this hih
      exact this.trans hih
     ·have h1':¬e.zb=0:=by omega
      simp only [h0i,h0,show decide ((1:Int)=0)=false from rfl,yf,yh,if_false,yc,decide_true,yg,if_true]
      rw [z1q (by simp only [yt,yu];omega)]
      simp only [yc]
      have:=hstep (J++[32,111,114,32]) (by simp only [ys,yt,yu];omega)
      rw [show sep e.zb=[32,111,114,32] by rw [h0];rfl] at hih
      rw [h0] at this hih
      exact this.trans hih
  unfold M.q3v
  by_cases h2:e.zb=2
  ·obtain ⟨x,hx,_,_,_⟩:=zi6 hfm h2
   have hxm:x∈e.zc:=by rw [hx];exact yv.2 rfl
   have hxs:=z2a hxm
   have hxl:=zch x
   have hbx:bra 2 x=true:=rfl
   simp only [h2,decide_true,if_true,hx,zkj,yo,yb,yc,hself x hxm]
   rw [z1q (by simp only [yt,yu];omega)]
   simp only [yc]
   rw [z1q (by simp only [yt,yu,ys];omega)]
   rw [zft e,if_neg (by omega),if_neg (by omega),if_pos h2,h2,hx]
   simp [txL,hbx]
  ·simp only [h2,decide_false,yh,if_false]
   by_cases h01:e.zb=0∨e.zb=1
   ·have h0:(if (decide (e.zb=0))=true then some (decide (e.zb=0)) else some (decide (e.zb=1)):Option Bool)=some true:=by
     rcases h01 with h|h<;>rw [h]<;>rfl
    have:=hk h01 _ 0 rfl (yz _)
    simp only [List.take_zero,Lib.join_nil] at this
    have h00:M.z0v e (M.q3v f) [] 0=some (Lib.join (txL e.zb e.zc) (sep e.zb)):=this
    rw [h0]
    simp only [yb,yc,if_true,h00]
    rw [zft e,if_neg (by omega),if_neg (by omega),if_neg h2]
   ·have h0:(if (decide (e.zb=0))=true then some (decide (e.zb=0)) else some (decide (e.zb=1)):Option Bool)=some false:=by
     have h1:¬e.zb=0:=by omega
     have h2:¬e.zb=1:=by omega
     simp [h1,h2]
    rw [h0]
    simp only [yb,yc,yh,if_false]
    by_cases h3:e.zb=3
    ·simp only [h3,decide_true,if_true]
     rw [z1q (by simp only [yt,yu];omega),zft e,if_pos h3]
     rfl
    ·have h4:3<e.zb:=by omega
     obtain ⟨h5,h6,h7,_⟩:=zd0 hfm (by omega)
     have hq:=zao e.z03
     have hw:=zhe e.zb
     have hwx:(do let a←M.q4n;ix a (yab .i64 (e.zb - 4)))=some (wrd e.zb):=by
      have:e.zb=4∨e.zb=5∨e.zb=6∨e.zb=7∨e.zb=8∨e.zb=9∨e.zb=10∨e.zb=11∨e.zb=12:=by omega
      rcases this with h|h|h|h|h|h|h|h|h<;>rw [h]<;>rfl
     simp only [h3,decide_false,yh,if_false,yc]
     rw [z1q (by simp only [yt,yu];omega)]
     simp only [yc]
     rw [zft e,if_neg h3,if_pos h4]
     have hw':∀ {β:Type} (g:List UInt8→Option β),(M.q4n.bind fun a=>(ix a (yab .i64 (e.zb - 4))).bind g)=g (wrd e.zb):=fun g=>by
      rw [←ya]
      have:(M.q4n.bind fun a=>ix a (yab .i64 (e.zb - 4)))=some (wrd e.zb):=hwx
      rw [this];rfl
     rw [hw',z1q (by simp only [yt,yu,ys];omega)]
     simp only [yc]
     rw [z1q (by simp only [yt,yu,ys];omega)]
     simp only [yc]
     rw [zh0 (by omega)]
     simp only [yc,zg1]
     rw [z1q (by simp only [yt,yu,ys];omega)]
     rfl
def prE (e:EX):List UInt8 × Int:=if z88 e=0 then (if 1024<(tx e).length then ([],191) else (tx e,0)) else ([],z88 e)
theorem zcq {e:EX} (h:z88 e=0):fm e=true∧dp e≤16:=by
 unfold z88 at h
 cases hf:fm e with
 | false=>rw [hf] at h;simp at h
 | true =>
  rw [hf] at h
  simp only [Bool.true_eq_false,if_false] at h
  refine ⟨rfl,?_⟩
  by_cases hd:16<dp e
  ·rw [if_pos hd] at h;cases h
  ·omega
theorem z7v {e:EX} {f:Nat} (hf:4*e.sz+17≤f) (hs:z0n e):M.q1o f e=some (prE e):=by
 unfold M.q1o prE
 rw [z19 hf hs]
 by_cases h:z88 e=0
 ·have hfm:=(zcq h).1
  simp only [h,yb,yc,decide_true,yi,yh,if_false,if_true,z5d f e (by omega) hs hfm]
  by_cases hl:1024<(tx e).length
  ·have:(1024:Int)<((tx e).length:Int):=by omega
   simp [hl,this]
  ·have:¬(1024:Int)<((tx e).length:Int):=by omega
   simp [hl,this]
 ·simp [h]
theorem zfe {e:EX} {f:Nat} (hf:e.sz≤f) (hs:z0n e):M.q3q f e=some (prE e):=by
 unfold M.q3q prE
 rw [z90 hf hs]
 by_cases h:z88 e=0
 ·have hfm:=(zcq h).1
  simp only [h,yb,yc,decide_true,yi,yh,if_false,if_true,zaq f e hf hs hfm]
  by_cases hl:1024<(tx e).length
  ·have:(1024:Int)<((tx e).length:Int):=by omega
   simp [hl,this]
  ·have:¬(1024:Int)<((tx e).length:Int):=by omega
   simp [hl,this]
 ·simp [h]
end Go.Sen
end
