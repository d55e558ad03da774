import Derived.Test.YtmmgdladipbedaaGreatDoorRSpA
import Derived.Test.YtmmgdladipbedaaGreatDoorRSnH
set_option linter.all false
section
namespace Go.Sen
open _root_.Option renaming bind_eq_bind → ya, bind_some → yb
open _root_.Bool renaming false_eq_true → yc, false_or → yd
open _root_.List renaming getElem?_eq_getElem → ye, getElem_mem → yf, length_append → yg, length_cons → yh, length_nil → yi, map_cons → yj, sum_cons → yk
open Go.Lk Go.Pe
abbrev EX:=q01
mutual
def q01.sz:EX→Nat
 | ⟨_,n,v,l⟩=>ezs l+n.length+v.length+1
def ezs:List EX→Nat
 | []=>0
 | x::xs=>x.sz+ezs xs
end
theorem q01.z2c (e:EX):e.sz=ezs e.ze+e.zk.length+e.z06.length+1:=by cases e;simp [q01.sz]
theorem z2o:∀ {l:List EX} {x:EX},x∈l→x.sz≤ezs l
 | y::l,x,h=>by
  simp only [ezs]
  rcases List.mem_cons.1 h with rfl|h
  ·omega
  ·have:=z2o h;omega
theorem z4s:∀ l:List EX,l.length≤ezs l
 | []=>by simp [ezs]
 | x::l=>by
  have:=z4s l
  simp only [ezs,yh,q01.z2c x]
  omega
def fm0 (k:Int) (n v:List UInt8) (m:Nat):Bool :=
 if k=0∨k=1 then decide (2≤m)&&decide (n=[])&&decide (v=[]) else if k=2 then decide (m=1)&&decide (n=[])&&decide (v=[]) else
  decide (2<k∧k<13)&&decide (m=0)&&isName n&&z3f v&&(!decide (k=3)||decide (v=[]))
mutual
def fm:EX→Bool
 | ⟨k,n,v,l⟩=>fm0 k n v l.length&&(decide (2<k)||fmL l)
def fmL:List EX→Bool
 | []=>true
 | x::xs=>fm x&&fmL xs
end
theorem ze1 (e:EX):fm e=(fm0 e.zc e.zk e.z06 e.ze.length&&(decide (2<e.zc)||fmL e.ze)):=by cases e;simp only [fm]
theorem ze0:∀ l:List EX,fmL l=l.all fm
 | []=>rfl
 | x::l=>by simp [fmL,ze0 l]
def z15 (e:EX):Prop:=e.sz<1000000000
theorem z15.mem {e x:EX} (h:z15 e) (hx:x∈e.ze):z15 x:=by
 have:=z2o hx
 have h2:=e.z2c
 unfold z15 at *
 omega
theorem z6h:∀ (f:Nat) (e:EX),4*e.sz≤f→z15 e→M.q22 f e=some (fm e)
 | 0,e,hf,_=>by have:=e.z2c;omega
 | f+1,e,hf,hs=>by
  have hz:=e.z2c
  have hlen:=z4s e.ze
  have hs':=hs
  unfold z15 at hs'
  have hself:∀ g,4*ezs e.ze+1≤g→g≤f→∀ x∈e.ze,M.q23 g x=some (!fm x):=fun g hg hgf x hx=>by
   have hm:=z2o hx
   match g,hg,hgf with
   | g+1,hg,hgf =>
    unfold M.q23
    rw [z6h g x (by omega) (hs.mem hx)]
    rfl
  have hloop:∀ g,4*ezs e.ze+3≤g→g≤f→M.q50 g e.ze=some (!fmL e.ze):=fun g hg hgf=>by
   match g,hg,hgf with
   | g+2,hg,hgf =>
    have hk:M.zu e.ze (M.q23 g) 0=some (match e.ze.findIdx? (fun x => !fm x) with|some i => .done (i:Int)|none => .go ()):=by
     refine zh1 (fun i:Nat=>(i:Int)) () (by omega) (fun i h => ?_) ?_
     ·rw [M.zu]
      simp only [show ((i:Int)<(e.ze.length:Int)) by omega,decide_true,if_true,z2r,ye h,ya,yb,hself g (by omega) (by omega) _ (yf h)]
     ·rw [M.zu]
      simp
    unfold M.q50 M.q5g
    rw [hk,ze0]
    rcases z6t e.ze fm with ⟨h1,h2⟩|⟨i,h1,h2⟩
    ·rw [h1,h2];rfl
    ·rw [h1,h2];simp
  unfold M.q22
  have hcat:cat e.zk e.z06=some (e.zk++e.z06):=z2e (by omega)
  by_cases h1:e.zc<0∨13≤e.zc
  ·have h2:((decide (e.zc<0))||(decide (13≤e.zc)))=true:=by simpa using h1
   have h3:fm e=false:=by
    rw [ze1]
    have:fm0 e.zc e.zk e.z06 e.ze.length=false:=by
     unfold fm0
     rw [if_neg (by omega),if_neg (by omega)]
     have:¬(2<e.zc∧e.zc<13):=by omega
     simp [this]
    simp [this]
   simp only [h2,if_true,ya,yb,h3]
  ·have h2:((decide (e.zc<0))||(decide (13≤e.zc)))=false:=by simpa using h1
   simp only [h2,yc,if_false]
   by_cases h3:2<e.zc
   ·have h4:¬(e.zc=0∨e.zc=1):=by omega
    have h5:¬e.zc=2:=by omega
    have h6:(2<e.zc∧e.zc<13):=by omega
    simp only [h3,decide_true,if_true,z3p,za9,ya,yb,ze1,fm0,h4,h5,h6,if_false,Bool.true_and,Bool.true_or,Bool.and_true]
    by_cases g1:e.ze.length=0<;>cases g2:isName e.zk<;>cases g3:z3f e.z06<;>simp [g1,g2,g3]
   ·simp only [h3,decide_false,yc,if_false]
    have hl:=hloop f (by omega) (Nat.le_refl _)
    have hcd:(decide (e.zk++e.z06=([]:List UInt8)))=(decide (e.zk=[])&&decide (e.z06=[])):=by
     rw [Bool.eq_iff_iff];simp
    by_cases h5:e.zc=2
    ·have h4:¬(e.zc=0∨e.zc=1):=by omega
     simp only [h5,decide_true,if_true,ya,yb,hcat,hl,hcd,ze1,fm0,h4,if_false,h3,decide_false,yd]
     by_cases g1:e.zk=[]<;>by_cases g2:e.z06=[]<;>by_cases g3:e.ze.length=1<;>simp [g1,g2,g3]
     all_goals omega
    ·have h4:(e.zc=0∨e.zc=1):=by omega
     simp only [h5,decide_false,yc,if_false,ya,yb,hcat,hl,hcd,ze1,fm0,h4,if_true,h3,yd]
     by_cases g1:e.zk=[]<;>by_cases g2:e.z06=[]<;>by_cases g3:2≤e.ze.length<;>simp [g1,g2,g3]
     all_goals omega
termination_by f=>f
decreasing_by omega
theorem zc2:∀ (f:Nat) (e:EX),e.sz≤f→z15 e→M.q4d f e=some (fm e)
 | 0,e,hf,_=>by have:=e.z2c;omega
 | f+1,e,hf,hs=>by
  have hz:=e.z2c
  have hlen:=z4s e.ze
  have hs':=hs
  unfold z15 at hs'
  have hk:M.z2x e (M.q4d f) 0=some (match e.ze.findIdx? (fun x => !fm x) with|some i => .done false|none => .go ()):=by
   refine zh1 (fun _=>false) () (by omega) (fun i h => ?_) ?_
   ·have hm:=z2o (yf h)
    rw [M.z2x]
    simp only [show ((i:Int)<(e.ze.length:Int)) by omega,decide_true,if_true,z2r,ye h,ya,yb,zc2 f _ (by omega) (hs.mem (yf h))]
   ·rw [M.z2x]
    simp
  have hk2:(match e.ze.findIdx? (fun x => !fm x) with|some i=>(.done false:Jn Bool Unit)|none => .go ())=if fmL e.ze=true then .go () else .done false:=by
   rw [ze0]
   rcases z6t e.ze fm with ⟨h1,h2⟩|⟨i,h1,h2⟩
   ·rw [h1,h2];rfl
   ·rw [h1,h2];rfl
  rw [hk2] at hk
  have hlen2:∀ m:Nat,decide ((e.ze.length:Int)=m)=decide (e.ze.length=m):=fun m=>by rw [decide_eq_decide];omega
  have hlen3:decide ((e.ze.length:Int)<2) = !decide (2≤e.ze.length):=by rw [←decide_not,decide_eq_decide];omega
  have hnt:=zbz (s:=e.zk) (by omega)
  unfold M.q4d
  rw [hk,ze1]
  by_cases h4:e.zc=0∨e.zc=1
  ·have h4':((decide (e.zc=0))||(decide (e.zc=1)))=true:=by simpa using h4
   have h3:¬2<e.zc:=by omega
   simp only [h4',if_true,fm0,h4,hlen3,h3,decide_false,yd]
   by_cases g1:e.zk=[]<;>by_cases g2:e.z06=[]<;>by_cases g3:2≤e.ze.length<;>cases g4:fmL e.ze<;>simp [g1,g2,g3]
  ·have h4':((decide (e.zc=0))||(decide (e.zc=1)))=false:=by simpa using h4
   simp only [h4',yc,if_false,fm0,h4]
   by_cases h5:e.zc=2
   ·have h1:=hlen2 1
    have h3:¬2<e.zc:=by omega
    simp only [h5,decide_true,if_true,show ((1:Nat):Int)=1 from rfl] at h1 ⊢
    simp only [h1]
    by_cases g1:e.zk=[]<;>by_cases g2:e.z06=[]<;>by_cases g3:e.ze.length=1<;>cases g4:fmL e.ze<;>simp [g1,g2,g3]
   ·simp only [h5,decide_false,yc,if_false]
    by_cases h6:2<e.zc∧e.zc<13
    ·have h6':((decide (2<e.zc))&&(decide (e.zc<13)))=true:=by simpa using h6
     have h0:=hlen2 0
     simp only [h6',if_true,hnt,zio,ya,yb,h6.1,h6.2,and_self,decide_true,Bool.true_and,Bool.true_or,Bool.and_true]
     by_cases g1:e.ze.length=0<;>cases g2:isName e.zk<;>cases g3:z3f e.z06<;>simp [g1,g2,g3]
    ·have h6':((decide (2<e.zc))&&(decide (e.zc<13)))=false:=by
      rw [Bool.eq_false_iff]
      simpa using h6
     simp [h6',h6]
def wrd (k:Int):List UInt8:=(match ([[101,113],[110,101],[99,111],[115,119],[101,119],[103,116],[103,101],[108,116],[108,101]]:List (List UInt8))[(k - 4).toNat]? with|some w=>w|none=>[])
def bra (k:Int) (x:EX):Bool:=decide (k=2)||decide (x.zc=1)||decide (x.zc=0)&&decide (k=0)
def sep (k:Int):List UInt8:=if k=0 then [32,97,110,100,32] else [32,111,114,32]
mutual
def tx:EX→List UInt8
 | ⟨k,n,v,l⟩=>if k=3 then n++[32,112,114] else if 3<k then n++[32]++wrd k++[32]++qt v else if k=2 then [110,111,116,32]++(txL k l).head?.getD [] else Lib.join (txL k l) (sep k)
def txL (k:Int):List EX→List (List UInt8)
 | []=>[]
 | x::xs=>(if bra k x=true then 40::(tx x++[41]) else tx x)::txL k xs
end
mutual
def dp:EX→Nat
 | ⟨k,_,_,l⟩=>if 2<k then 0 else dpL k l
def dpL (k:Int):List EX→Nat
 | []=>0
 | x::xs=>max (dp x+(if bra k x=true then 1 else 0)) (dpL k xs)
end
theorem zhc (e:EX):tx e=if e.zc=3 then e.zk++[32,112,114] else if 3<e.zc then e.zk++[32]++wrd e.zc++[32]++qt e.z06 else if e.zc=2 then [110,111,116,32]++(txL e.zc e.ze).head?.getD [] else Lib.join (txL e.zc e.ze) (sep e.zc):=by cases e;simp only [tx]
theorem znc (e:EX):dp e=if 2<e.zc then 0 else dpL e.zc e.ze:=by cases e;simp only [dp]
def txb (k:Int) (x:EX):List UInt8:=if bra k x=true then 40::(tx x++[41]) else tx x
theorem zf5 (k:Int):∀ l,txL k l=l.map (txb k)
 | []=>by simp [txL]
 | x::l=>by simp [txL,zf5 k l,txb]
theorem zja (k:Int):(wrd k).length≤2:=by
 unfold wrd
 split
 ·rename_i w h
  have:=List.mem_of_getElem? h
  simp only [List.mem_cons,List.not_mem_nil,or_false] at this
  rcases this with rfl|rfl|rfl|rfl|rfl|rfl|rfl|rfl|rfl<;>decide
 ·decide
theorem za2 (sep:List UInt8):∀ l:List (List UInt8),(Lib.joinTail sep l).length=(l.map fun x=>x.length+sep.length).sum
 | []=>rfl
 | x::l=>by
  have:=za2 sep l
  unfold Lib.joinTail at this ⊢
  simp [this]
  omega
theorem zbj (l:List (List UInt8)) (sep:List UInt8):(Lib.join l sep).length≤(l.map fun x=>x.length+sep.length).sum:=by
 cases l with
 | nil=>simp [Lib.join_nil]
 | cons x l =>
  rw [Lib.join_cons]
  simp [za2]
theorem ziw (k:Int):(sep k).length≤5:=by unfold sep;split<;>decide
mutual
theorem zdr:∀ e:EX,(tx e).length+7≤16*e.sz
 | ⟨k,n,v,l⟩=>by
  have h1:=zf6 k l
  have h2:=zbv v
  have h3:=zja k
  have h4:=ziw k
  simp only [tx,q01.sz]
  split
  ·simp;omega
  ·split
   ·simp;omega
   ·split
    ·cases l with
     | nil=>simp [txL];omega
     | cons x l =>
      simp only [txL,yj,yk,ezs] at h1 ⊢
      simp only [List.head?_cons,Option.getD_some,yg,yh,yi]
      omega
    ·have h5:=zbj (txL k l) (sep k)
     have h6:((txL k l).map fun x=>x.length+(sep k).length).sum≤((txL k l).map fun x=>x.length+5).sum:=by
      generalize txL k l=L
      induction L with
      | nil=>simp
      | cons x L ih=>simp only [yj,yk];omega
     omega
theorem zf6 (k:Int):∀ l:List EX,((txL k l).map fun x=>x.length+5).sum≤16*ezs l
 | []=>by simp [txL]
 | x::l=>by
  have h1:=zdr x
  have h2:=zf6 k l
  simp only [txL,yj,yk,ezs]
  split
  ·simp only [yh,yg,yi];omega
  ·omega
end
end Go.Sen
end
section
namespace Go.Sen
open _root_.Option renaming bind_assoc → ya, bind_eq_bind → yb, bind_some → yc, getD_some → yd
open _root_.Bool renaming and_eq_true → ye, and_false → yf, and_true → yg, false_eq_true → yh, not_true → yi, or_eq_true → yj
open _root_.List renaming append_assoc → yk, append_nil → yl, cons_append → ym, drop_zero → yn, getElem?_cons_zero → yo, getElem?_eq_getElem → yp, getElem_mem → yq, head?_cons → yr, length_append → ys, length_cons → yt, length_nil → yu, mem_singleton → yv, nil_append → yw, take_succ_cons → yx
open _root_.Nat renaming max_assoc → yy, zero_le → yz
open _root_.Int renaming natCast_zero → yaa
open IntKind renaming wrap → yab
open Go.Lk Go.Pe
theorem zvc:∀ e:EX,dp e≤e.sz:=by
 have key:(∀ e:EX,dp e≤e.sz):=by
  intro e
  induction h:e.sz using Nat.strongRecOn generalizing e with
  | ind n ih =>
   subst h
   have hz:=e.z2c
   rw [znc]
   split
   ·omega
   ·have:∀ l:List EX,(∀ x∈l,x.sz<e.sz)→dpL e.zc l≤ezs l+1:=by
     intro l
     induction l with
     | nil=>intro _;simp [dpL]
     | cons x l ih2 =>
      intro hl
      have h1:=ih x.sz (hl x List.mem_cons_self) x rfl
      have h2:=ih2 fun y hy=>hl y (List.mem_cons_of_mem _ hy)
      simp only [dpL,ezs]
      have h3:=x.z2c
      split<;>omega
    have h:=this e.ze fun x hx=>by have:=z2o hx;omega
    omega
 exact key
theorem zaq (a b:Nat):zo7 (a:Int) (b:Int)=((max a b:Nat):Int):=by
 unfold zo7
 split<;>omega
theorem zu9 {e:EX} {self:EX→Option (List UInt8 × Int)} (hs:z15 e) (hself:∀ x∈e.ze,self x=some (tx x,(dp x:Int))):∀ (n i:Nat) (acc:List (List UInt8)) (d:Nat),e.ze.length - i=n→i≤e.ze.length→acc.length≤i →
  M.z1w e self acc (d:Int) (i:Int)=some (acc++txL e.zc (e.ze.drop i),((max d (dpL e.zc (e.ze.drop i)):Nat):Int)):=by
 have hz:=e.z2c
 have hlen:=z4s e.ze
 unfold z15 at hs
 intro n
 induction n with
 | zero =>
  intro i acc d h1 h2 h3
  have:i=e.ze.length:=by omega
  subst this
  rw [M.z1w]
  simp [txL,dpL]
 | succ n ih =>
  intro i acc d h1 h2 h3
  have hi:i<e.ze.length:=by omega
  have hm:=yq hi
  have hx:=z2o hm
  have hxl:=zdr e.ze[i]
  have hdl:=zvc e.ze[i]
  have hb:(((decide (e.zc=2))||(decide (e.ze[i].zc=1)))||((decide (e.ze[i].zc=0))&&(decide (e.zc=0))))=bra e.zc e.ze[i]:=rfl
  rw [M.z1w]
  simp only [show ((i:Int)<(e.ze.length:Int)) by omega,decide_true,if_true,z2r,yp hi,yb,yc,hself _ hm,hb]
  rw [z2k hi]
  simp only [txL,dpL]
  cases hbr:bra e.zc e.ze[i] with
  | true =>
   simp only [if_true]
   rw [z2e (by simp only [yt,yu];omega)]
   simp only [yc]
   rw [z2e (by simp only [yt,yu,ys];omega)]
   simp only [yc]
   rw [z1v (by simp only [yt,yu];omega)]
   simp only [yc]
   rw [w1 (by omega),w1 (by omega),zaq,ih (i+1) _ _ (by omega) (by omega) (by simp;omega)]
   simp only [yk,ym,yw,yy]
  | false =>
   simp only [yh,if_false,yc]
   rw [z1v (by simp only [yt,yu];omega)]
   simp only [yc]
   rw [w1 (by omega),zaq,ih (i+1) _ _ (by omega) (by omega) (by simp;omega)]
   simp only [yk,ym,yw,yy,Nat.add_zero]
theorem zmf {v:List UInt8} (h:z3f v=true) {f:Nat} (hf:17≤f):M.q0l f ⟨4,v,[],[]⟩=some (qt v,0):=by
 unfold z3f at h
 simp only [ye,decide_eq_true_eq] at h
 have hq:=zbv v
 rw [ze9 hf (by unfold Small;simp [q03.sz,szs,kys];omega)]
 have h1:z8f ⟨4,v,[],[]⟩ 0=0:=by simp [z8f,frm,h.2,zce]
 have h2:prJ ⟨4,v,[],[]⟩=qt v:=by simp [prJ]
 unfold print
 rw [if_pos h1,h2,if_neg (by omega)]
theorem zww {k:Int} (h1:3<k) (h2:k<13):∃ c:q06,(do let a←M.q1t;ix a (yab .i64 (k - 4)))=some c∧c.z4f=wrd k:=by
 have:k=4∨k=5∨k=6∨k=7∨k=8∨k=9∨k=10∨k=11∨k=12:=by omega
 rcases this with rfl|rfl|rfl|rfl|rfl|rfl|rfl|rfl|rfl<;>exact ⟨_,rfl,rfl⟩
theorem ze2 {e:EX} (h:fm e=true):0≤e.zc∧e.zc<13:=by
 rw [ze1] at h
 simp only [ye] at h
 have h1:=h.1
 unfold fm0 at h1
 split at h1
 ·omega
 ·split at h1
  ·omega
  ·simp only [ye,decide_eq_true_eq] at h1;omega
theorem ze3 {e:EX} (h:fm e=true) (hk:2<e.zc):e.ze=[]∧isName e.zk=true∧z3f e.z06=true∧(e.zc=3→e.z06=[]):=by
 rw [ze1] at h
 simp only [ye] at h
 have h1:=h.1
 unfold fm0 at h1
 rw [if_neg (by omega),if_neg (by omega)] at h1
 simp only [ye,decide_eq_true_eq,yj,Bool.not_eq_true',decide_eq_false_iff_not] at h1
 obtain ⟨⟨⟨⟨_,h2⟩,h3⟩,h4⟩,h5⟩:=h1
 exact ⟨List.eq_nil_of_length_eq_zero h2,h3,h4,fun hk=>h5.resolve_left fun hn=>hn hk⟩
theorem zk3 {e:EX} (h:fm e=true) (hk:e.zc=2):∃ x,e.ze=[x]∧e.zk=[]∧e.z06=[]∧fm x=true:=by
 rw [ze1] at h
 simp only [ye,yj,decide_eq_true_eq] at h
 have h1:=h.1
 unfold fm0 at h1
 rw [if_neg (by omega),if_pos hk] at h1
 simp only [ye,decide_eq_true_eq] at h1
 obtain ⟨x,hx⟩:=List.length_eq_one_iff.1 h1.1.1
 have h2:=h.2.resolve_left (by omega)
 rw [hx] at h2
 simp only [fmL,yg] at h2
 exact ⟨x,hx,h1.1.2,h1.2,h2⟩
theorem zvo {e:EX} (h:fm e=true) (hk:e.zc=0∨e.zc=1):2≤e.ze.length∧e.zk=[]∧e.z06=[]∧∀ x∈e.ze,fm x=true:=by
 rw [ze1] at h
 simp only [ye,yj,decide_eq_true_eq] at h
 have h1:=h.1
 unfold fm0 at h1
 rw [if_pos hk] at h1
 simp only [ye,decide_eq_true_eq] at h1
 have h2:=h.2.resolve_left (by omega)
 rw [ze0,List.all_eq_true] at h2
 exact ⟨h1.1.1,h1.1.2,h1.2,h2⟩
theorem zg0 {e x:EX} (h:fm e=true) (hx:x∈e.ze):fm x=true:=by
 by_cases h2:2<e.zc
 ·rw [(ze3 h h2).1] at hx;cases hx
 ·have hk:=ze2 h
  by_cases h3:e.zc=2
  ·obtain ⟨y,hy,_,_,h4⟩:=zk3 h h3
   rw [hy,yv] at hx
   rw [hx];exact h4
  ·exact (zvo h (by omega)).2.2.2 x hx
theorem z6i:∀ (f:Nat) (e:EX),e.sz+17≤f→z15 e→fm e=true→M.q2w f e=some (tx e,(dp e:Int))
 | 0,e,hf,_,_=>by omega
 | f+1,e,hf,hs,hfm=>by
  have hz:=e.z2c
  have hs':=hs
  unfold z15 at hs'
  have hk:=ze2 hfm
  unfold M.q2w
  by_cases h3:e.zc=3
  ·simp only [h3,decide_true,if_true]
   rw [z2e (by simp only [yt,yu];omega),zhc e,znc e,if_pos h3,if_pos (by omega)]
   rfl
  ·simp only [h3,decide_false,yh,if_false]
   by_cases h4:3<e.zc
   ·obtain ⟨h5,h6,h7,_⟩:=ze3 hfm (by omega)
    obtain ⟨c,hc1,hc2⟩:=zww h4 hk.2
    have hq:=zbv e.z06
    have hw:=zja e.zc
    simp only [h4,decide_true,if_true,zmf h7 (f:=f) (by omega),yb,yc]
    rw [z2e (by simp only [yt,yu];omega)]
    simp only [yc]
    have hc1':(M.q1t.bind fun a=>(ix a (yab .i64 (e.zc - 4))).bind fun x=>(cat (e.zk++[32]) x.z4f).bind fun s=>(cat s [32]).bind fun s=>(cat s (qt e.z06)).bind fun s=>some (s,(0:Int))) =
      ((do let a←M.q1t;ix a (yab .i64 (e.zc - 4))):Option q06).bind fun x=>(cat (e.zk++[32]) x.z4f).bind fun s=>(cat s [32]).bind fun s=>(cat s (qt e.z06)).bind fun s=>some (s,(0:Int)):=by
     simp [ya]
    rw [hc1',hc1]
    simp only [yc,hc2]
    rw [z2e (by simp only [yt,yu,ys];omega)]
    simp only [yc]
    rw [z2e (by simp only [yt,yu,ys];omega)]
    simp only [yc]
    rw [z2e (by simp only [yt,yu,ys];omega)]
    rw [zhc e,znc e,if_neg h3,if_pos h4,if_pos (by omega)]
    rfl
   ·have hk1:=zu9 (self:=M.q2w f) hs (fun x hx=>z6i f x (by have:=z2o hx;omega) (hs.mem hx) (zg0 hfm hx)) _ 0 [] 0 rfl (yz _) (Nat.le_refl _)
    simp only [yn,yw,Nat.zero_max] at hk1
    simp only [h4,decide_false,yh,if_false,yb]
    have hk1':M.z1w e (M.q2w f) [] 0 0=some (txL e.zc e.ze,(dpL e.zc e.ze:Int)):=hk1
    rw [hk1']
    have ht:=zdr e
    rw [zhc e,znc e,if_neg (by omega:¬2<e.zc)]
    rw [zhc e,if_neg h3,if_neg h4] at ht
    rw [if_neg h3,if_neg h4]
    by_cases h2:e.zc=2
    ·obtain ⟨x,hx,_,_,_⟩:=zk3 hfm h2
     rw [if_pos h2] at ht ⊢
     simp only [h2,hx,txL,yr,yd,ys,yt,yu] at ht
     simp only [h2,decide_true,if_true,hx,txL,yr,yd,yc,zlt,yo]
     rw [z2e (by simp only [yt,yu];omega)]
     rfl
    ·have h01:e.zc=0∨e.zc=1:=by omega
     rw [if_neg h2] at ht ⊢
     have hsep:ix [([32,97,110,100,32]:List UInt8),([32,111,114,32]:List UInt8)] e.zc=some (sep e.zc):=by
      rcases h01 with h|h<;>rw [h]<;>rfl
     have hll:(txL e.zc e.ze).length=e.ze.length:=by rw [zf5];simp
     have hlen:=z4s e.ze
     simp only [h2,decide_false,yh,if_false,yc,hsep]
     unfold M.join
     rw [z2z (by simp only [ye,decide_eq_true_eq];omega)]
     rfl
theorem zc1:∀ (f:Nat) (e:EX),e.sz≤f→z15 e→fm e=true→M.q48 f e=some (dp e:Int)
 | 0,e,hf,_,_=>by have:=e.z2c;omega
 | f+1,e,hf,hs,hfm=>by
  have hz:=e.z2c
  have hs':=hs
  unfold z15 at hs'
  have hlen:=z4s e.ze
  have hk:∀ (n i d:Nat),e.ze.length - i=n→i≤e.ze.length→M.z2a e (M.q48 f) (d:Int) (i:Int)=some ((max d (dpL e.zc (e.ze.drop i)):Nat):Int):=by
   intro n
   induction n with
   | zero =>
    intro i d h1 h2
    have:i=e.ze.length:=by omega
    subst this
    rw [M.z2a]
    simp [dpL]
   | succ n ih =>
    intro i d h1 h2
    have hi:i<e.ze.length:=by omega
    have hm:=yq hi
    have hx:=z2o hm
    have hdl:=zvc e.ze[i]
    have hb:M.q46 e.ze[i] e=some (bra e.zc e.ze[i]):=rfl
    rw [M.z2a]
    simp only [show ((i:Int)<(e.ze.length:Int)) by omega,decide_true,if_true,z2r,yp hi,yb,yc,zc1 f _ (by omega) (hs.mem hm) (zg0 hfm hm),hb]
    rw [z2k hi]
    simp only [dpL]
    cases hbr:bra e.zc e.ze[i] with
    | true =>
     simp only [if_true]
     rw [w1 (by omega),w1 (by omega),zaq,ih (i+1) _ (by omega) (by omega),yy]
    | false =>
     simp only [yh,if_false,Nat.add_zero]
     rw [w1 (by omega),zaq,ih (i+1) _ (by omega) (by omega),yy]
  unfold M.q48
  have:=hk _ 0 0 rfl (yz _)
  simp only [yn,Nat.zero_max] at this
  have h0:M.z2a e (M.q48 f) 0 0=some (dpL e.zc e.ze:Int):=this
  simp only [h0,yb,yc]
  rw [znc]
  split
  ·rename_i h2
   rw [(ze3 hfm h2).1]
   rfl
  ·rfl
def zho (e:EX):Int:=if fm e=false then 194 else if 16<dp e then 193 else 0
theorem z3v {e:EX} {f:Nat} (hf:4*e.sz+17≤f) (hs:z15 e):M.q1f f e=some (zho e):=by
 unfold M.q1f zho
 rw [z6h f e (by omega) hs]
 cases h:fm e with
 | false=>rfl
 | true =>
  simp only [yb,yc,yi,yh,if_false,z6i f e (by omega) hs h]
  by_cases hd:16<dp e
  ·have:(16:Int)<(dp e:Int):=by omega
   simp [hd,this]
  ·have:¬(16:Int)<(dp e:Int):=by omega
   simp [hd,this]
theorem zaa {e:EX} {f:Nat} (hf:e.sz≤f) (hs:z15 e):M.q3p f e=some (zho e):=by
 unfold M.q3p zho
 rw [zc2 f e hf hs]
 cases h:fm e with
 | false=>rfl
 | true =>
  simp only [yb,yc,yi,yh,if_false,zc1 f e hf hs h]
  by_cases hd:16<dp e
  ·have:(16:Int)<(dp e:Int):=by omega
   simp [hd,this]
  ·have:¬(16:Int)<(dp e:Int):=by omega
   simp [hd,this]
theorem znt (L:List (List UInt8)) (sp:List UInt8) (i:Nat) (hi:i<L.length):Lib.join (L.take (i+1)) sp=Lib.join (L.take i) sp++(if i=0 then [] else sp)++L[i]:=by
 cases L with
 | nil=>simp at hi
 | cons x L =>
  cases i with
  | zero=>simp [Lib.join_one,Lib.join_nil]
  | succ i =>
   have hi':i<L.length:=by simpa using hi
   simp only [yx,Lib.join_cons,Lib.joinTail,List.getElem_cons_succ]
   rw [List.take_add_one (l:=L),yp hi',if_neg (by omega)]
   simp only [Option.toList_some,List.map_append,List.map_cons,List.map_nil,List.flatten_append,List.flatten_cons,List.flatten_nil,yl,yk]
theorem zc0:∀ (f:Nat) (e:EX),e.sz≤f→z15 e→fm e=true→M.q43 f e=some (tx e)
 | 0,e,hf,_,_=>by have:=e.z2c;omega
 | f+1,e,hf,hs,hfm=>by
  have hz:=e.z2c
  have hs':=hs
  unfold z15 at hs'
  have hlen:=z4s e.ze
  have hkk:=ze2 hfm
  have htx:=zdr e
  have hself:∀ x∈e.ze,M.q43 f x=some (tx x):=fun x hx=>zc0 f x (by have:=z2o hx;omega) (hs.mem hx) (zg0 hfm hx)
  have hL:=zf6 e.zc e.ze
  have hjl:∀ i,(Lib.join ((txL e.zc e.ze).take i) (sep e.zc)).length≤16*ezs e.ze:=fun i=>by
   have h1:=zbj ((txL e.zc e.ze).take i) (sep e.zc)
   have h2:=ziw e.zc
   have h3:∀ (L:List (List UInt8)) (i:Nat),((L.take i).map fun x=>x.length+(sep e.zc).length).sum≤(L.map fun x=>x.length+5).sum:=by
    intro L
    induction L with
    | nil=>simp
    | cons x L ih =>
     intro i
     cases i with
     | zero=>simp
     | succ i =>
      have:=ih i
      simp only [yx,List.map_cons,List.sum_cons]
      omega
   have h4:=h3 (txL e.zc e.ze) i
   omega
  have hk:(e.zc=0∨e.zc=1)→∀ (n i:Nat),e.ze.length - i=n→i≤e.ze.length→M.z1c e (M.q43 f) (Lib.join ((txL e.zc e.ze).take i) (sep e.zc)) (i:Int)=some (Lib.join (txL e.zc e.ze) (sep e.zc)):=by
   intro h01 n
   have hll:(txL e.zc e.ze).length=e.ze.length:=by rw [zf5];simp
   induction n with
   | zero =>
    intro i h1 h2
    have:i=e.ze.length:=by omega
    subst this
    rw [M.z1c]
    simp [←hll]
   | succ n ih =>
    intro i h1 h2
    have hi:i<e.ze.length:=by omega
    have hm:=yq hi
    have hx:=z2o hm
    have hxl:=zdr e.ze[i]
    have hb:M.q46 e.ze[i] e=some (bra e.zc e.ze[i]):=rfl
    have hj:=hjl i
    have hLi:(txL e.zc e.ze)[i]'(by omega)=txb e.zc e.ze[i]:=by simp [zf5]
    have hjt:=znt (txL e.zc e.ze) (sep e.zc) i (by omega)
    have hih:=ih (i+1) (by omega) (by omega)
    rw [hjt,hLi] at hih
    generalize Lib.join ((txL e.zc e.ze).take i) (sep e.zc)=J at hj hih ⊢
    have hsl:=ziw e.zc
    have hstep:∀ (t:List UInt8),t.length≤16*ezs e.ze+5→(M.q46 e.ze[i] e).bind (fun a=>if a=true then (cat [40] (tx e.ze[i])).bind fun s=>(cat s [41]).bind fun s=>(cat t s).bind fun s=>M.z1c e (M.q43 f) s (yab .i64 ((i:Int)+1)) else (cat t (tx e.ze[i])).bind fun s=>M.z1c e (M.q43 f) s (yab .i64 ((i:Int)+1))) =
      M.z1c e (M.q43 f) (t++txb e.zc e.ze[i]) ((i+1:Nat):Int):=fun t ht=>by
     rw [hb,w1 (by omega)]
     simp only [yc]
     unfold txb
     cases hbr:bra e.zc e.ze[i] with
     | true =>
      simp only [if_true]
      rw [z2e (by simp only [yt,yu];omega)]
      simp only [yc]
      rw [z2e (by simp only [yt,yu,ys];omega)]
      simp only [yc]
      rw [z2e (by simp only [yt,yu,ys];omega)]
      simp
     | false =>
      simp only [yh,if_false]
      rw [z2e (by omega)]
      simp
    rw [M.z1c]
    simp only [show ((i:Int)<(e.ze.length:Int)) by omega,decide_true,if_true,z2r,yp hi,yb,yc,hself _ hm]
    by_cases hi0:i=0
    ·subst hi0
     simp only [yaa,Int.lt_irrefl,decide_false,Bool.false_and,yh,if_false,yc]
     have:=hstep J (by omega)
     simp only [yaa] at this
     rw [if_pos rfl,yl] at hih
     exact this.trans hih
    ·have h0i:(0:Int)<(i:Int):=by omega
     rw [if_neg hi0] at hih
     rcases h01 with h0|h0
     ·have h1':¬e.zc=1:=by omega
      simp only [h0i,h0,decide_true,yg,if_true]
      rw [z2e (by simp only [yt,yu];omega)]
      simp only [yc,show decide ((0:Int)=1)=false from rfl,yf,yh,if_false]
      have:=hstep (J++[32,97,110,100,32]) (by simp only [ys,yt,yu];omega)
      rw [show sep e.zc=[32,97,110,100,32] by rw [h0];rfl] at hih
      rw [h0] at this hih
      exact this.trans hih
     ·have h1':¬e.zc=0:=by omega
      simp only [h0i,h0,show decide ((1:Int)=0)=false from rfl,yf,yh,if_false,yc,decide_true,yg,if_true]
      rw [z2e (by simp only [yt,yu];omega)]
      simp only [yc]
      have:=hstep (J++[32,111,114,32]) (by simp only [ys,yt,yu];omega)
      rw [show sep e.zc=[32,111,114,32] by rw [h0];rfl] at hih
      rw [h0] at this hih
      exact this.trans hih
  unfold M.q43
  by_cases h2:e.zc=2
  ·obtain ⟨x,hx,_,_,_⟩:=zk3 hfm h2
   have hxm:x∈e.ze:=by rw [hx];exact yv.2 rfl
   have hxs:=z2o hxm
   have hxl:=zdr x
   have hbx:bra 2 x=true:=rfl
   simp only [h2,decide_true,if_true,hx,zlt,yo,yb,yc,hself x hxm]
   rw [z2e (by simp only [yt,yu];omega)]
   simp only [yc]
   rw [z2e (by simp only [yt,yu,ys];omega)]
   rw [zhc e,if_neg (by omega),if_neg (by omega),if_pos h2,h2,hx]
   simp [txL,hbx]
  ·simp only [h2,decide_false,yh,if_false]
   by_cases h01:e.zc=0∨e.zc=1
   ·have h0:(if (decide (e.zc=0))=true then some (decide (e.zc=0)) else some (decide (e.zc=1)):Option Bool)=some true:=by
     rcases h01 with h|h<;>rw [h]<;>rfl
    have:=hk h01 _ 0 rfl (yz _)
    simp only [List.take_zero,Lib.join_nil] at this
    have h00:M.z1c e (M.q43 f) [] 0=some (Lib.join (txL e.zc e.ze) (sep e.zc)):=this
    rw [h0]
    simp only [yb,yc,if_true,h00]
    rw [zhc e,if_neg (by omega),if_neg (by omega),if_neg h2]
   ·have h0:(if (decide (e.zc=0))=true then some (decide (e.zc=0)) else some (decide (e.zc=1)):Option Bool)=some false:=by
     have h1:¬e.zc=0:=by omega
     have h2:¬e.zc=1:=by omega
     simp [h1,h2]
    rw [h0]
    simp only [yb,yc,yh,if_false]
    by_cases h3:e.zc=3
    ·simp only [h3,decide_true,if_true]
     rw [z2e (by simp only [yt,yu];omega),zhc e,if_pos h3]
     rfl
    ·have h4:3<e.zc:=by omega
     obtain ⟨h5,h6,h7,_⟩:=ze3 hfm (by omega)
     have hq:=zbv e.z06
     have hw:=zja e.zc
     have hwx:(do let a←M.q4v;ix a (yab .i64 (e.zc - 4)))=some (wrd e.zc):=by
      have:e.zc=4∨e.zc=5∨e.zc=6∨e.zc=7∨e.zc=8∨e.zc=9∨e.zc=10∨e.zc=11∨e.zc=12:=by omega
      rcases this with h|h|h|h|h|h|h|h|h<;>rw [h]<;>rfl
     simp only [h3,decide_false,yh,if_false,yc]
     rw [z2e (by simp only [yt,yu];omega)]
     simp only [yc]
     rw [zhc e,if_neg h3,if_pos h4]
     have hw':∀ {β:Type} (g:List UInt8→Option β),(M.q4v.bind fun a=>(ix a (yab .i64 (e.zc - 4))).bind g)=g (wrd e.zc):=fun g=>by
      rw [←ya]
      have:(M.q4v.bind fun a=>ix a (yab .i64 (e.zc - 4)))=some (wrd e.zc):=hwx
      rw [this];rfl
     rw [hw',z2e (by simp only [yt,yu,ys];omega)]
     simp only [yc]
     rw [z2e (by simp only [yt,yu,ys];omega)]
     simp only [yc]
     rw [zij (by omega)]
     simp only [yc,zaw]
     rw [z2e (by simp only [yt,yu,ys];omega)]
     rfl
def prE (e:EX):List UInt8 × Int:=if zho e=0 then (if 1024<(tx e).length then ([],191) else (tx e,0)) else ([],zho e)
theorem zhp {e:EX} (h:zho e=0):fm e=true∧dp e≤16:=by
 unfold zho at h
 cases hf:fm e with
 | false=>rw [hf] at h;simp at h
 | true =>
  rw [hf] at h
  simp only [Bool.true_eq_false,if_false] at h
  refine ⟨rfl,?_⟩
  by_cases hd:16<dp e
  ·rw [if_pos hd] at h;cases h
  ·omega
theorem z90 {e:EX} {f:Nat} (hf:4*e.sz+17≤f) (hs:z15 e):M.q1p f e=some (prE e):=by
 unfold M.q1p prE
 rw [z3v hf hs]
 by_cases h:zho e=0
 ·have hfm:=(zhp h).1
  simp only [h,yb,yc,decide_true,yi,yh,if_false,if_true,z6i f e (by omega) hs hfm]
  by_cases hl:1024<(tx e).length
  ·have:(1024:Int)<((tx e).length:Int):=by omega
   simp [hl,this]
  ·have:¬(1024:Int)<((tx e).length:Int):=by omega
   simp [hl,this]
 ·simp [h]
theorem zgw {e:EX} {f:Nat} (hf:e.sz≤f) (hs:z15 e):M.q3w f e=some (prE e):=by
 unfold M.q3w prE
 rw [zaa hf hs]
 by_cases h:zho e=0
 ·have hfm:=(zhp h).1
  simp only [h,yb,yc,decide_true,yi,yh,if_false,if_true,zc0 f e hf hs hfm]
  by_cases hl:1024<(tx e).length
  ·have:(1024:Int)<((tx e).length:Int):=by omega
   simp [hl,this]
  ·have:¬(1024:Int)<((tx e).length:Int):=by omega
   simp [hl,this]
 ·simp [h]
end Go.Sen
end
