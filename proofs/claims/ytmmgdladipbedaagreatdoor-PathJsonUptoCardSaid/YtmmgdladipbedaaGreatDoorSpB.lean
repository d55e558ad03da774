import Derived.Test.YtmmgdladipbedaaGreatDoorSpA
import Derived.Test.YtmmgdladipbedaaGreatDoorSnH
set_option linter.all false
namespace Go.Sen
open Go.Lk Go.Pe
abbrev EX:=q01
mutual
def q01.sz:EX→Nat
 | ⟨_,n,v,l⟩=>ezs l+n.length+v.length+1
def ezs:List EX→Nat
 | []=>0
 | x::xs=>x.sz+ezs xs
end
theorem q01.z1m (e:EX):e.sz=ezs e.zf+e.zg.length+e.z04.length+1:=by cases e;simp [q01.sz]
theorem z2k:∀ {l:List EX} {x:EX},x∈l→x.sz≤ezs l
 | y::l,x,h=>by
  simp only [ezs]
  rcases List.mem_cons.1 h with rfl|h
  ·omega
  ·have:=z2k h;omega
theorem z4v:∀ l:List EX,l.length≤ezs l
 | []=>by simp [ezs]
 | x::l=>by
  have:=z4v l
  simp only [ezs,List.length_cons,q01.z1m x]
  omega
/-- May it be, its brackets left aside? -/
def fm0 (k:Int) (n v:List UInt8) (m:Nat):Bool :=
 if k=0∨k=1 then decide (2≤m)&&decide (n=[])&&decide (v=[]) else if k=2 then decide (m=1)&&decide (n=[])&&decide (v=[]) else
  decide (2<k∧k<13)&&decide (m=0)&&isName n&&z2n v&&(!decide (k=3)||decide (v=[]))
mutual
def fm:EX→Bool
 | ⟨k,n,v,l⟩=>fm0 k n v l.length&&(decide (2<k)||fmL l)
def fmL:List EX→Bool
 | []=>true
 | x::xs=>fm x&&fmL xs
end
theorem zaa (e:EX):fm e=(fm0 e.za e.zg e.z04 e.zf.length&&(decide (2<e.za)||fmL e.zf)):=by cases e;simp only [fm]
theorem zcp:∀ l:List EX,fmL l=l.all fm
 | []=>rfl
 | x::l=>by simp [fmL,zcp l]
def z0l (e:EX):Prop:=e.sz<1000000000
theorem z0l.mem {e x:EX} (h:z0l e) (hx:x∈e.zf):z0l x:=by
 have:=z2k hx
 have h2:=e.z1m
 unfold z0l at *
 omega
theorem z74:∀ (f:Nat) (e:EX),4*e.sz≤f→z0l e→M.q21 f e=some (fm e)
 | 0,e,hf,_=>by have:=e.z1m;omega
 | f+1,e,hf,hs=>by
  have hz:=e.z1m
  have hlen:=z4v e.zf
  have hs':=hs
  unfold z0l at hs'
  have hself:∀ g,4*ezs e.zf+1≤g→g≤f→∀ x∈e.zf,M.q22 g x=some (!fm x):=fun g hg hgf x hx=>by
   have hm:=z2k hx
   match g,hg,hgf with
   | g+1,hg,hgf =>
    unfold M.q22
    rw [z74 g x (by omega) (hs.mem hx)]
    rfl
  have hloop:∀ g,4*ezs e.zf+3≤g→g≤f→M.q4w g e.zf=some (!fmL e.zf):=fun g hg hgf=>by
   match g,hg,hgf with
   | g+2,hg,hgf =>
    have hk:M.zu e.zf (M.q22 g) 0=some (match e.zf.findIdx? (fun x => !fm x) with|some i => .done (i:Int)|none => .go ()):=by
     refine zef (fun i:Nat=>(i:Int)) () (by omega) (fun i h => ?_) ?_
     ·rw [M.zu]
      simp only [show ((i:Int)<(e.zf.length:Int)) by omega,decide_true,if_true,z4a,List.getElem?_eq_getElem h,Option.bind_eq_bind,Option.bind_some,hself g (by omega) (by omega) _ (List.getElem_mem h)]
     ·rw [M.zu]
      simp
    unfold M.q4w M.q5c
    rw [hk,zcp]
    rcases z5a e.zf fm with ⟨h1,h2⟩|⟨i,h1,h2⟩
    ·rw [h1,h2];rfl
    ·rw [h1,h2];simp
  unfold M.q21
  have hcat:cat e.zg e.z04=some (e.zg++e.z04):=z2a (by omega)
  by_cases h1:e.za<0∨13≤e.za
  ·have h2:((decide (e.za<0))||(decide (13≤e.za)))=true:=by simpa using h1
   have h3:fm e=false:=by
    rw [zaa]
    have:fm0 e.za e.zg e.z04 e.zf.length=false:=by
     unfold fm0
     rw [if_neg (by omega),if_neg (by omega)]
     have:¬(2<e.za∧e.za<13):=by omega
     simp [this]
    simp [this]
   simp only [h2,if_true,Option.bind_eq_bind,Option.bind_some,h3]
  ·have h2:((decide (e.za<0))||(decide (13≤e.za)))=false:=by simpa using h1
   simp only [h2,Bool.false_eq_true,if_false]
   by_cases h3:2<e.za
   ·have h4:¬(e.za=0∨e.za=1):=by omega
    have h5:¬e.za=2:=by omega
    have h6:(2<e.za∧e.za<13):=by omega
    simp only [h3,decide_true,if_true,z4c,zbf,Option.bind_eq_bind,Option.bind_some,zaa,fm0,h4,h5,h6,if_false,Bool.true_and,Bool.true_or,Bool.and_true]
    by_cases g1:e.zf.length=0<;>cases g2:isName e.zg<;>cases g3:z2n e.z04<;>simp [g1,g2,g3]
   ·simp only [h3,decide_false,Bool.false_eq_true,if_false]
    have hl:=hloop f (by omega) (Nat.le_refl _)
    have hcd:(decide (e.zg++e.z04=([]:List UInt8)))=(decide (e.zg=[])&&decide (e.z04=[])):=by
     rw [Bool.eq_iff_iff];simp
    by_cases h5:e.za=2
    ·have h4:¬(e.za=0∨e.za=1):=by omega
     simp only [h5,decide_true,if_true,Option.bind_eq_bind,Option.bind_some,hcat,hl,hcd,zaa,fm0,h4,if_false,h3,decide_false,Bool.false_or]
     by_cases g1:e.zg=[]<;>by_cases g2:e.z04=[]<;>by_cases g3:e.zf.length=1<;>simp [g1,g2,g3]
     all_goals omega
    ·have h4:(e.za=0∨e.za=1):=by omega
     simp only [h5,decide_false,Bool.false_eq_true,if_false,Option.bind_eq_bind,Option.bind_some,hcat,hl,hcd,zaa,fm0,h4,if_true,h3,Bool.false_or]
     by_cases g1:e.zg=[]<;>by_cases g2:e.z04=[]<;>by_cases g3:2≤e.zf.length<;>simp [g1,g2,g3]
     all_goals omega
termination_by f=>f
decreasing_by omega
theorem zdm:∀ (f:Nat) (e:EX),e.sz≤f→z0l e→M.q4a f e=some (fm e)
 | 0,e,hf,_=>by have:=e.z1m;omega
 | f+1,e,hf,hs=>by
  have hz:=e.z1m
  have hlen:=z4v e.zf
  have hs':=hs
  unfold z0l at hs'
  have hk:M.z3d e (M.q4a f) 0=some (match e.zf.findIdx? (fun x => !fm x) with|some i => .done false|none => .go ()):=by
   refine zef (fun _=>false) () (by omega) (fun i h => ?_) ?_
   ·have hm:=z2k (List.getElem_mem h)
    rw [M.z3d]
    simp only [show ((i:Int)<(e.zf.length:Int)) by omega,decide_true,if_true,z4a,List.getElem?_eq_getElem h,Option.bind_eq_bind,Option.bind_some,zdm f _ (by omega) (hs.mem (List.getElem_mem h))]
   ·rw [M.z3d]
    simp
  have hk2:(match e.zf.findIdx? (fun x => !fm x) with|some i=>(.done false:Jn Bool Unit)|none => .go ())=if fmL e.zf=true then .go () else .done false:=by
   rw [zcp]
   rcases z5a e.zf fm with ⟨h1,h2⟩|⟨i,h1,h2⟩
   ·rw [h1,h2];rfl
   ·rw [h1,h2];rfl
  rw [hk2] at hk
  have hlen2:∀ m:Nat,decide ((e.zf.length:Int)=m)=decide (e.zf.length=m):=fun m=>by rw [decide_eq_decide];omega
  have hlen3:decide ((e.zf.length:Int)<2) = !decide (2≤e.zf.length):=by rw [←decide_not,decide_eq_decide];omega
  have hnt:=zkn (s:=e.zg) (by omega)
  unfold M.q4a
  rw [hk,zaa]
  by_cases h4:e.za=0∨e.za=1
  ·have h4':((decide (e.za=0))||(decide (e.za=1)))=true:=by simpa using h4
   have h3:¬2<e.za:=by omega
   simp only [h4',if_true,fm0,h4,hlen3,h3,decide_false,Bool.false_or]
   by_cases g1:e.zg=[]<;>by_cases g2:e.z04=[]<;>by_cases g3:2≤e.zf.length<;>cases g4:fmL e.zf<;>simp [g1,g2,g3]
  ·have h4':((decide (e.za=0))||(decide (e.za=1)))=false:=by simpa using h4
   simp only [h4',Bool.false_eq_true,if_false,fm0,h4]
   by_cases h5:e.za=2
   ·have h1:=hlen2 1
    have h3:¬2<e.za:=by omega
    simp only [h5,decide_true,if_true,show ((1:Nat):Int)=1 from rfl] at h1 ⊢
    simp only [h1]
    by_cases g1:e.zg=[]<;>by_cases g2:e.z04=[]<;>by_cases g3:e.zf.length=1<;>cases g4:fmL e.zf<;>simp [g1,g2,g3]
   ·simp only [h5,decide_false,Bool.false_eq_true,if_false]
    by_cases h6:2<e.za∧e.za<13
    ·have h6':((decide (2<e.za))&&(decide (e.za<13)))=true:=by simpa using h6
     have h0:=hlen2 0
     simp only [h6',if_true,hnt,zkq,Option.bind_eq_bind,Option.bind_some,h6.1,h6.2,and_self,decide_true,Bool.true_and,Bool.true_or,Bool.and_true]
     by_cases g1:e.zf.length=0<;>cases g2:isName e.zg<;>cases g3:z2n e.z04<;>simp [g1,g2,g3]
    ·have h6':((decide (2<e.za))&&(decide (e.za<13)))=false:=by
      rw [Bool.eq_false_iff]
      simpa using h6
     simp [h6',h6]
/-! zbl and brackets. -/
def wrd (k:Int):List UInt8:=(match ([[101,113],[110,101],[99,111],[115,119],[101,119],[103,116],[103,101],[108,116],[108,101]]:List (List UInt8))[(k - 4).toNat]? with|some w=>w|none=>[])
def bra (k:Int) (x:EX):Bool:=decide (k=2)||decide (x.za=1)||decide (x.za=0)&&decide (k=0)
def sep (k:Int):List UInt8:=if k=0 then [32,97,110,100,32] else [32,111,114,32]
mutual
def tx:EX→List UInt8
 | ⟨k,n,v,l⟩=>if k=3 then n++[32,112,114] else if 3<k then n++[32]++wrd k++[32]++qt v else if k=2 then [110,111,116,32]++(txL k l).head?.getD [] else Lib.join (txL k l) (sep k)
def txL (k:Int):List EX→List (List UInt8)
 | []=>[]
 | x::xs=>(if bra k x=true then 40::(tx x++[41]) else tx x)::txL k xs
end
mutual
def dp:EX→Nat
 | ⟨k,_,_,l⟩=>if 2<k then 0 else dpL k l
def dpL (k:Int):List EX→Nat
 | []=>0
 | x::xs=>max (dp x+(if bra k x=true then 1 else 0)) (dpL k xs)
end
theorem zav (e:EX):tx e=if e.za=3 then e.zg++[32,112,114] else if 3<e.za then e.zg++[32]++wrd e.za++[32]++qt e.z04 else if e.za=2 then [110,111,116,32]++(txL e.za e.zf).head?.getD [] else Lib.join (txL e.za e.zf) (sep e.za):=by cases e;simp only [tx]
theorem za7 (e:EX):dp e=if 2<e.za then 0 else dpL e.za e.zf:=by cases e;simp only [dp]
def txb (k:Int) (x:EX):List UInt8:=if bra k x=true then 40::(tx x++[41]) else tx x
theorem z90 (k:Int):∀ l,txL k l=l.map (txb k)
 | []=>by simp [txL]
 | x::l=>by simp [txL,z90 k l,txb]
theorem zl6 (k:Int):(wrd k).length≤2:=by
 unfold wrd
 split
 ·rename_i w h
  have:=List.mem_of_getElem? h
  simp only [List.mem_cons,List.not_mem_nil,or_false] at this
  rcases this with rfl|rfl|rfl|rfl|rfl|rfl|rfl|rfl|rfl<;>decide
 ·decide
theorem zb8 (sep:List UInt8):∀ l:List (List UInt8),(Lib.joinTail sep l).length=(l.map fun x=>x.length+sep.length).sum
 | []=>rfl
 | x::l=>by
  have:=zb8 sep l
  unfold Lib.joinTail at this ⊢
  simp [this]
  omega
theorem zcx (l:List (List UInt8)) (sep:List UInt8):(Lib.join l sep).length≤(l.map fun x=>x.length+sep.length).sum:=by
 cases l with
 | nil=>simp [Lib.join_nil]
 | cons x l =>
  rw [Lib.join_cons]
  simp [zb8]
theorem zkv (k:Int):(sep k).length≤5:=by unfold sep;split<;>decide
mutual
theorem zfi:∀ e:EX,(tx e).length+7≤16*e.sz
 | ⟨k,n,v,l⟩=>by
  have h1:=zh0 k l
  have h2:=zbg v
  have h3:=zl6 k
  have h4:=zkv k
  simp only [tx,q01.sz]
  split
  ·simp;omega
  ·split
   ·simp;omega
   ·split
    ·cases l with
     | nil=>simp [txL];omega
     | cons x l =>
      simp only [txL,List.map_cons,List.sum_cons,ezs] at h1 ⊢
      simp only [List.head?_cons,Option.getD_some,List.length_append,List.length_cons,List.length_nil]
      omega
    ·have h5:=zcx (txL k l) (sep k)
     have h6:((txL k l).map fun x=>x.length+(sep k).length).sum≤((txL k l).map fun x=>x.length+5).sum:=by
      generalize txL k l=L
      induction L with
      | nil=>simp
      | cons x L ih=>simp only [List.map_cons,List.sum_cons];omega
     omega
theorem zh0 (k:Int):∀ l:List EX,((txL k l).map fun x=>x.length+5).sum≤16*ezs l
 | []=>by simp [txL]
 | x::l=>by
  have h1:=zfi x
  have h2:=zh0 k l
  simp only [txL,List.map_cons,List.sum_cons,ezs]
  split
  ·simp only [List.length_cons,List.length_append,List.length_nil];omega
  ·omega
end
end Go.Sen
