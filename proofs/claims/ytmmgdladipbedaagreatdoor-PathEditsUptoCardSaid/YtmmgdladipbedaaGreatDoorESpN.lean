import Derived.Test.YtmmgdladipbedaaGreatDoorESpF
set_option linter.all false
section
namespace Go.Sen
open _root_.Option renaming bind_eq_bind → ya, bind_some → yb
open _root_.Bool renaming and_eq_true → yc, false_eq_true → yd, not_true → ye
open _root_.List renaming drop_zero → yf, getElem?_eq_getElem → yg, getElem_mem → yh, length_append → yi, length_cons → yj, length_nil → yk, mem_cons_of_mem → yl, mem_cons_self → ym, nil_append → yn
open _root_.Nat renaming zero_le → yo
open Go.Lk Go.Pe
def z3t (s:List UInt8):J:=⟨4,s,[],[]⟩
def opS (k:Int):List UInt8:=(opW[k.toNat]?).getD []
def z4f (x:ED):List UInt8 × Int:=if x.z19=true then (if (prE x.zu).2=0 then (x.zi++(([91]++(prE x.zu).1)++[93]),0) else ([],(prE x.zu).2)) else (x.zi,0)
def zw8 (x:ED) (p:List UInt8):J:=⟨6,[],[z3t (opS x.zb),z3t p]++(if x.zb=1 then [] else [⟨5,[],x.zf.map z3t,[]⟩]),[kOp,z1s]++(if x.zb=1 then [] else [z1f])⟩
def prX:List ED→Rs (List J)
 | [] => .ok []
 | x::l=>if (z4f x).2=0 then (match prX l with
  | .pan c => .pan c
  | .ok js => .ok (zw8 x (z4f x).1::js)) else .pan (z4f x).2
def ztq (js:List J):J:=⟨6,[],[⟨5,[],js,[]⟩],[zro]⟩
def prEs (l:List ED):List UInt8 × Int:=if z7m l=0 then (match prX l with
 | .pan c=>([],c)
 | .ok js=>print (ztq js)) else ([],z7m l)
theorem zk5 (e:EX):(prE e).1.length≤1024:=by
 unfold prE
 split
 ·split
  ·simp
  ·simp only;omega
 ·simp
theorem zdl {x:ED} (h:isName x.zi=true):(z4f x).1.length≤1050:=by
 have h1:=z8b h
 have h2:=zk5 x.zu
 unfold z4f
 split
 ·split
  ·simp only [yi,yj,yk];omega
  ·simp
 ·simp only;omega
theorem zta {x:ED} (hv:x.zf.length<1000000000):∀ (n i:Nat) (acc:List J),x.zf.length - i=n→i≤x.zf.length→acc.length≤i→M.z0q x (i:Int) acc=some (acc++(x.zf.drop i).map z3t):=by
 intro n
 induction n with
 | zero =>
  intro i acc h1 h2 h3
  have:i=x.zf.length:=by omega
  subst this
  rw [M.z0q]
  simp
 | succ n ih =>
  intro i acc h1 h2 h3
  have hi:i<x.zf.length:=by omega
  rw [M.z0q,z1x hi]
  simp only [show ((i:Int)<(x.zf.length:Int)) by omega,decide_true,if_true,z2u,yg hi,ya,yb,M.q2v,List.map_cons]
  rw [z0w (by simp only [yj,yk];omega)]
  simp only [yb]
  rw [w1 (by omega),ih (i+1) _ (by omega) (by omega) (by simp;omega),List.append_assoc]
  rfl
theorem zt9 {l:List ED} {f:Nat} (hf:4*z5b l+17≤f) (hl:z5b l<1000000000) (hok:∀ x∈l,z6q x=true):∀ (n i:Nat) (acc:List J),l.length - i=n→i≤l.length→acc.length≤i→M.z16 l f (i:Int) acc=some (match prX (l.drop i) with | .pan c => .done ([],c) | .ok js => .go (acc++js)):=by
 have hlen:l.length≤z5b l:=z7z (g:=fun x:ED=>x.sz) (fun x=>by unfold q00.sz;omega) l
 have hm:∀ x∈l,x.sz≤z5b l:=fun x hx=>z81 (g:=fun x:ED=>x.sz) hx
 intro n
 induction n with
 | zero =>
  intro i acc h1 h2 h3
  have:i=l.length:=by omega
  subst this
  rw [M.z16]
  simp [prX]
 | succ n ih =>
  intro i acc h1 h2 h3
  have hi:i<l.length:=by omega
  have hx:=hok _ (yh hi)
  have hsz:=hm _ (yh hi)
  have hx2:q00.sz l[i]=l[i].zi.length+l[i].zu.sz+kys l[i].zf+1:=rfl
  have hsm:z4a l[i]:=by unfold z4a;omega
  have hvl:l[i].zf.length<1000000000:=hsm.parts.2.2.1
  have hnl:=z8b (z6c hx)
  have hpl:=zdl (z6c hx)
  have hpr:=zk5 l[i].zu
  rw [M.z16,z1x hi]
  simp only [show ((i:Int)<(l.length:Int)) by omega,decide_true,if_true,z2u,yg hi,ya,yb,prX]
  rw [z6y (by omega) (by unfold z1b;omega)]
  have hps:z4f l[i]=if l[i].z19=true then (if (prE l[i].zu).2=0 then (l[i].zi++(([91]++(prE l[i].zu).1)++[93]),0) else ([],(prE l[i].zu).2)) else (l[i].zi,0):=rfl
  have hq:(if l[i].z19=true then (some (prE l[i].zu)).bind fun a=>if (!decide (a.2=0))=true then some (Jn.done (Jn.done (Jn.done (([]:List UInt8),a.2)))) else (cat [91] a.1).bind fun s1=>(cat s1 [93]).bind fun s2=>(cat l[i].zi s2).bind fun s3=>some (Jn.go s3) else some (Jn.go l[i].zi):Option (Jn (Jn (Jn ((List UInt8) × Int) (List J)) (List J)) (List UInt8))) =
    some (if (z4f l[i]).2=0 then .go (z4f l[i]).1 else .done (.done (.done ([],(z4f l[i]).2)))):=by
   rw [hps]
   by_cases hs:l[i].z19=true
   ·rw [if_pos hs,if_pos hs]
    simp only [yb]
    by_cases h0:(prE l[i].zu).2=0
    ·rw [z2h (by simp only [yj,yk];omega)]
     simp only [h0,decide_true,ye,yd,if_false,yb,if_true]
     rw [z2h (by simp only [yi,yj,yk];omega)]
     simp only [yb]
     rw [z2h (by simp only [yi,yj,yk];omega)]
     rfl
    ·simp [h0]
   ·rw [if_neg hs,if_neg hs]
    rfl
  rw [hq]
  simp only [yb]
  by_cases h0:(z4f l[i]).2=0
  ·rw [if_pos h0,if_pos h0]
   simp only
   have hop:(M.q2h.bind fun a=>(ix a l[i].zb).bind fun x=>(M.q2v x).bind fun q=>(M.q2v (z4f l[i]).1).bind fun r=>some [(q03.mk q.zb q.z03 q.zc q.z05),(q03.mk r.zb r.z03 r.zc r.z05)]:Option (List J))=some [z3t (opS l[i].zb),z3t (z4f l[i]).1]:=by
    rcases zhl hx with h|h|h<;>rw [h.1]<;>rfl
   rw [hop]
   simp only [yb]
   have hk2:=zta (x:=l[i]) hvl _ 0 [] rfl (yo _) (Nat.le_refl _)
   have hk2':M.z0q l[i] 0 []=_:=hk2
   have hj:(if (!decide (l[i].zb=1))=true then (M.z0q l[i] 0 []).bind fun j=>((app 16 [([111,112]:List UInt8),([112,97,116,104]:List UInt8)] [([118,97,108,117,101]:List UInt8)]).bind fun a=>(app 72 [z3t (opS l[i].zb),z3t (z4f l[i]).1] [(q03.mk 5 ([]:List UInt8) j [])]).bind fun b=>some (b,a)).bind fun q=>some (q.1,q.2) else some ([z3t (opS l[i].zb),z3t (z4f l[i]).1],[([111,112]:List UInt8),([112,97,116,104]:List UInt8)]):Option ((List J) × (List (List UInt8)))) =
     some ([z3t (opS l[i].zb),z3t (z4f l[i]).1]++(if l[i].zb=1 then [] else [⟨5,[],l[i].zf.map z3t,[]⟩]),[kOp,z1s]++(if l[i].zb=1 then [] else [z1f])):=by
    by_cases hk:l[i].zb=1
    ·simp [hk,kOp,z1s]
    ·simp only [hk,decide_false,Bool.not_false,if_true,hk2',yb,yf,yn,if_false]
     rw [z0w (by simp),z0w (by simp)]
     rfl
   rw [hj]
   simp only [yb]
   rw [z0w (by simp only [yj,yk];omega)]
   simp only [yb]
   rw [w1 (by omega),ih (i+1) _ (by omega) (by omega) (by simp;omega)]
   cases prX (l.drop (i+1)) with
   | pan c=>rfl
   | ok js=>simp [zw8]
  ·rw [if_neg h0,if_neg h0]
   rfl
theorem zwu (l:List (List UInt8)):szs (l.map z3t)≤2*kys l:=by
 induction l with
 | nil=>simp [szs,kys]
 | cons v l ih =>
  have h:=q03.z1n (z3t v)
  simp only [z3t,szs,z5h] at h
  rw [List.map_cons,z3y]
  simp only [szs,z3t] at ih ⊢
  omega
theorem zwe (k:Int):(opS k).length≤7:=by
 unfold opS
 cases h:opW[k.toNat]? with
 | none=>simp
 | some w =>
  have:=List.mem_of_getElem? h
  simp only [opW,List.mem_cons,List.not_mem_nil,or_false] at this
  rcases this with rfl|rfl|rfl<;>decide
theorem zw9 {x:ED} (h:z6q x=true):(zw8 x (z4f x).1).sz≤20000:=by
 obtain ⟨h1,h2⟩:=zah (zft h)
 have h3:=zpl h2
 have h4:=zwu x.zf
 have h5:=zdl (z6c h)
 have h6:=zwe x.zb
 have e:=q03.z1n (zw8 x (z4f x).1)
 have e1:=q03.z1n (z3t (opS x.zb))
 have e2:=q03.z1n (z3t (z4f x).1)
 have e3:=q03.z1n ⟨5,[],x.zf.map z3t,[]⟩
 have k1:kys [kOp,z1s]=8:=rfl
 have k2:kys [kOp,z1s,z1f]=14:=rfl
 simp only [szs,z5h,z3t] at e1 e2
 simp only [yk,z5h] at e3
 generalize q03.sz (zw8 x (z4f x).1)=S at e ⊢
 unfold zw8 at e
 simp only at e
 by_cases hk:x.zb=1
 ·rw [if_pos hk,if_pos hk] at e
  simp only [List.append_nil,szs,yk,z3t] at e
  rw [k1] at e
  omega
 ·rw [if_neg hk,if_neg hk] at e
  simp only [List.cons_append,yn,szs,yk,z3t] at e e3
  rw [k2] at e
  omega
theorem zqb:∀ {l:List ED} {js:List J},(∀ x∈l,z6q x=true)→prX l = .ok js→js.length=l.length∧szs js≤20001*l.length
 | [],js,_,h=>by simp only [prX,Rs.ok.injEq] at h;subst h;simp [szs]
 | x::l,js,hok,h=>by
  simp only [prX] at h
  split at h
  ·split at h
   ·cases h
   ·rename_i js' h2
    cases h
    obtain ⟨h3,h4⟩:=zqb (fun y hy=>hok y (yl _ hy)) h2
    have h5:=zw9 (hok x ym)
    simp only [szs,yj]
    omega
  ·cases h
theorem zfi {l:List ED} {js:List J} (hok:∀ x∈l,z6q x=true) (h16:l.length≤16) (h:prX l = .ok js):Small (ztq js):=by
 obtain ⟨_,h2⟩:=zqb hok h
 have e:=q03.z1n (ztq js)
 have e1:=q03.z1n ⟨5,[],js,[]⟩
 have k1:kys [zro]=11:=rfl
 simp only [ztq,szs,k1,yk,z5h] at e e1
 unfold Small ztq
 omega
theorem zab {l:List ED} {f:Nat} (hf:4*z5b l+17≤f) (hl:z5b l<1000000000):M.q1r f l=some (prEs l):=by
 unfold M.q1r prEs
 rw [z4g hf hl]
 simp only [ya,yb]
 by_cases h0:z7m l=0
 ·obtain ⟨h16,hok,_⟩:=zcm.1 h0
  have hk:=zt9 hf hl hok _ 0 [] rfl (yo _) (Nat.le_refl _)
  have hk':M.z16 l f 0 []=_:=hk
  simp only [h0,decide_true,ye,yd,if_false,if_true,hk',yb,yf,yn]
  cases hp:prX l with
  | pan c=>rfl
  | ok js =>
   simp only
   have:=za4 (v:=ztq js) (f:=f) (by omega) (zfi hok h16 hp)
   have h2:M.q0l f (q03.mk 6 ([]:List UInt8) [(q03.mk 5 ([]:List UInt8) js [])] [([79,112,101,114,97,116,105,111,110,115]:List UInt8)])=some (print (ztq js)):=this
   rw [h2]
   rfl
 ·simp [h0]
theorem zu0 {e:EX} (h:zj6 e=true):e=zE:=by
 obtain ⟨k,n,v,l⟩:=e
 unfold zj6 at h
 simp only [yc,decide_eq_true_eq] at h
 obtain ⟨⟨⟨rfl,rfl⟩,rfl⟩,h4⟩:=h
 rw [List.eq_nil_of_length_eq_zero h4]
 rfl
theorem zn7 {x:ED} (h:z6q x=true) (hs:x.z19=false):x.zu=zE:=by
 unfold z6q at h
 simp only [yc,hs,yd,if_false] at h
 exact zu0 h.1.2
theorem zz2 {o:J} {x:ED} (h:rdE o = .ok x):z6q x=true∧(x.z19=true→zbc x.zu=0)∧x.zu.sz≤204801:=by
 unfold rdE at h
 simp only at h
 split at h
 ·cases h
 ·split at h
  ·cases h
  ·rename_i h2
   split at h
   ·cases h
   ·split at h
    ·cases h
    ·split at h
     ·cases h
     ·rename_i h5
      simp only [Rs.ok.injEq] at h
      subst h
      refine ⟨by simpa using h5,fun hs => ?_,?_⟩
      ·simp only at hs ⊢
       have h2:(z1m (say o z1s).1).2=0:=by simpa using h2
       unfold z1m at h2 ⊢
       rw [if_pos hs] at h2 ⊢
       exact pP_ok (Prod.ext rfl h2)
      ·simp only
       unfold z1m
       split
       ·exact zwf _
       ·decide
theorem zup:∀ {js:List J} {l:List ED},rdL js = .ok l→l.length=js.length∧∀ x∈l,z6q x=true∧(x.z19=true→zbc x.zu=0)∧x.zu.sz≤204801
 | [],l,h=>by simp only [rdL,Rs.ok.injEq] at h;subst h;exact ⟨rfl,fun x hx=>(by cases hx)⟩
 | o::js,l,h=>by
  simp only [rdL] at h
  split at h
  ·cases h
  ·rename_i x hx
   split at h
   ·cases h
   ·rename_i xs hxs
    cases h
    obtain ⟨h1,h2⟩:=zup hxs
    refine ⟨by simp [h1],fun y hy => ?_⟩
    rcases List.mem_cons.1 hy with rfl|hy
    ·exact zz2 hx
    ·exact h2 y hy
theorem zq9 (s:List UInt8):(∃ c,¬c=0∧pEs s=([],c))∨∃ l,pEs s=(l,0)∧z7m l=0∧(∀ x∈l,x.z19=true→zbc x.zu=0)∧z5b l≤3500000:=by
 unfold pEs
 simp only
 split
 ·exact .inl ⟨190,by decide,rfl⟩
 ·split
  ·exact .inl ⟨191,by decide,rfl⟩
  ·rename_i h16
   cases hr:rdL (z2v (parse s).1 zro).1.zc with
   | pan c =>
    refine .inl ⟨c,?_,rfl⟩
    have key:∀ (js:List J) (c:Int),rdL js = .pan c→¬c=0:=by
     intro js
     induction js with
     | nil=>intro c h;cases h
     | cons o js ih =>
      intro c h
      simp only [rdL] at h
      split at h
      ·rename_i c' h1;cases h;exact zqg h1
      ·split at h
       ·rename_i c' h2;cases h;exact ih _ h2
       ·cases h
    exact key _ _ hr
   | ok l =>
    obtain ⟨h1,h2⟩:=zup hr
    refine .inr ⟨l,rfl,zcm.2 ⟨by omega,fun x hx=>(h2 x hx).1,List.any_eq_false.2 fun x hx => ?_⟩,fun x hx=>(h2 x hx).2.1,?_⟩
    ·intro q
     simp only [yc,Bool.not_eq_true',decide_eq_false_iff_not] at q
     exact q.2 ((h2 x hx).2.1 q.1)
    ·have key:∀ l:List ED,(∀ x∈l,z6q x=true∧x.zu.sz≤204801)→z5b l≤214000*l.length:=by
      intro l
      induction l with
      | nil=>intro _;simp [z5b]
      | cons x l ih =>
       intro hl
       have a:=ih fun y hy=>hl y (yl _ hy)
       obtain ⟨b1,b2⟩:=hl x ym
       have b3:=z8b (z6c b1)
       obtain ⟨b4,b5⟩:=zah (zft b1)
       have b6:=zpl b5
       have b7:x.sz=x.zi.length+x.zu.sz+kys x.zf+1:=rfl
       have b8:z5b (x::l)=x.sz+z5b l:=by simp [z5b]
       rw [b8,yj]
       omega
     have:=key l fun x hx=>⟨(h2 x hx).1,(h2 x hx).2.2⟩
     omega
theorem zei {l:List ED} {f:Nat} (hf:z5b l≤f) (hl:z5b l<1000000000):M.q44 f l l=some true:=by
 have hlen:l.length≤z5b l:=z7z (g:=fun x:ED=>x.sz) (fun x=>by unfold q00.sz;omega) l
 have hm:∀ x∈l,x.sz≤z5b l:=fun x hx=>z81 (g:=fun x:ED=>x.sz) hx
 have hk:∀ (n i:Nat),l.length - i=n→i≤l.length→M.z1i l l f (i:Int)=some (.go ()):=by
  intro n
  induction n with
  | zero =>
   intro i h1 h2
   have:i=l.length:=by omega
   subst this
   rw [M.z1i]
   simp
  | succ n ih =>
   intro i h1 h2
   have hi:i<l.length:=by omega
   have hsz:=hm _ (yh hi)
   have hx2:q00.sz l[i]=l[i].zi.length+l[i].zu.sz+kys l[i].zf+1:=rfl
   have hsm:z4a l[i]:=by unfold z4a;omega
   rw [M.z1i]
   simp only [show ((i:Int)<(l.length:Int)) by omega,decide_true,if_true,z2u,yg hi,ya,yb,ye,yd,if_false,beq_self_eq_true,zml f _ (show l[i].zu.sz≤f by omega) hsm.parts.2.1,zgq hsm.parts.2.2.1]
   rw [w1 (by omega),ih (i+1) (by omega) (by omega)]
 have h0:=hk _ 0 rfl (yo _)
 have h0':M.z1i l l f 0=some (.go ()):=h0
 unfold M.q44
 simp [h0']
end Go.Sen
end
section
namespace Go.Sen
open _root_.Option renaming bind_eq_bind → ya, bind_some → yb, getD_some → yc
open _root_.Bool renaming and_eq_true → yd, and_true → ye, eq_iff_iff → yf, false_eq_true → yg, not_false → yh, not_true → yi, or_eq_true → yj, true_eq_false → yk
open _root_.List renaming any_eq_true → yl, contains_eq_mem → ym, drop_zero → yn, getElem?_eq_getElem → yo, getElem_mem → yp, getElem_of_mem → yq, getElem_take → yr, length_append → ys, length_cons → yt, length_nil → yu, length_range → yv, length_take → yw, nil_append → yx, nodup_iff_pairwise_ne → yy, pairwise_iff_getElem → yz, range → yaa
open Go.Lk Go.Pe
theorem zr2 (l:List (List UInt8)):((yaa l.length).any fun i => !z2x (l[i]?.getD [])||(l.take i).contains (l[i]?.getD [])) = !(l.all z2x&&decide l.Nodup):=by
 rw [yf]
 simp only [yl,List.mem_range,yj,Bool.not_eq_true',ym,decide_eq_true_eq,Bool.and_eq_false_iff,decide_eq_false_iff_not,List.all_eq_false]
 constructor
 ·rintro ⟨i,hi,h⟩
  rw [yo hi,yc] at h
  rcases h with h|h
  ·exact .inl ⟨_,yp hi,by simp [h]⟩
  ·refine .inr fun hn => ?_
   obtain ⟨k,hk,e⟩:=yq h
   rw [yw] at hk
   rw [yr] at e
   rw [yy,yz] at hn
   exact hn k i (by omega) hi (by omega) e
 ·rintro (⟨x,hx,h⟩|h)
  ·obtain ⟨i,hi,rfl⟩:=yq hx
   exact ⟨i,hi,.inl (by rw [yo hi,yc];simpa using h)⟩
  ·rw [yy,yz] at h
   simp only [Classical.not_forall,Decidable.not_not] at h
   obtain ⟨i,j,hi,hj,hij,e⟩:=h
   refine ⟨j,hj,.inr ?_⟩
   rw [yo hj,yc,←e]
   have:(l.take j)[i]'(by rw [yw];omega)∈l.take j:=yp _
   rwa [yr] at this
theorem zr6 {l:List (List UInt8)} {i:Nat} (hi:i<l.length) (hl:l.length<1000000000):M.z2p (i:Int) l 0=some (if (l.take i).contains l[i]=true then .done (.done false) else .go ()):=by
 have hlen:(l.take i).length=i:=by rw [yw];omega
 have h:=zcg (l:=l.take i) (p:=fun y=>decide (y=l[i])) (F:=M.z2p (i:Int) l) (fun _=>(.done false:Jn Bool Unit)) () (by omega) (fun k hk => ?_) ?_
 ·rw [h]
  rcases z4x (l.take i) (fun y=>decide (y=l[i])) with ⟨h1,h2⟩|⟨j,h1,h2⟩
  ·rw [h1]
   have:(l.take i).contains l[i]=false:=by
    rw [List.any_eq_false] at h2
    rw [ym,decide_eq_false_iff_not]
    exact fun hm=>h2 _ hm (by simp)
   rw [this];rfl
  ·rw [h1]
   have:(l.take i).contains l[i]=true:=by
    obtain ⟨y,hy,e⟩:=yl.1 h2
    rw [ym,decide_eq_true_eq]
    exact (of_decide_eq_true e)▸hy
   rw [this];rfl
 ·rw [hlen] at hk
  have hk2:k<l.length:=by omega
  rw [M.z2p]
  simp only [show ((k:Int)<(i:Int)) by omega,decide_true,if_true,z2u,yo hi,yo hk2,ya,yb,yr]
 ·rw [hlen,M.z2p];simp
theorem zgj {l:List (List UInt8)} (hl:l.length<1000000000):M.q4v l=some (sgl l):=by
 have hk:=zcg (l:=yaa l.length) (p:=fun i => !z2x (l[i]?.getD [])||(l.take i).contains (l[i]?.getD [])) (F:=M.z3c l) (fun _=>false) () (by rw [yv];omega) (fun i h => ?_) ?_
 ·unfold M.q4v sgl
  rw [hk]
  have hs:=zr2 l
  have hlen:decide ((l.length:Int)≤64)=decide (l.length≤64):=by rw [decide_eq_decide];omega
  rcases z4x (yaa l.length) (fun i => !z2x (l[i]?.getD [])||(l.take i).contains (l[i]?.getD [])) with ⟨h1,h2⟩|⟨j,h1,h2⟩
  ·rw [h1]
   rw [h2] at hs
   have hs:(l.all z2x&&decide l.Nodup)=true:=by simpa using hs.symm
   simp only [ya,yb,hlen]
   simp only [yd] at hs
   rw [hs.1,hs.2,ye,ye]
  ·rw [h1]
   rw [h2] at hs
   have hs:(l.all z2x&&decide l.Nodup)=false:=by
    cases hb:(l.all z2x&&decide l.Nodup) with
    | false=>rfl
    | true=>rw [hb] at hs;cases hs
   simp only [ya,yb]
   rw [Bool.and_assoc,Bool.and_comm (decide l.Nodup),hs,Bool.and_false]
 ·rw [yv] at h
  rw [M.z3c]
  simp only [show ((i:Int)<(l.length:Int)) by omega,decide_true,if_true,z2u,yo h,ya,yb,zds,zr6 h hl,List.getElem_range,yc]
  cases z2x l[i] with
  | false=>simp
  | true =>
   simp only [yi,yg,if_false,Bool.false_or]
   by_cases hc:(l.take i).contains l[i]=true
   ·rw [if_pos hc,if_pos hc];rfl
   ·rw [if_neg hc,if_neg hc];rfl
 ·rw [yv,M.z3c];simp
theorem zbv:∀ (f:Nat) (e:EX),e.sz≤f→z1b e→fm e=true→M.q4a f e=some (aln e)
 | 0,e,hf,_,_=>by have:=e.z1n;omega
 | f+1,e,hf,hs,hm=>by
  have hz:=e.z1n
  have hlen:=z5f e.zc
  have hs':=hs
  unfold z1b at hs'
  have hk:M.z3o e (M.q4a f) 0=some (match e.zc.findIdx? (fun x => !aln x) with|some i => .done ((fun _:Nat=>false) i)|none => .go ()):=by
   refine zcg (fun _=>false) () (by omega) (fun i h => ?_) ?_
   ·have hmem:=z3h (yp h)
    rw [M.z3o]
    simp only [show ((i:Int)<(e.zc.length:Int)) by omega,decide_true,if_true,z2u,yo h,ya,yb,zbv f _ (show q01.sz e.zc[i]≤f by omega) (hs.mem (yp h)) (zez hm (yp h))]
   ·rw [M.z3o];simp
  have hkd:=zd2 hm
  unfold M.q4a
  rw [zu3]
  by_cases h2:2<e.zb
  ·have hl:=(zd3 hm h2).1
   simp [h2,hl]
  ·have hl:¬e.zc.length=0:=by
    by_cases h22:e.zb=2
    ·obtain ⟨x,hx,_⟩:=zhq hm h22
     rw [hx];simp
    ·have:=(zub hm (by omega)).1
     omega
   have hl':¬((e.zc.length:Int)=0):=by omega
   simp only [hl',decide_false,yg,if_false,h2,hk,ya,yb,zfl]
   rcases z4o e.zc aln with ⟨h3,h4⟩|⟨i,h3,h4⟩
   ·rw [h3,h4]
   ·rw [h3,h4]
theorem zkd (e:EX):M.q51 e=some (zj6 e):=by
 unfold M.q51 zj6
 have:decide ((e.zc.length:Int)=0)=decide (e.zc.length=0):=by rw [decide_eq_decide];omega
 rw [this]
theorem zdr {x:ED} {f:Nat} (hf:4*x.sz≤f) (hx:z4a x):M.q4e f x=some (z6q x):=by
 obtain ⟨h1,h2,h3,h4⟩:=hx.parts
 have hsz:x.sz=x.zi.length+x.zu.sz+kys x.zf+1:=rfl
 have hwz:=x.zu.z1n
 unfold M.q4e z6q
 rw [z73 (by omega),zgj h3,z9k f x.zu (by omega) h2,zkd]
 have hal:(if x.z19=true then (if (!fm x.zu)=true then some true else (M.q4a f x.zu).bind fun b=>some (!b)) else some false:Option Bool)=some (if x.z19=true then !(fm x.zu&&aln x.zu) else false):=by
  cases x.z19 with
  | false=>rfl
  | true =>
   simp only [if_true]
   cases hm:fm x.zu with
   | false=>rfl
   | true =>
    rw [zbv f x.zu (by omega) h2 hm]
    simp
 have hn0:decide ((x.zf.length:Int)=0)=decide (x.zf.length=0):=by rw [decide_eq_decide];omega
 have hn1:decide ((x.zf.length:Int)=1)=decide (x.zf.length=1):=by rw [decide_eq_decide];omega
 have hnp:decide ((0:Int)<(x.zf.length:Int))=decide (0<x.zf.length):=by rw [decide_eq_decide];omega
 have hn2:decide ((1:Int)<(x.zf.length:Int))=decide (1<x.zf.length):=by rw [decide_eq_decide];omega
 simp only [ya,yb,hal,hn0,hn1,hnp,hn2]
 have hend:(if decide (x.zb=0)=true then some (!x.z19&&decide (0<x.zf.length)) else if decide (x.zb=1)=true then some (decide (x.zf.length=0)) else if decide (x.zb=2)=true then some (decide (x.zf.length=1) || !x.z19&&decide (1<x.zf.length)) else some false:Option Bool)=some (edK x.zb x.zf.length x.z19):=by
  unfold edK
  by_cases k0:x.zb=0
  ·simp [k0,Bool.and_comm]
  ·by_cases k1:x.zb=1
   ·simp [k1]
   ·by_cases k2:x.zb=2
    ·simp only [k2,show ¬((2:Int)=0) by decide,show ¬((2:Int)=1) by decide,decide_false,yg,if_false,decide_true,if_true,Option.some.injEq]
     generalize x.zf.length=n
     cases x.z19 with
     | false =>
      rw [yf]
      simp only [yh,Bool.true_and,Bool.or_true,ye,yj,decide_eq_true_eq]
      omega
     | true =>
      rw [yf]
      simp only [yi,Bool.false_and,Bool.or_false,yd,decide_eq_true_eq]
      omega
    ·simp [k0,k1,k2]
 rw [hend]
 generalize edK x.zb x.zf.length x.z19=b5
 generalize zj6 x.zu=b6
 generalize sgl x.zf=b4
 generalize decide (x.zi=[105,100])=b2
 generalize decide (x.zi=[116,97,103])=b3
 generalize isName x.zi=b1
 generalize fm x.zu=b9
 generalize aln x.zu=b10
 cases b1<;>cases b2<;>cases b3<;>cases b4<;>try (simp;done)
 cases x.z19<;>cases b6<;>cases b9<;>cases b10<;>simp
theorem zvc {f:Nat} (hf:1≤f):M.q4d f zE=some 0:=by
 match f,hf with
 | f+1,_ =>
  unfold M.q4d
  rw [M.z2r]
  rfl
theorem z6g {l:List ED} {f:Nat} (hf:4*z5b l+17≤f) (hl:z5b l<1000000000):M.q3u f l=some (z7m l):=by
 have hlen:l.length≤z5b l:=z7z (g:=fun x:ED=>x.sz) (fun x=>by unfold q00.sz;omega) l
 have hm:∀ x∈l,x.sz≤z5b l:=fun x hx=>z81 (g:=fun x:ED=>x.sz) hx
 have hk1:M.z1j l f 0=some (match l.findIdx? (fun x => !z6q x) with|some i => .done ((fun _:Nat=>(194:Int)) i)|none => .go ()):=by
  refine zcg (fun _=>194) () (by omega) (fun i h => ?_) ?_
  ·have:=hm _ (yp h)
   rw [M.z1j]
   simp only [show ((i:Int)<(l.length:Int)) by omega,decide_true,if_true,z2u,yo h,ya,yb,zdr (x:=l[i]) (f:=f) (by omega) (by unfold z4a;omega)]
  ·rw [M.z1j];simp
 unfold M.q3u z7m
 by_cases h16:16<l.length
 ·have h16':((16:Int)<(l.length:Int)):=by omega
  simp [h16,h16']
 ·have h16':¬((16:Int)<(l.length:Int)):=by omega
  simp only [h16,h16',decide_false,yg,if_false,ya,hk1]
  rcases z4o l z6q with ⟨h1,h2⟩|⟨i,h1,h2⟩
  ·rw [h1,h2]
   simp only [yb,yk,if_false]
   have hok:=List.all_eq_true.1 h2
   have hk2:M.z1k l f 0=some (match l.findIdx? (fun x=>x.z19 && !decide (zbc x.zu=0)) with|some i => .done ((fun _:Nat=>(193:Int)) i)|none => .go ()):=by
    refine zcg (fun _=>193) () (by omega) (fun i h => ?_) ?_
    ·have h3:=hm _ (yp h)
     have hx:=hok _ (yp h)
     have hx2:q00.sz l[i]=l[i].zi.length+l[i].zu.sz+kys l[i].zf+1:=rfl
     have hsm:z1b l[i].zu:=by unfold z1b;omega
     rw [M.z1k]
     simp only [show ((i:Int)<(l.length:Int)) by omega,decide_true,if_true,z2u,yo h,ya,yb]
     cases hs:l[i].z19 with
     | false =>
      rw [zn7 hx hs,zvc (by omega)]
      simp
     | true =>
      have hfm:fm l[i].zu=true:=by
       unfold z6q at hx
       simp only [yd,hs,if_true] at hx
       exact hx.1.2.1
      rw [z9j f _ (by omega) hsm hfm]
      have hc:(!decide (zbc l[i].zu=0))=decide ((16:Int)<(dp l[i].zu:Int)):=by
       unfold zbc
       rw [hfm]
       simp only [yk,if_false]
       by_cases hd:16<dp l[i].zu
       ·have:(16:Int)<(dp l[i].zu:Int):=by omega
        rw [if_pos hd,decide_eq_true this]
        rfl
       ·have:¬(16:Int)<(dp l[i].zu:Int):=by omega
        rw [if_neg hd,decide_eq_false this]
        rfl
      simp only [yb,Bool.true_and,hc]
    ·rw [M.z1k];simp
   rw [hk2]
   rcases z4x l (fun x=>x.z19 && !decide (zbc x.zu=0)) with ⟨h3,h4⟩|⟨i,h3,h4⟩
   ·rw [h3,h4];rfl
   ·rw [h3,h4];rfl
  ·rw [h1,h2];rfl
theorem zqt {l:List ED} {j:Nat} (hj:j<l.length) (hv:l[j].zf.length<1000000000):∀ (n i:Nat) (acc:List J),l[j].zf.length - i=n→i≤l[j].zf.length→acc.length≤i→M.z0x l (j:Int) (i:Int) acc=some (acc++(l[j].zf.drop i).map z3t):=by
 intro n
 induction n with
 | zero =>
  intro i acc h1 h2 h3
  have:i=l[j].zf.length:=by omega
  subst this
  rw [M.z0x]
  simp only [z2u,yo hj,ya,yb]
  simp
 | succ n ih =>
  intro i acc h1 h2 h3
  have hi:i<l[j].zf.length:=by omega
  rw [M.z0x,z1x hi]
  simp only [z2u,yo hj,ya,yb,show ((i:Int)<(l[j].zf.length:Int)) by omega,decide_true,if_true,yo hi,M.q4u,List.map_cons]
  rw [z0w (by simp only [yt,yu];omega)]
  simp only [yb]
  rw [w1 (by omega),ih (i+1) _ (by omega) (by omega) (by simp;omega),List.append_assoc]
  rfl
theorem zqs {l:List ED} {f:Nat} (hf:4*z5b l+17≤f) (hl:z5b l<1000000000) (hok:∀ x∈l,z6q x=true):∀ (n i:Nat) (acc:List J),l.length - i=n→i≤l.length→acc.length≤i→M.z1e l f (i:Int) acc=some (match prX (l.drop i) with | .pan c => .done ([],c) | .ok js => .go (acc++js)):=by
 have hlen:l.length≤z5b l:=z7z (g:=fun x:ED=>x.sz) (fun x=>by unfold q00.sz;omega) l
 have hm:∀ x∈l,x.sz≤z5b l:=fun x hx=>z81 (g:=fun x:ED=>x.sz) hx
 intro n
 induction n with
 | zero =>
  intro i acc h1 h2 h3
  have:i=l.length:=by omega
  subst this
  rw [M.z1e]
  simp [prX]
 | succ n ih =>
  intro i acc h1 h2 h3
  have hi:i<l.length:=by omega
  have hx:=hok _ (yp hi)
  have hsz:=hm _ (yp hi)
  have hx2:q00.sz l[i]=l[i].zi.length+l[i].zu.sz+kys l[i].zf+1:=rfl
  have hsm:z4a l[i]:=by unfold z4a;omega
  have hvl:l[i].zf.length<1000000000:=hsm.parts.2.2.1
  have hnl:=z8b (z6c hx)
  have hpl:=zdl (z6c hx)
  have hpr:=zk5 l[i].zu
  rw [M.z1e,z1x hi]
  simp only [show ((i:Int)<(l.length:Int)) by omega,decide_true,if_true,z2u,yo hi,ya,yb,prX]
  rw [zbu (by omega) (by unfold z1b;omega)]
  have hps:z4f l[i]=if l[i].z19=true then (if (prE l[i].zu).2=0 then (l[i].zi++(([91]++(prE l[i].zu).1)++[93]),0) else ([],(prE l[i].zu).2)) else (l[i].zi,0):=rfl
  have hq:(if l[i].z19=true then (some (prE l[i].zu)).bind fun a=>if (!decide (a.2=0))=true then some (Jn.done (Jn.done (Jn.done (([]:List UInt8),a.2)))) else (cat [91] a.1).bind fun s1=>(cat s1 [93]).bind fun s2=>(cat l[i].zi s2).bind fun s3=>some (Jn.go s3) else some (Jn.go l[i].zi):Option (Jn (Jn (Jn ((List UInt8) × Int) (List J)) (List J)) (List UInt8))) =
    some (if (z4f l[i]).2=0 then .go (z4f l[i]).1 else .done (.done (.done ([],(z4f l[i]).2)))):=by
   rw [hps]
   by_cases hs:l[i].z19=true
   ·rw [if_pos hs,if_pos hs]
    simp only [yb]
    by_cases h0:(prE l[i].zu).2=0
    ·rw [z2h (by simp only [yt,yu];omega)]
     simp only [h0,decide_true,yi,yg,if_false,yb,if_true]
     rw [z2h (by simp only [ys,yt,yu];omega)]
     simp only [yb]
     rw [z2h (by simp only [ys,yt,yu];omega)]
     rfl
    ·simp [h0]
   ·rw [if_neg hs,if_neg hs]
    rfl
  rw [hq]
  simp only [yb]
  by_cases h0:(z4f l[i]).2=0
  ·rw [if_pos h0,if_pos h0]
   simp only
   have hop:(M.q4l.bind fun a=>(ix a l[i].zb).bind fun x=>(M.q4u x).bind fun q=>(M.q4u (z4f l[i]).1).bind fun r=>some [(q03.mk q.zb q.z03 q.zc q.z05),(q03.mk r.zb r.z03 r.zc r.z05)]:Option (List J))=some [z3t (opS l[i].zb),z3t (z4f l[i]).1]:=by
    rcases zhl hx with h|h|h<;>rw [h.1]<;>rfl
   rw [hop]
   simp only [yb]
   have hk2:=zqt (l:=l) hi hvl _ 0 [] rfl (Nat.zero_le _) (Nat.le_refl _)
   have hk2':M.z0x l (i:Int) 0 []=_:=hk2
   have hj:(if (!decide (l[i].zb=1))=true then (M.z0x l (i:Int) 0 []).bind fun j=>(app 16 [([111,112]:List UInt8),([112,97,116,104]:List UInt8)] [([118,97,108,117,101]:List UInt8)]).bind fun a=>(app 72 [z3t (opS l[i].zb),z3t (z4f l[i]).1] [(q03.mk 5 ([]:List UInt8) j [])]).bind fun b=>some (b,a) else some ([z3t (opS l[i].zb),z3t (z4f l[i]).1],[([111,112]:List UInt8),([112,97,116,104]:List UInt8)]):Option ((List J) × (List (List UInt8)))) =
     some ([z3t (opS l[i].zb),z3t (z4f l[i]).1]++(if l[i].zb=1 then [] else [⟨5,[],l[i].zf.map z3t,[]⟩]),[kOp,z1s]++(if l[i].zb=1 then [] else [z1f])):=by
    by_cases hk:l[i].zb=1
    ·simp [hk,kOp,z1s]
    ·simp only [hk,decide_false,yh,if_true,hk2',yb,yn,yx,if_false]
     rw [z0w (by simp),yb,z0w (by simp)]
     rfl
   rw [hj]
   simp only [yb]
   rw [z0w (by simp only [yt,yu];omega)]
   simp only [yb]
   rw [w1 (by omega),ih (i+1) _ (by omega) (by omega) (by simp;omega)]
   cases prX (l.drop (i+1)) with
   | pan c=>rfl
   | ok js=>simp [zw8]
  ·rw [if_neg h0,if_neg h0]
   rfl
theorem zb3 {l:List ED} {f:Nat} (hf:4*z5b l+17≤f) (hl:z5b l<1000000000):M.q43 f l=some (prEs l):=by
 unfold M.q43 prEs
 rw [z6g hf hl]
 simp only [ya,yb]
 by_cases h0:z7m l=0
 ·obtain ⟨h16,hok,_⟩:=zcm.1 h0
  have hk:=zqs hf hl hok _ 0 [] rfl (Nat.zero_le _) (Nat.le_refl _)
  have hk':M.z1e l f 0 []=_:=hk
  simp only [h0,decide_true,yi,yg,if_false,if_true,hk',yb,yn,yx]
  cases hp:prX l with
  | pan c=>rfl
  | ok js =>
   simp only
   have:=zij (v:=ztq js) (f:=f) (by omega) (zfi hok h16 hp)
   have h2:M.q3b f (q03.mk 6 ([]:List UInt8) [(q03.mk 5 ([]:List UInt8) js [])] [([79,112,101,114,97,116,105,111,110,115]:List UInt8)])=some (print (ztq js)):=this
   rw [h2]
   rfl
 ·simp [h0]
end Go.Sen
end
