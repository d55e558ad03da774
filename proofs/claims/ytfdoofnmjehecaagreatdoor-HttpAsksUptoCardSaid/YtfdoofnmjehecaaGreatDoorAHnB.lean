import Derived.Test.YtfdoofnmjehecaaGreatDoorAHtM
import Derived.Test.YtfdoofnmjehecaaGreatDoorAShL
import Derived.Lib.SplitLaws
import Derived.Lib.AtoiAllCases
import Derived.Lib.MapLaws
import Derived.Lib.TrimAscii
import Derived.Lib.TrimU
set_option linter.all false
namespace Go.Sen
open _root_.Option renaming bind_eq_bind → ya, bind_eq_some_iff → yb, bind_some → yc, getD_some → yd, map_eq_some_iff → ye, map_some → yf
open _root_.Bool renaming and_eq_false_iff → yg, and_eq_true → yh, and_false → yi, eq_iff_iff → yj, false_eq_true → yk, not_eq_true → yl, not_eq_true' → ym, not_false → yn, not_true → yo, or_eq_true → yp, true_and → yq, true_eq_false → yr
open _root_.List renaming all_eq_true → ys, append_assoc → yt, append_nil → yu, cons_append → yv, dropWhile_cons → yw, dropWhile_sublist → yx, drop_drop → yy, drop_eq_getElem_cons → yz, drop_eq_nil_of_le → yaa, drop_left' → yab, drop_succ_cons → yac, drop_take → yad, drop_zero → yae, eq_nil_of_length_eq_zero → yaf, findIdx?_cons → yag, foldl_cons → yah, getElem?_cons_succ → yai, getElem?_cons_zero → yaj, getElem?_eq_getElem → yak, getElem?_eq_none → yal, getElem_mem → yam, head?_cons → yan, isPrefixOf → yao, length_append → yap, length_cons → yaq, length_drop → yar, length_eq_zero_iff → yas, length_nil → yat, length_replicate → yau, length_take → yav, mem_append → yaw, mem_cons → yax, nil_append → yay, nodup_append → yaz, pairwise_iff_getElem → ya0, replicate → ya1, replicate_zero → ya2, tail_cons → ya3, takeWhile_cons → ya4, take_append_drop → ya5, take_append_of_le_length → ya6, take_length → ya7, take_of_length_le → ya8, take_succ_cons → ya9
open _root_.Nat renaming add_assoc → yba, add_comm → ybb, add_right_comm → ybc, le_of_not_lt → ybd, le_refl → ybe, le_trans → ybf, lt_or_ge → ybg, mod_eq_of_lt → ybh, mul_comm → ybi, pow_le_pow_right → ybj, pow_succ → ybk, sub_self → ybl, testBit_two_pow_mul_add → ybm, zero_add → ybn, zero_le → ybo
open _root_.Int renaming tmod → ybp
open IntKind renaming wrap → ybq
open _root_.UInt8 renaming ofNat → ybr
section
open Go.Lk Go.Pe
theorem z68 (s p:Z):M.q7d s p=some (p.isPrefixOf s):=by
 unfold M.q7d M.q36
 by_cases h:p.length≤s.length
 ·have h':((p.length:Int)≤(s.length:Int)):=by omega
  simp only [h',decide_true,if_true,zhl h,ya,yc,zri]
 ·have h':¬((p.length:Int)≤(s.length:Int)):=by omega
  have:p.isPrefixOf s=false:=by
   cases hp:p.isPrefixOf s with
   | false=>rfl
   | true=>exact absurd (zgf hp) h
  simp [h',this]
theorem z65 (s p:Z):M.q7c s p=some (if p.isPrefixOf s then (s.drop p.length,true) else (s,false)):=by
 have h:=z68 s p
 unfold M.q7d at h
 simp only [ya] at h
 unfold M.q7c M.q35
 cases h1:M.q36 s p with
 | none=>rw [h1] at h;cases h
 | some b =>
  rw [h1] at h
  simp only [yc,Option.some.injEq] at h
  subst h
  cases hb:p.isPrefixOf s with
  | false=>simp
  | true=>simp [zaw (zgf hb)]
def isD (b:UInt8):Bool:=decide (48≤b.toNat)&&decide (b.toNat≤57)
theorem zz03y:∀ b:UInt8,([48,49,50,51,52,53,54,55,56,57]:Z).contains b=isD b:=by
 intro b
 have h:∀ n:Fin 256,([48,49,50,51,52,53,54,55,56,57]:Z).contains (ybr n.val)=isD (ybr n.val):=by decide +kernel
 have:=h ⟨b.toNat,ze5⟩
 simpa using this
def z6n (s:Z):Nat:=(s.takeWhile isD).length
theorem zfa (s:Z):z6n s≤s.length:=by
 unfold z6n
 exact (List.takeWhile_sublist _).length_le
theorem zl3 (c:UInt8) (s:Z):z6n (c::s)=if isD c then z6n s+1 else 0:=by
 unfold z6n
 rw [ya4]
 split<;>simp
theorem z7o {s:Z} (h:s.length<4611686018427387904):M.q3i s=some (z6n s:Int):=by
 unfold M.q3i M.trimLeft
 have e:(decide ((([48,49,50,51,52,53,54,55,56,57]:Z)).length<4294967281)&&([48,49,50,51,52,53,54,55,56,57]:Z).all fun b=>decide (b.toNat<128))=true:=by decide
 rw [z3y e]
 simp only [ya,yc]
 have e2:Lib.trimLeftS s [48,49,50,51,52,53,54,55,56,57]=s.dropWhile isD:=by
  unfold Lib.trimLeftS
  congr 1
  funext b
  exact zz03y b
 rw [e2]
 have e3:z6n s+(s.dropWhile isD).length=s.length:=by
  unfold z6n
  rw [←yap,List.takeWhile_append_dropWhile]
 rw [w64 (by omega) (by omega)]
 congr 1
 omega
def sgn (s:Z):Nat:=if s.head? = some 45 then 1 else 0
def z7u (s:Z):Nat:=if s.head? = some 48 then 1 else z6n s
def zau:Z→Nat
 | 46::r=>if 0<z6n r then 1+z6n r else 0
 | _=>0
def z9a (s:Z):Nat:=if s.head? = some 43∨s.head? = some 45 then 1 else 0
def zh9:Z→Nat
 | c::r=>if c=101∨c=69 then (if 0<z6n (r.drop (z9a r)) then 1+z9a r+z6n (r.drop (z9a r)) else 0) else 0
 | []=>0
def num (s:Z):Nat :=
 let i:=sgn s
 if z7u (s.drop i)=0 then 0 else
 let i:=i+z7u (s.drop i)
 let i:=i+zau (s.drop i)
 i+zh9 (s.drop i)
theorem zxl (s:Z):sgn s≤s.length:=by
 unfold sgn
 cases s<;>simp
 split<;>omega
theorem zpf (s:Z):z9a s≤s.length:=by
 unfold z9a
 cases s<;>simp
 split<;>omega
theorem zo5 (s:Z):z7u s≤s.length:=by
 unfold z7u
 have:=zfa s
 cases s with
 | nil=>simp [z6n]
 | cons c r=>split<;>simp_all
theorem znx (s:Z):zau s≤s.length:=by
 unfold zau
 split
 ·rename_i r
  have:=zfa r
  split<;>simp<;>omega
 ·simp
theorem zz03f (s:Z):zh9 s≤s.length:=by
 unfold zh9
 split
 ·rename_i c r
  have h1:=zpf r
  have h2:=zfa (r.drop (z9a r))
  rw [yar] at h2
  repeat' split
  all_goals simp only [yaq]
  all_goals omega
 ·simp
theorem zm6 (s:Z):num s≤s.length:=by
 unfold num
 simp only
 split
 ·simp
 ·have h1:=zxl s
  have h2:=zo5 (s.drop (sgn s))
  have h3:=znx (s.drop (sgn s+z7u (s.drop (sgn s))))
  have h4:=zz03f (s.drop (sgn s+z7u (s.drop (sgn s))+zau (s.drop (sgn s+z7u (s.drop (sgn s))))))
  simp only [yar] at h2 h3 h4
  omega
theorem zax (s:Z):z6n s=0↔z7u s=0:=by
 unfold z7u
 cases s with
 | nil=>simp [z6n]
 | cons c r =>
  by_cases h:c=48
  ·subst h
   simp [zl3,isD]
  ·simp [h]
theorem zzg (s:Z):s.head? = s[0]?:=by cases s<;>rfl
theorem getD {s:Z} {i:Nat}:(s.drop i).head? = s[i]?:=by rw [zzg];simp
theorem zb3 {s:Z} (h:s.length<1152921504606846976):M.q3l s=some (num s:Int):=by
 unfold M.q3l
 have a1:(do
   let a_7←M.q7d s ([45]:Z)
   if a_7 then
    some 1
   else
    some 0:Option Int)=some ((sgn s:Nat):Int):=by
  rw [z68]
  unfold sgn
  cases s with
  | nil=>rfl
  | cons c r =>
   by_cases hc:c=45
   ·subst hc;simp
   ·have:¬(45:UInt8)=c:=fun e=>hc e.symm
    simp [hc,this]
 rw [a1]
 simp only [ya,yc]
 have l1:=zxl s
 rw [zaw l1]
 simp only [yc]
 rw [z7o (by simp;omega)]
 simp only [yc]
 unfold num
 simp only
 by_cases hz:z6n (s.drop (sgn s))=0
 ·rw [if_pos (by simpa using hz),if_pos ((zax _).1 hz)]
  rfl
 rw [if_neg (by simpa using hz),if_neg (fun e=>hz ((zax _).2 e))]
 generalize hi:sgn s=i at *
 have hlt:i<s.length:=by
  rcases ybg i s.length with h1|h1
  ·exact h1
  ·rw [yaa h1] at hz;exact absurd rfl hz
 rw [z4k,yak hlt]
 simp only [yc]
 have a2:(if (decide (((s[i]).toNat:Int)=48))=true then some 1 else some ((z6n (s.drop i):Nat):Int))=some ((z7u (s.drop i):Nat):Int):=by
  unfold z7u
  rw [getD,yak hlt]
  by_cases hc:s[i]=48
  ·have:((s[i]).toNat:Int)=48:=by rw [hc];rfl
   simp [hc]
  ·have:¬((s[i]).toNat:Int)=48:=fun e=>hc ((toNat_eq (n:=48) (by omega)).1 e)
   simp [hc,this]
 rw [a2]
 simp only [yc]
 have l2:=zo5 (s.drop i)
 generalize hn:z7u (s.drop i)=n at *
 rw [yar] at l2
 have e1:ybq .i64 ((i:Int)+(n:Int))=((i+n:Nat):Int):=wadd (by omega)
 rw [e1]
 have hk:i+n≤s.length:=by omega
 generalize hj:i+n=j at *
 have a3:(do
   let s_31←sub s (j:Int) (s.length:Int)
   let a_32←M.q7d s_31 ([46]:Z)
   if a_32 then
    let s_34←sub s (ybq .i64 ((j:Int)+1)) (s.length:Int)
    let a_35←M.q3i s_34
    if (decide (0<a_35)) then
     some (ybq .i64 ((j:Int)+(ybq .i64 (1+a_35))))
    else
     some (j:Int)
   else
    some (j:Int):Option Int)=some ((j+zau (s.drop j):Nat):Int):=by
  rw [zaw hk]
  simp only [ya,yc,z68]
  have ex:(∃ r,s.drop j=46::r)∨(([46]:Z).isPrefixOf (s.drop j)=false∧zau (s.drop j)=0):=by
   cases hd:s.drop j with
   | nil=>exact .inr ⟨rfl,rfl⟩
   | cons c r =>
    by_cases hc:c=46
    ·subst hc;exact .inl ⟨r,rfl⟩
    ·have h46:¬(46:UInt8)=c:=fun e=>hc e.symm
     refine .inr ⟨by simp [yao,h46],?_⟩
     unfold zau
     split
     ·rename_i r' hr
      injection hr with e1 e2
      exact absurd e1 hc
     ·rfl
  rcases ex with ⟨r,hr⟩|⟨e1,e2⟩
  ·obtain ⟨g1,g2,g3⟩:=zje hr
   have:([46]:Z).isPrefixOf (s.drop j)=true:=by rw [hr];rfl
   rw [this,if_pos rfl,w1 (by omega),zaw (by omega),hr]
   simp only [yc,zau]
   rw [g2,z7o (by rw [←g2];simp;omega)]
   simp only [yc]
   have:=zfa r
   have hr2:r.length+(j+1)=s.length:=by rw [←g2];simp;omega
   by_cases hd:0<z6n r
   ·rw [if_pos (by simpa using hd),if_pos hd]
    rw [show (1:Int)+(z6n r:Int)=((1+z6n r:Nat):Int) by omega,w64 (x:=((1+z6n r:Nat):Int)) (by omega) (by omega),wadd (by omega)]
   ·rw [if_neg (by simpa using hd),if_neg hd]
    rfl
  ·rw [e1,e2]
   simp
 simp only [ya] at a3
 rw [a3]
 simp only [yc]
 have l3:=znx (s.drop j)
 rw [yar] at l3
 have hk2:j+zau (s.drop j)≤s.length:=by omega
 generalize j+zau (s.drop j)=k at *
 clear a1 a2 a3
 by_cases hks:k<s.length
 ·have hks':((k:Int)<(s.length:Int)):=by omega
  have hdr:s.drop k=s[k]::s.drop (k+1):=by simp
  simp only [hks',decide_true,if_true,z4k,yak hks,yc]
  have ec:(if (decide (((s[k]).toNat:Int)=101))=true then some true else some (decide (((s[k]).toNat:Int)=69)))=some (decide (s[k]=101∨s[k]=69)):=by
   have t1:(((s[k]).toNat:Int)=101)↔s[k]=101:=toNat_eq (n:=101) (by omega)
   have t2:(((s[k]).toNat:Int)=69)↔s[k]=69:=toNat_eq (n:=69) (by omega)
   simp only [t1,t2]
   by_cases q:s[k]=101<;>simp [q]
  rw [ec]
  simp only [yc]
  rw [hdr]
  unfold zh9
  simp only
  by_cases hc:s[k]=101∨s[k]=69
  ·rw [if_pos (by simpa using hc),if_pos hc,w1 (by omega)]
   have es:(do
     let j_60 ← (if decide (((k + 1 : Nat) : Int) < (s.length : Int)) = true then do
        let c_61←ix s ((k+1:Nat):Int)
        if decide ((c_61.toNat:Int)=43)=true then some true
        else do
         let c_62←ix s ((k+1:Nat):Int)
         some (decide ((c_62.toNat:Int)=45))
       else some false)
     if j_60=true then some (ybq .i64 (((k+1:Nat):Int)+1)) else some ((k+1:Nat):Int))=some ((k+1+z9a (s.drop (k+1)):Nat):Int):=by
    unfold z9a
    rw [getD]
    by_cases hk1:k+1<s.length
    ·have:(((k+1:Nat):Int)<(s.length:Int)):=by omega
     simp only [this,decide_true,if_true,z4k,yak hk1,ya,yc]
     have t1:(((s[k+1]).toNat:Int)=43)↔s[k+1]=43:=toNat_eq (n:=43) (by omega)
     have t2:(((s[k+1]).toNat:Int)=45)↔s[k+1]=45:=toNat_eq (n:=45) (by omega)
     simp only [t1,t2,Option.some.injEq]
     have ww:ybq .i64 (((k+1:Nat):Int)+1)=((k+1+1:Nat):Int):=w1 (by omega)
     rw [ww]
     by_cases q:s[k+1]=43
     ·simp [q]
     ·by_cases q2:s[k+1]=45
      ·simp [q2]
      ·simp [q,q2]
    ·have:¬((k:Int)+1<(s.length:Int)):=by omega
     simp [this,yal (ybd hk1)]
   simp only [ya] at es
   rw [es]
   simp only [yc]
   have l4:=zpf (s.drop (k+1))
   rw [yar] at l4
   rw [zaw (by omega)]
   simp only [yc]
   rw [z7o (by simp;omega),←yy]
   simp only [yc]
   have l5:=zfa ((s.drop (k+1)).drop (z9a (s.drop (k+1))))
   rw [yar,yar] at l5
   by_cases hd:0<z6n ((s.drop (k+1)).drop (z9a (s.drop (k+1))))
   ·rw [if_pos (by simpa using hd),if_pos hd,wadd (by omega)]
    congr 2
    omega
   ·rw [if_neg (by simpa using hd),if_neg hd]
    rfl
  ·rw [if_neg (by simpa using hc),if_neg hc]
   rfl
 ·have hks':¬((k:Int)<(s.length:Int)):=by omega
  rw [yaa (ybd hks)]
  simp [hks',zh9]
end
section
open Go.Lk Go.Pe
theorem z4u (b:UInt8):M.q4w (b.toNat:Int)=some (isD b):=by
 unfold M.q4w isD
 congr 2
 ·exact decide_eq_decide.2 (by omega)
 ·exact decide_eq_decide.2 (by omega)
theorem z7c {s:Z} {i:Nat} (h:i<s.length):z6n (s.drop i)=if isD s[i] then z6n (s.drop (i+1))+1 else 0:=by
 rw [yz h,zl3]
theorem z8m {s:Z} {i:Nat} (h:s.length≤i):z6n (s.drop i)=0:=by
 rw [yaa h]
 rfl
theorem zz08c {s:Z} (hs:s.length<1152921504606846976):∀ (n i:Nat),s.length - i=n→i≤s.length→M.z3o s (i:Int)=some ((i+z6n (s.drop i):Nat):Int):=by
 intro n
 induction n with
 | zero =>
  intro i hn hi
  rw [M.z3o.eq_1]
  have:¬((i:Int)<(s.length:Int)):=by omega
  simp [this,z8m (show s.length≤i by omega)]
 | succ n ih =>
  intro i hn hi
  have hlt:i<s.length:=by omega
  rw [M.z3o.eq_1]
  have:((i:Int)<(s.length:Int)):=by omega
  simp only [this,decide_true,if_true,z4k,yak hlt,ya,yc,z4u]
  rw [z7c hlt]
  cases hd:isD s[i] with
  | false=>simp
  | true =>
   simp only [if_true]
   rw [w1 (by omega),ih (i+1) (by omega) (by omega)]
   congr 2
   omega
theorem zz08d {s:Z} (hs:s.length<1152921504606846976):∀ (n i:Nat),s.length - i=n→i≤s.length→M.z4f s (i:Int)=some ((i+z6n (s.drop i):Nat):Int):=by
 intro n
 induction n with
 | zero =>
  intro i hn hi
  rw [M.z4f.eq_1]
  have:¬((i:Int)<(s.length:Int)):=by omega
  simp [this,z8m (show s.length≤i by omega)]
 | succ n ih =>
  intro i hn hi
  have hlt:i<s.length:=by omega
  rw [M.z4f.eq_1]
  have:((i:Int)<(s.length:Int)):=by omega
  simp only [this,decide_true,if_true,z4k,yak hlt,ya,yc,z4u]
  rw [z7c hlt]
  cases hd:isD s[i] with
  | false=>simp
  | true =>
   simp only [if_true]
   rw [w1 (by omega),ih (i+1) (by omega) (by omega)]
   congr 2
   omega
theorem zz08b {s:Z} (hs:s.length<1152921504606846976) {b:Nat} (hb:b<s.length) (hz:¬s[b]=48):∀ (n i:Nat),s.length - i=n→i≤s.length→M.z29 s (b:Int) (i:Int)=some ((i+z6n (s.drop i):Nat):Int):=by
 intro n
 induction n with
 | zero =>
  intro i hn hi
  rw [M.z29.eq_1]
  have:¬((i:Int)<(s.length:Int)):=by omega
  simp [this,z8m (show s.length≤i by omega)]
 | succ n ih =>
  intro i hn hi
  have hlt:i<s.length:=by omega
  rw [M.z29.eq_1]
  have:((i:Int)<(s.length:Int)):=by omega
  have t:¬(((s[b]).toNat:Int)=48):=fun e=>hz ((toNat_eq (n:=48) (by omega)).1 e)
  simp only [this,decide_true,if_true,z4k,yak hlt,yak hb,ya,yc,z4u,t,decide_false,yn]
  rw [z7c hlt]
  cases hd:isD s[i] with
  | false=>simp
  | true =>
   have:(if decide ((i:Int)=(b:Int))=true then some true else some true)=some true:=by split<;>rfl
   simp only [if_true,this,yc]
   rw [w1 (by omega),ih (i+1) (by omega) (by omega)]
   congr 2
   omega
theorem zz00l {s:Z} (hs:s.length<1152921504606846976) {b:Nat} (hb:b≤s.length):M.z29 s (b:Int) (b:Int)=some ((b+z7u (s.drop b):Nat):Int):=by
 rcases ybg b s.length with h|h
 ·by_cases hz:s[b]=48
  ·rw [M.z29.eq_1]
   have h1:((b:Int)<(s.length:Int)):=by omega
   have h2:isD 48=true:=by decide
   simp only [h1,decide_true,if_true,z4k,yak h,ya,yc,z4u,hz,h2]
   rw [w1 (by omega),M.z29.eq_1]
   have e1:z7u (s.drop b)=1:=by unfold z7u;rw [getD,yak h,hz];rfl
   rw [e1]
   by_cases h3:b+1<s.length
   ·have h4:(((b+1:Nat):Int)<(s.length:Int)):=by omega
    have h5:¬(((b+1:Nat):Int)=(b:Int)):=by omega
    simp only [h4,decide_true,if_true,z4k,yak h3,yak h,ya,yc,z4u,h5,decide_false,hz]
    cases isD s[b+1]<;>simp
   ·have h4:¬((b:Int)+1<(s.length:Int)):=by omega
    simp [h4]
  ·rw [zz08b hs h hz _ b rfl hb]
   have e1:z7u (s.drop b)=z6n (s.drop b):=by unfold z7u;rw [getD,yak h];simp [hz]
   rw [e1]
 ·rw [M.z29.eq_1]
  have:¬((b:Int)<(s.length:Int)):=by omega
  have e1:z7u (s.drop b)=0:=by rw [yaa h];rfl
  simp [this,e1]
theorem zjz {s:Z} (h:s.length<1152921504606846976):M.q4y s=some (num s:Int):=by
 unfold M.q4y
 have a1:(do
   let j_13←(do
     if (decide (0<(s.length:Int))) then
      let c_14←ix s 0
      some (decide ((c_14.toNat:Int)=45))
     else
      some false:Option Bool)
   if j_13 then
    some (ybq .i64 (0+1))
   else
    some 0:Option Int)=some ((sgn s:Nat):Int):=by
  unfold sgn
  cases s with
  | nil=>rfl
  | cons c r =>
   have h1:(0:Int)<((c::r).length:Int):=by simp only [yaq];omega
   have t1:((c.toNat:Int)=45)↔c=45:=toNat_eq (n:=45) (by omega)
   simp only [h1,decide_true,if_true,zsm,yaj,ya,yc,t1,yan,Option.some.injEq]
   by_cases hc:c=45<;>simp [hc]
   rfl
 rw [a1]
 simp only [ya,yc]
 have l1:=zxl s
 rw [zz00l h l1]
 simp only [yc]
 unfold num
 simp only
 generalize hi:sgn s=i at *
 have l2:=zo5 (s.drop i)
 rw [yar] at l2
 by_cases hz:z7u (s.drop i)=0
 ·rw [if_pos (by simp [hz]),if_pos hz];rfl
 rw [if_neg (by simp;omega),if_neg hz]
 have hk:i+z7u (s.drop i)≤s.length:=by omega
 generalize i+z7u (s.drop i)=j at *
 clear a1
 have a3 : (do
    let j_132←(do
      if (decide ((ybq .i64 ((j:Int)+1))<(s.length:Int))) then
       let c_133←ix s (j:Int)
       some (decide ((c_133.toNat:Int)=46))
      else
       some false:Option Bool)
    let j_138←(do
      if j_132 then
       let c_139←ix s (ybq .i64 ((j:Int)+1))
       let a_140←M.q4w (c_139.toNat:Int)
       some a_140
      else
       some false:Option Bool)
    if j_138 then
     M.z3o s (ybq .i64 ((j:Int)+1))
    else
     some (j:Int):Option Int)=some ((j+zau (s.drop j):Nat):Int):=by
  rw [w1 (by omega)]
  by_cases h1:j+1<s.length
  ·have h1':(((j+1:Nat):Int)<(s.length:Int)):=by omega
   have h2:j<s.length:=by omega
   have t1:(((s[j]).toNat:Int)=46)↔s[j]=46:=toNat_eq (n:=46) (by omega)
   simp only [h1',decide_true,if_true,z4k,yak h1,yak h2,ya,yc,t1,z4u]
   rw [yz h2]
   by_cases hc:s[j]=46
   ·rw [hc]
    unfold zau
    simp only [decide_true,if_true,yc]
    have hd:=z7c h1
    cases hq:isD s[j+1] with
    | false=>rw [hq] at hd;simp at hd;simp [hd]
    | true =>
     rw [hq] at hd
     simp only [if_true] at hd ⊢
     rw [zz08c h _ (j+1) rfl (by omega),if_pos (by omega)]
     congr 2
     omega
   ·have:zau (s[j]::s.drop (j+1))=0:=by
     unfold zau
     split
     ·rename_i r hr
      injection hr with e1 e2
      exact absurd e1 hc
     ·rfl
    rw [this]
    simp [hc]
  ·have h1':¬((j:Int)+1<(s.length:Int)):=by omega
   have:zau (s.drop j)=0:=by
    unfold zau
    split
    ·rename_i r hr
     obtain ⟨_,g2,g3⟩:=zje hr
     have:r=[]:=by rw [←g2];exact yaa (by omega)
     rw [this]
     rfl
    ·rfl
   rw [this]
   simp [h1']
 simp only [ya] at a3
 rw [a3]
 simp only [yc]
 have l3:=znx (s.drop j)
 rw [yar] at l3
 have hk2:j+zau (s.drop j)≤s.length:=by omega
 generalize j+zau (s.drop j)=k at *
 clear a3
 by_cases hks:k<s.length
 ·have hks':((k:Int)<(s.length:Int)):=by omega
  have hdr:s.drop k=s[k]::s.drop (k+1):=by simp
  simp only [hks',decide_true,if_true,z4k,yak hks,yc]
  have ec:(if (decide (((s[k]).toNat:Int)=101))=true then some true else some (decide (((s[k]).toNat:Int)=69)))=some (decide (s[k]=101∨s[k]=69)):=by
   have t1:(((s[k]).toNat:Int)=101)↔s[k]=101:=toNat_eq (n:=101) (by omega)
   have t2:(((s[k]).toNat:Int)=69)↔s[k]=69:=toNat_eq (n:=69) (by omega)
   simp only [t1,t2]
   by_cases q:s[k]=101<;>simp [q]
  rw [ec]
  simp only [yc]
  rw [hdr]
  unfold zh9
  simp only
  by_cases hc:s[k]=101∨s[k]=69
  ·rw [if_pos (by simpa using hc),if_pos hc,w1 (by omega)]
   have es:(do
     let j_60 ← (if decide (((k + 1 : Nat) : Int) < (s.length : Int)) = true then do
        let c_61←ix s ((k+1:Nat):Int)
        if decide ((c_61.toNat:Int)=43)=true then some true
        else do
         let c_62←ix s ((k+1:Nat):Int)
         some (decide ((c_62.toNat:Int)=45))
       else some false)
     if j_60=true then some (ybq .i64 (((k+1:Nat):Int)+1)) else some ((k+1:Nat):Int))=some ((k+1+z9a (s.drop (k+1)):Nat):Int):=by
    unfold z9a
    rw [getD]
    by_cases hk1:k+1<s.length
    ·have:(((k+1:Nat):Int)<(s.length:Int)):=by omega
     simp only [this,decide_true,if_true,z4k,yak hk1,ya,yc]
     have t1:(((s[k+1]).toNat:Int)=43)↔s[k+1]=43:=toNat_eq (n:=43) (by omega)
     have t2:(((s[k+1]).toNat:Int)=45)↔s[k+1]=45:=toNat_eq (n:=45) (by omega)
     simp only [t1,t2,Option.some.injEq]
     have ww:ybq .i64 (((k+1:Nat):Int)+1)=((k+1+1:Nat):Int):=w1 (by omega)
     rw [ww]
     by_cases q:s[k+1]=43
     ·simp [q]
     ·by_cases q2:s[k+1]=45
      ·simp [q2]
      ·simp [q,q2]
    ·have:¬((k:Int)+1<(s.length:Int)):=by omega
     simp [this,yal (ybd hk1)]
   simp only [ya] at es
   rw [es]
   simp only [yc]
   have l4:=zpf (s.drop (k+1))
   rw [yar] at l4
   have edd:s.drop (k+1+z9a (s.drop (k+1)))=(s.drop (k+1)).drop (z9a (s.drop (k+1))):=by rw [yy]
   rw [zz08d h _ _ rfl (by omega),edd]
   simp only [yc]
   generalize z6n ((s.drop (k+1)).drop (z9a (s.drop (k+1))))=y at *
   generalize z9a (s.drop (k+1))=z at *
   by_cases hd:0<y
   ·rw [if_pos (by simp only [decide_eq_true_eq];omega),if_pos hd]
    simp only [yc]
    congr 2
    omega
   ·rw [if_neg (by simp only [decide_eq_true_eq];omega),if_neg hd]
    rfl
  ·rw [if_neg (by simpa using hc),if_neg hc]
   rfl
 ·have hks':¬((k:Int)<(s.length:Int)):=by omega
  rw [yaa (ybd hks)]
  simp [hks',zh9]
end
section
open Go.Lk Go.Pe
theorem z5t {P:UInt8→Prop} (h:∀ n:Fin 256,P (ybr n.val)) (b:UInt8):P b:=by
 have:=h ⟨b.toNat,ze5⟩
 simp_all
theorem z7n (c:UInt8) (s:Z):[c].isPrefixOf s=decide (s.head? = some c):=by
 cases s with
 | nil=>rfl
 | cons d r =>
  grind
def kys (ks:List Z):Nat:=(ks.map fun k=>k.length+1).sum
mutual
def q04.sz:q04→Nat
 | ⟨_,t,l,ks⟩=>szs l+t.length+kys ks+1
def szs:List q04→Nat
 | []=>0
 | x::xs=>x.sz+szs xs+1
end
theorem q04.zhm (v:q04):v.sz=szs v.zk+v.z0i.length+kys v.z08+1:=by cases v;rfl
theorem kys_nil:kys []=0:=rfl
theorem z6l (k:Z) (ks:List Z):kys (k::ks)=k.length+1+kys ks:=by simp [kys]
theorem zg1:∀ ks:List Z,ks.length≤kys ks
 | []=>by simp
 | k::ks=>by have:=zg1 ks;rw [z6l,yaq];omega
theorem zo7:∀ {ks:List Z} {k:Z},k∈ks→k.length<kys ks
 | a::ks,k,h=>by
  rw [z6l]
  rcases yax.1 h with rfl|h
  ·omega
  ·have:=zo7 h;omega
theorem zk9:∀ {l:List q04} {x:q04},x∈l→x.sz<szs l
 | y::l,x,hx=>by
  simp only [szs]
  rcases yax.1 hx with rfl|hx
  ·omega
  ·have:=zk9 hx;omega
theorem zk8:∀ l:List q04,l.length≤szs l
 | []=>by simp
 | y::l=>by have:=zk8 l;grind [szs]
def frm (k:Int) (t:Z) (n:Nat) (ks:List Z):Bool :=
 ks.all Lib.validD &&
 if k=0∨k=1∨k=2 then decide (t=[])&&decide (n=0)&&decide (ks=[])
 else if k=3 then !decide (t=[])&&decide (num t=t.length)&&decide (n=0)&&decide (ks=[])
 else if k=4 then Lib.validD t&&decide (n=0)&&decide (ks=[])
 else if k=5 then decide (t=[])&&decide (ks=[])
 else if k=6 then decide (t=[])&&decide (ks.length=n)&&decide ks.Nodup
 else false
mutual
def zc2:q04→Nat→Int
 | ⟨k,t,l,ks⟩,w=>if (k=5∨k=6)∧16≤w then 21 else if frm k t l.length ks=false then 23 else zh5 l (w+1)
def zh5:List q04→Nat→Int
 | [],_=>0
 | x::xs,w=>if zc2 x w=0 then zh5 xs w else zc2 x w
end
theorem z8l (v:q04) (w:Nat):zc2 v w=if (v.zh=5∨v.zh=6)∧16≤w then 21 else if frm v.zh v.z0i v.zk.length v.z08=false then 23 else zh5 v.zk (w+1):=by cases v;rfl
def zxc (e:Int):Rs Unit:=if e=0 then .ok () else .pan e
theorem zm5 (e:Int):M.q3k true e=some (.ok ()):=by rfl
instance:Std.Antisymm (α:=Z) (· ≤ ·):=⟨fun _ _ h1 h2=>List.le_antisymm h1 h2⟩
theorem zxq (l:List Z):(l.mergeSort fun x y=>decide (x≤y)).Pairwise (· ≤ ·):=by
 have:=List.pairwise_mergeSort (le:=fun x y:Z=>decide (x≤y)) (by grind) (by grind) l
 grind
theorem zmw {m:List Z} (hs:m.Pairwise (· ≤ ·)):(∀ j,j<m.length→Lib.keeps m.toArray j=true)↔m.Nodup:=by
 rw [ya0] at hs
 constructor
 ·intro hk
  rw [List.nodup_iff_pairwise_ne,ya0]
  intro i j hi hj hij he
  have h1:=hk j hj
  unfold Lib.keeps at h1
  grind
 ·unfold Lib.keeps
  grind [ya0]
theorem znn (m:List Z):(Lib.compact m).length=m.length↔∀ j,j<m.length→Lib.keeps m.toArray j=true:=by
 grind [Lib.compact,Lib.compactUpTo,List.length_filter_eq_length_iff]
theorem zxo {l:List Z} (h:l.length*16≤140737488355328):M.single l=some (decide l.Nodup):=by
 unfold M.single
 rw [z3y (by simpa using h)]
 simp only [ya,yc,Option.some.injEq]
 grind [List.mergeSort_perm,zmw,zxq,znn,List.length_mergeSort]
theorem z7t {s:Z} (h:s.length≤9223372036854775807):M.z1f s=some (Lib.validD s):=by
 grind [M.z1f,z3y]
theorem zlq {ks:List Z} (hs:∀ k∈ks,k.length<1152921504606846976) (hl:ks.length<1152921504606846976):∀ (n i:Nat),ks.length - i=n→i≤ks.length →
  ∃ r,M.zj ks (i:Int)=some r∧(((ks.drop i).all Lib.validD=true∧r = .go ())∨((ks.drop i).all Lib.validD=false∧∃ j:Nat,r = .done (j:Int))):=by
 intro n
 induction n with
 | zero =>
  intro i hn hi
  rw [M.zj.eq_1]
  have:¬((i:Int)<(ks.length:Int)):=by omega
  grind
 | succ n ih =>
  intro i hn hi
  have hlt:i<ks.length:=by omega
  rw [M.zj.eq_1]
  have h1:((i:Int)<(ks.length:Int)):=by omega
  have h2:=hs ks[i] (yam hlt)
  unfold M.q3h
  simp only [h1,decide_true,if_true,z4k,yak hlt,ya,yc]
  rw [z7t (by omega),yz hlt]
  cases hv:Lib.validD ks[i] with
  | false=>grind
  | true =>
   grind [w1]
theorem zf6 {ks:List Z} (hs:∀ k∈ks,k.length<1152921504606846976) (hl:ks.length<1152921504606846976):M.q70 ks=some (!ks.all Lib.validD):=by
 unfold M.q70 M.q75
 obtain ⟨r,h1,h2⟩:=zlq hs hl _ 0 rfl (ybo _)
 rcases h2 with ⟨h3,rfl⟩|⟨h3,j,rfl⟩
 ·grind
 simp_all
theorem zlt {k:Int} {t:Z} {n:Nat} {ks:List Z} (hw:¬(k=5∨k=6)∨True) :
  frm k t n ks=(((decide (0≤k))&&(decide (k<7)))&&((((decide (k=5))||(decide (k=6)))||(decide ((n:Int)=0)))&&((((decide (k=6))&&(decide ((ks.length:Int)=(n:Int))))||((decide ((ks.length:Int)=0))&&(!decide (k=6)))) &&
   ((ks.all Lib.validD&&decide ks.Nodup)&&(if k=3 then !decide (t=[])&&decide (num t=t.length) else if k=4 then Lib.validD t else decide (t=[])))))):=by
 have k0:((ks.length:Int)=0)↔ks=[]:=by rw [←yas];omega
 unfold frm
 by_cases h0:k=0
 ·grind
 by_cases h1:k=1
 ·grind
 by_cases h2:k=2
 ·grind
 by_cases h3:k=3
 ·grind
 grind
end
section
open Go.Lk Go.Pe
def z1h (c:UInt8):Z→Z × Z × Bool
 | []=>([],[],false)
 | x::r=>if x=c then ([],r,true) else (x::(z1h c r).1,(z1h c r).2.1,(z1h c r).2.2)
theorem cutb_nil (c:UInt8):z1h c []=([],[],false):=rfl
theorem z3e (c x:UInt8) (r:Z):z1h c (x::r)=if x=c then ([],r,true) else (x::(z1h c r).1,(z1h c r).2.1,(z1h c r).2.2):=rfl
theorem z4j (c x:UInt8) (r:Z):Lib.index (x::r) [c]=if x=c then 0 else if Lib.index r [c] = -1 then -1 else Lib.index r [c]+1:=by
 rw [Lib.index]
 by_cases h:x=c
 ·subst h;simp [yao]
 ·have:([c]:Z).isPrefixOf (x::r)=false:=by simp [yao,Ne.symm h]
  rw [this]
  simp [h]
theorem cut_b (c:UInt8):∀ s:Z,Lib.cut s [c]=z1h c s
 | []=>by simp [Lib.cut,Lib.index,z1h]
 | x::r=>by
  have ih:=cut_b c r
  have hge:=Lib.index_ge r [c]
  have hc:=z4j c x r
  by_cases h:x=c
  ·rw [if_pos h] at hc
   unfold Lib.cut
   rw [hc,z3e,if_pos h]
   simp
  ·rw [if_neg h] at hc
   rw [z3e,if_neg h,←ih]
   by_cases hm:Lib.index r [c] = -1
   ·rw [if_pos hm] at hc
    unfold Lib.cut
    rw [hc,hm]
    simp
   ·rw [if_neg hm] at hc
    obtain ⟨k,hk⟩:∃ k:Nat,Lib.index r [c]=k:=⟨(Lib.index r [c]).toNat,by omega⟩
    unfold Lib.cut
    rw [hc,hk,if_pos (by omega),if_pos (by omega)]
    have e:((k:Int)+1).toNat=k+1:=by omega
    simp [e,yba]
theorem z7b (c:UInt8):∀ s:Z,(z1h c s).1.length+(z1h c s).2.1.length≤s.length∧((z1h c s).2.2=true→(z1h c s).1.length+(z1h c s).2.1.length+1=s.length)
 | []=>by simp [z1h]
 | x::r=>by
  have ih:=z7b c r
  rw [z3e]
  split
  ·simp
  ·simp only [yaq]
   refine ⟨by omega,fun h => ?_⟩
   have:=ih.2 h
   omega
theorem ztu {s:Z} (c:UInt8) (h:s.length<4294967281):M.cut s [c]=some (z1h c s):=by
 unfold M.cut
 rw [z3y (by simpa using h),←cut_b]
 rfl
def z0l (c:UInt8):Z→List Z
 | []=>[[]]
 | x::r=>if x=c then []::z0l c r else match z0l c r with
  | []=>[[x]]
  | h::t=>(x::h)::t
theorem zmy (c:UInt8):∀ s:Z,∃ h t,z0l c s=h::t
 | []=>⟨_,_,rfl⟩
 | x::r=>by
  unfold z0l
  split
  ·exact ⟨_,_,rfl⟩
  ·split<;>exact ⟨_,_,rfl⟩
def z5p (sep:Z):Nat→Z→List Z
 | 0,s=>[s]
 | k+1,s=>if Lib.index s sep = -1 then [s] else s.take (Lib.index s sep).toNat::z5p sep k (s.drop ((Lib.index s sep).toNat+sep.length))
theorem z8u (s sub:Z):Lib.indexB ⟨s.toArray⟩ ⟨sub.toArray⟩=Lib.index s sub:=by
 unfold Lib.indexB
 simp
theorem z9l (s:Z) (a b:Nat):(⟨s.toArray⟩:ByteArray).extract a b=⟨((s.take b).drop a).toArray⟩:=by
 apply ByteArray.ext
 rw [ByteArray.data_extract]
 simp [yad]
theorem zgs (sep:Z):∀ (k:Nat) (s:Z),(Lib.splitB ⟨sep.toArray⟩ 0 k ⟨s.toArray⟩).map (·.data.toList)=z5p sep k s
 | 0,s=>by simp [Lib.splitB,z5p]
 | k+1,s=>by
  have hsz:∀ l:Z,(⟨l.toArray⟩:ByteArray).size=l.length:=fun l=>by simp [ByteArray.size]
  unfold Lib.splitB z5p
  rw [z8u]
  by_cases h:Lib.index s sep = -1
  ·rw [if_pos (by simpa using h),if_pos h];simp
  ·rw [if_neg (by simpa using h),if_neg h,z9l,z9l,List.map_cons,zgs sep k]
   simp [hsz]
theorem zpg {sep:Z} (h1:1≤sep.length):∀ (n:Nat) (s:Z),s.length≤n→∀ k,s.length≤k→z5p sep (Lib.countB ⟨s.toArray⟩ ⟨sep.toArray⟩) s=z5p sep k s:=by
 intro n
 have hsz:∀ l:Z,(⟨l.toArray⟩:ByteArray).size=l.length:=fun l=>by simp [ByteArray.size]
 induction n with
 | zero =>
  intro s hn k hk
  have:s=[]:=yaf (by omega)
  subst this
  have hi:Lib.index [] sep = -1:=by rw [Lib.index,if_neg];cases sep<;>simp_all
  rw [Lib.countB_miss _ _ (by rw [z8u];exact hi)]
  cases k with
  | zero=>rfl
  | succ k=>unfold z5p;rw [if_pos hi]
 | succ n ih =>
  intro s hn k hk
  have hge:=Lib.index_ge s sep
  by_cases hi:Lib.index s sep = -1
  ·rw [Lib.countB_miss _ _ (by rw [z8u];exact hi)]
   cases k with
   | zero=>rfl
   | succ k =>
    conv=>rhs;unfold z5p;rw [if_pos hi]
    rfl
  ·obtain ⟨i,hi2⟩:∃ i:Nat,Lib.index s sep=i:=⟨(Lib.index s sep).toNat,by omega⟩
   have hroom:=Lib.index_room s sep (by omega)
   have hh:=Lib.countB_hit ⟨s.toArray⟩ ⟨sep.toArray⟩ i (by rw [hsz];exact h1) (by rw [z8u];exact hi2)
   rw [z9l,hsz,hsz,ya7] at hh
   have hd:(s.drop (i+sep.length)).length≤n:=by rw [yar];omega
   obtain ⟨k,rfl⟩:∃ j,k=j+1:=⟨k - 1,by omega⟩
   rw [hh,ybb 1]
   unfold z5p
   rw [if_neg hi,if_neg hi,hi2]
   have e:((i:Int)).toNat=i:=by omega
   rw [e,ih _ hd k (by rw [yar];omega)]
theorem zrs {sep:Z} (h1:1≤sep.length) (s:Z):zgt s sep=z5p sep s.length s:=by
 unfold zgt
 rw [zgs]
 exact zpg h1 _ s (ybe _) _ (ybe _)
theorem zk6 (c:UInt8):∀ (s:Z) (k:Nat),s.length≤k→z5p [c] k s=z0l c s
 | [],k,_=>by
  cases k with
  | zero=>rfl
  | succ k=>unfold z5p;rw [if_pos (by simp [Lib.index])];rfl
 | x::r,k,hk=>by
  obtain ⟨k,rfl⟩:∃ j,k=j+1:=⟨k - 1,by simp at hk;omega⟩
  simp only [yaq] at hk
  have ih:=zk6 c r k (by omega)
  have hge:=Lib.index_ge r [c]
  unfold z0l
  by_cases hx:x=c
  ·rw [if_pos hx]
   unfold z5p
   rw [z4j,if_pos hx,if_neg (by decide)]
   simp [ih]
  ·rw [if_neg hx,←zk6 c r (k+1) (by omega)]
   unfold z5p
   rw [z4j,if_neg hx]
   by_cases hm:Lib.index r [c] = -1
   ·simp [hm]
   ·obtain ⟨i,hi⟩:∃ i:Nat,Lib.index r [c]=i:=⟨(Lib.index r [c]).toNat,by omega⟩
    rw [if_neg hm,hi,if_neg (by omega),if_neg (by omega)]
    have e1:((i:Int)+1).toNat=i+1:=by omega
    have e2:((i:Int)).toNat=i:=by omega
    simp [e1,e2,yba]
theorem zd4 {s:Z} (c:UInt8) (h:s.length<4294967281):M.split s [c]=some (z0l c s):=by
 unfold M.split
 rw [z3y (by simpa using h),zrs (by simp),zk6 c s _ (ybe _)]
 rfl
def z6f:Z→List Z
 | []=>[[]]
 | x::r=>if x=13∧r.head? = some 10 then []::z6f (r.drop 1) else match z6f r with
  | []=>[[x]]
  | h::t=>(x::h)::t
termination_by s=>s.length
theorem zn0:∀ s:Z,∃ h t,z6f s=h::t
 | []=>⟨_,_,by unfold z6f;rfl⟩
 | x::r=>by
  unfold z6f
  split
  ·exact ⟨_,_,rfl⟩
  ·split<;>exact ⟨_,_,rfl⟩
theorem zys (x:UInt8) (r:Z):([13,10]:Z).isPrefixOf (x::r)=decide (x=13∧r.head? = some 10):=by
 cases r with
 | nil=>simp [yao]
 | cons y r =>
  simp only [yao,yan,Option.some.injEq]
  by_cases h1:x=13<;>by_cases h2:y=10<;>simp [h1,h2]
  ·exact fun h=>h2 h.symm
  ·exact fun h=>(h1 h.symm).elim
  ·exact fun h=>(h1 h.symm).elim
theorem z9p (x:UInt8) (r:Z):Lib.index (x::r) [13,10]=if x=13∧r.head? = some 10 then 0 else if Lib.index r [13,10] = -1 then -1 else Lib.index r [13,10]+1:=by
 rw [Lib.index,zys]
 by_cases h:x=13∧r.head? = some 10
 ·simp [h]
 ·simp [h]
theorem zz00x:∀ (n:Nat) (s:Z) (k:Nat),s.length≤n→s.length≤k→z5p [13,10] k s=z6f s:=by
 intro n
 induction n with
 | zero =>
  intro s k hn hk
  have:s=[]:=yaf (by omega)
  subst this
  unfold z6f
  cases k with
  | zero=>rfl
  | succ k=>unfold z5p;rw [if_pos (by simp [Lib.index])]
 | succ n ih =>
  intro s k hn hk
  cases s with
  | nil =>
   unfold z6f
   cases k with
   | zero=>rfl
   | succ k=>unfold z5p;rw [if_pos (by simp [Lib.index])]
  | cons x r =>
   simp only [yaq] at hn hk
   obtain ⟨k,rfl⟩:∃ j,k=j+1:=⟨k - 1,by omega⟩
   have hge:=Lib.index_ge r [13,10]
   unfold z6f
   by_cases hx:x=13∧r.head? = some 10
   ·rw [if_pos hx]
    unfold z5p
    rw [z9p,if_pos hx,if_neg (by decide)]
    have hd:(r.drop 1).length≤n:=by rw [yar];omega
    have q:=ih (r.drop 1) k hd (by rw [yar];omega)
    simpa using q
   ·rw [if_neg hx,←ih r (k+1) (by omega) (by omega)]
    unfold z5p
    rw [z9p,if_neg hx]
    by_cases hm:Lib.index r [13,10] = -1
    ·simp [hm]
    ·obtain ⟨i,hi⟩:∃ i:Nat,Lib.index r [13,10]=i:=⟨(Lib.index r [13,10]).toNat,by omega⟩
     rw [if_neg hm,hi,if_neg (by omega),if_neg (by omega)]
     have e1:((i:Int)+1).toNat=i+1:=by omega
     have e2:((i:Int)).toNat=i:=by omega
     simp [e1,e2,ybc]
theorem zyd {s:Z} (h:s.length<4294967281):M.split s [13,10]=some (z6f s):=by
 unfold M.split
 rw [z3y (by simpa using h),zrs (by simp),zz00x _ s _ (ybe _) (ybe _)]
 rfl
end
section
open Go.Lk Go.Pe
theorem z5e (b:Bool) (e:Int):M.q3k b e=some (if b=true then .ok () else .pan e):=by cases b<;>simp [M.q3k]
theorem zf3 (x:q04) (xs:List q04) (w:Nat):zh5 (x::xs) w=if zc2 x w=0 then zh5 xs w else zc2 x w:=by simp only [zh5]
theorem zs5 {v:q04} {self:q04→Int→Option (Rs Unit)} {w:Nat} (hw:w≤16) (hl:v.zk.length<1152921504606846976) (hs:∀ x∈v.zk,self x ((w+1:Nat):Int)=some (zxc (zc2 x (w+1)))) :
  ∀ (n i:Nat),v.zk.length - i=n→i≤v.zk.length→M.z2k v self (w:Int) (i:Int)=some (zxc (zh5 (v.zk.drop i) (w+1))):=by
 intro n
 induction n with
 | zero =>
  intro i hn hi
  rw [M.z2k.eq_1]
  have:¬((i:Int)<(v.zk.length:Int)):=by omega
  rw [if_neg (by simpa using this),yaa (by omega)]
  rfl
 | succ n ih =>
  intro i hn hi
  have hlt:i<v.zk.length:=by omega
  rw [M.z2k.eq_1]
  have h1:((i:Int)<(v.zk.length:Int)):=by omega
  simp only [h1,decide_true,if_true,z4k,yak hlt,ya,yc]
  rw [w1 (n:=w) (by omega),hs _ (yam hlt),w1 (by omega),ih (i+1) (by omega) (by omega),yz hlt,zf3]
  simp only [yc]
  unfold zxc
  by_cases hc:zc2 v.zk[i] (w+1)=0
  ·simp [hc]
  ·simp [hc]
def Small (v:q04):Prop:=v.sz<1000000000
theorem Small.mem {v x:q04} (h:Small v) (hx:x∈v.zk):Small x:=by
 unfold Small at *
 have:=zk9 hx
 rw [q04.zhm v] at h
 omega
theorem Small.parts {v:q04} (h:Small v):v.z0i.length<1000000000∧v.zk.length<1000000000∧v.z08.length<1000000000∧∀ k∈v.z08,k.length<1000000000:=by
 unfold Small at h
 rw [q04.zhm] at h
 have h1:=zk8 v.zk
 have h2:=zg1 v.z08
 exact ⟨by omega,by omega,by omega,fun k hk=>by have:=zo7 hk;omega⟩
theorem zfz:∀ (f:Nat) (v:q04) (w:Nat),w≤16→17≤f+w→Small v→M.q3g f v (w:Int)=some (zxc (zc2 v w)):=by
 intro f
 induction f with
 | zero=>intro v w h1 h2;omega
 | succ f ih =>
  intro v w hw hf hsm
  obtain ⟨s1,s2,s3,s4⟩:=hsm.parts
  have hk1:(v.zk=[]∨w<16)→M.z2k v (M.q3g f) (w:Int) 0=some (zxc (zh5 v.zk (w+1))):=by
   intro h
   refine zs5 hw (by omega) (fun x hx => ?_) _ 0 rfl (ybo _)
   rcases h with h|h
   ·rw [h] at hx;cases hx
   ·exact ih x (w+1) (by omega) (by omega) (hsm.mem hx)
  rw [M.q3g,z8l,zlt (.inr trivial)]
  simp only [z5e,zf6 (fun k hk=>by have:=s4 k hk;omega) (show v.z08.length<1152921504606846976 by omega),zxo (show v.z08.length*16≤140737488355328 by omega),ya,yc]
  have hj:(if (!(!v.z08.all Lib.validD))=true then some (decide v.z08.Nodup) else some false)=some (v.z08.all Lib.validD&&decide v.z08.Nodup):=by
   cases v.z08.all Lib.validD<;>simp
  rw [hj]
  simp only [yc]
  have hn1:=zb3 (s:=v.z0i) (by omega)
  have hn2:=z7t (s:=v.z0i) (by omega)
  generalize hb5:(v.z08.all Lib.validD&&decide v.z08.Nodup)=b5
  generalize hb4:(decide (v.zh=6)&&decide ((v.z08.length:Int)=(v.zk.length:Int))||decide ((v.z08.length:Int)=0) && !decide (v.zh=6))=b4
  generalize hb2:(decide (0≤v.zh)&&decide (v.zh<7))=b2
  by_cases hd:(v.zh=5∨v.zh=6)∧16≤w
  ·have:(!(decide (v.zh=5)||decide (v.zh=6))||decide ((w:Int)<16))=false:=by
    rw [←yl,yp,ym,←yl,yp]
    simp only [decide_eq_true_eq]
    omega
   rw [this,if_pos hd]
   rfl
  ·have h1:(!(decide (v.zh=5)||decide (v.zh=6))||decide ((w:Int)<16))=true:=by
    rw [yp,ym,←yl,yp]
    simp only [decide_eq_true_eq]
    omega
   rw [h1,if_neg hd]
   have h3:(decide (v.zh=5)||decide (v.zh=6)||decide ((v.zk.length:Int)=0))=true→(v.zk=[]∨w<16):=by
    rw [yp,yp]
    simp only [decide_eq_true_eq]
    intro h
    rcases h with h|h
    ·exact .inr (by omega)
    ·exact .inl (yaf (by omega))
   generalize (decide (v.zh=5)||decide (v.zh=6)||decide ((v.zk.length:Int)=0))=b3 at *
   cases b2 with
   | false=>rfl
   | true =>
    cases b3 with
    | false=>rfl
    | true =>
     cases b4 with
     | false=>rfl
     | true =>
      cases b5 with
      | false=>rfl
      | true =>
       have hk:=hk1 (h3 rfl)
       have e:((num v.z0i:Nat):Int)=(v.z0i.length:Int)↔num v.z0i=v.z0i.length:=by omega
       simp only [if_true,yq]
       by_cases k3:v.zh=3
       ·by_cases ht:v.z0i=[]
        ·simp [k3,ht,zxc]
        ·by_cases hn:num v.z0i=v.z0i.length
         ·simp [k3,ht,hn,hn1,hk]
         ·have:¬((num v.z0i:Nat):Int)=(v.z0i.length:Int):=fun x=>hn (e.1 x)
          simp [k3,ht,hn,hn1,this,zxc]
       ·by_cases k4:v.zh=4
        ·cases hv:Lib.validD v.z0i<;>simp [k4,hv,hn2,hk,zxc]
        ·by_cases ht:v.z0i=[]<;>simp [k3,k4,ht,hk,zxc]
theorem zjl {v:q04} {f:Nat} (hf:17≤f) (h:Small v):M.q3a f v=some (zc2 v 0):=by
 unfold M.q3a
 have h1:=zfz f v 0 (by omega) (by omega) h
 have h1:M.q3g f v 0=some (zxc (zc2 v 0)):=h1
 rw [h1]
 simp only [ya,yc]
 unfold zxc
 by_cases hc:zc2 v 0=0<;>simp [hc]
theorem zz014 {l:List Z} (hl:l.length<1152921504606846976) {i:Nat} (hi:i<l.length):∀ (n k:Nat),i - k=n→k≤i →
  M.z43 (i:Int) l (k:Int)=some (if l[i]∈(l.take i).drop k then .done (.done true) else .go ()):=by
 intro n
 induction n with
 | zero =>
  intro k hn hk
  rw [M.z43.eq_1]
  have:¬((k:Int)<(i:Int)):=by omega
  rw [if_neg (by simpa using this),yaa (by simp;omega)]
  simp
 | succ n ih =>
  intro k hn hk
  rw [M.z43.eq_1]
  have h1:((k:Int)<(i:Int)):=by omega
  have hk':k<l.length:=by omega
  simp only [h1,decide_true,if_true,z4k,yak hi,yak hk',ya,yc]
  rw [w1 (by omega),ih (k+1) (by omega) (by omega)]
  have e:(l.take i).drop k=l[k]::(l.take i).drop (k+1):=by
   rw [yz (by simp;omega)]
   simp
  rw [e]
  by_cases h:l[i]=l[k]
  ·simp [h]
  ·simp [h]
theorem zz013 {l:List Z} (hl:l.length<1152921504606846976):∀ (n i:Nat),l.length - i=n→i≤l.length→(l.take i).Nodup →
  M.z42 l (i:Int)=some (if l.Nodup then .go () else .done true):=by
 intro n
 induction n with
 | zero =>
  intro i hn hi hd
  rw [M.z42.eq_1]
  have:¬((i:Int)<(l.length:Int)):=by omega
  rw [ya8 (by omega)] at hd
  rw [if_neg (by simpa using this),if_pos hd]
 | succ n ih =>
  intro i hn hi hd
  have hlt:i<l.length:=by omega
  rw [M.z42.eq_1]
  have h1:((i:Int)<(l.length:Int)):=by omega
  have h2:=zz014 hl hlt _ 0 rfl (ybo _)
  simp only [h1,decide_true,if_true,ya]
  have h2:M.z43 (i:Int) l 0=_:=h2
  rw [h2]
  simp only [yc,yae]
  have e:l.take (i+1)=l.take i++[l[i]]:=by simp
  by_cases hm:l[i]∈l.take i
  ·rw [if_pos hm]
   have:¬l.Nodup:=fun h=>by
    have h3:=(List.take_sublist (i+1) l).nodup h
    rw [e,yaz] at h3
    exact h3.2.2 _ hm _ (by simp) rfl
   simp [this]
  ·rw [if_neg hm]
   simp only
   rw [w1 (by omega)]
   refine ih (i+1) (by omega) (by omega) ?_
   rw [e,yaz]
   exact ⟨hd,by simp,fun a ha b hb=>by simp at hb;subst hb;intro h;subst h;exact hm ha⟩
theorem zz012 {l:List Z} (hl:l.length<1152921504606846976):M.q5a l=some (!decide l.Nodup):=by
 unfold M.q5a
 have h:=zz013 hl _ 0 rfl (ybo _) (by simp)
 have h:M.z42 l 0=_:=h
 rw [h]
 by_cases hn:l.Nodup<;>simp [hn]
end
section
open Go.Lk Go.Pe
theorem z2e {a:List Int} {b:Int} (h:a.length<1099511627776):M.q7a a b=some (a++[b]):=by
 unfold M.q7a M.z4g
 simp only [ya,yc]
 rw [z36 (by simp;omega)]
 rfl
theorem z2u {a:List Int} {b:Z} (h:a.length+b.length<1099511627776):M.q7b a b=some ((b.length:Int),a++unb b):=by
 unfold M.q7b M.z4g
 simp only [ya,yc]
 rw [z36 (by simp [unb];omega)]
 rfl
theorem builderLen_eq (a:List Int):M.q79 a=some (a.length:Int):=rfl
theorem z3a (s:Z):M.zn (unb s)=some s:=by
 unfold M.zn
 rw [z3y (by simp [z8i])]
 simp [z8i]
def hexd (n:Nat):UInt8:=ybr (if n<10 then 48+n else 87+n)
def qb (c:UInt8):Z :=
 if c=34∨c=92 then [92,c] else if c=8 then [92,98] else if c=9 then [92,116] else if c=10 then [92,110] else if c=12 then [92,102] else if c=13 then [92,114]
 else if c.toNat<32 then [92,117,48,48,hexd (c.toNat / 16),hexd (c.toNat % 16)] else [c]
def qbs (s:Z):Z:=s.flatMap qb
def qt (s:Z):Z:=34::qbs s++[34]
theorem zz02f (c:UInt8):(qb c).length≤6:=by
 unfold qb
 repeat' split
 all_goals simp
theorem zot:∀ s:Z,(qbs s).length≤6*s.length
 | []=>by simp [qbs]
 | c::s=>by
  have h1:=zz02f c
  have h2:=zot s
  simp only [qbs,List.flatMap_cons,yap,yaq] at *
  omega
theorem zwx (s:Z):(qt s).length≤6*s.length+2:=by
 have:=zot s
 simp only [qt,yap,yaq,yat]
 omega
theorem zz00k (c:UInt8) (s:Z):qbs (c::s)=qb c++qbs s:=by simp [qbs]
def jstep (x:Int):Option Z:=do
 let a←M.indexByte ([34,92,8,9,10,12,13]:Z) x
 if (decide (0≤a)) then
  let s_87←sub ([34,92,98,116,110,102,114]:Z) a (ybq .i64 (a+1))
  cat ([92]:Z) s_87
 else
  if (decide (x<32)) then
   let s_91←sub ([48,49]:Z) (zdm .u8 x 4) (ybq .u8 ((zdm .u8 x 4)+1))
   let s_92←cat ([92,117,48,48]:Z) s_91
   let s_93←sub ([48,49,50,51,52,53,54,55,56,57,97,98,99,100,101,102]:Z) (z7a .u8 x 15) (ybq .u8 ((z7a .u8 x 15)+1))
   cat s_92 s_93
  else some [ybr x.toNat]
theorem zzs:∀ c:UInt8,jstep (c.toNat:Int)=some (qb c):=z5t (by decide +kernel)
theorem zwy {s:Z} (hs:s.length<100000000000):∀ (n i:Nat) (acc:List Int),s.length - i=n→i≤s.length→acc.length+6*n<1099511627776→M.z1q s (i:Int) acc=some (acc++unb (qbs (s.drop i))):=by
 intro n
 induction n with
 | zero =>
  intro i acc hn hi ha
  rw [M.z1q.eq_1]
  have:¬((i:Int)<((unb s).length:Int)):=by rw [z04];omega
  rw [if_neg (by simpa using this),yaa (by omega)]
  simp [qbs,unb]
 | succ n ih =>
  intro i acc hn hi ha
  have hlt:i<s.length:=by omega
  have h1:((i:Int)<((unb s).length:Int)):=by rw [z04];omega
  have hj:=zzs s[i]
  have hq:=zz02f s[i]
  rw [M.z1q.eq_1]
  simp only [h1,decide_true,if_true,z4k,zh0,yak hlt,yf,ya,yc]
  rw [w1 (by omega)]
  have next:∀ a:List Int,a=acc++unb (qb s[i])→M.z1q s ((i+1:Nat):Int) a=some (acc++unb (qbs (s.drop i))):=by
   rintro a rfl
   rw [ih (i+1) _ (by omega) (by omega) (by simp [unb];omega),yz hlt,zz00k,z2w,yt]
  unfold jstep at hj
  simp only [ya] at hj
  cases hx:M.indexByte ([34,92,8,9,10,12,13]:Z) ((s[i]).toNat:Int) with
  | none=>rw [hx] at hj;cases hj
  | some a =>
   rw [hx] at hj
   simp only [yc] at hj ⊢
   by_cases ca:0≤a
   ·rw [if_pos (by simpa using ca)] at hj ⊢
    cases hy:sub ([34,92,98,116,110,102,114]:Z) a (ybq .i64 (a+1)) with
    | none=>rw [hy] at hj;cases hj
    | some y =>
     rw [hy] at hj
     simp only [yc] at hj ⊢
     rw [hj]
     simp only [yc]
     rw [z2u (by omega)]
     exact next _ rfl
   ·rw [if_neg (by simpa using ca)] at hj ⊢
    by_cases cx:((s[i]).toNat:Int)<32
    ·rw [if_pos (by simpa using cx)] at hj ⊢
     cases hy:sub ([48,49]:Z) (zdm .u8 ((s[i]).toNat:Int) 4) (ybq .u8 ((zdm .u8 ((s[i]).toNat:Int) 4)+1)) with
     | none=>rw [hy] at hj;cases hj
     | some y =>
      rw [hy] at hj
      simp only [yc] at hj ⊢
      cases hz:cat ([92,117,48,48]:Z) y with
      | none=>rw [hz] at hj;cases hj
      | some z =>
       rw [hz] at hj
       simp only [yc] at hj ⊢
       cases hu:sub ([48,49,50,51,52,53,54,55,56,57,97,98,99,100,101,102]:Z) (z7a .u8 ((s[i]).toNat:Int) 15) (ybq .u8 ((z7a .u8 ((s[i]).toNat:Int) 15)+1)) with
       | none=>rw [hu] at hj;cases hj
       | some u =>
        rw [hu] at hj
        simp only [yc] at hj ⊢
        rw [hj]
        simp only [yc]
        rw [z2u (by omega)]
        exact next _ rfl
    ·rw [if_neg (by simpa using cx)] at hj ⊢
     rw [z2e (by omega)]
     simp only [Option.some.injEq] at hj
     refine next _ ?_
     rw [←hj]
     simp [unb]
theorem zb4 {s:Z} {acc:List Int} (h:acc.length+6*s.length+2<100000000000):M.q3m acc s=some (acc++unb (qt s)):=by
 unfold M.q3m
 rw [z2e (by omega),z3y (by simp;omega)]
 simp only [ya,yc]
 have h1:=zwy (s:=s) (by omega) _ 0 (acc++[34]) rfl (ybo _) (by simp;omega)
 have h1:M.z1q s 0 (acc++[34])=_:=h1
 rw [h1]
 simp only [yc,yae]
 have:=zot s
 rw [z2e (by simp [unb];omega)]
 simp [qt,unb]
end
section
open Go.Lk Go.Pe
mutual
def prJ:q04→Z
 | ⟨k,t,l,ks⟩=>if k=0 then B28 else if k=1 then B21 else if k=2 then B29 else if k=3 then t else if k=4 then qt t
  else (if k=6 then 123 else 91)::prL (decide (k=6)) l ks true++[if k=6 then 125 else 93]
def prL (o:Bool):List q04→List Z→Bool→Z
 | [],_,_=>[]
 | x::xs,ks,f=>(if f=true then [] else [44])++((if o=true then qt (ks.head?.getD [])++[58] else [])++(prJ x++prL o xs ks.tail false))
end
theorem zz02d (v:q04):prJ v=if v.zh=0 then B28 else if v.zh=1 then B21 else if v.zh=2 then B29 else if v.zh=3 then v.z0i else if v.zh=4 then qt v.z0i
  else (if v.zh=6 then 123 else 91)::prL (decide (v.zh=6)) v.zk v.z08 true++[if v.zh=6 then 125 else 93]:=by cases v;simp only [prJ]
theorem zrh (o:Bool) (x:q04) (xs:List q04) (ks:List Z) (f:Bool):prL o (x::xs) ks f=(if f=true then [] else [44])++((if o=true then qt (ks.head?.getD [])++[58] else [])++(prJ x++prL o xs ks.tail false)):=by simp only [prL]
theorem zvt (ks:List Z):(qt (ks.head?.getD [])).length≤2+6*(kys ks - kys ks.tail)∧kys ks.tail≤kys ks:=by
 cases ks with
 | nil=>simp [qt,qbs]
 | cons k ks =>
  have:=zwx k
  rw [z6l]
  simp only [yan,yd,ya3]
  omega
mutual
theorem zor:∀ v:q04,(prJ v).length≤7*v.sz
 | ⟨k,t,l,ks⟩=>by
  have h1:=zos (decide (k=6)) l ks true
  have h2:=zwx t
  simp only [prJ,q04.sz]
  repeat' split
  all_goals try simp only [yap,yaq,yat]
  all_goals omega
theorem zos:∀ (o:Bool) (l:List q04) (ks:List Z) (f:Bool),(prL o l ks f).length≤7*szs l+7*kys ks
 | _,[],_,_=>by simp [prL]
 | o,x::xs,ks,f=>by
  have h1:=zor x
  have h2:=zos o xs ks.tail false
  obtain ⟨h3,h4⟩:=zvt ks
  simp only [prL,szs]
  repeat' split
  all_goals simp only [yap,yaq,yat]
  all_goals omega
end
theorem tail_drop {α:Type} (l:List α) (i:Nat):(l.drop i).tail=l.drop (i+1):=by simp
theorem zz047 {v:q04} {self:List Int→q04→Option (List Int)} (hl:v.zk.length<1152921504606846976) (hk:v.zh=6→v.z08.length=v.zk.length)
  (hs:∀ x∈v.zk,∀ a:List Int,a.length+7*x.sz<90000000000→self a x=some (a++unb (prJ x))):∀ (n i:Nat) (acc:List Int),v.zk.length - i=n→i≤v.zk.length →
  acc.length+7*szs (v.zk.drop i)+7*kys (v.z08.drop i)<90000000000→M.z2s v self (i:Int) acc=some (acc++unb (prL (decide (v.zh=6)) (v.zk.drop i) (v.z08.drop i) (decide (i=0)))):=by
 intro n
 induction n with
 | zero =>
  intro i acc hn hi ha
  rw [M.z2s.eq_1]
  have:¬((i:Int)<(v.zk.length:Int)):=by omega
  rw [if_neg (by simpa using this),(yaa (by omega):v.zk.drop i=[])]
  simp [prL,unb]
 | succ n ih =>
  intro i acc hn hi ha
  have hlt:i<v.zk.length:=by omega
  have h1:((i:Int)<(v.zk.length:Int)):=by omega
  rw [M.z2s.eq_1]
  simp only [h1,decide_true,if_true,z4k,yak hlt,ya,yc]
  rw [w1 (by omega)]
  have e0:v.zk.drop i=v.zk[i]::v.zk.drop (i+1):=yz hlt
  have hsz:szs (v.zk.drop i)=(v.zk[i]).sz+szs (v.zk.drop (i+1))+1:=by rw [e0];simp only [szs]
  have hkd:kys (v.z08.drop (i+1))≤kys (v.z08.drop i):=by rw [←tail_drop];exact (zvt _).2
  have ej:(if decide (0<(i:Int))=true then (M.q7a acc 44).bind fun a_119=>some a_119 else some acc)=some (acc++unb (if decide (i=0)=true then [] else [44])):=by
   by_cases hz:i=0
   ·simp [hz,unb]
   ·have:0<(i:Int):=by omega
    rw [z2e (by omega)]
    simp [hz,this,unb]
  rw [ej]
  simp only [yc]
  have hc:(if decide (i=0)=true then ([]:Z) else [44]).length≤1:=by split<;>simp
  generalize hcm:(if decide (i=0)=true then ([]:Z) else [44])=cm at ej hc
  have hx:=hs _ (yam hlt)
  have hpl:=zor v.zk[i]
  by_cases h6:v.zh=6
  ·have hlk:i<v.z08.length:=by rw [hk h6];exact hlt
   have e1:v.z08.drop i=v.z08[i]::v.z08.drop (i+1):=yz hlk
   have hks:kys (v.z08.drop i)=(v.z08[i]).length+1+kys (v.z08.drop (i+1)):=by rw [e1,z6l]
   have hql:=zwx v.z08[i]
   simp only [h6,decide_true,if_true,yak hlk,yc]
   rw [zb4 (by simp [unb];omega)]
   simp only [yc]
   rw [z2e (by simp [unb];omega)]
   simp only [yc]
   rw [hx _ (by simp [unb];omega)]
   simp only [yc]
   rw [ih (i+1) _ (by omega) (by omega) (by simp [unb];omega),e0,zrh,hcm,e1]
   have e58:([58]:List Int)=unb [58]:=rfl
   rw [e58]
   simp [h6,z2w,yak hlk]
   rw [←z2w,←z2w]
   rfl
  ·rw [if_neg (by simpa using h6)]
   rw [hx _ (by simp [unb];omega)]
   simp only [yc]
   rw [ih (i+1) _ (by omega) (by omega) (by simp [unb];omega),e0,zrh,hcm,tail_drop]
   simp [h6,z2w]
theorem zix:∀ {l:List q04} {w:Nat},zh5 l w=0→∀ x∈l,zc2 x w=0
 | y::l,w,h,x,hx=>by
  rw [zf3] at h
  by_cases hc:zc2 y w=0
  ·rw [if_pos hc] at h
   rcases yax.1 hx with rfl|hx
   ·exact hc
   ·exact zix h x hx
  ·rw [if_neg hc] at h;exact absurd h hc
theorem zd9 {v:q04} {w:Nat} (h:zc2 v w=0):¬((v.zh=5∨v.zh=6)∧16≤w)∧frm v.zh v.z0i v.zk.length v.z08=true∧zh5 v.zk (w+1)=0:=by
 rw [z8l] at h
 split at h
 ·cases h
 ·rename_i h1
  split at h
  ·cases h
  ·rename_i h2
   exact ⟨h1,by simpa using h2,h⟩
theorem zqp {k:Int} {t:Z} {n:Nat} {ks:List Z} (h:frm k t n ks=true):(k=6→ks.length=n)∧(¬(k=5∨k=6)→n=0)∧(0≤k∧k<7):=by
 rw [zlt (.inr trivial)] at h
 simp only [yh,yp,decide_eq_true_eq] at h
 obtain ⟨h1,h2,h3,_⟩:=h
 refine ⟨fun e => ?_,fun e => ?_,h1⟩
 ·rcases h3 with h3|h3
  ·omega
  ·simp [e] at h3
 ·rcases h2 with h2|h2
  ·exact absurd h2 e
  ·omega
theorem zlu:∀ (f:Nat) (v:q04) (w:Nat),w≤16→17≤f+w→zc2 v w=0→∀ a:List Int,a.length+7*v.sz<90000000000→M.q3j f a v=some (a++unb (prJ v)):=by
 intro f
 induction f with
 | zero=>intro v w h1 h2;omega
 | succ f ih =>
  intro v w hw hf hc a ha
  obtain ⟨c1,c2,c3⟩:=zd9 hc
  obtain ⟨d1,d2,d3⟩:=zqp c2
  have hsz:=q04.zhm v
  have hpl:=zor v
  rw [M.q3j,zz02d]
  rw [zz02d] at hpl
  by_cases h0:v.zh=0
  ·have hq:M.q7b a (B28:Z)=_:=z2u (by simp;omega)
   simp [h0,hq]
  by_cases h1:v.zh=1
  ·have hq:M.q7b a (B21:Z)=_:=z2u (by simp;omega)
   simp [h1,hq]
  by_cases h2:v.zh=2
  ·have hq:M.q7b a (B29:Z)=_:=z2u (by simp;omega)
   simp [h2,hq]
  by_cases h3:v.zh=3
  ·have hq:=z2u (a:=a) (b:=v.z0i) (by omega)
   simp [h3,hq]
  by_cases h4:v.zh=4
  ·have hq:=zb4 (s:=v.z0i) (acc:=a) (by omega)
   simp [h4,hq]
  have hl:v.zk=[]∨w<16:=by
   by_cases h56:v.zh=5∨v.zh=6
   ·exact .inr (by omega)
   ·exact .inl (yaf (d2 h56))
  have hlen:=zk8 v.zk
  have hk1:=fun (acc:List Int) (hacc:acc.length≤a.length+1)=>zz047 (v:=v) (self:=M.q3j f) (by omega) d1 (fun x hx b hb=>by
   rcases hl with h|h
   ·rw [h] at hx;cases hx
   ·exact ih x (w+1) (by omega) (by omega) (zix c3 x hx) b hb) _ 0 acc rfl (ybo _) (by simp only [yae];omega)
  have hpl2:=zos (decide (v.zh=6)) v.zk v.z08 true
  rw [if_neg (by simpa using h0),if_neg (by simpa using h1),if_neg (by simpa using h2),if_neg (by simpa using h3),if_neg (by simpa using h4),if_neg h0,if_neg h1,if_neg h2,if_neg h3,if_neg h4]
  by_cases h6:v.zh=6
  ·simp only [h6,decide_true,if_true,ya,yc,zsm,ix_1,yaj,yai]
   rw [z2e (by omega)]
   simp only [yc]
   have hq:=hk1 (a++[123]) (by simp)
   have hq:M.z2s v (M.q3j f) 0 (a++[123])=_:=hq
   simp only [yae,decide_true,h6] at hq
   have e:(((123:UInt8).toNat:Nat):Int)=123:=rfl
   rw [e,hq]
   simp only [yc]
   simp only [h6,decide_true] at hpl2
   rw [z2e (by simp [unb];omega)]
   simp [unb]
  ·simp only [h6,decide_false,if_false,ya,yc,zsm,ix_1,yaj,yai,yk]
   rw [z2e (by omega)]
   simp only [yc]
   have hq:=hk1 (a++[91]) (by simp)
   have hq:M.z2s v (M.q3j f) 0 (a++[91])=_:=hq
   simp only [yae,decide_true,decide_false,h6] at hq
   have e:(((91:UInt8).toNat:Nat):Int)=91:=rfl
   rw [e,hq]
   simp only [yc]
   simp only [h6,decide_false] at hpl2
   rw [z2e (by simp [unb];omega)]
   simp [unb]
def print (v:q04):Z × Int:=if zc2 v 0=0 then (if 16384<(prJ v).length then ([],22) else (prJ v,0)) else ([],zc2 v 0)
theorem zjm {v:q04} {f:Nat} (hf:17≤f) (h:Small v):M.q3e f v=some (print v):=by
 unfold M.q3e print
 rw [zjl hf h]
 simp only [ya,yc]
 by_cases hc:zc2 v 0=0
 ·unfold Small at h
  have hl:=zlu f v 0 (by omega) (by omega) hc [] (by simp;omega)
  rw [yay] at hl
  simp only [hc,decide_true,yo,yk,if_false,if_true,hl,yc,builderLen_eq,z04]
  by_cases h2:16384<(prJ v).length
  ·have:(16384:Int)<((prJ v).length:Int):=by omega
   simp [h2,this]
  ·have:¬(16384:Int)<((prJ v).length:Int):=by omega
   simp [h2,this,z3a]
 ·simp [hc]
end
section
open Go.Lk Go.Pe
def bl (b:UInt8):Bool:=([32,9,10,13]:Z).contains b
def z0p (s:Z):Z:=s.dropWhile bl
theorem z2v (s:Z):(z0p s).length≤s.length:=(yx _).length_le
theorem zb2 (s:Z):M.q3n ⟨s⟩=some ⟨z0p s⟩:=by
 rfl
def take (s p:Z):Option Z:=if p.isPrefixOf s=true then some (z0p (s.drop p.length)) else none
theorem z2l (s p:Z):M.q3q ⟨s⟩ p=some (match take s p with|some r=>(true,⟨r⟩)|none=>(false,⟨s⟩)):=by
 grind [M.q3q,take,z65,zb2]
theorem take_one (c:UInt8) (s:Z):take s [c]=match s with|[]=>none|d::r=>if d=c then some (z0p r) else none:=by
 grind [take]
theorem take_len {s p r:Z} (h:take s p=some r):r.length+p.length≤s.length:=by
 grind [take,z2v]
def z5x (c:UInt8):Option Nat:=if isD c=true then some (c.toNat - 48) else if 97≤c.toNat∧c.toNat≤102 then some (c.toNat - 87) else if 65≤c.toNat∧c.toNat≤70 then some (c.toNat - 55) else none
def zz01u:Z:=[48,49,50,51,52,53,54,55,56,57,97,98,99,100,101,102,65,66,67,68,69,70]
theorem zsh:∀ c:UInt8,zz01u.contains c=(z5x c).isSome:=z5t (by decide +kernel)
theorem z4r:∀ c:UInt8,∀ d,z5x c=some d→d<16:=by
 intro c d h
 unfold z5x isD at h
 grind
theorem dropWhile_nil {α:Type} (p:α→Bool):∀ l:List α,l.dropWhile p=[]↔∀ b∈l,p b=true
 | []=>by simp
 | a::l=>by
  rw [yw]
  cases h:p a with
  | false=>simp [h]
  | true=>simp [h,dropWhile_nil p l]
theorem zn5 (l cs:Z):Lib.trimS l cs=[]↔∀ b∈l,cs.contains b=true:=by
 unfold Lib.trimS Lib.trimLeftS Lib.trimRightS
 rw [dropWhile_nil]
 constructor
 ·intro h
  have h2:l.reverse.dropWhile (cs.contains ·)=[]:=by
   cases hd:l.reverse.dropWhile (cs.contains ·) with
   | nil=>rfl
   | cons a r =>
    grind [List.head?_dropWhile_not]
  grind [dropWhile_nil]
 grind [yx]
def pstep (x:Int):Option Int :=
 if ((decide (48≤x))&&(decide (x≤57)))=true then some (ybq .u8 (x - 48))
 else if ((decide (97≤orI .u8 x 32))&&(decide (orI .u8 x 32≤122)))=true then some (ybq .u8 ((ybq .u8 (orI .u8 x 32 - 97))+10)) else none
theorem zwu:∀ c:UInt8,∀ d,z5x c=some d→pstep (c.toNat:Int)=some (d:Int):=by
 have:∀ c:UInt8,(match z5x c with|some d=>decide (pstep (c.toNat:Int)=some (d:Int))|none=>true)=true:=z5t (by decide +kernel)
 intro c d h
 have h2:=this c
 grind
theorem zak {s:Z} {i n d:Nat} {c:UInt8} (hi:s[i]? = some c) (hl:s.length<1000000) (hd:z5x c=some d) (hn:n<4096) :
  M.zi (s,16) 16 1152921504606846976 16 false (n:Int) (i:Int)=M.zi (s,16) 16 1152921504606846976 16 false ((16*n+d:Nat):Int) ((i+1:Nat):Int):=by
 have hlt:i<s.length:=by
  rcases ybg i s.length with h|h
  ·exact h
  ·grind
 have hd16:=z4r c d hd
 conv=>lhs;rw [M.zi.eq_1]
 have h1:((i:Int)<((unb s).length:Int)):=by rw [z04];omega
 have h16:¬((16:Int)=0):=by decide
 have h95:(decide ((c.toNat:Int)=95)&&decide ((16:Int)=0))=false:=by simp
 simp only [h1,decide_true,if_true,z4k,zh0,hi,yf,ya,yc,h95,yk,if_false]
 have e0:M.q33 (c.toNat:Int)=some (orI .u8 (c.toNat:Int) 32):=rfl
 simp only [e0,yc]
 have hp:=zwu c d hd
 unfold pstep at hp
 have fin:∀ q:Option (Jn (Jn (Int × Bool) (Bool × Int)) Int),q=some (.go (d:Int))→(q.bind fun q_381=>match q_381 with
   | .done r=>some r
   | .go j_381=>if decide (ybq .u8 16≤j_381)=true then some (.done (0,false)) else if decide (1152921504606846976≤(n:Int))=true then some (.done ((ybq .u64 ((z6p .u64 1 (ybq .u64 16)) - 1)),false)) else
    if (decide ((ybq .u64 ((ybq .u64 ((n:Int)*(ybq .u64 16)))+(ybq .u64 j_381)))<(ybq .u64 ((n:Int)*(ybq .u64 16))))||decide ((ybq .u64 ((z6p .u64 1 (ybq .u64 16)) - 1))<(ybq .u64 ((ybq .u64 ((n:Int)*(ybq .u64 16)))+(ybq .u64 j_381)))))=true then
     some (.done ((ybq .u64 ((z6p .u64 1 (ybq .u64 16)) - 1)),false))
    else M.zi (s,16) 16 1152921504606846976 16 false (ybq .u64 ((ybq .u64 ((n:Int)*(ybq .u64 16)))+(ybq .u64 j_381))) (ybq .i64 ((i:Int)+1)))=M.zi (s,16) 16 1152921504606846976 16 false ((16*n+d:Nat):Int) ((i+1:Nat):Int):=by
  rintro q rfl
  simp only [yc]
  have u16:ybq .u8 16=16:=by decide
  have v16:ybq .u64 16=16:=by decide
  have m16:ybq .u64 ((z6p .u64 1 16) - 1)=65535:=by decide
  rw [u16,v16,m16,wu64 (x:=(n:Int)*16) (by omega) (by omega),wu64 (x:=(d:Int)) (by omega) (by omega),wu64 (x:=(n:Int)*16+(d:Int)) (by omega) (by omega),w1 (by omega)]
  rw [if_neg (by simp;omega),if_neg (by simp;omega),if_neg (by simp;omega)]
  congr 1
  omega
 grind
theorem zsw {a b c d:UInt8} {ha hb hc hd:Nat} (h1:z5x a=some ha) (h2:z5x b=some hb) (h3:z5x c=some hc) (h4:z5x d=some hd) :
  M.q78 [a,b,c,d] 16 16=some ((((16*(16*(16*ha+hb)+hc)+hd:Nat)):Int),true):=by
 have l1:=z4r a ha h1
 have l2:=z4r b hb h2
 have l3:=z4r c hc h3
 have l4:=z4r d hd h4
 have s1:=zak (s:=[a,b,c,d]) (i:=0) (n:=0) (d:=ha) (c:=a) rfl (by simp) h1 (by omega)
 have s2:=zak (s:=[a,b,c,d]) (i:=1) (n:=16*0+ha) (d:=hb) (c:=b) rfl (by simp) h2 (by omega)
 have s3:=zak (s:=[a,b,c,d]) (i:=2) (n:=16*(16*0+ha)+hb) (d:=hc) (c:=c) rfl (by simp) h3 (by omega)
 have s4:=zak (s:=[a,b,c,d]) (i:=3) (n:=16*(16*(16*0+ha)+hb)+hc) (d:=hd) (c:=d) rfl (by simp) h4 (by omega)
 have s5:M.zi ([a,b,c,d],16) 16 1152921504606846976 16 false ((16*(16*(16*(16*0+ha)+hb)+hc)+hd:Nat):Int) ((3+1:Nat):Int)=some (.go (false,((16*(16*(16*(16*0+ha)+hb)+hc)+hd:Nat):Int))):=by
  rw [M.zi.eq_1]
  simp [unb]
 have s6:M.zi ([a,b,c,d],16) 16 1152921504606846976 16 false 0 0=_:=s1.trans (s2.trans (s3.trans (s4.trans s5)))
 unfold M.q78 M.q32
 have e1:ybq .u64 16=16:=by decide
 simp [e1,z3y,s6]
def unit (s:Z):Option (Nat × Z) :=
 match s with
 | x::y::a::b::c::d::r=>if x=92∧y=117 then (z5x a).bind fun ha=>(z5x b).bind fun hb=>(z5x c).bind fun hc=>(z5x d).bind fun hd=>some (16*(16*(16*ha+hb)+hc)+hd,r) else none
 | _=>none
def oRs {α β:Type} (f:α→β):Option α→Rs β
 | some a => .ok (f a)
 | none => .pan 20
theorem za8 {s r:Z} {n:Nat} (h:unit s=some (n,r)):n<65536∧r.length+6=s.length:=by
 unfold unit at h
 split at h
 ·rename_i x y a b c d r'
  split at h
  ·obtain ⟨ha,h1,h⟩:=yb.1 h
   obtain ⟨hb,h2,h⟩:=yb.1 h
   obtain ⟨hc,h3,h⟩:=yb.1 h
   obtain ⟨hd,h4,h⟩:=yb.1 h
   have l1:=z4r _ _ h1
   have l2:=z4r _ _ h2
   have l3:=z4r _ _ h3
   have l4:=z4r _ _ h4
   grind
  ·cases h
 ·cases h
theorem ze2 (s:Z) (hs:s.length<1000000000):M.q3s ⟨s⟩=some (oRs (fun x=>(((x.1:Nat):Int),(⟨x.2⟩:q0c))) (unit s)):=by
 unfold M.q3s
 rw [z65]
 have shp:(∃ t,s=92::117::t)∨((([92,117]:Z).isPrefixOf s)=false∧unit s=none):=by
  match s with
  | []=>exact .inr ⟨rfl,rfl⟩
  | [x]=>exact .inr ⟨by grind,rfl⟩
  | x::y::t =>
   by_cases hx:x=92∧y=117
   ·grind
   ·refine .inr ⟨?_,?_⟩
    ·grind
    ·unfold unit
     grind
 rcases shp with ⟨t,rfl⟩|⟨h1,h2⟩
 ·have hp:([92,117]:Z).isPrefixOf (92::117::t)=true:=by simp [yao]
  simp only [hp,if_true,yaq,yat,yac,yae,ya,yc,yq]
  match t with
  | a::b::c::d::r =>
   have hl:(4:Int)≤(((a::b::c::d::r).length:Nat):Int):=by simp only [yaq];omega
   have hs4:sub (a::b::c::d::r) 0 4=some [a,b,c,d]:=zhl (a:=4) (by simp)
   have hs5:sub (a::b::c::d::r) 4 (((a::b::c::d::r).length:Nat):Int)=some r:=zaw (a:=4) (by simp)
   simp only [hl,decide_true,if_true,hs4,hs5,yc]
   unfold M.trim
   rw [z3y (by simp)]
   have ee:((decide (Lib.trimS [a,b,c,d] [48,49,50,51,52,53,54,55,56,57,97,98,99,100,101,102,65,66,67,68,69,70]=([]:Z))))=((z5x a).isSome&&((z5x b).isSome&&((z5x c).isSome&&(z5x d).isSome))):=by
    rw [yj,decide_eq_true_iff,zn5]
    have ht:=zsh
    unfold zz01u at ht
    simp only [ht,yax,List.not_mem_nil,or_false,forall_eq_or_imp,forall_eq,yh]
   simp only [ya,yc,ee,z5e]
   unfold unit
   cases h1:z5x a with
   | none=>simp [oRs,h1]
   | some ha =>
    cases h2:z5x b with
    | none=>grind [oRs]
    | some hb =>
     cases h3:z5x c with
     | none=>grind [oRs]
     | some hc =>
      cases h4:z5x d with
      | none=>grind [oRs]
      | some hd =>
       have l1:=z4r a ha h1
       have l2:=z4r b hb h2
       have l3:=z4r c hc h3
       have l4:=z4r d hd h4
       have hw:ybq .i32 ((16*(16*(16*ha+hb)+hc)+hd:Nat):Int)=((16*(16*(16*ha+hb)+hc)+hd:Nat):Int):=w32 (by omega) (by omega)
       simp_all [zsw,oRs]
  | []=>rfl
  | [_]=>rfl
  | [_,_]=>rfl
  | [_,_,_]=>rfl
 simp_all [oRs,z5e]
def esc1 (c:UInt8):Option UInt8:=if c=34 then some 34 else if c=92 then some 92 else if c=47 then some 47 else if c=98 then some 8 else if c=102 then some 12 else if c=110 then some 10 else if c=114 then some 13 else if c=116 then some 9 else none
def zr2 (n:Nat):Bool:=decide (56320≤n)&&decide (n≤57343)
def zjf (n:Nat):Bool:=decide (55296≤n)&&decide (n≤57343)
def zfd (s:Z):Option (Z × Z) :=
 match s with
 | a::c::r=>match esc1 c with
  | some x=>some ([x],r)
  | none=>match unit (a::c::r) with
   | none=>none
   | some (n,r1)=>if zr2 n=true then none else if zjf n=false then some (encS (n:Int),r1) else match unit r1 with
    | none=>none
    | some (m,r2)=>if zr2 m=true then some (encS (65536+((n:Int) - 55296)*1024+(m:Int) - 56320),r2) else none
 | _=>none
theorem zyw:∀ c:UInt8,(match esc1 c with
  | some x=>decide (0≤Lib.indexByte B31 (c.toNat:Int).toNat.toUInt8∧sub ([34,92,47,8,12,10,13,9]:Z) (Lib.indexByte B31 (c.toNat:Int).toNat.toUInt8) (ybq .i64 (Lib.indexByte B31 (c.toNat:Int).toNat.toUInt8+1))=some [x])
  | none=>decide (¬0≤Lib.indexByte B31 (c.toNat:Int).toNat.toUInt8))=true:=z5t (by decide +kernel)
theorem zqe (n:Int):(encS n).length≤4:=by
 grind [encS,Utf8.encode]
theorem zeo {s t r:Z} (h:zfd s=some (t,r)):t.length≤4∧r.length+2≤s.length:=by
 unfold zfd at h
 split at h
 ·rename_i a c r'
  split at h
  ·cases h;simp
  ·split at h
   ·cases h
   ·rename_i n r1 hu
    have:=za8 hu
    split at h
    ·cases h
    ·split at h
     ·simp only [Option.some.injEq,Prod.mk.injEq] at h
      obtain ⟨rfl,rfl⟩:=h
      grind [zqe]
     ·split at h
      ·cases h
      ·rename_i m r2 hu2
       have:=za8 hu2
       split at h
       ·simp only [Option.some.injEq,Prod.mk.injEq] at h
        obtain ⟨rfl,rfl⟩:=h
        grind [zqe]
       ·cases h
 ·cases h
theorem zz05n {n m:Int} (h1:55296≤n) (h2:n≤57343) (h3:56320≤m) (h4:m≤57343) :
  ybq .i32 (ybq .i32 (ybq .i32 (65536+z6p .i32 (ybq .i32 (n - 55296)) 10)+m) - 56320)=65536+(n - 55296)*1024+m - 56320:=by
 have s2:z6p .i32 (n - 55296) 10=(n - 55296)*1024:=by
  unfold z6p
  have:min (10:Int).toNat IntKind.i32.bits=10:=by decide
  have h10:(2:Int) ^ 10=1024:=by decide
  rw [this,h10,w32 (by omega) (by omega)]
 grind [w32]
theorem rng1 (n:Nat):(decide ((n:Int)<56320)||decide (57343<(n:Int))) = !zr2 n:=by
 unfold zr2
 grind
theorem rng2 (n:Nat):(decide ((n:Int)<55296)||decide (57343<(n:Int))) = !zjf n:=by
 unfold zjf
 grind
theorem rng3 (m:Nat):(decide (56320≤(m:Int))&&decide ((m:Int)≤57343))=zr2 m:=by
 unfold zr2
 grind
theorem zvh {n:Nat} (h:zjf n=true):55296≤(n:Int)∧(n:Int)≤57343:=by
 unfold zjf at h
 grind
theorem zz024 {n:Nat} (h:zr2 n=true):56320≤(n:Int)∧(n:Int)≤57343:=by
 unfold zr2 at h
 grind
theorem zg0 (s:Z) (hs:s.length<1000000000):M.q3o ⟨s⟩=some (oRs (fun x=>(x.1,(⟨x.2⟩:q0c))) (zfd s)):=by
 unfold M.q3o
 match s with
 | []=>rfl
 | [_]=>rfl
 | a::c::r =>
  have hl:(2:Int)≤(((a::c::r).length:Nat):Int):=by simp only [yaq];omega
  have hsub:sub (a::c::r) 2 (((a::c::r).length:Nat):Int)=some r:=zaw (a:=2) (by simp)
  simp only [hl,decide_true,zm5,if_true,ya,yc,ix_1,yai,yaj]
  unfold zfd
  have ht:=zyw c
  unfold M.indexByte
  simp only [yc]
  cases he:esc1 c with
  | some x =>
   simp_all [oRs]
  | none =>
   rw [he] at ht
   simp only [decide_eq_true_eq] at ht
   rw [if_neg (by grind),ze2 _ hs]
   simp only [yc]
   cases hu:unit (a::c::r) with
   | none=>simp [oRs]
   | some p =>
    obtain ⟨n,r1⟩:=p
    obtain ⟨u1,u2⟩:=za8 hu
    simp only [oRs]
    rw [rng1,z5e,rng2]
    simp only [yc]
    cases c1:zr2 n with
    | true=>simp
    | false =>
     simp only [yn,if_true,yk,if_false]
     cases c2:zjf n with
     | false=>simp
     | true =>
      simp only [yo,yk,if_false,yr]
      rw [ze2 _ (by omega)]
      simp only [yc]
      cases hu2:unit r1 with
      | none=>simp [oRs]
      | some p2 =>
       obtain ⟨m,r2⟩:=p2
       obtain ⟨u3,u4⟩:=za8 hu2
       simp only [oRs]
       rw [rng3,z5e]
       simp only [yc]
       cases c3:zr2 m with
       | true =>
        simp_all [zvh,zz024,zz05n]
       | false=>simp
def txt:Nat→Z→Z→Option (Z × Z)
 | 0,_,_=>none
 | _+1,[],_=>none
 | f+1,c::r,acc=>if c.toNat<32 then none else if c=34 then (if Lib.validD acc=true then some (acc,r) else none)
  else if c=92 then match zfd (c::r) with
   | none=>none
   | some (t,r2)=>txt f r2 (acc++t)
  else txt f r (acc++[c])
def text (s:Z):Option (Z × Z) :=
 match s with
 | c::r=>if c=34 then txt (r.length+1) r [] else none
 | []=>none
theorem zpm:∀ (f:Nat) (s acc t r:Z),txt f s acc=some (t,r)→r.length+1≤s.length∧t.length≤acc.length+4*s.length
 | 0,_,_,_,_,h=>by simp [txt] at h
 | _+1,[],_,_,_,h=>by simp [txt] at h
 | f+1,c::s,acc,t,r,h=>by
  rw [txt] at h
  split at h
  ·cases h
  ·split at h
   ·grind
   ·split at h
    ·split at h
     ·cases h
     ·rename_i t1 r1 he
      have h1:=zeo he
      have h2:=zpm f _ _ _ _ h
      grind
    ·have h2:=zpm f _ _ _ _ h
     grind
theorem zcz {s t r:Z} (h:text s=some (t,r)):r.length+2≤s.length∧t.length≤4*s.length:=by
 unfold text at h
 split at h
 ·split at h
  ·have:=zpm _ _ _ _ _ h
   grind
  ·cases h
 ·cases h
theorem zlv:∀ (f:Nat) (s acc:Z),s.length<f→acc.length+4*s.length<4000000000→s.length<1000000000 →
  M.z1s s (unb acc)=some (oRs (fun x=>(x.1,(⟨z0p x.2⟩:q0c))) (txt f s acc)):=by
 intro f
 induction f with
 | zero=>omega
 | succ f ih =>
  intro s acc hf ha hs
  rw [M.z1s.eq_1]
  cases s with
  | nil=>rfl
  | cons c r =>
   simp only [yaq] at hf ha hs
   have e1:(decide ((c::r)=([]:Z)))=false:=by simp
   have e2:decide (32≤(c.toNat:Int))=decide (¬c.toNat<32):=decide_eq_decide.2 (by omega)
   have t34:((c.toNat:Int)=34)↔c=34:=toNat_eq (n:=34) (by omega)
   have t92:((c.toNat:Int)=92)↔c=92:=toNat_eq (n:=92) (by omega)
   simp only [e1,yn,if_true,zsm,yaj,ya,yc,e2,z5e,t34,t92]
   rw [txt]
   by_cases c32:c.toNat<32
   ·simp [c32,oRs]
   ·simp only [c32,not_false_eq_true,decide_true,if_true,if_false]
    by_cases c34:c=34
    ·subst c34
     have hq:M.zn (unb acc)=some acc:=z3a acc
     simp only [decide_true,if_true,hq,yc]
     rw [z7t (by omega)]
     simp only [yc]
     by_cases hv:Lib.validD acc=true
     ·simp_all [z2l,take_one,oRs]
     grind [oRs]
    ·simp only [c34,decide_false,yk,if_false]
     by_cases c92:c=92
     ·simp only [c92,decide_true,if_true]
      rw [zg0 _ (by omega)]
      simp only [yc]
      cases he:zfd (92::r) with
      | none=>rfl
      | some p =>
       obtain ⟨t,r2⟩:=p
       have hl:=zeo he
       grind [oRs,z2u,unb]
     ·simp only [c92,decide_false,yk,if_false]
      rw [z2e (by grind [unb])]
      simp only [yc]
      grind [sub,unb]
theorem ze1 (s:Z) (hs:s.length<900000000):M.q3r ⟨s⟩=some (oRs (fun x=>(x.1,(⟨z0p x.2⟩:q0c))) (text s)):=by
 unfold M.q3r
 rw [z65,z7n]
 cases s with
 | nil=>rfl
 | cons c r =>
  by_cases h:c=34
  ·subst h
   simp only [yan,decide_true,if_true,yaq,yat,yac,yae,ya,yc,z5e]
   simp only [yaq] at hs
   exact zlv (r.length+1) r [] (by omega) (by simp;omega) (by omega)
  ·simp [h,z5e,oRs,text]
end
section
open Go.Lk Go.Pe
theorem zzn {ks:List Z} {k:Z} (hl:ks.length<1152921504606846976):∀ (n i:Nat),ks.length - i=n→i≤ks.length →
  M.zf ks k (i:Int)=some (match (ks.drop i).findIdx? (fun x=>decide (k=x)) with|some j => .done ((i+j:Nat):Int)|none => .go ()):=by
 intro n
 induction n with
 | zero =>
  intro i hn hi
  rw [M.zf.eq_1]
  have:¬((i:Int)<(ks.length:Int)):=by omega
  rw [if_neg (by simpa using this),yaa (by omega)]
  rfl
 | succ n ih =>
  intro i hn hi
  have hlt:i<ks.length:=by omega
  rw [M.zf.eq_1]
  have h1:((i:Int)<(ks.length:Int)):=by omega
  simp only [h1,decide_true,if_true,z4k,yak hlt,ya,yc]
  rw [w1 (by omega),ih (i+1) (by omega) (by omega),yz hlt,yag]
  by_cases h:k=ks[i]
  ·simp [h]
  ·simp only [h,decide_false,yk,if_false]
   cases (ks.drop (i+1)).findIdx? (fun x=>decide (k=x)) with
   | none=>rfl
   | some j=>simp only [yf];congr 3;omega
theorem zqu {ks:List Z} {k:Z} (hl:ks.length<1152921504606846976):M.q76 ks k=some (match ks.findIdx? (fun x=>decide (k=x)) with|some j=>(j:Int)|none => -1):=by
 unfold M.q76
 have h:=zzn (k:=k) hl _ 0 rfl (ybo _)
 have h:M.zf ks k 0=_:=h
 rw [h,yae]
 cases ks.findIdx? (fun x=>decide (k=x)) with
 | none=>rfl
 | some j=>simp
theorem contains_eq {ks:List Z} {k:Z} (hl:ks.length<1152921504606846976):M.q71 ks k=some (decide (k∈ks)):=by
 unfold M.q71
 rw [zqu hl]
 simp only [ya,yc,Option.some.injEq]
 cases h:ks.findIdx? (fun x=>decide (k=x)) with
 | none =>
  rw [List.findIdx?_eq_none_iff] at h
  have:¬k∈ks:=fun hm=>by simpa using h k hm
  simp [this]
 | some j =>
  have h2:=List.findIdx?_eq_some_iff_getElem.1 h
  obtain ⟨hj,h3,_⟩:=h2
  have:k∈ks:=by simp at h3;rw [h3];exact yam hj
  simp [this]
abbrev J:=q04
abbrev Rd:=Rs (J × Z)
def zto (s:Z) (ks:List Z):Rs (Z × List Z) :=
 match text s with
 | none => .pan 20
 | some (k,r)=>if k∈ks then .pan 20 else match take (z0p r) [58] with
  | none => .pan 20
  | some r2 => .ok (r2,ks++[k])
def items (vf:Z→Rd) (o:Bool) (e:UInt8):Nat→Z→List J→List Z→Rd
 | 0,_,_,_ => .pan 20
 | f+1,s,l,ks=>match (if o=true then zto s ks else .ok (s,ks)) with
  | .pan c => .pan c
  | .ok (s1,ks1)=>match vf s1 with
   | .pan c => .pan c
   | .ok (x,s2)=>match take s2 [e] with
    | some r => .ok (⟨if o=true then 6 else 5,[],l++[x],ks1⟩,r)
    | none=>match take s2 [44] with
     | none => .pan 20
     | some r=>items vf o e f r (l++[x]) ks1
def nest (vf:Z→Rd) (o:Bool) (w:Nat) (s:Z):Rd :=
 if 16≤w then .pan 21 else match take s [if o=true then 125 else 93] with
  | some r => .ok (⟨if o=true then 6 else 5,[],[],[]⟩,r)
  | none=>items vf o (if o=true then 125 else 93) (s.length+1) s [] []
def word (s:Z):Rd :=
 match take s B28 with
 | some r => .ok (⟨0,[],[],[]⟩,r)
 | none=>match take s B21 with
  | some r => .ok (⟨1,[],[],[]⟩,r)
  | none=>match take s B29 with
   | some r => .ok (⟨2,[],[],[]⟩,r)
   | none=>if num s=0 then .pan 20 else .ok (⟨3,s.take (num s),[],[]⟩,z0p (s.drop (num s)))
def val:Nat→Z→Nat→Rd
 | 0,_,_ => .pan 20
 | f+1,s,w=>match text s with
  | some (t,r) => .ok (⟨4,t,[],[]⟩,z0p r)
  | none=>if s.head? = some 34 then .pan 20 else match take s [91] with
   | some r=>nest (fun s=>val f s (w+1)) false w r
   | none=>match take s [123] with
    | some r=>nest (fun s=>val f s (w+1)) true w r
    | none=>word s
def cv (x:J × Z):J × q0c:=(x.1,⟨x.2⟩)
def mRs {α β:Type} (f:α→β):Rs α→Rs β
 | .ok a => .ok (f a)
 | .pan c => .pan c
theorem zqy {s:Z} {ks:List Z} {r:Z} {ks2:List Z} (h:zto s ks = .ok (r,ks2)):r.length+3≤s.length∧ks2.length=ks.length+1:=by
 unfold zto at h
 split at h
 ·cases h
 ·rename_i k r1 ht
  have h1:=zcz ht
  split at h
  ·cases h
  ·split at h
   ·cases h
   ·rename_i r2 ht2
    have h2:=take_len ht2
    have h3:=z2v r1
    cases h
    simp only [yaq,yat] at h2
    exact ⟨by omega,by simp⟩
theorem zvk {vf:Z→Rd} {o:Bool} {e:UInt8} (hv:∀ s x r,vf s = .ok (x,r)→r.length+1≤s.length):∀ (f:Nat) (s:Z) (l:List J) (ks:List Z) (x:J) (r:Z),items vf o e f s l ks = .ok (x,r)→r.length+1≤s.length:=by
 intro f
 induction f with
 | zero=>intro s l ks x r h;simp [items] at h
 | succ f ih =>
  intro s l ks x r h
  rw [items] at h
  split at h
  ·cases h
  ·rename_i s1 ks1 hk
   have h1:s1.length≤s.length:=by
    split at hk
    ·have:=zqy hk;omega
    ·cases hk;omega
   split at h
   ·cases h
   ·rename_i x2 s2 hx
    have h2:=hv _ _ _ hx
    split at h
    ·rename_i r2 ht
     have h3:=take_len ht
     cases h
     omega
    ·split at h
     ·cases h
     ·rename_i r2 ht
      have h3:=take_len ht
      have h4:=ih _ _ _ _ _ h
      omega
theorem zr7 {vf:Z→Rd} {o:Bool} {w:Nat} (hv:∀ s x r,vf s = .ok (x,r)→r.length+1≤s.length) {s r:Z} {x:J} (h:nest vf o w s = .ok (x,r)):r.length+1≤s.length:=by
 unfold nest at h
 split at h
 ·cases h
 ·split at h
  ·rename_i r2 ht
   have:=take_len ht
   cases h
   simp only [yaq,yat] at this
   omega
  ·exact zvk hv _ _ _ _ _ _ h
theorem zrt {s r:Z} {x:J} (h:word s = .ok (x,r)):r.length+1≤s.length:=by
 unfold word at h
 split at h
 ·rename_i r2 ht
  have:=take_len ht
  cases h
  simp only [yaq,yat] at this
  omega
 ·split at h
  ·rename_i r2 ht
   have:=take_len ht
   cases h
   simp only [yaq,yat] at this
   omega
  ·split at h
   ·rename_i r2 ht
    have:=take_len ht
    cases h
    simp only [yaq,yat] at this
    omega
   ·split at h
    ·cases h
    ·rename_i hn
     cases h
     have h1:=z2v (s.drop (num s))
     have h2:=zm6 s
     rw [yar] at h1
     omega
theorem zy1:∀ (f:Nat) (s:Z) (w:Nat) (x:J) (r:Z),val f s w = .ok (x,r)→r.length+1≤s.length:=by
 intro f
 induction f with
 | zero=>intro s w x r h;simp [val] at h
 | succ f ih =>
  intro s w x r h
  rw [val] at h
  split at h
  ·rename_i t r2 ht
   have h1:=zcz ht
   have h2:=z2v r2
   cases h
   omega
  ·split at h
   ·cases h
   ·split at h
    ·rename_i r2 ht
     have h1:=take_len ht
     have h2:=zr7 (fun s x r=>ih s (w+1) x r) h
     omega
    ·split at h
     ·rename_i r2 ht
      have h1:=take_len ht
      have h2:=zr7 (fun s x r=>ih s (w+1) x r) h
      omega
     ·exact zrt h
theorem zz05y (s:Z):M.z0v 0 s=some (match take s B28 with
  | some r => .done (.ok (⟨0,[],[],[]⟩,⟨r⟩))
  | none=>match take s B21 with
   | some r => .done (.ok (⟨1,[],[],[]⟩,⟨r⟩))
   | none=>match take s B29 with
    | some r => .done (.ok (⟨2,[],[],[]⟩,⟨r⟩))
    | none => .go s):=by
 have e0:ybq .i64 (0+1)=1:=by decide
 have e1:ybq .i64 (1+1)=2:=by decide
 have e2:ybq .i64 (2+1)=3:=by decide
 have i2:∀ {α:Type} (l:List α),ix l 2=l[2]?:=fun l=>by simp [ix]
 rw [M.z0v.eq_1]
 have h0:(0:Int)<3:=by decide
 have h1:(1:Int)<3:=by decide
 have h2:(2:Int)<3:=by decide
 simp only [yaq,yat,zsm,yaj,ya,yc,z2l,e0]
 rw [if_pos (by decide)]
 cases take s B28 with
 | some r=>rfl
 | none =>
  simp only [yk,if_false]
  rw [M.z0v.eq_1]
  simp only [yaq,yat,ix_1,yaj,yai,ya,yc,z2l,e1]
  rw [if_pos (by decide)]
  cases take s B21 with
  | some r=>rfl
  | none =>
   simp only [yk,if_false]
   rw [M.z0v.eq_1]
   simp only [yaq,yat,i2,yaj,yai,ya,yc,z2l,e2]
   rw [if_pos (by decide)]
   cases take s B29 with
   | some r=>rfl
   | none =>
    simp only [yk,if_false]
    rw [M.z0v.eq_1]
    rw [if_neg (by decide)]
theorem zwg {o:Bool} {w:Nat} (hw:w≤16) {self:q0c→Int→Option (Rs (J × q0c))} {vf:Z→Rd} {N:Nat} (hN:N<900000000)
  (hs:∀ s:Z,s.length≤N→self ⟨s⟩ ((w+1:Nat):Int)=some (mRs cv (vf s))) (hv:∀ s x r,vf s = .ok (x,r)→r.length+1≤s.length) :
  ∀ (f:Nat) (s:Z) (l:List J) (ks:List Z),s.length<f→s.length≤N→l.length+s.length≤N→ks.length+s.length≤N →
  M.z1e (if o=true then 6 else 5) self (w:Int) [if o=true then 125 else 93] s l ks=some (mRs cv (items vf o (if o=true then 125 else 93) f s l ks)):=by
 intro f
 induction f with
 | zero=>intro s l ks h;omega
 | succ f ih =>
  intro s l ks hf hn hl hk
  rw [M.z1e.eq_1,items]
  have step:∀ (s1:Z) (ks1:List Z),s1.length≤s.length→ks1.length+s1.length≤N→(do
    let a_209←self (q0c.mk s1) (ybq .i64 ((w:Int)+1))
    match a_209 with
    | .pan e_212=>some (.pan e_212)
    | .ok a_211 =>
     let l_213←app 72 l [(q04.mk a_211.1.zh a_211.1.z0i a_211.1.zk a_211.1.z08)]
     let a_214←M.q3q a_211.2 [if o=true then 125 else 93]
     if a_214.1 then
      some (.ok ((q04.mk (if o=true then 6 else 5) ([]:Z) l_213 ks1),a_214.2))
     else
      let a_216←M.q3q a_214.2 ([44]:Z)
      let a_218←M.q3k a_216.1 20
      match a_218 with
      | .pan e_221=>some (.pan e_221)
      | .ok a_220=>M.z1e (if o=true then 6 else 5) self (w:Int) [if o=true then 125 else 93] a_216.2.gs l_213 ks1:Option (Rs (J × q0c)))=some (mRs cv (match vf s1 with
   | .pan c => .pan c
   | .ok (x,s2)=>match take s2 [if o=true then 125 else 93] with
    | some r => .ok (⟨if o=true then 6 else 5,[],l++[x],ks1⟩,r)
    | none=>match take s2 [44] with
     | none => .pan 20
     | some r=>items vf o (if o=true then 125 else 93) f r (l++[x]) ks1)):=by
   intro s1 ks1 h1 h2
   rw [w1 (by omega),hs s1 (by omega)]
   simp only [ya,yc]
   cases hx:vf s1 with
   | pan c=>rfl
   | ok p =>
    obtain ⟨x,s2⟩:=p
    have h3:=hv _ _ _ hx
    have je:∀ y:J,(q04.mk y.zh y.z0i y.zk y.z08)=y:=fun y=>by cases y;rfl
    simp only [mRs,cv,je]
    rw [z36 (by simp only [yaq,yat];omega),z2l]
    simp only [yc]
    cases ht:take s2 [if o=true then 125 else 93] with
    | some r=>simp
    | none =>
     simp only [yk,if_false]
     rw [z2l]
     simp only [yc]
     cases ht2:take s2 [44] with
     | none=>simp [z5e]
     | some r =>
      have h4:=take_len ht2
      simp only [yaq,yat] at h4
      simp only [zm5,yc]
      rw [ih r _ ks1 (by omega) (by omega) (by simp;omega) (by omega)]
      rfl
  cases o with
  | false =>
   have st:=step s ks (ybe _) hk
   simp only [yk,if_false,ya] at st ⊢
   have e5:decide ((5:Int)=6)=false:=by decide
   simp only [e5,yk,if_false,yc]
   exact st
  | true =>
   simp only [if_true,ya] at step ⊢
   simp only [decide_true,if_true]
   rw [ze1 _ (by omega)]
   simp only [yc]
   unfold zto
   cases ht:text s with
   | none=>rfl
   | some p =>
    obtain ⟨k,r⟩:=p
    have h1:=zcz ht
    have h2:=z2v r
    simp only [oRs]
    rw [contains_eq (by omega)]
    simp only [yc]
    by_cases hm:k∈ks
    ·simp [hm,z5e,mRs]
    ·simp only [hm,decide_false,yn,if_true,if_false]
     rw [z2l]
     simp only [yc]
     cases ht2:take (z0p r) [58] with
     | none=>simp [z5e,mRs]
     | some r2 =>
      have h3:=take_len ht2
      simp only [yaq,yat] at h3
      simp only [zm5,yc]
      rw [z36 (by simp only [yaq,yat];omega)]
      simp only [yc]
      exact step r2 (ks++[k]) (by omega) (by simp;omega)
theorem zjo {N:Nat} (hN:N<900000000):∀ (f F:Nat) (s:Z) (w:Nat),w≤16→17≤f+w→2*f≤F→s.length≤N→M.q3t F ⟨s⟩ (w:Int)=some (mRs cv (val f s w)):=by
 intro f
 induction f with
 | zero=>intro F s w h1 h2;omega
 | succ f ih =>
  intro F s w hw hf hF hn
  obtain ⟨F',rfl⟩:∃ F',F=F'+2:=⟨F - 2,by omega⟩
  rw [M.q3t,val]
  rw [z68,z7n]
  simp only [ya,yc]
  by_cases h34:s.head? = some 34
  ·simp only [h34,decide_true,if_true]
   rw [ze1 _ (by omega)]
   simp only [yc]
   cases text s with
   | none=>rfl
   | some p=>rfl
  ·have ht:text s=none:=by
    unfold text
    cases s with
    | nil=>rfl
    | cons c r=>simp at h34;simp [h34]
   simp only [h34,decide_false,yk,if_false,ht]
   have nes:∀ (o:Bool) (r:Z),r.length≤N→M.q3p (F'+1) ⟨r⟩ (if o=true then 6 else 5) (w:Int) [if o=true then 125 else 93]=some (mRs cv (nest (fun s=>val f s (w+1)) o w r)):=by
    intro o r hr
    rw [M.q3p]
    unfold nest
    by_cases h16:16≤w
    ·have:¬((w:Int)<16):=by omega
     simp [this,h16,z5e,mRs]
    ·have:((w:Int)<16):=by omega
     simp only [this,decide_true,zm5,ya,yc,h16,if_false,z2l]
     cases hk:take r [if o=true then 125 else 93] with
     | some r2=>rfl
     | none =>
      simp only [yk,if_false]
      exact zwg (o:=o) (w:=w) hw hN (fun s hs=>ih F' s (w+1) (by omega) (by omega) (by omega) hs) (fun s x r=>zy1 f s (w+1) x r) (r.length+1) r [] [] (by omega) hr (by simp;omega) (by simp;omega)
   rw [z2l]
   simp only [yc]
   cases h91:take s [91] with
   | some r =>
    have hl:=take_len h91
    have hq:=nes false r (by simp at hl;omega)
    simp only [yk,if_false] at hq
    simp only [if_true,hq,yc]
    cases nest (fun s=>val f s (w+1)) false w r with
    | ok p=>rfl
    | pan c=>rfl
   | none =>
    simp only [yk,if_false,z2l,yc]
    cases h123:take s [123] with
    | some r =>
     have hl:=take_len h123
     have hq:=nes true r (by simp at hl;omega)
     simp only [if_true] at hq
     simp only [if_true,hq,yc]
     cases nest (fun s=>val f s (w+1)) true w r with
     | ok p=>rfl
     | pan c=>rfl
    | none =>
     simp only [yk,if_false,zz05y,yc]
     unfold word
     cases take s B28 with
     | some r=>rfl
     | none =>
      simp only
      cases take s B21 with
      | some r=>rfl
      | none =>
       simp only
       cases take s B29 with
       | some r=>rfl
       | none =>
        simp only
        rw [zb3 (by omega)]
        simp only [yc]
        by_cases hz:num s=0
        ·simp [hz,z5e,mRs]
        ·have hp:(0:Int)<(num s:Int):=by omega
         have hl:=zm6 s
         have hd:take s (s.take (num s))=some (z0p (s.drop (num s))):=by
          unfold take
          have hpre:(s.take (num s)).isPrefixOf s=true:=by rw [List.isPrefixOf_iff_prefix];exact List.take_prefix _ _
          have hlen:(s.take (num s)).length=num s:=by rw [yav];omega
          rw [if_pos hpre,hlen]
         simp only [hp,decide_true,zm5,yc,zhl hl,z2l,hd,hz,if_false]
         rfl
def parse (s:Z):J × Int:=if 16384<s.length then (⟨0,[],[],[]⟩,22) else match val 17 (z0p s) 0 with
 | .pan c=>(⟨0,[],[],[]⟩,c)
 | .ok (x,r)=>if r=[] then (x,0) else (⟨0,[],[],[]⟩,20)
theorem zcm (s:Z) {f:Nat} (hf:34≤f):M.q3d f s=some (parse s):=by
 unfold M.q3d parse
 by_cases hl:16384<s.length
 ·have:(16384:Int)<(s.length:Int):=by omega
  simp [hl,this]
 ·have:¬(16384:Int)<(s.length:Int):=by omega
  have hb:=z2v s
  have hq:=zjo (N:=16384) (by omega) 17 f (z0p s) 0 (by omega) (by omega) (by omega) (by omega)
  have hq:M.q3t f ⟨z0p s⟩ 0=_:=hq
  simp only [this,decide_false,yk,if_false,hl,zb2,ya,yc,hq]
  cases val 17 (z0p s) 0 with
  | pan c=>rfl
  | ok p =>
   obtain ⟨x,r⟩:=p
   simp only [mRs,cv]
   by_cases hr:r=[]
   ·simp [hr,z5e]
   ·simp [hr,z5e]
end
section
open Go.Lk Go.Pe
def nch (c:UInt8):Bool:=isD c||decide (c=46)||decide (c=101)||decide (c=69)||decide (c=43)||decide (c=45)
def stop (r:Z):Prop := ∀ c,r.head? = some c→nch c=false
theorem zzf (s r:Z):(s++r).head? = if s=[] then r.head? else s.head?:=by cases s<;>simp
theorem zfm (c:UInt8) (s:Z):zau (c::s)=if c=46 then (if 0<z6n s then 1+z6n s else 0) else 0:=by
 by_cases h:c=46
 ·grind [zau]
 simp_all [zau]
theorem frac_nil:zau []=0:=rfl
theorem zz074:∀ c:UInt8,bl c=(decide (c=32)||decide (c=9)||decide (c=10)||decide (c=13)):=z5t (by decide +kernel)
theorem zez {c:UInt8} {r:Z} (h:bl c=false):z0p (c::r)=c::r:=by
 grind [z0p,yw]
theorem zxu {c:UInt8} {r:Z} (h:¬c=34):text (c::r)=none:=by simp [text,h]
theorem zjn (v:J):(⟨v.zh,v.z0i,v.zk,v.z08⟩:J)=v:=by cases v;rfl
end
section
open Go.Lk Go.Pe
theorem zb8 {α:Type} (p:α→Bool):∀ (l:List α) (m:Nat),((l.take m).takeWhile p).length=min m (l.takeWhile p).length
 | [],m=>by simp
 | a::l,0=>by simp
 | a::l,m+1=>by
  rw [ya9,ya4,ya4]
  cases p a with
  | false=>simp
  | true=>simp only [if_true,yaq,zb8 p l m];omega
theorem zfb (s:Z) (m:Nat):z6n (s.take m)=min m (z6n s):=zb8 isD s m
theorem head_take {s:Z} {m:Nat} (h:0<m):(s.take m).head? = s.head?:=by
 cases s with
 | nil=>simp
 | cons c r =>
  obtain ⟨m,rfl⟩:∃ k,m=k+1:=⟨m - 1,by omega⟩
  simp
theorem zvi {s:Z} {m:Nat} (h:0<m) (h2:z7u s≤m):z7u (s.take m)=z7u s:=by
 unfold z7u at *
 rw [head_take h,zfb]
 split at h2
 ·rename_i hc;rw [if_pos hc,if_pos hc]
 ·rename_i hc;rw [if_neg hc,if_neg hc];omega
theorem zv7 {s:Z} {m:Nat} (h:zau s≤m):zau (s.take m)=zau s:=by
 cases s with
 | nil=>simp
 | cons c r =>
  cases m with
  | zero =>
   simp only [List.take_zero,frac_nil]
   omega
  | succ m =>
   rw [ya9,zfm,zfm,zfb]
   rw [zfm] at h
   by_cases hc:c=46
   ·simp only [hc,if_true] at h ⊢
    by_cases hd:0<z6n r
    ·rw [if_pos hd] at h ⊢
     have:min m (z6n r)=z6n r:=by omega
     rw [this,if_pos hd]
    ·rw [if_neg hd,if_neg (by omega)]
   ·simp [hc]
theorem zxk {s:Z} {m:Nat} (h:0<m):z9a (s.take m)=z9a s:=by unfold z9a;rw [head_take h]
theorem zz00u {s:Z} {m:Nat} (h:0<m):sgn (s.take m)=sgn s:=by unfold sgn;rw [head_take h]
theorem zuw (s:Z):zh9 (s.take (zh9 s))=zh9 s:=by
 cases s with
 | nil=>rfl
 | cons c r =>
  by_cases hc:c=101∨c=69
  ·by_cases hd:0<z6n (r.drop (z9a r))
   ·have e:zh9 (c::r)=1+z9a r+z6n (r.drop (z9a r)):=by simp [zh9,hc,hd]
    rw [e]
    have e2:(c::r).take (1+z9a r+z6n (r.drop (z9a r)))=c::r.take (z9a r+z6n (r.drop (z9a r))):=by
     rw [show 1+z9a r+z6n (r.drop (z9a r))=(z9a r+z6n (r.drop (z9a r)))+1 by omega,ya9]
    rw [e2]
    have e3:z9a (r.take (z9a r+z6n (r.drop (z9a r))))=z9a r:=zxk (by omega)
    have e4:z6n ((r.take (z9a r+z6n (r.drop (z9a r)))).drop (z9a r))=z6n (r.drop (z9a r)):=by
     rw [yad,zfb]
     omega
    unfold zh9
    simp only [hc,if_true,e3,e4,hd]
   ·have e:zh9 (c::r)=0:=by simp [zh9,hd]
    rw [e]
    rfl
  ·have e:zh9 (c::r)=0:=by simp [zh9,hc]
   rw [e]
   rfl
theorem zz008 (s:Z):num (s.take (num s))=num s:=by
 by_cases hz:z7u (s.drop (sgn s))=0
 ·have:num s=0:=by unfold num;simp [hz]
  rw [this]
  rfl
 have e:num s=sgn s+z7u (s.drop (sgn s))+zau (s.drop (sgn s+z7u (s.drop (sgn s))))+zh9 (s.drop (sgn s+z7u (s.drop (sgn s))+zau (s.drop (sgn s+z7u (s.drop (sgn s)))))):=by
  conv=>lhs;unfold num
  simp only [hz,if_false]
 generalize hn:num s=n at e ⊢
 have hs:sgn (s.take n)=sgn s:=zz00u (by omega)
 have h1:z7u ((s.take n).drop (sgn s))=z7u (s.drop (sgn s)):=by
  rw [yad,zvi (by omega) (by omega)]
 have h2:zau ((s.take n).drop (sgn s+z7u (s.drop (sgn s))))=zau (s.drop (sgn s+z7u (s.drop (sgn s)))):=by
  rw [yad,zv7 (by omega)]
 have h3:zh9 ((s.take n).drop (sgn s+z7u (s.drop (sgn s))+zau (s.drop (sgn s+z7u (s.drop (sgn s))))))=zh9 (s.drop (sgn s+z7u (s.drop (sgn s))+zau (s.drop (sgn s+z7u (s.drop (sgn s)))))):=by
  rw [yad]
  have:n - (sgn s+z7u (s.drop (sgn s))+zau (s.drop (sgn s+z7u (s.drop (sgn s)))))=zh9 (s.drop (sgn s+z7u (s.drop (sgn s))+zau (s.drop (sgn s+z7u (s.drop (sgn s)))))):=by omega
  rw [this,zuw]
 unfold num
 simp only [hs,h1,hz,if_false,h2,h3]
 exact e.symm
theorem zgz:∀ (f:Nat) (s acc t r:Z),txt f s acc=some (t,r)→Lib.validD t=true
 | 0,_,_,_,_,h=>by simp [txt] at h
 | _+1,[],_,_,_,h=>by simp [txt] at h
 | f+1,c::s,acc,t,r,h=>by
  rw [txt] at h
  split at h
  ·cases h
  ·split at h
   ·split at h
    ·rename_i hv;cases h;exact hv
    ·cases h
   ·split at h
    ·split at h
     ·cases h
     ·exact zgz f _ _ _ _ h
    ·exact zgz f _ _ _ _ h
theorem zim {s t r:Z} (h:text s=some (t,r)):Lib.validD t=true:=by
 unfold text at h
 split at h
 ·split at h
  ·exact zgz _ _ _ _ _ h
  ·cases h
 ·cases h
theorem zvs {s:Z} {ks:List Z} {r:Z} {ks2:List Z} (h:zto s ks = .ok (r,ks2)):∃ k,ks2=ks++[k]∧¬k∈ks∧Lib.validD k=true:=by
 unfold zto at h
 split at h
 ·cases h
 ·rename_i k r1 ht
  split at h
  ·cases h
  ·rename_i hk
   split at h
   ·cases h
   ·cases h;exact ⟨k,rfl,hk,zim ht⟩
theorem zq2:∀ {l:List J} {w:Nat},zh5 l w=0↔∀ x∈l,zc2 x w=0
 | [],w=>by simp [zh5]
 | x::l,w=>by
  rw [zf3]
  by_cases hc:zc2 x w=0
  ·simp [hc,zq2 (l:=l)]
  ·simp [hc]
theorem zsd {n:Nat} {ks:List Z} (h1:ks.length=n) (h2:ks.Nodup) (h3:∀ k∈ks,Lib.validD k=true):frm 6 [] n ks=true:=by
 unfold frm
 simp [h1,h2]
 exact h3
theorem zvl {vf:Z→Rd} {o:Bool} {e:UInt8} {w:Nat} (hw:w<16) (hv:∀ s x r,vf s = .ok (x,r)→zc2 x (w+1)=0):∀ (f:Nat) (s:Z) (l:List J) (ks:List Z) (x:J) (r:Z),
  zh5 l (w+1)=0→(o=true→ks.length=l.length)→(o=false→ks=[])→ks.Nodup→(∀ k∈ks,Lib.validD k=true)→items vf o e f s l ks = .ok (x,r)→zc2 x w=0:=by
 intro f
 induction f with
 | zero=>intro s l ks x r _ _ _ _ _ h;simp [items] at h
 | succ f ih =>
  intro s l ks x r hl hk hk2 hnd hvk h
  rw [items] at h
  split at h
  ·cases h
  ·rename_i s1 ks1 hks
   have h1:(o=true→ks1.length=l.length+1)∧(o=false→ks1=[])∧ks1.Nodup∧∀ k∈ks1,Lib.validD k=true:=by
    split at hks
    ·rename_i ho
     obtain ⟨k,rfl,k1,k2⟩:=zvs hks
     refine ⟨fun _=>by simp [hk ho],fun h=>absurd (ho.symm.trans h) (by decide),?_,?_⟩
     ·rw [yaz]
      exact ⟨hnd,by simp,fun a ha b hb=>by simp at hb;subst hb;intro e;subst e;exact k1 ha⟩
     ·intro z hz
      rcases yaw.1 hz with hz|hz
      ·exact hvk z hz
      ·simp at hz;subst hz;exact k2
    ·rename_i ho
     cases hks
     exact ⟨fun h=>absurd h ho,hk2,hnd,hvk⟩
   obtain ⟨a1,a2,a3,a4⟩:=h1
   split at h
   ·cases h
   ·rename_i x2 s2 hx
    have hx2:=hv _ _ _ hx
    have hl2:zh5 (l++[x2]) (w+1)=0:=by
     rw [zq2] at hl ⊢
     intro y hy
     rcases yaw.1 hy with hy|hy
     ·exact hl y hy
     ·simp at hy;subst hy;exact hx2
    split at h
    ·cases h
     rw [z8l]
     simp only
     have h16:¬(16≤w):=by omega
     cases o with
     | false =>
      have:=a2 rfl
      subst this
      have hf:frm 5 [] (l++[x2]).length []=true:=by simp [frm]
      simp only [yk,if_false]
      rw [if_neg (fun h=>h16 h.2),hf]
      simpa using hl2
     | true =>
      have hf:frm 6 [] (l++[x2]).length ks1=true:=zsd (by simpa using a1 rfl) a3 a4
      simp only [if_true]
      rw [if_neg (fun h=>h16 h.2),hf]
      simpa using hl2
    ·split at h
     ·cases h
     ·exact ih _ _ _ _ _ hl2 (fun h=>by simpa using a1 h) a2 a3 a4 h
theorem zr8 {vf:Z→Rd} {o:Bool} {w:Nat} (hv:w<16→∀ s x r,vf s = .ok (x,r)→zc2 x (w+1)=0) {s r:Z} {x:J} (h:nest vf o w s = .ok (x,r)):zc2 x w=0:=by
 unfold nest at h
 split at h
 ·cases h
 ·rename_i h16
  split at h
  ·cases h
   rw [z8l]
   cases o with
   | false=>simp [frm,h16,zh5]
   | true=>simp [frm,h16,zh5]
  ·exact zvl (by omega) (hv (by omega)) _ _ _ _ _ _ rfl (fun _=>rfl) (fun _=>rfl) (by simp) (fun k hk=>by cases hk) h
theorem zz01c {s r:Z} {x:J} {w:Nat} (h:word s = .ok (x,r)):zc2 x w=0:=by
 unfold word at h
 split at h
 ·cases h;rw [z8l];simp [frm,zh5]
 ·split at h
  ·cases h;rw [z8l];simp [frm,zh5]
  ·split at h
   ·cases h;rw [z8l];simp [frm,zh5]
   ·split at h
    ·cases h
    ·rename_i hn
     cases h
     have h1:=zz008 s
     have h2:=zm6 s
     have h3:(s.take (num s)).length=num s:=by rw [yav];omega
     have h4:¬s.take (num s)=[]:=fun e=>by rw [e] at h3;simp at h3;omega
     have hf:frm 3 (s.take (num s)) 0 []=true:=by
      unfold frm
      rw [if_neg (by decide),if_pos rfl,h1,h3]
      simp [h4]
     rw [z8l]
     simp [hf,zh5]
theorem zz05v:∀ (f:Nat) (s:Z) (w:Nat) (x:J) (r:Z),val f s w = .ok (x,r)→zc2 x w=0:=by
 intro f
 induction f with
 | zero=>intro s w x r h;simp [val] at h
 | succ f ih =>
  intro s w x r h
  rw [val] at h
  split at h
  ·rename_i t r2 ht
   have hv:=zim ht
   cases h
   rw [z8l]
   simp [frm,zh5,hv]
  ·split at h
   ·cases h
   ·split at h
    ·exact zr8 (fun _ s x r=>ih s (w+1) x r) h
    ·split at h
     ·exact zr8 (fun _ s x r=>ih s (w+1) x r) h
     ·exact zz01c h
theorem zzt {s:Z} {ks:List Z} {c:Int} (h:zto s ks = .pan c):c=20:=by
 unfold zto at h
 split at h
 ·injection h with h;exact h.symm
 ·split at h
  ·injection h with h;exact h.symm
  ·split at h
   ·injection h with h;exact h.symm
   ·cases h
theorem zvm {vf:Z→Rd} {o:Bool} {e:UInt8} (hv:∀ s c,vf s = .pan c→c=20∨c=21):∀ (f:Nat) (s:Z) (l:List J) (ks:List Z) (c:Int),items vf o e f s l ks = .pan c→c=20∨c=21:=by
 intro f
 induction f with
 | zero=>intro s l ks c h;simp only [items] at h;injection h with h;exact .inl h.symm
 | succ f ih =>
  intro s l ks c h
  rw [items] at h
  split at h
  ·rename_i hk
   split at hk
   ·injection h with h;subst h;exact .inl (zzt hk)
   ·cases hk
  ·split at h
   ·rename_i hx;injection h with h;subst h;exact hv _ _ hx
   ·split at h
    ·cases h
    ·split at h
     ·injection h with h;exact .inl h.symm
     ·exact ih _ _ _ _ h
theorem zr9 {vf:Z→Rd} {o:Bool} {w:Nat} (hv:∀ s c,vf s = .pan c→c=20∨c=21) {s:Z} {c:Int} (h:nest vf o w s = .pan c):c=20∨c=21:=by
 unfold nest at h
 split at h
 ·injection h with h;exact .inr h.symm
 ·split at h
  ·cases h
  ·exact zvm hv _ _ _ _ _ h
theorem zz05w:∀ (f:Nat) (s:Z) (w:Nat) (c:Int),val f s w = .pan c→c=20∨c=21:=by
 intro f
 induction f with
 | zero=>intro s w c h;simp only [val] at h;injection h with h;exact .inl h.symm
 | succ f ih =>
  intro s w c h
  rw [val] at h
  split at h
  ·cases h
  ·split at h
   ·injection h with h;exact .inl h.symm
   ·split at h
    ·exact zr9 (fun s c=>ih s (w+1) c) h
    ·split at h
     ·exact zr9 (fun s c=>ih s (w+1) c) h
     ·unfold word at h
      split at h
      ·cases h
      ·split at h
       ·cases h
       ·split at h
        ·cases h
        ·split at h
         ·injection h with h;exact .inl h.symm
         ·cases h
theorem zoq (s:Z):(∃ x,parse s=(x,0)∧zc2 x 0=0)∨∃ c,parse s=(⟨0,[],[],[]⟩,c)∧(c=20∨c=21∨c=22):=by
 unfold parse
 split
 ·exact .inr ⟨22,rfl,by simp⟩
 ·split
  ·rename_i c hc
   rcases zz05w _ _ _ _ hc with h|h
   ·exact .inr ⟨c,rfl,.inl h⟩
   ·exact .inr ⟨c,rfl,.inr (.inl h)⟩
  ·rename_i y r hv
   split
   ·exact .inl ⟨y,rfl,zz05v _ _ _ _ _ hv⟩
   ·exact .inr ⟨20,rfl,.inl rfl⟩
end
section
open Go.Lk Go.Pe Go.RowKit
theorem zxv {s t r:Z} (ht:text s=some (t,r)):t.length+4*r.length+4≤4*s.length:=by
 unfold text at ht
 split at ht
 ·split at ht
  ·have tl:∀ (f:Nat) (s acc t r:Z),txt f s acc=some (t,r)→t.length+4*r.length≤acc.length+4*s.length:=by
    intro f
    induction f with
    | zero=>intro s acc t r h;simp [txt] at h
    | succ f ih =>
     intro s acc t r h
     cases s with
     | nil=>simp [txt] at h
     | cons c s =>
      rw [txt] at h
      split at h
      ·cases h
      ·split at h
       ·split at h
        ·cases h;simp;omega
        ·cases h
       ·split at h
        ·split at h
         ·cases h
         ·rename_i t1 r1 he
          have h1:=zeo he
          have h2:=ih _ _ _ _ h
          simp only [yap,yaq] at *
          omega
        ·have h2:=ih _ _ _ _ h
         simp only [yap,yaq,yat] at *
         omega
   have:=tl _ _ _ _ _ ht
   simp only [yaq,yat] at *
   omega
  ·cases ht
 ·cases ht
theorem zzp {vf:Z→Rd} {o:Bool} {e:UInt8} (hv:∀ s x r,vf s = .ok (x,r)→x.sz+8*r.length≤8*s.length):∀ (f:Nat) (s:Z) (l:List J) (ks:List Z) (x:J) (r:Z),items vf o e f s l ks = .ok (x,r)→x.sz+8*r.length≤8*s.length+szs l+kys ks:=by
 intro f
 induction f with
 | zero=>intro s l ks x r h;simp [items] at h
 | succ f ih =>
  intro s l ks x r h
  rw [items] at h
  have app1:∀ (l:List J) (x:J),szs (l++[x])=szs l+x.sz+1:=fun l x=>by
   induction l with
   | nil=>simp [szs]
   | cons y l ih=>simp only [yv,szs,ih];omega
  have app2:∀ (l:List Z) (x:Z),kys (l++[x])=kys l+x.length+1:=fun l x=>by
   induction l with
   | nil=>simp [kys]
   | cons y l ih=>rw [yv,z6l,z6l,ih];omega
  split at h
  ·cases h
  ·rename_i s1 ks1 hk
   have h1:kys ks1+8*s1.length≤8*s.length+kys ks:=by
    split at hk
    ·unfold zto at hk
     split at hk
     ·cases hk
     ·rename_i k r1 ht
      have g1:=zcz ht
      have g2:=z2v r1
      have g5:=zxv ht
      split at hk
      ·cases hk
      ·split at hk
       ·cases hk
       ·rename_i r2 ht2
        have g3:=take_len ht2
        simp only [yaq,yat] at g3
        simp only [Rs.ok.injEq,Prod.mk.injEq] at hk
        obtain ⟨rfl,rfl⟩:=hk
        rw [app2]
        omega
    ·simp only [Rs.ok.injEq,Prod.mk.injEq] at hk
     obtain ⟨rfl,rfl⟩:=hk
     omega
   split at h
   ·cases h
   ·rename_i x2 s2 hx
    have h2:=hv _ _ _ hx
    split at h
    ·rename_i r2 ht
     have h3:=take_len ht
     simp only [yaq,yat] at h3
     simp only [Rs.ok.injEq,Prod.mk.injEq] at h
     obtain ⟨rfl,rfl⟩:=h
     rw [q04.zhm]
     simp only [app1,yat]
     omega
    ·split at h
     ·cases h
     ·rename_i r2 ht
      have h3:=take_len ht
      simp only [yaq,yat] at h3
      have h4:=ih _ _ _ _ _ h
      rw [app1] at h4
      omega
theorem zwf {vf:Z→Rd} {o:Bool} {w:Nat} (hv:∀ s x r,vf s = .ok (x,r)→x.sz+8*r.length≤8*s.length) {s r:Z} {x:J} (h:nest vf o w s = .ok (x,r)):x.sz+8*r.length≤8*s.length:=by
 unfold nest at h
 split at h
 ·cases h
 ·split at h
  ·rename_i r2 ht
   have:=take_len ht
   simp only [Rs.ok.injEq,Prod.mk.injEq] at h
   obtain ⟨rfl,rfl⟩:=h
   simp only [yaq,yat] at this
   simp only [q04.sz,szs,kys_nil,yat]
   omega
  ·exact zzp hv _ _ _ _ _ _ h
theorem zz05z {s r:Z} {x:J} (h:word s = .ok (x,r)):x.sz+8*r.length≤8*s.length:=by
 have hl:=zrt h
 unfold word at h
 split at h
 ·simp only [Rs.ok.injEq,Prod.mk.injEq] at h
  obtain ⟨rfl,rfl⟩:=h
  simp only [q04.sz,szs,kys_nil,yat]
  omega
 ·split at h
  ·simp only [Rs.ok.injEq,Prod.mk.injEq] at h
   obtain ⟨rfl,rfl⟩:=h
   simp only [q04.sz,szs,kys_nil,yat]
   omega
  ·split at h
   ·simp only [Rs.ok.injEq,Prod.mk.injEq] at h
    obtain ⟨rfl,rfl⟩:=h
    simp only [q04.sz,szs,kys_nil,yat]
    omega
   ·split at h
    ·cases h
    ·simp only [Rs.ok.injEq,Prod.mk.injEq] at h
     obtain ⟨rfl,rfl⟩:=h
     have h1:=z2v (s.drop (num s))
     have h2:=zm6 s
     rw [yar] at h1
     simp only [q04.sz,szs,kys_nil,yat,yav]
     omega
theorem zz092:∀ (f:Nat) (s:Z) (w:Nat) (x:J) (r:Z),val f s w = .ok (x,r)→x.sz+8*r.length≤8*s.length:=by
 intro f
 induction f with
 | zero=>intro s w x r h;simp [val] at h
 | succ f ih =>
  intro s w x r h
  rw [val] at h
  split at h
  ·rename_i t r2 ht
   have h1:=zcz ht
   have h2:=z2v r2
   have h3:=zxv ht
   simp only [Rs.ok.injEq,Prod.mk.injEq] at h
   obtain ⟨rfl,rfl⟩:=h
   simp only [q04.sz,szs,kys_nil]
   omega
  ·split at h
   ·cases h
   ·split at h
    ·rename_i r2 ht
     have h1:=take_len ht
     have h2:=zwf (fun s x r=>ih s (w+1) x r) h
     omega
    ·split at h
     ·rename_i r2 ht
      have h1:=take_len ht
      have h2:=zwf (fun s x r=>ih s (w+1) x r) h
      omega
     ·exact zz05z h
theorem zz00e (s:Z):(parse s).1.sz≤131072:=by
 unfold parse
 have h0:(⟨0,[],[],[]⟩:J).sz≤131072:=by decide
 split
 ·exact h0
 ·rename_i hl
  split
  ·exact h0
  ·rename_i y r hv
   have h1:=zz092 _ _ _ _ _ hv
   have h2:=z2v s
   split
   ·simp only;omega
   ·exact h0
end
section
open Go.Lk Go.Pe
def nulJ:J:=⟨0,[],[],[]⟩
def z88 (v:J) (k:Z):J × Bool:=if v.zh=6 then (match v.z08.findIdx? (fun x=>decide (k=x)) with
 | some j=>(match v.zk[j]? with|some x=>(x,true)|none=>(nulJ,false))
 | none=>(nulJ,false)) else (nulJ,false)
theorem zb1 {v:J} {k:Z} (h:v.z08.length<1000000000):M.q3c v k=some (z88 v k):=by
 unfold M.q3c z88
 rw [zqu (by omega)]
 simp only [ya,yc]
 by_cases h6:v.zh=6
 ·simp only [h6,decide_true,yq,if_true]
  grind [z4k,nulJ]
 grind [nulJ]
theorem zwc {v:J} {k:Z} (hl:v.z08.length<1000000000):∀ (n i:Nat),v.z08.length - i=n→i≤v.z08.length →
  M.z3n v k (i:Int)=some (match (v.z08.drop i).findIdx? (fun x=>decide (k=x)) with|some j=>(match v.zk[i+j]? with|some x => .done (x,true)|none => .go ())|none => .go ()):=by
 intro n
 induction n with
 | zero =>
  intro i hn hi
  rw [M.z3n.eq_1]
  have:¬((i:Int)<(v.z08.length:Int)):=by omega
  grind
 | succ n ih =>
  intro i hn hi
  have hlt:i<v.z08.length:=by omega
  rw [M.z3n.eq_1]
  have h1:((i:Int)<(v.z08.length:Int)):=by omega
  rw [yz hlt,yag]
  by_cases h2:i<v.zk.length
  ·have h2':((i:Int)<(v.zk.length:Int)):=by omega
   simp only [h1,h2',decide_true,Bool.and_true,if_true,z4k,yak hlt,yak h2,ya,yc]
   rw [w1 (by omega),ih (i+1) (by omega) (by omega)]
   by_cases he:k=v.z08[i]
   ·grind
   ·have he':¬v.z08[i]=k:=fun e=>he e.symm
    simp only [he,he',decide_false,yk,if_false]
    cases (v.z08.drop (i+1)).findIdx? (fun x=>decide (k=x)) with
    | none=>rfl
    | some j =>
     grind
  ·have h2':¬((i:Int)<(v.zk.length:Int)):=by omega
   have nn:∀ j,v.zk[i+j]? = none:=fun j=>yal (by omega)
   rw [if_neg (by simp [h2'])]
   split
   ·grind
   ·rfl
theorem zcu {v:J} {k:Z} (h:v.z08.length<1000000000):M.q4p v k=some (z88 v k):=by
 unfold M.q4p z88
 by_cases h6:v.zh=6
 ·have hk:=zwc (v:=v) (k:=k) h _ 0 rfl (ybo _)
  have hk:M.z3n v k 0=_:=hk
  simp only [h6,decide_true,yo,yk,if_false,if_true,hk,yae,ybn,ya,yc]
  cases v.z08.findIdx? (fun x=>decide (k=x)) with
  | none=>rfl
  | some j =>
   simp only
   cases v.zk[j]? with
   | none=>rfl
   | some x=>rfl
 grind [nulJ]
theorem zz04l (v:J) (k:Z):(z88 v k).1.sz≤v.sz:=by
 have h1:=q04.zhm v
 have h0:nulJ.sz=1:=by decide
 unfold z88
 split
 ·split
  ·split
   ·rename_i x hx
    have:=zk9 (List.mem_of_getElem? hx)
    grind
   grind
  grind
 grind
def texts:List J→Option (List Z)
 | []=>some []
 | x::l=>if x.zh=4 then (texts l).map (x.z0i :: ·) else none
theorem zls {v:J} (hl:v.zk.length<1000000000):∀ (n i:Nat) (acc:List Z),v.zk.length - i=n→i≤v.zk.length→acc.length+n<1000000000 →
  M.z48 v acc (i:Int)=some (match texts (v.zk.drop i) with|some l => .go (acc++l)|none => .done ([],false)):=by
 intro n
 induction n with
 | zero =>
  intro i acc hn hi ha
  rw [M.z48.eq_1]
  have:¬((i:Int)<(v.zk.length:Int)):=by omega
  simp_all [if_neg,yaa,texts]
 | succ n ih =>
  intro i acc hn hi ha
  have hlt:i<v.zk.length:=by omega
  rw [M.z48.eq_1]
  have h1:((i:Int)<(v.zk.length:Int)):=by omega
  simp only [h1,decide_true,if_true,z4k,yak hlt,ya,yc]
  rw [yz hlt,texts]
  by_cases h4:(v.zk[i]).zh=4
  ·simp only [h4,decide_true,yo,yk,if_false,if_true]
   rw [z36 (by grind),w1 (by omega)]
   simp only [yc]
   rw [ih (i+1) _ (by omega) (by omega) (by simp;omega)]
   grind
  ·simp [h4]
theorem zou {v:J} (hl:v.zk.length<1000000000):∀ (n i:Nat) (acc:List Z),v.zk.length - i=n→i≤v.zk.length→acc.length+n<1000000000 →
  M.z4t v acc (i:Int)=some (match texts (v.zk.drop i) with|some l => .go (acc++l)|none => .done ([],false)):=by
 intro n
 induction n with
 | zero =>
  intro i acc hn hi ha
  rw [M.z4t.eq_1]
  have:¬((i:Int)<(v.zk.length:Int)):=by omega
  simp_all [if_neg,yaa,texts]
 | succ n ih =>
  intro i acc hn hi ha
  have hlt:i<v.zk.length:=by omega
  rw [M.z4t.eq_1]
  have h1:((i:Int)<(v.zk.length:Int)):=by omega
  simp only [h1,decide_true,if_true,z4k,yak hlt,ya,yc]
  rw [yz hlt,texts]
  by_cases h4:(v.zk[i]).zh=4
  ·simp only [h4,decide_true,yo,yk,if_false,if_true]
   rw [z36 (by grind),w1 (by omega)]
   simp only [yc]
   rw [ih (i+1) _ (by omega) (by omega) (by simp;omega)]
   grind
  ·simp [h4]
def z7s (v:J):List Z × Bool:=if v.zh=5 then (match texts v.zk with|some l=>(l,true)|none=>([],false)) else ([],false)
theorem zcn {v:J} (hl:v.zk.length<100000000):M.q3f v=some (z7s v):=by
 unfold M.q3f z7s
 by_cases h5:v.zh=5
 ·have hk:=zls (v:=v) (by omega) _ 0 [] rfl (ybo _) (by simp;omega)
  grind
 ·simp [h5]
theorem zmh {v:J} (hl:v.zk.length<100000000):M.q4u v=some (z7s v):=by
 unfold M.q4u z7s
 by_cases h5:v.zh=5
 ·have hk:=zou (v:=v) (by omega) _ 0 [] rfl (ybo _) (by simp;omega)
  grind
 ·simp [h5]
theorem zpb (l:List Z) (hl:l.length<1000000000):∀ (n i:Nat),l.length - i=n→i≤l.length→M.z2d l l (i:Int)=some (.go ()):=by
 intro n
 induction n with
 | zero =>
  intro i hn hi
  rw [M.z2d.eq_1]
  grind
 | succ n ih =>
  intro i hn hi
  have hlt:i<l.length:=by omega
  rw [M.z2d.eq_1]
  have h1:((i:Int)<(l.length:Int)):=by omega
  simp only [h1,decide_true,if_true,z4k,yak hlt,ya,yc,yo,yk,if_false]
  grind [w1]
theorem zms {l:List Z} (hl:l.length<1000000000):M.q4s l l=some true:=by
 unfold M.q4s
 have:M.z2d l l 0=some (.go ()):=zpb l hl _ 0 rfl (ybo _)
 simp [this]
def zl5 (a:Nat) (c:UInt8):Nat:=10*a+(c.toNat - 48)
def zbe (a:Nat) (l:Z):Nat:=l.foldl zl5 a
theorem zaa (a:Nat) (c:UInt8):zl5 a c=10*a+(c.toNat - 48):=rfl
theorem zq8 (a:Nat):zbe a []=a:=rfl
theorem zc5 (a:Nat) (c:UInt8) (r:Z):zbe a (c::r)=zbe (zl5 a c) r:=by rfl
theorem zyu (l:Z) (a:Nat) (c:UInt8):zbe a (l++[c])=zl5 (zbe a l) c:=by
 grind [zbe]
theorem zlr {c:UInt8} (h:isD c=true):48≤c.toNat∧c.toNat≤57:=by
 grind [isD]
theorem zun:∀ (l:Z) (a k:Nat),(∀ c∈l,isD c=true)→a<10 ^ k→zbe a l<10 ^ (k+l.length)
 | [],a,k,_,h=>by grind [zq8]
 | c::l,a,k,hd,h=>by
  have h1:=zlr (hd c (by simp))
  have h2:zl5 a c<10 ^ (k+1):=by rw [zaa,ybk];omega
  have:=zun l _ (k+1) (fun x hx=>hd x (by simp [hx])) h2
  grind [zc5]
theorem zz050 {a:Nat} {c:UInt8} {l:Z} (hd:isD c=true) (ha:a<1000000000000000):Lib.parseUint10 a (c::l)=Lib.parseUint10 (zl5 a c) l:=by
 have h1:=zlr hd
 have e:a*10+(c.toNat - 48)=zl5 a c:=by rw [zaa];omega
 rw [Lib.parseUint10,e,if_pos h1,if_neg (by omega),if_neg (by omega)]
@[reducible] def noN:Lib.NumEnd Nat:=Lib.parseMag []
theorem zz051 {a:Nat} {c:UInt8} {l:Z} (hd:isD c=false):Lib.parseUint10 a (c::l)=noN:=by
 have h1:¬(48≤c.toNat∧c.toNat≤57):=fun x=>by
  grind [isD]
 rw [Lib.parseUint10,if_neg h1];rfl
theorem zz04w {N:Nat} (hN:N≤1000000000000000) (l:Z):∀ a:Nat,(a+1)*10 ^ l.length≤N→Lib.parseUint10 a l=if (l.all isD)=true then .ok (zbe a l) else noN:=by
 induction l with
 | nil=>intro a _;rfl
 | cons c l ih =>
  intro a ha
  have hpos:0<10 ^ l.length:=Nat.pow_pos (by decide)
  rw [yaq,ybk] at ha
  cases hd:isD c with
  | true =>
   have h1:=zlr hd
   have h3:(a+1)*(10 ^ l.length*10)=(10*a+10)*10 ^ l.length:=by
    rw [ybi (10 ^ l.length) 10,←Nat.mul_assoc]
    congr 1
    omega
   rw [h3] at ha
   have h4:a+1≤(10*a+10)*10 ^ l.length:=by
    have:=Nat.le_mul_of_pos_right (10*a+10) hpos
    omega
   have h2:(zl5 a c+1)*10 ^ l.length≤N:=by
    refine ybf (Nat.mul_le_mul_right _ ?_) ha
    rw [zaa]
    omega
   rw [zz050 hd (by omega),ih _ h2,List.all_cons,hd,zc5,yq]
  | false=>grind [zz051]
theorem zop {l:Z} (hl:l.length≤15):Lib.parseMag l=if l=[] then noN else if (l.all isD)=true then .ok (zbe 0 l) else noN:=by
 unfold Lib.parseMag
 rw [zz04w (N:=10 ^ 15) (by decide) l 0 (by rw [ybn,Nat.one_mul];exact ybj (by decide) hl)]
 rfl
theorem zm7 {c:UInt8} (h:isD c=true):ybr (48+(c.toNat - 48))=c:=by
 simp_all [zlr]
theorem znr {n:Nat} (h:n<10):isD (ybr (48+n))=true∧(ybr (48+n)=48→n=0):=by
 have tab:∀ n:Fin 10,isD (ybr (48+n.val))=true∧(ybr (48+n.val)=48→n.val=0):=by decide
 exact tab ⟨n,h⟩
theorem zf9:∀ (n u:Nat),u≤n→(∀ c∈Lib.decDigits u,isD c=true)∧¬Lib.decDigits u=[]∧((Lib.decDigits u).head? = some 48→u=0)
 | n,u,hu=>by
  rw [Lib.decDigits]
  by_cases h:u<10
  ·rw [dif_pos h]
   refine ⟨fun c hc => ?_,List.cons_ne_nil _ _,fun he => ?_⟩
   ·grind [znr]
   grind [znr]
  ·rw [dif_neg h]
   match n,hu with
   | n+1,hu =>
    obtain ⟨h1,h2,h3⟩:=zf9 n (u / 10) (by omega)
    refine ⟨fun c hc => ?_,by simp,fun he => ?_⟩
    ·grind [znr]
    ·rw [zzf,if_neg h2] at he
     grind
   | 0,hu=>omega
theorem zq9:∀ (l:Z) (a:Nat),0<a→0<zbe a l
 | [],a,h=>h
 | c::l,a,h=>zq9 l _ (by rw [zaa];omega)
theorem zj6:∀ (n:Nat) (l:Z),l.length=n→(∀ c∈l,isD c=true)→¬l=[]→(l.head? = some 48→l.length=1)→Lib.decDigits (zbe 0 l)=l:=by
 intro n
 induction n with
 | zero=>simp
 | succ n ih =>
  intro l' hn hd hne hh
  obtain ⟨l,c,rfl⟩:∃ l c,l'=l++[c]:=⟨l'.dropLast,l'.getLast hne,(List.dropLast_concat_getLast hne).symm⟩
  have hln:l.length=n:=by simpa using hn
  rw [zyu,zaa]
  have hc:=hd c (by simp)
  have hn:=zlr hc
  by_cases hl:l=[]
  ·subst hl
   rw [zq8,Lib.decDigits,dif_pos (by omega)]
   grind [zm7]
  ·have hh':¬l.head? = some 48:=fun e=>by
    grind
   have ihl:=ih l hln (fun x hx=>hd x (by simp [hx])) hl (fun e=>absurd e hh')
   have hp:0<zbe 0 l:=by
    cases l with
    | nil=>grind
    | cons d r =>
     have h1:=zlr (hd d (by simp))
     have h2:¬d=48:=fun e=>hh' (by rw [e];rfl)
     have h3:¬d.toNat=48:=fun e=>h2 (by rw [show (48:UInt8)=ybr 48 from rfl,←e];simp)
     grind [zc5,zq9,zaa]
   rw [Lib.decDigits,dif_neg (by omega)]
   have e1:(10*zbe 0 l+(c.toNat - 48)) / 10=zbe 0 l:=by omega
   have e2:(10*zbe 0 l+(c.toNat - 48)) % 10=c.toNat - 48:=by omega
   grind [zm7]
def mag (t:Z):Z:=if t.head? = some 45 then t.drop 1 else t
def way (t:Z):Int:=if t.head? = some 45 then -1 else 1
def canon (t:Z):Bool := !decide (mag t=[])&&(mag t).all isD&&decide ((mag t).length≤15) && !(decide ((mag t).head? = some 48)&&(decide (1<(mag t).length)||decide (way t<0)))
def intOf (v:J):Int × Bool:=if v.zh=3∧canon v.z0i=true then (way v.z0i*(zbe 0 (mag v.z0i):Int),true) else (0,false)
end
section
open Go.Lk Go.Pe
theorem seek {α R X:Type} {l:List α} {p:α→Bool} {F:Int→Option (Jn R X)} (d:Nat→R) (x0:X) (hl:l.length<1152921504606846976)
  (hF:∀ (i:Nat) (h:i<l.length),F (i:Int)=if p l[i]=true then some (.done (d i)) else F (ybq .i64 ((i:Int)+1))) (hE:F (l.length:Int)=some (.go x0)) :
  F 0=some (match l.findIdx? p with|some i => .done (d i)|none => .go x0):=by
 have key:∀ (n i:Nat),l.length - i=n→i≤l.length→F (i:Int)=some (match (l.drop i).findIdx? p with|some k => .done (d (i+k))|none => .go x0):=by
  intro n
  induction n with
  | zero =>
   intro i h1 h2
   have:i=l.length:=by omega
   subst this
   simp [hE]
  | succ n ih =>
   intro i h1 h2
   have hi:i<l.length:=by omega
   rw [hF i hi,zq7 hi,yag]
   cases hp:p l[i] with
   | true=>simp
   | false =>
    rw [w1 (by omega),ih (i+1) (by omega) (by omega)]
    simp only [yk,if_false]
    cases (l.drop (i+1)).findIdx? p with
    | none=>rfl
    | some k=>simp [yba,ybb 1 k]
 have:=key _ 0 rfl (ybo _)
 simpa using this
theorem zqk {α:Type} (l:List α) (p:α→Bool):(l.findIdx? (fun x => !p x)=none∧l.all p=true)∨∃ i,l.findIdx? (fun x => !p x)=some i∧l.all p=false:=by
 have e:l.all p = !(l.any fun x => !p x):=by rw [List.all_eq_not_any_not]
 have:=List.findIdx?_isSome (xs:=l) (p:=fun x => !p x)
 cases h:l.findIdx? (fun x => !p x) with
 | none=>rw [h] at this;exact .inl ⟨rfl,by rw [e,←this];rfl⟩
 | some i=>rw [h] at this;exact .inr ⟨i,rfl,by rw [e,←this];rfl⟩
theorem zhz {α:Type} (p:α→Bool) (l:List α):l.dropWhile p=[]↔l.all p=true:=by
 induction l with
 | nil=>simp
 | cons a l ih =>
  rw [yw]
  cases h:p a<;>simp [h,ih]
theorem zgy {l cs:Z}:decide (Lib.trimS l cs=[])=l.all cs.contains:=by
 rw [yj,decide_eq_true_iff,zn5,ys]
theorem zho {l cs:Z} (hl:l.length≤9223372036854775807) (hc:(decide (cs.length<4294967281)&&cs.all fun b=>decide (b.toNat<128))=true):M.trim l cs=some (Lib.trimS l cs):=by
 unfold M.trim
 rw [z3y]
 ·rfl
 ·simp only [yh] at hc ⊢
  exact ⟨by simpa using hl,hc⟩
def z6x (lo hi:Nat) (s:Z):Bool:=s.all fun b=>decide (lo≤b.toNat)&&decide (b.toNat≤hi)
theorem z7e {s:Z} (lo hi:Nat) (hs:s.length<1152921504606846976):M.q22 s (lo:Int) (hi:Int)=some (z6x lo hi s):=by
 unfold M.q22
 have hk:M.z4s s (lo:Int) (hi:Int) 0=some (match s.findIdx? (fun b => !(decide (lo≤b.toNat)&&decide (b.toNat≤hi))) with|some i => .done false|none => .go ()):=by
  refine seek (fun _=>false) () hs (fun i h => ?_) ?_
  ·rw [M.z4s]
   have h1:((i:Int)<(s.length:Int)):=by omega
   simp only [h1,decide_true,if_true,z4k,yak h,ya,yc]
   by_cases a:lo≤(s[i]).toNat
   ·have a':¬(((s[i]).toNat:Int)<(lo:Int)):=by omega
    by_cases b:(s[i]).toNat≤hi
    ·have b':¬((hi:Int)<((s[i]).toNat:Int)):=by omega
     simp [a,a',b,b']
    ·have b':((hi:Int)<((s[i]).toNat:Int)):=by omega
     simp [a,a',b,b']
   ·have a':(((s[i]).toNat:Int)<(lo:Int)):=by omega
    simp [a,a']
  ·rw [M.z4s]
   simp
 simp only [ya,hk,yc]
 unfold z6x
 rcases zqk s (fun b=>decide (lo≤b.toNat)&&decide (b.toNat≤hi)) with ⟨h1,h2⟩|⟨i,h1,h2⟩
 ·rw [h1,h2]
 ·rw [h1,h2]
def isA (b:UInt8):Bool:=decide (65≤b.toNat)&&decide (b.toNat≤90)
def zcj (s:Z):Bool := !decide (s=[])&&decide (s.length≤8)&&s.all isA
def z8j:Z:=[65,66,67,68,69,70,71,72,73,74,75,76,77,78,79,80,81,82,83,84,85,86,87,88,89,90]
theorem zyp:∀ b:UInt8,z8j.contains b=isA b:=z5t (by decide +kernel)
theorem zaz (s:Z):M.q1r s=some (zcj s):=by
 unfold M.q1r zcj
 by_cases h:s=[]
 ·subst h;simp
 ·by_cases h8:s.length≤8
  ·have e:M.trim s z8j=some (Lib.trimS s z8j):=zho (by omega) (by decide)
   have e2:decide (Lib.trimS s z8j=[])=s.all isA:=by rw [zgy];congr 1;funext b;exact zyp b
   have h8':((s.length:Int)≤8):=by omega
   unfold z8j at e e2
   simp [h,h8',h8,e]
   simpa using e2
  ·have h8':¬((s.length:Int)≤8):=by omega
   simp [h8',h8]
def isN (b:UInt8):Bool:=decide (97≤b.toNat)&&decide (b.toNat≤122)||isD b||decide (b=45)
def zqv (s:Z):Bool := !decide (s=[])&&decide (s.length≤32)&&s.all isN
def smls:Z:=[97,98,99,100,101,102,103,104,105,106,107,108,109,110,111,112,113,114,115,116,117,118,119,120,121,122,48,49,50,51,52,53,54,55,56,57,45]
theorem zz00w:∀ b:UInt8,smls.contains b=isN b:=z5t (by decide +kernel)
theorem zdz (s:Z):M.q1t s=some (zqv s):=by
 unfold M.q1t zqv
 by_cases h:s=[]
 ·subst h;simp
 ·by_cases h8:s.length≤32
  ·have e:M.trim s smls=some (Lib.trimS s smls):=zho (by omega) (by decide)
   have e2:decide (Lib.trimS s smls=[])=s.all isN:=by rw [zgy];congr 1;funext b;exact zz00w b
   have h8':((s.length:Int)≤32):=by omega
   unfold smls at e e2
   simp [h,h8',h8,e]
   simpa using e2
  ·have h8':¬((s.length:Int)≤32):=by omega
   simp [h8',h8]
def bare (s:Z):Z:=Lib.trimS s [32]
def isVal (s:Z):Bool:=z6x 32 126 s&&decide (bare s=s)
theorem zci {s:Z} (hs:s.length<1152921504606846976):M.q2x s=some (isVal s):=by
 unfold M.q2x isVal
 have h1:M.q22 s 32 126=some (z6x 32 126 s):=z7e 32 126 hs
 have h2:M.trim s [32]=some (Lib.trimS s [32]):=zho (by omega) (by decide)
 rw [h1]
 cases h:z6x 32 126 s
 ·simp
 ·simp only [ya,yc,if_true,h2,yq,bare]
  exact congrArg some (decide_eq_decide.2 Iff.rfl)
def isNum (k:Nat) (s:Z):Bool := !decide (s=[])&&s.all isD&&decide (s.length≤k)&&(!decide (s.head? = some 48)||decide (s.length=1))
def numV (s:Z):Int:=match Lib.atoiAll s with
 | .ok v=>v
 | .range=>Lib.atoiSat s
 | _=>0
theorem zqw (n:Nat):Lib.itoa (n:Int)=Lib.decDigits n:=by unfold Lib.itoa;rw [if_neg (by omega)];simp
theorem zz01e {n:Nat} (h:n<1000000000000000000):M.itoa (n:Int)=some (Lib.decDigits n):=by
 unfold M.itoa
 rw [z3y (by simp;omega),zqw]
 rfl
theorem pow15 {n:Nat} (h:n≤15):10 ^ n≤1000000000000000:=by
 have:=ybj (n:=10) (by decide) h
 omega
theorem zvj {k:Nat} {s:Z} (h:isNum k s=true) (hk:k≤15):Lib.atoiAll s = .ok ((zbe 0 s:Nat):Int)∧zbe 0 s<10 ^ s.length∧Lib.decDigits (zbe 0 s)=s:=by
 unfold isNum at h
 simp only [yh,ym,decide_eq_false_iff_not,decide_eq_true_eq,yp] at h
 obtain ⟨⟨⟨h1,h2⟩,h3⟩,h4⟩:=h
 have hd:∀ c∈s,isD c=true:=ys.1 h2
 have hlt:=zun s 0 0 hd (by decide)
 rw [ybn] at hlt
 have hp:=pow15 (n:=s.length) (by omega)
 refine ⟨?_,hlt,zj6 _ s rfl hd h1 (fun e => ?_)⟩
 ·cases s with
  | nil=>exact absurd rfl h1
  | cons c r =>
   have hc:=zlr (hd c (by simp))
   unfold Lib.atoiAll
   simp only
   rw [if_neg (by omega),zop (by omega),if_neg h1,if_pos h2]
   simp only
   rw [if_neg (by omega),if_neg (by omega),if_neg (by omega)]
 ·rcases h4 with h4|h4
  ·exact absurd e h4
  ·exact h4
theorem zz04s {k:Nat} {s:Z} (h:isNum k s=false) (hk:k≤15) (hl:s.length≤k):∀ v,Lib.atoiAll s = .ok v→0≤v→Lib.itoa v≠s:=by
 intro v hv h0 he
 obtain ⟨n,rfl⟩:∃ n:Nat,v=n:=⟨v.toNat,by omega⟩
 rw [zqw] at he
 obtain ⟨d1,d2,d3⟩:=zf9 n n (ybe _)
 rw [he] at d1 d2 d3
 have ha:s.all isD=true:=ys.2 d1
 unfold isNum at h
 have hh:¬(¬s.head? = some 48∨s.length=1):=fun hh=>by
  have:(!decide (s.head? = some 48)||decide (s.length=1))=true:=by simpa using hh
  rw [ha,this] at h
  simp [d2,hl] at h
 have hz:=d3 (Classical.byContradiction fun q=>hh (.inl q))
 subst hz
 have:Lib.decDigits 0=[48]:=Lib.decDigits_one (i:=0) (by decide)
 rw [this] at he
 exact hh (.inr (by rw [←he];rfl))
theorem zb0 {s:Z} (k:Nat) (hk:k≤15) (hs:s.length≤281474976710656):∃ v,M.q1w s (k:Int)=some (v,isNum k s)∧(isNum k s=true→v=((zbe 0 s:Nat):Int)):=by
 unfold M.q1w
 have ha:M.atoi s=(match Lib.atoiAll s with
  | .ok v=>some (v,true)
  | .range=>some (Lib.atoiSat s,false)
  | _=>some (0,false)):=by
  unfold M.atoi
  rw [z3y (by simpa using hs)]
  rfl
 rw [ha]
 cases hn:isNum k s with
 | true =>
  obtain ⟨h1,h2,h3⟩:=zvj hn hk
  have hp:=pow15 (n:=s.length) (by unfold isNum at hn;simp at hn;omega)
  have hl:((s.length:Int)≤(k:Int)):=by unfold isNum at hn;simp at hn;omega
  refine ⟨((zbe 0 s:Nat):Int),?_,fun _=>rfl⟩
  rw [h1]
  have h0:((0:Int)≤((zbe 0 s:Nat):Int)):=by omega
  simp only [ya,yc,yq,hl,h0,decide_true,if_true,Bool.and_self]
  rw [zz01e (by omega)]
  simp [h3]
 | false =>
  have hno:=zz04s hn hk
  rcases hv:Lib.atoiAll s with v|_|_
  ·refine ⟨v,?_,fun q=>by cases q⟩
   simp only [ya,yc,yq]
   by_cases hl:((s.length:Int)≤(k:Int))
   ·by_cases h0:(0:Int)≤v
    ·have hne:=hno (by omega) v hv h0
     obtain ⟨n,rfl⟩:∃ n:Nat,v=n:=⟨v.toNat,by omega⟩
     have hb:=Lib.atoiAll_bounds hv
     simp only [hl,h0,decide_true,Bool.and_self,if_true]
     unfold M.itoa
     rw [z3y (by simp;omega)]
     simp [hne]
    ·simp [h0]
   ·simp [hl]
  ·exact ⟨_,rfl,fun q=>by cases q⟩
  ·exact ⟨_,rfl,fun q=>by cases q⟩
end
section
open Go.Lk Go.Pe
def z1a:Z→Option Z
 | []=>some []
 | c::r=>if c=37 then (match r with
  | x::y::t=>match z5x x,z5x y with
   | some a,some b=>(z1a t).map (ybr (16*a+b) :: ·)
   | _,_=>none
  | _=>none) else (z1a r).map (c :: ·)
theorem zdb {c:UInt8} (h:¬c=37) (r:Z):z1a (c::r)=(z1a r).map (c :: ·):=by
 conv=>lhs;unfold z1a
 rw [if_neg h]
theorem zbh (x y:UInt8) (t:Z):z1a (37::x::y::t)=match z5x x,z5x y with
  | some a,some b=>(z1a t).map (ybr (16*a+b) :: ·)
  | _,_=>none:=by
 conv=>lhs;unfold z1a
 rw [if_pos rfl]
theorem zfo:z1a [37]=none:=by unfold z1a;rfl
theorem zfp (x:UInt8):z1a [37,x]=none:=by unfold z1a;rfl
theorem zfr:∀ (n:Nat) (s t:Z),s.length≤n→z1a s=some t→t.length≤s.length:=by
 intro n
 induction n with
 | zero =>
  intro s t hn h
  have:s=[]:=yaf (by omega)
  subst this
  cases h
  simp
 | succ n ih =>
  intro s t hn h
  cases s with
  | nil=>cases h;simp
  | cons c r =>
   simp only [yaq] at hn
   by_cases hc:c=37
   ·subst hc
    match r,hn,h with
    | [],_,h=>rw [zfo] at h;cases h
    | [x],_,h=>rw [zfp] at h;cases h
    | x::y::q,hn,h =>
     rw [zbh] at h
     cases hx:z5x x with
     | none=>rw [hx] at h;simp at h
     | some a =>
      cases hy:z5x y with
      | none=>rw [hx,hy] at h;simp at h
      | some b =>
       rw [hx,hy] at h
       simp only [ye] at h
       obtain ⟨u,h1,rfl⟩:=h
       simp only [yaq] at hn ⊢
       have:=ih q u (by omega) h1
       omega
   ·rw [zdb hc] at h
    simp only [ye] at h
    obtain ⟨u,h1,rfl⟩:=h
    have:=ih r u (by omega) h1
    simp
    omega
theorem zfq:∀ s:Z,((z1h 37 s).2.2=false→z1a s=some s∧(z1h 37 s).1=s)∧((z1h 37 s).2.2=true→z1a s=(z1a (37::(z1h 37 s).2.1)).map ((z1h 37 s).1 ++ ·))
 | []=>by simp [z1h,z1a]
 | c::r=>by
  have ih:=zfq r
  rw [z3e]
  by_cases hc:c=37
  ·subst hc
   simp
  ·rw [if_neg hc,zdb hc]
   refine ⟨fun h => ?_,fun h => ?_⟩
   ·obtain ⟨h1,h2⟩:=ih.1 h
    rw [h1]
    simp [h2]
   ·rw [ih.2 h,Option.map_map]
    rfl
def zbt:Z:=[48,49,50,51,52,53,54,55,56,57,97,98,99,100,101,102,95,95,95,95,95,95,95,95,95,95,65,66,67,68,69,70]
def ixS (c:UInt8):Int:=Lib.idxFunc (fun r=>decide ((r:Int) % 256=(c.toNat:Int))) true ⟨zbt.toArray⟩
theorem zvp:∀ c:UInt8,(match z5x c with
  | some d=>decide (0≤ixS c)&&decide (ybp (ixS c) 16=(d:Int))&&decide (c.toNat<128) && !decide (c=95)
  | none=>decide (ixS c<0)||decide (c=95))=true:=z5t (by decide +kernel)
theorem zz05r:∀ a b:Fin 16,ybq .u8 (orI .i64 (z6p .i64 ((a.val:Nat):Int) 4) ((b.val:Nat):Int))=((16*a.val+b.val:Nat):Int):=by decide +kernel
theorem zck {c:UInt8} {d:Nat} (h:z5x c=some d):0≤ixS c∧ybp (ixS c) 16=(d:Int)∧c.toNat<128∧¬c=95:=by
 have:=zvp c
 rw [h] at this
 simp only [yh,decide_eq_true_eq,ym,decide_eq_false_iff_not] at this
 exact ⟨this.1.1.1,this.1.1.2,this.1.2,this.2⟩
theorem zjk {c:UInt8} (h:z5x c=none):ixS c<0∨c=95:=by
 have:=zvp c
 rw [h] at this
 simpa using this
theorem zvo {c:UInt8} (h:0≤ixS c):c.toNat<128:=by
 cases hx:z5x c with
 | some d=>exact (zck hx).2.2.1
 | none =>
  rcases zjk hx with h1|h1
  ·omega
  ·subst h1;decide
theorem M_ixS (c:UInt8):M.z1b zbt (c.toNat:Int)=some (ixS c):=by unfold M.z1b ixS;rfl
theorem zyc (x y:UInt8) (t:Z):M.q0o (x::y::t) zbt=some (ybq .u8 (orI .i64 (z6p .i64 (ybp (ixS x) 16) 4) (ybp (ixS y) 16)),decide (0≤ixS x)&&decide (0≤ixS y)):=by
 unfold M.q0o
 have h:¬(((x::y::t).length:Int)<2):=by simp;omega
 simp only [h,decide_false,yk,if_false,zsm,ix_1,yaj,yai,ya,yc,M_ixS]
theorem zf5 (s cs:Z):Lib.containsAny s cs=s.any cs.contains:=by
 unfold Lib.containsAny
 induction s with
 | nil=>simp [Lib.indexAny]
 | cons b l ih =>
  have hge:=Lib.indexAny_ge cs l
  rw [Lib.indexAny,List.any_cons,←ih]
  cases h:cs.contains b with
  | true=>simp
  | false =>
   simp only [yk,if_false,Bool.false_or]
   by_cases hm:Lib.indexAny l cs = -1
   ·simp [hm]
   ·rw [if_neg (by simpa using hm),yj,decide_eq_true_iff,decide_eq_true_iff]
    omega
theorem M_two {x y:UInt8} (hx:x.toNat<128) (hy:y.toNat<128):M.containsAny [x,y] [95]=some (decide (x=95)||decide (y=95)):=by
 unfold M.containsAny
 rw [z3y (by simp [hx,hy]),zf5]
 simp [yj,eq_comm]
theorem z1g {a b:Z} (h:a.length+b.length<1000000000000):M.q7b (unb a) b=some ((b.length:Int),unb (a++b)):=by
 rw [z2u (by rw [z04];omega),z2w]
theorem zha:∀ (n:Nat) (s a:Z),s.length≤n→a.length+s.length<4294967281→M.z1m s (unb a)=some (match z1a s with|some t=>(a++t,0)|none=>([],12)):=by
 intro n
 induction n with
 | zero =>
  intro s a hn hl
  have:s=[]:=yaf (by omega)
  subst this
  rw [M.z1m,ztu 37 (by simp)]
  simp only [cutb_nil,ya,yc]
  rw [z1g (by simp at hl ⊢;omega)]
  simp [z3a,z1a]
 | succ n ih =>
  intro s a hn hl
  have hcl:=z7b 37 s
  have hf:=zfq s
  rw [M.z1m,ztu 37 (by omega)]
  simp only [ya,yc]
  rw [z1g (by omega)]
  simp only [yc]
  cases hb:(z1h 37 s).2.2 with
  | false =>
   obtain ⟨h1,h2⟩:=hf.1 hb
   simp only [yn,if_true]
   rw [z3a,h1,h2]
   rfl
  | true =>
   have h1:=hf.2 hb
   have hl2:=hcl.2 hb
   simp only [yo,yk,if_false]
   obtain ⟨p,hp⟩:∃ p,(z1h 37 s).1=p:=⟨_,rfl⟩
   obtain ⟨r,hr⟩:∃ r,(z1h 37 s).2.1=r:=⟨_,rfl⟩
   rw [hp,hr] at h1 hl2
   rw [hp,hr,h1]
   have sx:([48,49,50,51,52,53,54,55,56,57,97,98,99,100,101,102,95,95,95,95,95,95,95,95,95,95,65,66,67,68,69,70]:Z)=zbt:=rfl
   rw [sx]
   match r,hl2 with
   | [],_ =>
    have:M.q0o [] zbt=some (0,false):=by simp [M.q0o]
    simp [this,zfo]
   | [x],_ =>
    have:M.q0o [x] zbt=some (0,false):=by simp [M.q0o]
    simp [this,zfp]
   | x::y::t,hl2 =>
    simp only [yaq] at hl2
    rw [zyc,zbh]
    simp only [yc]
    have hsub:sub (x::y::t) 0 2=some [x,y]:=by
     have:=zhl (l:=x::y::t) (a:=2) (by simp)
     simpa using this
    have hsub2:sub (x::y::t) 2 ((x::y::t).length:Int)=some t:=by
     have:=zaw (l:=x::y::t) (a:=2) (by simp)
     simpa using this
    by_cases h0:0≤ixS x∧0≤ixS y
    ·have e0:(decide (0≤ixS x)&&decide (0≤ixS y))=true:=by simp [h0]
     simp only [e0,yo,yk,if_false,hsub,yc]
     rw [M_two (zvo h0.1) (zvo h0.2)]
     simp only [yc]
     cases hx:z5x x with
     | none =>
      have:x=95:=(zjk hx).resolve_left (by omega)
      simp [this]
     | some d1 =>
      cases hy:z5x y with
      | none =>
       have:y=95:=(zjk hy).resolve_left (by omega)
       simp [this]
      | some d2 =>
       obtain ⟨_,q1,_,q2⟩:=zck hx
       obtain ⟨_,q3,_,q4⟩:=zck hy
       have l1:=z4r x d1 hx
       have l2:=z4r y d2 hy
       have q5:=zz05r ⟨d1,l1⟩ ⟨d2,l2⟩
       simp only [q2,q4,decide_false,Bool.or_self,yk,if_false,q1,q3]
       simp only at q5
       rw [q5]
       have q6:((16*d1+d2:Nat):Int)=((ybr (16*d1+d2)).toNat:Int):=by simp;omega
       rw [q6,z2e (by rw [z04,yap];omega)]
       simp only [yc,hsub2]
       rw [zh1,←z2w,ih t _ (by omega) (by simp;omega)]
       cases z1a t<;>simp
    ·have e0:(decide (0≤ixS x)&&decide (0≤ixS y))=false:=by
      rw [yg]
      simp only [decide_eq_false_iff_not]
      by_cases q:0≤ixS x
      ·exact .inr fun q2=>h0 ⟨q,q2⟩
      ·exact .inl q
     simp only [e0,yn,if_true,yc]
     cases hx:z5x x with
     | none=>simp
     | some d1 =>
      cases hy:z5x y with
      | none=>simp
      | some d2=>exact (h0 ⟨(zck hx).1,(zck hy).1⟩).elim
theorem z52 {s:Z} (h:s.length<4294967281):M.q0l s=some (match z1a s with|some t=>(t,0)|none=>([],12)):=by
 unfold M.q0l
 have:=zha _ s [] (ybe _) (by simpa using h)
 simpa [unb] using this
def swp (s:Z):Z:=s.map fun b=>if b=43 then 32 else b
theorem zmm (c d:UInt8):∀ (n:Nat) (s:Z),s.length≤n→Lib.replaceK [c] [d] (s.count c) s=s.map fun b=>if b=c then d else b:=by
 intro n
 induction n with
 | zero =>
  intro s hn
  have:s=[]:=yaf (by omega)
  subst this
  rfl
 | succ n ih =>
  intro s hn
  cases s with
  | nil=>rfl
  | cons x r =>
   simp only [yaq] at hn
   have hr:=ih r (by omega)
   by_cases hx:x=c
   ·subst hx
    rw [List.count_cons_self,Lib.replaceK_hit [x] [d] _ _ 0 (by rw [z4j];simp)]
    simp [hr]
   ·rw [List.count_cons_of_ne (by simpa using hx),List.map_cons,if_neg hx,←hr]
    obtain ⟨k,hk⟩:∃ k,r.count c=k:=⟨_,rfl⟩
    rw [hk]
    cases k with
    | zero=>rfl
    | succ k =>
     have hge:=Lib.index_ge r [c]
     have hm:¬Lib.index r [c] = -1:=fun e=>by
      have h1:=Lib.count_one c r
      rw [Lib.count_miss e,hk] at h1
      omega
     obtain ⟨i,hi⟩:∃ i:Nat,Lib.index r [c]=i:=⟨(Lib.index r [c]).toNat,by omega⟩
     rw [Lib.replaceK_hit [c] [d] k r i hi,Lib.replaceK_hit [c] [d] k (x::r) (i+1) (by rw [z4j,if_neg hx,if_neg hm,hi];omega)]
     simp [ybc]
theorem M_swp {s:Z} (h:s.length<4294967281):M.replaceAll s [43] [32]=some (swp s):=by
 unfold M.replaceAll
 rw [z3y (by simpa using h)]
 have e:Lib.replaceAll s [43] [32]=swp s:=by
  unfold Lib.replaceAll Lib.replace Lib.replaceNum swp
  rw [if_neg (by decide),if_pos (.inl (by decide)),Lib.count_one,zmm 43 32 _ s (ybe _)]
 rw [←e]
 rfl
def z9b:List Z→List q05→List q05 × Int
 | [],a=>(a,0)
 | p::r,a=>if p=[] then ([],13) else match z1a (z1h 61 (swp p)).1,z1a (z1h 61 (swp p)).2.1 with
  | some x,some y=>z9b r (a++[⟨x,y⟩])
  | _,_=>([],12)
def z25 (s:Z):List q05 × Int:=if 8192<s.length∨64<(z0l 38 s).length then ([],14) else if s=[] then ([],0) else z9b (z0l 38 s) []
theorem z4z (c:UInt8):∀ (s x:Z),x∈z0l c s→x.length≤s.length
 | [],x,h=>by simp [z0l] at h;simp [h]
 | y::r,x,h=>by
  have ih:=z4z c r
  unfold z0l at h
  split at h
  ·rcases yax.1 h with rfl|h
   ·simp
   ·have:=ih x h;simp;omega
  ·obtain ⟨a,t,e⟩:=zmy c r
   rw [e] at h ih
   simp only at h
   rcases yax.1 h with rfl|h
   ·have:=ih a (by simp);simp;omega
   ·have:=ih x (by simp [h]);simp;omega
theorem zao (c:UInt8):∀ s:Z,(z0l c s).length≤s.length+1
 | []=>by simp [z0l]
 | y::r=>by
  have ih:=zao c r
  unfold z0l
  split
  ·simp;omega
  ·obtain ⟨a,t,e⟩:=zmy c r
   rw [e] at ih ⊢
   simp at ih ⊢
   omega
theorem zgv (s:Z):(swp s).length=s.length:=by simp [swp]
theorem zny {l:List Z} (hl:l.length<1000000) (hm:∀ x∈l,x.length<1000000):∀ (n i:Nat) (a:List q05),l.length - i=n→i≤l.length→a.length≤i →
  M.z1t l a (i:Int)=some (match z9b (l.drop i) a with|(r,e)=>if e=0 then .go r else .done (r,e)):=by
 intro n
 induction n with
 | zero =>
  intro i a hn hi ha
  rw [M.z1t,yaa (by omega)]
  have:¬((i:Int)<(l.length:Int)):=by omega
  simp [this,z9b]
 | succ n ih =>
  intro i a hn hi ha
  have hlt:i<l.length:=by omega
  have h1:((i:Int)<(l.length:Int)):=by omega
  have hx:=hm l[i] (by simp)
  rw [M.z1t,yz hlt]
  simp only [h1,decide_true,if_true,z4k,yak hlt,ya,yc]
  unfold z9b
  by_cases he:l[i]=[]
  ·simp [he]
  ·have hc:=z7b 61 (swp l[i])
   rw [zgv] at hc
   simp only [he,decide_false,yk,if_false]
   rw [M_swp (by omega)]
   simp only [yc]
   rw [ztu 61 (by rw [zgv];omega)]
   simp only [yc]
   rw [z52 (by omega),z52 (by omega)]
   simp only [yc]
   cases h2:z1a (z1h 61 (swp l[i])).1 with
   | none=>simp
   | some x =>
    cases h3:z1a (z1h 61 (swp l[i])).2.1 with
    | none=>simp
    | some y =>
     simp only [decide_true,yo,Bool.or_self,yk,if_false]
     rw [z36 (by simp;omega),w1 (by omega)]
     simp only [yc]
     rw [ih (i+1) _ (by omega) (by omega) (by simp;omega)]
theorem z7y {s:Z} (h:s.length<1000000):M.q0k s=some (z25 s):=by
 unfold M.q0k z25
 rw [zd4 38 (by omega)]
 simp only [ya,yc]
 by_cases hb:8192<s.length∨64<(z0l 38 s).length
 ·have:(decide (8192<(s.length:Int))||decide (64<((z0l 38 s).length:Int)))=true:=by
   rw [yp,decide_eq_true_iff,decide_eq_true_iff]
   omega
  simp [this,hb]
 ·have:(decide (8192<(s.length:Int))||decide (64<((z0l 38 s).length:Int)))=false:=by
   rw [Bool.or_eq_false_iff,decide_eq_false_iff_not,decide_eq_false_iff_not]
   omega
  simp only [this,yk,if_false,hb]
  by_cases he:s=[]
  ·simp [he]
  ·have hk:=zny (l:=z0l 38 s) (by omega) (fun x hx=>by have:=z4z 38 s x hx;omega) _ 0 [] rfl (ybo _) (by simp)
   have hk:M.z1t (z0l 38 s) [] 0=_:=hk
   rw [hk,yae]
   simp only [he,decide_false,yk,if_false,yc]
   rcases hp:z9b (z0l 38 s) [] with ⟨r,e⟩
   simp only
   by_cases h0:e=0
   ·subst h0;simp
   ·simp [h0]
def z4h (l:List q05) (k v:Z):Z:=match l.find? (fun p=>decide (p.zo=k)) with
 | some p=>p.z3g
 | none=>v
def zbl (l:List q05) (k:Z):Nat:=l.countP fun p=>decide (p.zo=k)
theorem zfs (p:q05) (l:List q05) (k v:Z):z4h (p::l) k v=if p.zo=k then p.z3g else z4h l k v:=by
 unfold z4h
 rw [List.find?_cons]
 by_cases h:p.zo=k<;>simp [h]
theorem zlk (p:q05) (l:List q05) (k:Z):zbl (l++[p]) k=zbl l k+if p.zo=k then 1 else 0:=by
 unfold zbl
 rw [List.countP_append]
 by_cases h:p.zo=k<;>simp [h]
theorem zky {l:List q05} {k:Z} (hl:l.length<1000000000):∀ (m:Nat) (v:Z) (n:Nat),m≤l.length→n+m≤l.length →
  M.z3c l k (z4h (l.drop m) k v) ((n:Nat):Int) ((m:Int) - 1)=some (z4h l k v,((n+zbl (l.take m) k:Nat):Int)):=by
 intro m
 induction m with
 | zero =>
  intro v n hm hn
  rw [M.z3c]
  simp [zbl]
 | succ m ih =>
  intro v n hm hn
  have hlt:m<l.length:=by omega
  rw [M.z3c]
  have e0:(((m+1:Nat):Int) - 1)=(m:Int):=by omega
  have h0:(0:Int)≤(m:Int):=by omega
  rw [e0]
  simp only [h0,decide_true,if_true,z4k,yak hlt,ya,yc]
  have ew:ybq .i64 ((m:Int) - 1)=(m:Int) - 1:=w64 (by omega) (by omega)
  have hd:l.drop m=l[m]::l.drop (m+1):=yz hlt
  have ht:l.take (m+1)=l.take m++[l[m]]:=by rw [List.take_succ,yak hlt];rfl
  by_cases hk:l[m].zo=k
  ·have e1:z4h (l.drop m) k v=l[m].z3g:=by rw [hd,zfs,if_pos hk]
   have e2:zbl (l.take (m+1)) k=zbl (l.take m) k+1:=by rw [ht,zlk,if_pos hk]
   simp only [hk,decide_true,if_true,ew]
   rw [w1 (by omega),←e1,ih v (n+1) (by omega) (by omega),e2]
   congr 3
   omega
  ·have e1:z4h (l.drop m) k v=z4h (l.drop (m+1)) k v:=by rw [hd,zfs,if_neg hk]
   have e2:zbl (l.take (m+1)) k=zbl (l.take m) k:=by rw [ht,zlk,if_neg hk];rfl
   simp only [hk,decide_false,yk,if_false,ew]
   rw [←e1,ih v n (by omega) (by omega),e2]
theorem zdr {l:List q05} (k:Z) (hl:l.length<1000000000):M.q0m l k=some (z4h l k [],((zbl l k:Nat):Int)):=by
 unfold M.q0m
 have h:=zky (k:=k) hl l.length [] 0 (ybe _) (by omega)
 rw [List.drop_length,ya7,ybn] at h
 rw [w64 (by omega) (by omega)]
 simp only [ya]
 have e:z4h [] k []=[]:=rfl
 rw [e] at h
 have h:M.z3c l k [] 0 ((l.length:Int) - 1)=_:=h
 rw [h]
 rfl
def zav (l:List q05) (k:Z):Bool:=l.any fun p=>decide (p.zo=k)
theorem zjd (l:List q05) (k:Z):decide (0<zbl l k)=zav l k:=by
 unfold zbl zav
 rw [yj,decide_eq_true_iff,List.countP_pos_iff,List.any_eq_true]
theorem z6k {l:List q05} (k:Z) (hl:l.length<1000000000):M.q1k l k=some (z4h l k [],zav l k):=by
 unfold M.q1k
 rw [zdr k hl]
 simp only [ya,yc]
 have:decide (0<((zbl l k:Nat):Int))=zav l k:=by rw [←zjd];exact decide_eq_decide.2 (by omega)
 exact congrArg (fun b=>some (z4h l k [],b)) this
end
section
open Go.Lk Go.Pe
def zj2:Z:=[13,10,13,10]
def zef (s:Z):Nat:=if 0≤Lib.index (s.take 8192) zj2 then (Lib.index (s.take 8192) zj2).toNat+4 else 0
theorem zz03d (s:Z):zef s≤s.length∧zef s≤8192:=by
 unfold zef
 split
 ·rename_i h
  have:=Lib.index_room (s.take 8192) zj2 h
  have h2:(s.take 8192).length=min 8192 s.length:=yav
  simp only [zj2,yaq,yat] at this
  rw [h2] at this
  have e:((Lib.index (s.take 8192) [13,10,13,10]).toNat:Int)=Lib.index (s.take 8192) [13,10,13,10]:=by
   unfold zj2 at h
   omega
  unfold zj2
  omega
 ·omega
theorem zz07a {s:Z} (h:0<zef s):4≤zef s:=by
 unfold zef at h ⊢
 split at h
 ·rw [if_pos ‹_›];omega
 ·omega
theorem zo3 {s:Z} (h:s.length<1000000000):M.q1h s=some ((zef s:Nat):Int):=by
 unfold M.q1h zef
 have e:minI (s.length:Int) 8192=((min s.length 8192:Nat):Int):=by unfold minI;split<;>omega
 rw [e,zhl (Nat.min_le_left _ _)]
 have e2:s.take (min s.length 8192)=s.take 8192:=by rw [List.take_eq_take_iff];omega
 have e3:M.z5q (s.take 8192) zj2=some (Lib.index (s.take 8192) zj2):=by
  unfold M.z5q
  rw [z3y (by simp;omega)]
  rfl
 rw [e2]
 unfold zj2 at e3 ⊢
 simp only [ya,yc,e3]
 by_cases h0:0≤Lib.index (s.take 8192) [13,10,13,10]
 ·have hr:=Lib.index_room (s.take 8192) [13,10,13,10] h0
  have h2:(s.take 8192).length=min 8192 s.length:=yav
  rw [h2] at hr
  simp only [yaq,yat] at hr
  simp only [h0,decide_true,if_true]
  rw [w64 (by omega) (by omega)]
  congr 1
  omega
 ·simp [h0]
def pcts:List Z→Option (List Z)
 | []=>some []
 | p::r=>match z1a p,pcts r with
  | some x,some l=>some (x::l)
  | _,_=>none
theorem zws (p:Z) (r:List Z):pcts (p::r)=match z1a p,pcts r with
  | some x,some l=>some (x::l)
  | _,_=>none:=rfl
def zqs:Z:=[72,84,84,80,47,49,46,49]
def zxw (a b c:Z):Bool:=zcj a&&decide (c=zqs)&&decide (b.head? = some 47)&&z6x 33 126 b
def topH (s:Z):Option q03:=match z0l 32 s with
 | [a,b,c]=>if zxw a b c=true then (match pcts (z0l 47 ((z1h 63 b).1.drop 1)) with
  | some l=>if (z25 (z1h 63 b).2.1).2=0∧l.length≤64 then some ⟨a,l,(z25 (z1h 63 b).2.1).1,[],[]⟩ else none
  | none=>none) else none
 | _=>none
theorem z0c (e:Int):M.q1s true e=some (.ok ()):=by simp [M.q1s]
theorem zu (e:Int):M.q1s false e=some (.pan e):=by simp [M.q1s]
theorem z3t {l:List Z} (hl:l.length<2000000) (hm:∀ x∈l,x.length<1000000):∀ (n i:Nat) (a:List Z),l.length - i=n→i≤l.length→a.length≤i →
  M.z3t l (i:Int) a=some (match pcts (l.drop i) with|some r => .go (a++r)|none => .done (.pan 220)):=by
 intro n
 induction n with
 | zero =>
  intro i a hn hi ha
  rw [M.z3t,yaa (by omega)]
  have:¬((i:Int)<(l.length:Int)):=by omega
  simp [this,pcts]
 | succ n ih =>
  intro i a hn hi ha
  have hlt:i<l.length:=by omega
  have h1:((i:Int)<(l.length:Int)):=by omega
  have hx:=hm l[i] (by simp)
  rw [M.z3t,yz hlt]
  simp only [h1,decide_true,if_true,z4k,yak hlt,ya,yc]
  rw [z52 (by omega)]
  simp only [yc]
  rw [zws]
  cases h2:z1a l[i] with
  | none =>
   have:(decide ((12:Int)=0))=false:=by decide
   simp only [this,zu,yc]
  | some x =>
   have:(decide ((0:Int)=0))=true:=by decide
   rw [this,z0c]
   simp only [yc]
   rw [z36 (by simp;omega),w1 (by omega)]
   simp only [yc]
   rw [ih (i+1) _ (by omega) (by omega) (by simp;omega)]
   cases pcts (l.drop (i+1))<;>simp
theorem headH (b:Z):M.q7d b [47]=some (decide (b.head? = some 47)):=by
 rw [z68,z7n]
theorem zo4 {s:Z} (h:s.length<1000000):M.q2v s=some (match topH s with|some q => .ok q|none => .pan 220):=by
 unfold M.q2v topH
 rw [zd4 32 (by omega)]
 have hmem:=z4z 32 s
 obtain ⟨l,hl⟩:∃ l,z0l 32 s=l:=⟨_,rfl⟩
 rw [hl] at hmem ⊢
 simp only [ya,yc]
 match l,hmem with
 | [],_=>simp [zu]
 | [a],_=>simp [zu]
 | [a,b],_=>simp [zu]
 | a::b::c::d::t,_ =>
  have:¬(((a::b::c::d::t).length:Int)=3):=by simp;omega
  simp only [this,decide_false,yk,if_false,yc,zu]
 | [a,b,c],hmem =>
  have hb:=hmem b (by simp)
  have hon:M.q22 b 33 126=some (z6x 33 126 b):=z7e 33 126 (by omega)
  have e3:((([a,b,c]:List Z).length:Int)=3):=by simp
  have i0:ix [a,b,c] 0=some a:=by simp [zsm]
  have i1:ix [a,b,c] 1=some b:=by simp [ix_1]
  have i2:ix [a,b,c] 2=some c:=by simp [ix]
  simp only [e3,decide_true,if_true,i0,i1,i2,yc,zaz,headH,hon]
  have key:∀ k:Bool→Option (Rs q03),k (zxw a b c)=((if zcj a=true then some (decide (c=zqs)) else some false).bind fun j13=>(if j13=true then some (decide (b.head? = some 47)) else some false).bind fun j19=>(if j19=true then some (z6x 33 126 b) else some false).bind k):=by
   intro k
   unfold zxw
   cases zcj a<;>cases decide (c=zqs)<;>cases decide (b.head? = some 47)<;>simp
  unfold zqs at key
  rw [←key fun j27=>_]
  cases ht:zxw a b c with
  | false=>simp [zu]
  | true =>
   have hhd:b.head? = some 47:=by unfold zxw at ht;simp at ht;exact ht.1.2
   have hcl:=z7b 63 b
   have hc1:1≤(z1h 63 b).1.length:=by
    cases b with
    | nil=>cases hhd
    | cons x r =>
     cases hhd
     rw [z3e,if_neg (by decide)]
     simp
   simp only [z0c,yc,if_true]
   rw [ztu 63 (by omega)]
   simp only [yc]
   have hs:=zaw (l:=(z1h 63 b).1) (a:=1) hc1
   have hs:sub (z1h 63 b).1 1 ((z1h 63 b).1.length:Int)=some ((z1h 63 b).1.drop 1):=hs
   rw [hs]
   simp only [yc]
   rw [zd4 47 (by simp;omega)]
   simp only [yc]
   have hk:=z3t (l:=z0l 47 ((z1h 63 b).1.drop 1)) (by have:=zao 47 ((z1h 63 b).1.drop 1);rw [yar] at this;omega) (fun x hx=>by have:=z4z 47 _ x hx;rw [yar] at this;omega) _ 0 [] rfl (ybo _) (by simp)
   have hk:M.z3t (z0l 47 ((z1h 63 b).1.drop 1)) 0 []=_:=hk
   rw [hk,yae]
   cases pcts (z0l 47 ((z1h 63 b).1.drop 1)) with
   | none=>simp
   | some l =>
    simp only [yc,yay]
    rw [z7y (by omega)]
    simp only [yc]
    by_cases hz:(z25 (z1h 63 b).2.1).2=0∧l.length≤64
    ·have:(decide ((z25 (z1h 63 b).2.1).2=0)&&decide ((l.length:Int)≤64))=true:=by
      rw [yh,decide_eq_true_iff,decide_eq_true_iff]
      omega
     rw [this,z0c]
     simp [hz]
    ·have:(decide ((z25 (z1h 63 b).2.1).2=0)&&decide ((l.length:Int)≤64))=false:=by
      rw [yg,decide_eq_false_iff_not,decide_eq_false_iff_not]
      by_cases q:(z25 (z1h 63 b).2.1).2=0
      ·exact .inr fun q2=>hz ⟨q,by omega⟩
      ·exact .inl q
     rw [this,zu]
     simp only [yc]
     rw [if_neg hz]
def lowB (b:UInt8):UInt8:=if isA b=true then b+32 else b
def low (s:Z):Z:=s.map lowB
theorem zz04j:∀ b:UInt8,(!decide (b.toNat<128)||decide (Lib.encodeRune (zoj (b.toNat:Int))=[lowB b]))=true:=z5t (by decide +kernel)
theorem zz07u (x:Nat):0≤zoj (x:Int):=by unfold zoj;split<;>omega
theorem zif:∀ s:Z,(∀ b∈s,b.toNat<128)→Lib.mapD zoj s=low s
 | [],_=>rfl
 | b::r,h=>by
  have hb:=h b (by simp)
  rw [Lib.mapD_step _ _ (by simp),Lib.decodeL_ascii b r hb]
  simp only [List.drop_one,ya3]
  rw [if_pos (zz07u _),zif r fun x hx=>h x (by simp [hx])]
  have:=zz04j b
  simp only [hb,decide_true,yo,Bool.false_or,decide_eq_true_eq] at this
  rw [this]
  rfl
theorem znt {x:Int} (h:128≤x):∃ b∈Lib.encodeRune x,128≤b.toNat:=by
 unfold Lib.encodeRune Lib.encodeRuneZ
 rw [if_neg (by omega)]
 split
 ·refine ⟨(192+x / 64).toNat.toUInt8,by simp,?_⟩
  simp
  omega
 ·split
  ·refine ⟨(224+x / 4096).toNat.toUInt8,by simp,?_⟩
   simp
   omega
  ·split
   ·refine ⟨(240+x / 262144).toNat.toUInt8,by simp,?_⟩
    simp
    omega
   ·exact ⟨239,by simp,by decide⟩
theorem decode_high (b:UInt8) (r:Z) (h:¬b.toNat<128):128≤(Lib.decodeL (b::r)).1:=by
 have e:(⟨(b::r).toArray⟩:ByteArray).get! 0=b:=by simp [ByteArray.get!]
 unfold Lib.decodeL Utf8.decode
 simp only [Nat.add_zero,e,ybn]
 rw [if_neg (by omega)]
 split
 ·split
  ·rename_i h1;simpa using h1
  ·simp [Utf8.runeError]
 ·split
  ·split
   ·rename_i h1
    simp only [yh,decide_eq_true_eq] at h1
    simp only
    omega
   ·simp [Utf8.runeError]
  ·split
   ·split
    ·rename_i h1
     simp only [yh,decide_eq_true_eq] at h1
     simp only
     omega
    ·simp [Utf8.runeError]
   ·simp [Utf8.runeError]
theorem zwb:∀ (n:Nat) (s:Z),s.length≤n→(∃ b∈s,¬b.toNat<128)→∃ b∈Lib.mapD zoj s,¬b.toNat<128:=by
 intro n
 induction n with
 | zero =>
  intro s hn h
  have:s=[]:=yaf (by omega)
  subst this
  obtain ⟨b,hb,_⟩:=h
  cases hb
 | succ n ih =>
  intro s hn h
  cases s with
  | nil=>obtain ⟨b,hb,_⟩:=h;cases hb
  | cons c r =>
   rw [Lib.mapD_step _ _ (by simp)]
   by_cases hc:c.toNat<128
   ·rw [Lib.decodeL_ascii c r hc]
    simp only [List.drop_one,ya3]
    obtain ⟨b,hb,h2⟩:=ih r (by simp at hn;omega) (by
     obtain ⟨b,hb,h2⟩:=h
     rcases yax.1 hb with rfl|hb
     ·exact (h2 hc).elim
     ·exact ⟨b,hb,h2⟩)
    exact ⟨b,yaw.2 (.inr hb),h2⟩
   ·have h1:=decode_high c r hc
    have e:zoj ((Lib.decodeL (c::r)).1:Int)=((Lib.decodeL (c::r)).1:Int):=by unfold zoj;rw [if_neg (by omega)]
    rw [e,if_pos (by omega)]
    obtain ⟨b,hb,h2⟩:=znt (x:=((Lib.decodeL (c::r)).1:Int)) (by omega)
    exact ⟨b,yaw.2 (.inl hb),by omega⟩
theorem zz03z {b:UInt8} (h:isN b=true):b.toNat<128:=by
 unfold isN isD at h
 simp at h
 rcases h with (h|h)|h
 ·omega
 ·omega
 ·subst h;decide
theorem zwe (s:Z):zqv (Lib.mapD zoj s)=zqv (low s)∧(zqv (low s)=true→Lib.mapD zoj s=low s):=by
 by_cases h:∀ b∈s,b.toNat<128
 ·rw [zif s h]
  exact ⟨rfl,fun _=>rfl⟩
 ·have h:∃ b∈s,¬b.toNat<128:=by
   simpa using h
  have no:∀ t:Z,(∃ b∈t,¬b.toNat<128)→zqv t=false:=fun t ⟨b,hb,h2⟩=>by
   have:t.all isN=false:=by
    rw [List.all_eq_false]
    exact ⟨b,hb,fun q=>h2 (zz03z q)⟩
   unfold zqv
   rw [this,yi]
  have h1:=no _ (zwb _ s (ybe _) h)
  have h2:zqv (low s)=false:=no _ (by
   obtain ⟨b,hb,h2⟩:=h
   refine ⟨lowB b,List.mem_map.2 ⟨b,hb,rfl⟩,?_⟩
   unfold lowB
   rw [if_neg (by unfold isA;simp;omega)]
   exact h2)
  rw [h1,h2]
  exact ⟨rfl,fun q=>by cases q⟩
theorem zrv {s:Z} (h:s.length<1000000000):M.z5m s=some (Lib.mapD zoj s):=by
 unfold M.z5m
 rw [z3y (by simp;omega)]
 rfl
end
section
open Go.Lk Go.Pe
theorem zr4 {K:Type} [DecidableEq K] (k k':K):∀ l:List (K × Bool),z7q (z3u l k true) k' false=if k'=k then true else z7q l k' false
 | []=>by unfold z3u z7q z7q;rfl
 | (a,b)::r=>by
  have ih:=zr4 k k' r
  unfold z3u
  by_cases h:k=a
  ·subst h
   rw [if_pos rfl]
   unfold z7q
   by_cases h2:k'=k<;>simp [h2]
  ·rw [if_neg h]
   unfold z7q
   by_cases h2:k'=a
   ·subst h2
    rw [if_pos rfl,if_pos rfl,if_neg (Ne.symm h)]
   ·rw [if_neg h2,if_neg h2,ih]
def z7i:Z:=[116,114,97,110,115,102,101,114,45,101,110,99,111,100,105,110,103]
def zdq:Z:=[99,111,110,116,101,110,116,45,108,101,110,103,116,104]
def zch:Z:=[104,111,115,116]
def rowF (row:Z) (sn:List Z):Option (Z × Z) :=
 if ((z1h 58 row).2.2&&zqv (low (z1h 58 row).1)&&isVal (bare (z1h 58 row).2.1) && !sn.contains (low (z1h 58 row).1))=true then some (low (z1h 58 row).1,bare (z1h 58 row).2.1) else none
def zt6:List Z→Nat→Nat→List q05→List Z→Except Int (Nat × List q05 × List Z)
 | [],_,b,hd,sn => .ok (b,hd,sn)
 | row::r,i,b,hd,sn=>if 32≤i then .error 222 else match rowF row sn with
  | none => .error 220
  | some (k,v)=>if k=zdq then (if isNum 9 v=true then zt6 r (i+1) (zbe 0 v) hd (k::sn) else .error 220) else zt6 r (i+1) b (hd++[⟨k,v⟩]) (k::sn)
def zH:q03:=⟨[],[],[],[],[]⟩
def SN (m:List (Z × Bool)) (sn:List Z):Prop := ∀ k,z7q m k false=sn.contains k
theorem SN.put {m:List (Z × Bool)} {sn:List Z} (h:SN m sn) (k:Z):SN (z3u m k true) (k::sn):=fun k'=>by
 rw [zr4,List.contains_cons,h k']
 by_cases e:k'=k<;>simp [e]
def zz06o (z:Option (Jn (q03 × Int × Int) (Int × (List q05) × (List (Z × Bool))))):Except Int (Nat × List q05 × List Z)→Prop
 | .error e=>z=some (.done (zH,0,e))
 | .ok (b,hd,sn)=>∃ m,z=some (.go ((b:Int),hd,m))∧SN m sn
theorem zen (s:Z):(bare s).length≤s.length:=by
 unfold bare Lib.trimS Lib.trimLeftS Lib.trimRightS
 refine ybf (yx _).length_le ?_
 rw [List.length_reverse]
 exact ybf (yx _).length_le (by simp)
theorem zz00d {l:List Z} (hl:l.length<1000000) (hm:∀ x∈l,x.length<1000000):∀ (n i b:Nat) (hd:List q05) (m:List (Z × Bool)) (sn:List Z),l.length - i=n→i≤l.length→hd.length≤i→SN m sn →
  zz06o (M.z2f l (b:Int) (i:Int) hd m) (zt6 (l.drop i) i b hd sn):=by
 intro n
 induction n with
 | zero =>
  intro i b hd m sn hn hi ha hs
  rw [M.z2f,yaa (by omega)]
  have:¬((i:Int)<(l.length:Int)):=by omega
  simp only [this,decide_false,yk,if_false]
  exact ⟨m,rfl,hs⟩
 | succ n ih =>
  intro i b hd m sn hn hi ha hs
  have hlt:i<l.length:=by omega
  have h1:((i:Int)<(l.length:Int)):=by omega
  have hx:=hm l[i] (by simp)
  have hc:=(z7b 58 l[i]).1
  rw [M.z2f,yz hlt]
  simp only [h1,decide_true,if_true,z4k,yak hlt,ya,yc]
  unfold zt6
  by_cases h32:32≤i
  ·have:¬((i:Int)<32):=by omega
   rw [if_pos h32]
   simp only [this,decide_false,zu,yc]
   rfl
  ·have:((i:Int)<32):=by omega
   rw [if_neg h32]
   simp only [this,decide_true,z0c,yc]
   rw [ztu 58 (by omega)]
   simp only [yc]
   rw [zrv (by omega)]
   simp only [yc]
   rw [zho (by omega) (by decide)]
   simp only [yc,zdz]
   obtain ⟨e1,e2⟩:=zwe (z1h 58 l[i]).1
   have hv:M.q2x (Lib.trimS (z1h 58 l[i]).2.1 [32])=some (isVal (bare (z1h 58 l[i]).2.1)):=zci (by have:=zen (z1h 58 l[i]).2.1;unfold bare at this;omega)
   rw [hv,e1]
   -- what must hold,as_ one
   have key:∀ (a b c d:Bool) (k:Bool→Option (Jn (q03 × Int × Int) (Int × (List q05) × (List (Z × Bool))))),((if a=true then some b else some false).bind fun j=>(if j=true then some c else some false).bind fun j=>(if j=true then some d else some false).bind k)=k (a&&b&&c&&d):=by
    intro a b c d k
    cases a<;>cases b<;>cases c<;>cases d<;>rfl
   simp only [yc]
   rw [key]
   unfold rowF
   by_cases hn:zqv (low (z1h 58 l[i]).1)=true
   ·rw [e2 hn,hs]
    cases hall:((z1h 58 l[i]).2.2&&zqv (low (z1h 58 l[i]).1)&&isVal (bare (z1h 58 l[i]).2.1) && !sn.contains (low (z1h 58 l[i]).1)) with
    | false =>
     simp only [zu,yc,yk,if_false]
     rfl
    | true =>
     simp only [z0c,yc,if_true]
     have hb:Lib.trimS (z1h 58 l[i]).2.1 [32]=bare (z1h 58 l[i]).2.1:=rfl
     rw [hb]
     by_cases hk:low (z1h 58 l[i]).1=zdq
     ·have hk':low (z1h 58 l[i]).1=B27:=hk
      rw [if_pos hk]
      obtain ⟨v,h2,h3⟩:=zb0 (s:=bare (z1h 58 l[i]).2.1) 9 (by decide) (by have:=zen (z1h 58 l[i]).2.1;omega)
      have h2:M.q1w (bare (z1h 58 l[i]).2.1) 9=some (v,isNum 9 (bare (z1h 58 l[i]).2.1)):=h2
      simp only [hk',decide_true,yo,yk,if_false,h2,yc]
      cases hnum:isNum 9 (bare (z1h 58 l[i]).2.1) with
      | false =>
       simp only [zu,yc,yk,if_false]
       rfl
      | true =>
       simp only [z0c,yc,if_true]
       rw [h3 hnum,w1 (by omega)]
       have:=ih (i+1) (zbe 0 (bare (z1h 58 l[i]).2.1)) hd _ _ (by omega) (by omega) (by omega) (hs.put (low (z1h 58 l[i]).1))
       rw [hk'] at this
       exact this
     ·have hk':¬low (z1h 58 l[i]).1=B27:=hk
      rw [if_neg hk]
      simp only [hk',decide_false,yn,if_true]
      rw [z36 (by simp;omega),w1 (by omega)]
      simp only [yc]
      exact ih (i+1) b _ _ _ (by omega) (by omega) (by simp;omega) (hs.put (low (z1h 58 l[i]).1))
   ·have hn:zqv (low (z1h 58 l[i]).1)=false:=by simpa using hn
    simp only [hn,yi,Bool.false_and,zu,yc,yk,if_false]
    rfl
def zz02a (s:Z) (n:Nat) (q:q03):Except Int (Nat × List q05 × List Z)→q03 × Nat × Int
 | .error e=>(zH,0,e)
 | .ok (b,hd,sn)=>if sn.contains zch=false then (zH,0,220) else if 16384<b then (zH,0,221) else if s.length<n+b then (zH,0,223) else (⟨q.z02,q.z09,q.z0r,hd,(s.drop n).take b⟩,n+b,0)
def zz02b (s:Z) (n:Nat) (l:List Z):q03 × Nat × Int:=match topH (l.head?.getD []) with
 | none=>(zH,0,220)
 | some q=>zz02a s n q (zt6 (l.drop 1) 0 0 [] [z7i])
def zgc (s:Z):q03 × Nat × Int:=if zef s=0 then (zH,0,if s.length<8192 then 223 else 222) else zz02b s (zef s) (z6f (s.take (zef s - 4)))
theorem ztc:∀ (n:Nat) (s:Z),s.length≤n→(z6f s).length≤s.length+1∧∀ x∈z6f s,x.length≤s.length:=by
 intro n
 induction n with
 | zero =>
  intro s hn
  have:s=[]:=yaf (by omega)
  subst this
  unfold z6f
  simp
 | succ n ih =>
  intro s hn
  cases s with
  | nil=>unfold z6f;simp
  | cons x r =>
   simp only [yaq] at hn
   unfold z6f
   split
   ·obtain ⟨h1,h2⟩:=ih (r.drop 1) (by rw [yar];omega)
    rw [yar] at h1 h2
    refine ⟨by rw [yaq,yaq];omega,fun y hy => ?_⟩
    rcases yax.1 hy with rfl|hy
    ·simp
    ·have:=h2 y hy;rw [yaq];omega
   ·obtain ⟨h1,h2⟩:=ih r (by omega)
    obtain ⟨a,t,e⟩:=zn0 r
    rw [e] at h1 h2
    rw [e]
    simp only [yaq] at h1 ⊢
    refine ⟨by omega,fun y hy => ?_⟩
    rcases yax.1 hy with rfl|hy
    ·have:=h2 a (by simp);rw [yaq];omega
    ·have:=h2 y (by simp [hy]);omega
theorem ztf {s:Z} {q:q03} (h:topH s=some q):q.z0h=[]∧q.z01=[]:=by
 unfold topH at h
 split at h
 ·split at h
  ·split at h
   ·split at h
    ·cases h;exact ⟨rfl,rfl⟩
    ·cases h
   ·cases h
  ·cases h
 ·cases h
theorem zjg {s:Z} (h:s.length<1000000000):M.q0s s=some ((zgc s).1,(((zgc s).2.1:Nat):Int),(zgc s).2.2):=by
 unfold M.q0s zgc
 rw [zo3 h]
 have hz:∀ e:Int,(q03.mk ([]:Z) [] [] [] ([]:Z),(0:Int),e)=(zH,((0:Nat):Int),e):=fun e=>rfl
 simp only [ya,yc]
 by_cases h0:zef s=0
 ·rw [if_pos h0,h0]
  by_cases h1:s.length<8192
  ·have:((s.length:Int)<8192):=by omega
   simp [this,h1,z0c,zu,zH]
  ·have:¬((s.length:Int)<8192):=by omega
   simp [this,h1,zu,zH]
 ·rw [if_neg h0]
  have hp:(0:Int)<((zef s:Nat):Int):=by omega
  have h4:=zz07a (s:=s) (by omega)
  have hle:=zz03d s
  simp only [hp,decide_true,Bool.true_or,z0c,yc]
  have ew:ybq .i64 (((zef s:Nat):Int) - 4)=((zef s - 4:Nat):Int):=by rw [w64 (by omega) (by omega)];omega
  rw [ew,zhl (by omega)]
  simp only [yc]
  have hlt:(s.take (zef s - 4)).length≤8192:=by rw [yav];omega
  rw [zyd (by omega)]
  obtain ⟨hs1,hs2⟩:=ztc _ (s.take (zef s - 4)) (ybe _)
  obtain ⟨a,t,e⟩:=zn0 (s.take (zef s - 4))
  rw [e] at hs1 hs2 ⊢
  have i0:ix (a::t) 0=some a:=by simp [zsm]
  simp only [yc,i0]
  have ha:=hs2 a (by simp)
  rw [zo4 (by omega)]
  unfold zz02b
  simp only [yan,yd,yc]
  cases hq:topH a with
  | none=>simp [zH]
  | some q =>
   obtain ⟨q1,q2⟩:=ztf hq
   have hsub:sub (a::t) 1 ((a::t).length:Int)=some t:=by
    have:=zaw (l:=a::t) (a:=1) (by simp)
    simpa using this
   simp only [yaq] at hs1
   have hk:=zz00d (l:=t) (by omega) (fun x hx=>by have:=hs2 x (by simp [hx]);omega) _ 0 0 [] (z3u [] z7i true) [z7i] rfl (ybo _) (by simp) (fun k=>by
    unfold z3u z7q z7q
    by_cases q:k=z7i<;>simp [q])
   rw [yae] at hk
   have e2:(a::t).drop 1=t:=rfl
   rw [e2]
   simp only [yc,hsub,q1]
   have em:z3u ([]:List (Z × Bool)) (B30:Z) true=z3u [] z7i true:=rfl
   rw [em]
   unfold zz02a
   cases hr:zt6 t 0 0 [] [z7i] with
   | error er =>
    rw [hr] at hk
    have hk:M.z2f t 0 0 [] (z3u [] z7i true)=some (.done (zH,0,er)):=hk
    rw [hk]
    rfl
   | ok x =>
    obtain ⟨b,hd,sn⟩:=x
    rw [hr] at hk
    obtain ⟨m,hk,hsn⟩:=hk
    have hk:M.z2f t 0 0 [] (z3u [] z7i true)=some (.go ((b:Int),hd,m)):=hk
    rw [hk]
    simp only [yc]
    have hh:z7q m B47 false=sn.contains zch:=hsn _
    rw [hh]
    cases sn.contains zch with
    | false=>simp [zu,zH]
    | true =>
     simp only [z0c,yc,yr,if_false]
     by_cases hb:16384<b
     ·have:¬((b:Int)≤16384):=by omega
      simp [this,hb,zu,zH]
     ·have:((b:Int)≤16384):=by omega
      simp only [this,decide_true,z0c,yc,hb,if_false]
      have ew2:ybq .i64 ((s.length:Int) - ((zef s:Nat):Int))=((s.length - zef s:Nat):Int):=by rw [w64 (by omega) (by omega)];omega
      rw [ew2]
      by_cases hb2:s.length<zef s+b
      ·have:¬((b:Int)≤((s.length - zef s:Nat):Int)):=by omega
       simp [this,hb2,zu,zH]
      ·have:((b:Int)≤((s.length - zef s:Nat):Int)):=by omega
       simp only [this,decide_true,z0c,yc,hb2,if_false]
       rw [wadd (by omega),zem (by omega) (by omega)]
       simp only [yc]
       rw [yad]
       have:zef s+b - zef s=b:=by omega
       rw [this]
end
section
open Go.Lk Go.Pe
theorem zmc:∀ (l:List Z) (a:List q05),(z9b l a).1.length≤a.length+l.length
 | [],a=>by simp [z9b]
 | p::r,a=>by
  unfold z9b
  split
  ·simp
  ·split
   ·rename_i x y _ _
    have:=zmc r (a++[⟨x,y⟩])
    simp at this ⊢
    omega
   ·simp
theorem zlg (s:Z):(z25 s).1.length≤64:=by
 unfold z25
 split
 ·simp
 ·rename_i h
  split
  ·simp
  ·have:=zmc (z0l 38 s) []
   simp only [yat,ybn] at this
   omega
end
section
open Go.Lk Go.Pe
def isAl (b:UInt8):Bool:=isA b||(decide (97≤b.toNat)&&decide (b.toNat≤122))||isD b
def zrg (b:UInt8):Bool:=isAl b||decide (b=45)||decide (b=46)||decide (b=95)||decide (b=126)
def hxU (n:Nat):UInt8:=ybr (if n<10 then 48+n else 55+n)
def pctB (bl:Z) (c:UInt8):Z:=if zrg c=true then [c] else if c=32 then bl else [37,hxU (c.toNat / 16),hxU (c.toNat % 16)]
def pct (bl s:Z):Z:=s.flatMap (pctB bl)
theorem zrf (bl:Z) (c:UInt8) (s:Z):pct bl (c::s)=pctB bl c++pct bl s:=by simp [pct]
theorem zre {bl:Z} (h:bl.length≤3) (c:UInt8):(pctB bl c).length≤3:=by
 grind [pctB]
theorem zge {bl:Z} (h:bl.length≤3):∀ s:Z,(pct bl s).length≤3*s.length
 | []=>by simp [pct]
 | c::s=>by
  have h1:=zre h c
  have h2:=zge h s
  grind [zrf]
def ixP (c:UInt8):Int:=Lib.idxFunc (fun r=>decide ((r:Int) % 256=(c.toNat:Int))) true ⟨([45,46,95,126]:Z).toArray⟩
theorem M_ixP (c:UInt8):M.z1b ([45,46,95,126]:Z) (c.toNat:Int)=some (ixP c):=by rfl
def alI (x:Int):Bool:=(((decide (65≤x))&&(decide (x≤90)))||((decide (97≤x))&&(decide (x≤122))))||((decide (48≤x))&&(decide (x≤57)))
theorem zz02v:∀ c:UInt8,(alI (c.toNat:Int)||decide (0≤ixP c))=zrg c:=z5t (by decide +kernel)
def hex2 (x:Int):Option Z:=do
 let s151←sub ([48,49,50,51,52,53,54,55,56,57,65,66,67,68,69,70]:Z) (zdm .u8 x 4) (ybq .u8 ((zdm .u8 x 4)+1))
 let s152←cat ([37]:Z) s151
 let s153←sub ([48,49,50,51,52,53,54,55,56,57,65,66,67,68,69,70]:Z) (z7a .u8 x 15) (ybq .u8 ((z7a .u8 x 15)+1))
 cat s152 s153
theorem zzi:∀ c:UInt8,hex2 (c.toNat:Int)=some [37,hxU (c.toNat / 16),hxU (c.toNat % 16)]:=z5t (by decide +kernel)
theorem zsy {s bl:Z} (hb:bl.length≤3) (hs:s.length<100000000000):∀ (n i:Nat) (acc:Z),s.length - i=n→i≤s.length→acc.length+3*n<900000000000 →
  M.zl s bl (i:Int) (unb acc)=some (unb (acc++pct bl (s.drop i))):=by
 intro n
 induction n with
 | zero =>
  grind [M.zl,z04,pct]
 | succ n ih =>
  intro i acc hn hi ha
  have hlt:i<s.length:=by omega
  have h1:((i:Int)<((unb s).length:Int)):=by rw [z04];omega
  rw [M.zl,yz hlt,zrf]
  simp only [h1,decide_true,if_true,z4k,zh0,yak hlt,yf,ya,yc,M_ixP]
  rw [w1 (by omega)]
  have next:∀ t:Z,t=pctB bl s[i]→M.zl s bl ((i+1:Nat):Int) (unb (acc++t))=some (unb (acc++(pctB bl s[i]++pct bl (s.drop (i+1))))):=by
   rintro t rfl
   have:=zre hb s[i]
   rw [ih (i+1) _ (by omega) (by omega) (by grind),yt]
  have hal:((((decide (65≤((s[i]).toNat:Int)))&&(decide (((s[i]).toNat:Int)≤90)))||((decide (97≤((s[i]).toNat:Int)))&&(decide (((s[i]).toNat:Int)≤122))))||((decide (48≤((s[i]).toNat:Int)))&&(decide (((s[i]).toNat:Int)≤57))))=alI ((s[i]).toNat:Int):=rfl
  rw [hal]
  have hj:(if alI ((s[i]).toNat:Int)=true then some true else some (decide (0≤ixP s[i])))=some (zrg s[i]):=by
   rw [←zz02v s[i]]
   cases alI ((s[i]).toNat:Int)<;>simp
  rw [hj]
  simp only [yc]
  cases hp:zrg s[i] with
  | true =>
   rw [if_pos rfl,z2e (by rw [z04];omega)]
   simp_all [zh1,z2w,pctB]
  | false =>
   rw [if_neg (by decide)]
   by_cases h32:s[i]=32
   ·have:(((s[i]).toNat:Int)=32):=by rw [h32];rfl
    rw [if_pos (by grind),z1g (by omega)]
    simp_all [pctB]
   ·have:¬(((s[i]).toNat:Int)=32):=fun e=>h32 (by
     have e:(s[i]).toNat=32:=by omega
     rw [show (32:UInt8)=ybr 32 from rfl,←e]
     simp)
    have hx:=zzi s[i]
    unfold hex2 at hx
    simp only [ya] at hx
    rw [if_neg (by grind)]
    cases e1:sub ([48,49,50,51,52,53,54,55,56,57,65,66,67,68,69,70]:Z) (zdm .u8 ((s[i]).toNat:Int) 4) (ybq .u8 ((zdm .u8 ((s[i]).toNat:Int) 4)+1)) with
    | none=>grind
    | some y1 =>
     rw [e1] at hx
     simp only [yc] at hx ⊢
     cases e2:cat ([37]:Z) y1 with
     | none=>grind
     | some y2 =>
      rw [e2] at hx
      simp only [yc] at hx ⊢
      cases e3:sub ([48,49,50,51,52,53,54,55,56,57,65,66,67,68,69,70]:Z) (z7a .u8 ((s[i]).toNat:Int) 15) (ybq .u8 ((z7a .u8 ((s[i]).toNat:Int) 15)+1)) with
      | none=>grind
      | some y3 =>
       rw [e3] at hx
       simp only [yc] at hx ⊢
       rw [hx]
       simp only [yc]
       rw [z1g (by simp;omega)]
       simp_all [pctB]
theorem z6a {s bl:Z} (hb:bl.length≤3) (hs:s.length<100000000000):M.q0p s bl=some (pct bl s):=by
 unfold M.q0p
 rw [z3y (by simp;omega)]
 have h:=zsy hb hs _ 0 [] rfl (ybo _) (by simp;omega)
 have h:M.zl s bl 0 ([]:List Int)=_:=h
 grind [z3a]
def zsv (s:Z):Z:=pct [37,50,48] s
def pWord (s:Z):Z:=pct [43] s
theorem zec {s:Z} (hs:s.length<100000000000):M.q0n s=some (zsv s):=by
 unfold M.q0n
 rw [z6a (by simp) hs]
 rfl
def fld (p:q05):Z:=pWord p.zo++[61]++pWord p.z3g
def z74 (l:List q05):Z:=Lib.join (l.map fld) [38]
def form (l:List q05):Z × Int:=if 64<l.length then ([],14) else if 8192<(z74 l).length then ([],14) else (z74 l,0)
def zkg (l:List q05):Prop := ∀ p∈l,p.zo.length<100000000∧p.z3g.length<100000000
theorem ze0 (sep:Z):∀ l:List Z,(Lib.joinTail sep l).length=(l.map fun x=>x.length+sep.length).sum
 | []=>rfl
 | x::r=>by
  have h:=ze0 sep r
  have e:Lib.joinTail sep (x::r)=sep++x++Lib.joinTail sep r:=rfl
  grind
theorem zo6 (l:List Z) (sep:Z):(Lib.join l sep).length≤(l.map fun x=>x.length+sep.length).sum:=by
 cases l with
 | nil=>exact ybo _
 | cons x r =>
  grind [Lib.join_cons,ze0]
theorem zz02n {α:Type} (f:α→Nat) (B:Nat):∀ l:List α,(∀ x∈l,f x≤B)→(l.map f).sum≤l.length*B
 | [],_=>by simp
 | x::r,h=>by
  have h1:=h x (by simp)
  have h2:=zz02n f B r fun y hy=>h y (by simp [hy])
  grind [Nat.succ_mul]
theorem zz03l {p:q05} (h:p.zo.length<100000000∧p.z3g.length<100000000):(fld p).length≤600000000:=by
 grind [zge,fld,pWord]
theorem zz8 {l:List q05} (hl:l.length<100000000) (hf:zkg l):∀ (n i:Nat) (a:List Z),l.length - i=n→i≤l.length→a.length≤i →
  M.z07 l a (i:Int)=some (a++(l.drop i).map fld):=by
 intro n
 induction n with
 | zero =>
  grind [M.z07,yaa]
 | succ n ih =>
  intro i a hn hi ha
  have hlt:i<l.length:=by omega
  have h1:((i:Int)<(l.length:Int)):=by omega
  have hx:=hf l[i] (by simp)
  have hp1:=zge (bl:=[43]) (by simp) l[i].zo
  have hp2:=zge (bl:=[43]) (by simp) l[i].z3g
  rw [M.z07,yz hlt]
  simp only [h1,decide_true,if_true,z4k,yak hlt,ya,yc]
  rw [z6a (by simp) (by omega)]
  simp only [yc]
  rw [z9i (by simp;omega),z6a (by simp) (by omega)]
  simp only [yc]
  rw [z9i (by simp;omega)]
  simp only [yc]
  rw [z36 (by simp;omega),w1 (by omega)]
  simp only [yc]
  rw [ih (i+1) _ (by omega) (by omega) (by simp;omega)]
  grind [fld,pWord]
theorem zj0 {l:List q05} (hl:l.length<100000000) (hf:zkg l):M.q0i l=some (form l):=by
 unfold M.q0i form
 by_cases h64:64<l.length
 ·grind
 ·have:¬(64:Int)<(l.length:Int):=by omega
  have hk:=zz8 hl hf _ 0 [] rfl (ybo _) (by simp)
  have hk:M.z07 l [] 0=some ((l.drop 0).map fld):=hk
  rw [yae] at hk
  simp only [this,decide_false,yk,if_false,h64,ya,hk,yc]
  have hj:(z74 l).length≤140737488355328:=by
   unfold z74
   refine ybf (zo6 _ _) ?_
   rw [List.map_map]
   refine ybf (zz02n _ 600000001 l fun p hp => ?_) ?_
   ·have:=zz03l (hf p hp)
    grind
   ·omega
  have hm:M.join (l.map fld) [38]=some (z74 l):=by
   unfold M.join
   rw [z3y]
   ·rfl
   ·rw [yh,decide_eq_true_iff,decide_eq_true_iff]
    exact ⟨by simp;omega,hj⟩
  grind
def zlm:List q05→List Z→Option (List Z)
 | [],sn=>some sn
 | p::r,sn=>if (zqv p.zo&&isVal p.z3g && !sn.contains p.zo)=true then zlm r (p.zo::sn) else none
def zdd (l:List q05):Bool:=match zlm l [z7i,zdq] with
 | some sn=>decide (l.length≤32)&&sn.contains zch
 | none=>false
def zz02r (z:Option (Jn Bool (List (Z × Bool)))):Option (List Z)→Prop
 | none=>z=some (.done false)
 | some sn=>∃ m,z=some (.go m)∧SN m sn
theorem zzh {l:List q05} (hl:l.length<1000000000) (hf:zkg l):∀ (n i:Nat) (m:List (Z × Bool)) (sn:List Z),l.length - i=n→i≤l.length→SN m sn →
  zz02r (M.z2g l (i:Int) m) (zlm (l.drop i) sn):=by
 intro n
 induction n with
 | zero =>
  intro i m sn hn hi hs
  rw [M.z2g,yaa (by omega)]
  have:¬((i:Int)<(l.length:Int)):=by omega
  simp only [this,decide_false,yk,if_false]
  exact ⟨m,rfl,hs⟩
 | succ n ih =>
  intro i m sn hn hi hs
  have hlt:i<l.length:=by omega
  have h1:((i:Int)<(l.length:Int)):=by omega
  have hx:=hf l[i] (by simp)
  rw [M.z2g,yz hlt]
  simp only [h1,decide_true,if_true,z4k,yak hlt,ya,yc,zdz]
  rw [zci (by omega),hs]
  unfold zlm
  simp only [yc]
  have:=ih (i+1) (z3u m l[i].zo true) (l[i].zo::sn) (by omega) (by omega) (hs.put _)
  rw [w1 (by omega)]
  cases zqv l[i].zo<;>cases isVal l[i].z3g<;>cases sn.contains l[i].zo<;>first|exact this|rfl
theorem zji {l:List q05} (hl:l.length<1000000000) (hf:zkg l):M.q1n l=some (zdd l):=by
 unfold M.q1n zdd
 have hs:SN (z3u (z3u ([]:List (Z × Bool)) zdq true) z7i true) [z7i,zdq]:=by
  have h0:SN [] []:=fun k=>rfl
  exact (h0.put zdq).put z7i
 have hk:=zzh hl hf _ 0 _ _ rfl (ybo _) hs
 rw [yae] at hk
 simp only [ya,yc]
 have e:M.z2g l 0 (z3u (z3u ([]:List (Z × Bool)) (B27:Z) true) (B30:Z) true)=M.z2g l ((0:Nat):Int) (z3u (z3u ([]:List (Z × Bool)) zdq true) z7i true):=rfl
 rw [e]
 cases hr:zlm l [z7i,zdq] with
 | none =>
  rw [hr] at hk
  have hk:M.z2g l ((0:Nat):Int) _=some (.done false):=hk
  grind
 | some sn =>
  rw [hr] at hk
  obtain ⟨m,hk,hsn⟩:=hk
  rw [hk]
  simp only [yc]
  have hh:z7q m B47 false=sn.contains zch:=hsn _
  grind
def fit (q:q03):Prop:=q.z02.length<100000000∧q.z09.length<100000000∧(∀ p∈q.z09,p.length<100000000)∧q.z0r.length<100000000∧zkg q.z0r∧q.z0h.length<100000000∧zkg q.z0h∧q.z01.length<100000000
def zej (l:List Z):Z:=l.flatMap fun p=>47::zsv p
theorem pathS_nil:zej []=[]:=rfl
theorem zsx (p:Z) (r:List Z):zej (p::r)=47::zsv p++zej r:=rfl
def zvf (p:q05):Z:=p.zo++[58,32]++p.z3g++[13,10]
def zo0 (l:List q05):Z:=l.flatMap zvf
theorem headS_nil:zo0 []=[]:=rfl
theorem zsg (p:q05) (r:List q05):zo0 (p::r)=zvf p++zo0 r:=rfl
def clS (n:Nat):Z:=[99,111,110,116,101,110,116,45,108,101,110,103,116,104,58,32]++Lib.decDigits n++[13,10]
def za2 (q:q03):Z:=q.z02++[32]++zej q.z09++(if z74 q.z0r=[] then [] else 63::z74 q.z0r)++[32,72,84,84,80,47,49,46,49,13,10]++zo0 q.z0h++(if q.z01=[] then [] else clS q.z01.length)++[13,10]
def zx6 (q:q03):Bool:=decide ((form q.z0r).2=0)&&zcj q.z02&&decide (1≤q.z09.length)&&decide (q.z09.length≤64)&&zdd q.z0h && !(decide (q.z0h.length=32) && !decide (q.z01=[]))&&decide (q.z01.length≤16384)
def zwt (q:q03):Z × Int:=if zx6 q=true then (if 8192<(za2 q).length then ([],224) else (za2 q++q.z01,0)) else ([],224)
theorem zz00g {q:q03} (hl:q.z09.length≤64) (hm:∀ p∈q.z09,p.length<100000000):∀ (n i:Nat) (a:Z),q.z09.length - i=n→i≤q.z09.length→a.length≤500000000+i*400000000 →
  M.z3h q (i:Int) (unb a)=some (unb (a++zej (q.z09.drop i)))∧(a++zej (q.z09.drop i)).length≤500000000+q.z09.length*400000000:=by
 intro n
 induction n with
 | zero =>
  intro i a hn hi ha
  rw [M.z3h,yaa (by omega)]
  have:¬((i:Int)<(q.z09.length:Int)):=by omega
  have e:i=q.z09.length:=by omega
  simp_all [pathS_nil]
 | succ n ih =>
  intro i a hn hi ha
  have hlt:i<q.z09.length:=by omega
  have h1:((i:Int)<(q.z09.length:Int)):=by omega
  have hx:=hm q.z09[i] (by simp)
  have hp:=zge (bl:=[37,50,48]) (by simp) q.z09[i]
  rw [M.z3h,yz hlt]
  simp only [h1,decide_true,if_true,z4k,yak hlt,ya,yc]
  rw [zec (by omega)]
  simp only [yc]
  have hpl:(zsv q.z09[i]).length≤300000000:=by unfold zsv;omega
  rw [z9i (by simp;omega)]
  simp only [yc]
  rw [z1g (by simp;omega),w1 (by omega)]
  simp only [yc]
  have:=ih (i+1) (a++([47]++zsv q.z09[i])) (by omega) (by omega) (by simp;omega)
  grind [zsx]
theorem zz00h {q:q03} (hl:q.z0h.length≤32) (hm:zkg q.z0h):∀ (n i:Nat) (a:Z),q.z0h.length - i=n→i≤q.z0h.length→a.length≤60000000000+i*400000000 →
  M.z3j q (i:Int) (unb a)=some (unb (a++zo0 (q.z0h.drop i)))∧(a++zo0 (q.z0h.drop i)).length≤60000000000+q.z0h.length*400000000:=by
 intro n
 induction n with
 | zero =>
  intro i a hn hi ha
  rw [M.z3j,yaa (by omega)]
  have:¬((i:Int)<(q.z0h.length:Int)):=by omega
  have e:i=q.z0h.length:=by omega
  simp_all [headS_nil]
 | succ n ih =>
  intro i a hn hi ha
  have hlt:i<q.z0h.length:=by omega
  have h1:((i:Int)<(q.z0h.length:Int)):=by omega
  have hx:=hm q.z0h[i] (by simp)
  rw [M.z3j,yz hlt]
  simp only [h1,decide_true,if_true,z4k,yak hlt,ya,yc]
  rw [z9i (by simp;omega)]
  simp only [yc]
  rw [z9i (by simp;omega)]
  simp only [yc]
  rw [z9i (by simp;omega)]
  simp only [yc]
  rw [z1g (by simp;omega),w1 (by omega)]
  simp only [yc]
  have:=ih (i+1) (a++zvf q.z0h[i]) (by omega) (by omega) (by unfold zvf;simp;omega)
  grind [zvf,zsg]
theorem zj5 {n k:Nat} (h:n<10 ^ k) (hk:1≤k):(Lib.decDigits n).length≤k:=by
 induction k generalizing n with
 | zero=>omega
 | succ k ih =>
  grind [Lib.decDigits]
end
section
open Go.Lk Go.Pe
def no (c:UInt8) (s:Z):Prop := ∀ b∈s,¬b=c
theorem no.cons {c x:UInt8} {r:Z} (h:no c (x::r)):¬x=c∧no c r:=⟨h x (by simp),fun b hb=>h b (by simp [hb])⟩
theorem no.app {c:UInt8} {s t:Z} (h:no c s) (k:no c t):no c (s++t):=fun b hb=>(yaw.1 hb).elim (h b) (k b)
theorem znp {c:UInt8}:∀ {s:Z},no c s→z1h c s=(s,[],false)
 | [],_=>rfl
 | x::r,h=>by
  obtain ⟨h1,h2⟩:=h.cons
  rw [z3e,if_neg h1,znp h2]
theorem zj3 {c:UInt8} (t:Z):∀ {s:Z},no c s→z1h c (s++c::t)=(s,t,true)
 | [],_=>by rw [yay,z3e,if_pos rfl]
 | x::r,h=>by
  obtain ⟨h1,h2⟩:=h.cons
  rw [yv,z3e,if_neg h1,zj3 t h2]
theorem zmz {c:UInt8}:∀ {s:Z},no c s→z0l c s=[s]
 | [],_=>rfl
 | x::r,h=>by
  obtain ⟨h1,h2⟩:=h.cons
  unfold z0l
  rw [if_neg h1,zmz h2]
theorem zmx {c:UInt8} (t:Z):∀ {s:Z},no c s→z0l c (s++c::t)=s::z0l c t
 | [],_=>by
  conv=>lhs;rw [yay];unfold z0l
  simp
 | x::r,h=>by
  obtain ⟨h1,h2⟩:=h.cons
  rw [yv]
  conv=>lhs;unfold z0l
  rw [if_neg h1,zmx t h2]
def target (q:q03):Z:=zej q.z09++(if z74 q.z0r=[] then [] else 63::z74 q.z0r)
end
section
open Go.Lk Go.Pe
def bv (l:List Bool):Nat:=l.foldl (fun n b=>2*n+b.toNat) 0
theorem bv_go (l:List Bool):∀ n,l.foldl (fun n b=>2*n+b.toNat) n=n*2 ^ l.length+bv l:=by
 induction l with
 | nil=>intro n;simp [bv]
 | cons b l ih =>
  intro n
  unfold bv
  rw [yah,yah,ih,ih (2*0+b.toNat),yaq,ybk]
  have:(2*n+b.toNat)*2 ^ l.length=n*(2 ^ l.length*2)+b.toNat*2 ^ l.length:=by
   rw [Nat.add_mul,ybi 2 n,Nat.mul_assoc,ybi 2 (2 ^ l.length)]
  rw [this,Nat.mul_zero,ybn,yba]
theorem zu9 (a b:List Bool):bv (a++b)=bv a*2 ^ b.length+bv b:=by
 conv=>lhs;unfold bv
 rw [List.foldl_append,bv_go]
 rfl
theorem zit (x:Bool) (l:List Bool):bv (x::l)=x.toNat*2 ^ l.length+bv l:=by
 have:=zu9 [x] l
 rw [show bv [x]=x.toNat from by simp [bv]] at this
 exact this
theorem ziu (l:List Bool):bv l<2 ^ l.length:=by
 induction l with
 | nil=>simp [bv]
 | cons x l ih =>
  rw [zit,yaq,ybk]
  cases x<;>simp<;>omega
def z6g:Nat→Nat→List Bool
 | 0,_=>[]
 | k+1,n=>n.testBit k::z6g k n
theorem z3b (n:Nat):∀ k,(z6g k n).length=k
 | 0=>rfl
 | k+1=>by rw [z6g,yaq,z3b n k]
theorem znj (n:Nat):∀ k,bv (z6g k n)=n % 2 ^ k
 | 0=>by simp [z6g,bv,Nat.mod_one]
 | k+1=>by
  rw [z6g,zit,z3b,znj n k,ybk,Nat.mod_mul,Nat.toNat_testBit,ybi,ybb]
theorem zkr {m n:Nat}:∀ k,(∀ i,i<k→m.testBit i=n.testBit i)→z6g k m=z6g k n
 | 0,_=>rfl
 | k+1,h=>by rw [z6g,z6g,h k (by omega),zkr k fun i hi=>h i (by omega)]
theorem zis:∀ l:List Bool,z6g l.length (bv l)=l
 | []=>rfl
 | x::l=>by
  have hl:=ziu l
  rw [yaq,z6g]
  have e:bv (x::l)=2 ^ l.length*x.toNat+bv l:=by rw [zit,ybi]
  have h1:(bv (x::l)).testBit l.length=x:=by
   rw [e,ybm _ hl,if_neg (by omega),ybl]
   cases x<;>rfl
  have h2:z6g l.length (bv (x::l))=z6g l.length (bv l):=zkr _ fun i hi=>by
   rw [e,ybm _ hl,if_pos hi]
  rw [h1,h2,zis l]
def zr3:Z:=[65,66,67,68,69,70,71,72,73,74,75,76,77,78,79,80,81,82,83,84,85,86,87,88,89,90,97,98,99,100,101,102,103,104,105,106,107,108,109,110,111,112,113,114,115,116,117,118,119,120,121,122,48,49,50,51,52,53,54,55,56,57,45,95]
def ltr (n:Nat):UInt8:=zr3[n]?.getD 0
def unl (c:UInt8):Option Nat:=zr3.findIdx? (fun x=>decide (x=c))
theorem zz05t:∀ c:UInt8,(match unl c with
  | some n=>decide (n<64)&&decide (ltr n=c)
  | none=>true)=true:=z5t (by decide +kernel)
theorem zka {c:UInt8} {n:Nat} (h:unl c=some n):n<64∧ltr n=c:=by
 have:=zz05t c
 rw [h] at this
 simpa using this
theorem zwa:∀ n:Fin 64,unl (ltr n.val)=some n.val:=by decide +kernel
theorem zz04k {m n:Nat} (hm:m<64) (hn:n<64) (h:ltr m=ltr n):m=n:=by
 have h1:=zwa ⟨m,hm⟩
 have h2:=zwa ⟨n,hn⟩
 simp only at h1 h2
 rw [h,h2] at h1
 exact (Option.some.inj h1).symm
def znd (l:List Bool):List Bool:=l++ya1 (6 - l.length) false
def zl6:Nat→List Bool→Z
 | 0,_=>[]
 | n+1,l=>ltr (bv (znd (l.take 6)))::zl6 n (l.drop 6)
def zl1:Nat→List Bool→Z
 | 0,_=>[]
 | n+1,l=>ybr (bv (l.take 8))::zl1 n (l.drop 8)
def z8h (s:Z):List Bool:=s.flatMap fun c=>z6g 8 c.toNat
theorem zd6 (c:UInt8) (s:Z):z8h (c::s)=z6g 8 c.toNat++z8h s:=rfl
theorem zkp:∀ s:Z,(z8h s).length=8*s.length
 | []=>rfl
 | c::s=>by rw [zd6,yap,z3b,zkp s,yaq];omega
def b64E (s:Z):Z:=zl6 ((8*s.length+5) / 6) (z8h s)
def zn8:Z→Option (List Nat)
 | []=>some []
 | c::s=>match unl c,zn8 s with
  | some n,some l=>some (n::l)
  | _,_=>none
def z5h (l:List Nat):List Bool:=l.flatMap (z6g 6)
theorem za9 (n:Nat) (l:List Nat):z5h (n::l)=z6g 6 n++z5h l:=rfl
theorem z7x:∀ l:List Nat,(z5h l).length=6*l.length
 | []=>rfl
 | c::s=>by rw [za9,yap,z3b,z7x s,yaq];omega
def zn3 (l:List Bool):Bool:=decide (l.length<6)&&l.all (!·)
def zyl (s:Z):Option Z:=match zn8 s with
 | none=>none
 | some l=>if zn3 ((z5h l).drop (8*(6*l.length / 8)))=true then some (zl1 (6*l.length / 8) (z5h l)) else none
theorem zqc:∀ (n:Nat) (l:List Bool),(zl6 n l).length=n
 | 0,_=>rfl
 | n+1,l=>by rw [zl6,yaq,zqc]
theorem zz00c (a:List Bool) (k:Nat):znd ((a++ya1 k false).take 6)=znd (a.take 6):=by
 by_cases h:6≤a.length
 ·rw [ya6 h]
 ·rw [List.take_append,ya8 (show a.length≤6 by omega),List.take_replicate]
  unfold znd
  rw [yt,yap,yau,List.replicate_append_replicate]
  congr 2
  omega
theorem zj7:∀ (n:Nat) (a:List Bool) (k:Nat),zl6 n (a++ya1 k false)=zl6 n a
 | 0,_,_=>rfl
 | n+1,a,k=>by
  rw [zl6,zl6,zz00c,List.drop_append,List.drop_replicate,zj7 n]
theorem zfc:∀ (s:Z) (l:List Nat),zn8 s=some l→zl6 s.length (z5h l)=s∧l.length=s.length
 | [],l,h=>by
  cases h
  exact ⟨rfl,rfl⟩
 | c::s,l,h=>by
  unfold zn8 at h
  cases h1:unl c with
  | none=>rw [h1] at h;cases h
  | some n =>
   cases h2:zn8 s with
   | none=>rw [h1,h2] at h;cases h
   | some r =>
    rw [h1,h2] at h
    cases h
    have ⟨h3,h4⟩:=zka h1
    have ⟨h5,h6⟩:=zfc s r h2
    rw [yaq,zl6,za9,ya6 (by rw [z3b];omega),ya8 (by rw [z3b];omega),yab (z3b n 6),h5]
    refine ⟨?_,by rw [yaq,h6]⟩
    unfold znd
    rw [z3b,ybl,ya2,yu,znj,ybh (by omega),h4]
theorem zqb:∀ (n:Nat) (a b:List Bool),a.length=6*n→b.length=6*n→zl6 n a=zl6 n b→a=b
 | 0,a,b,ha,hb,_=>by
  rw [yas.1 (show a.length=0 by omega),yas.1 (show b.length=0 by omega)]
 | n+1,a,b,ha,hb,h=>by
  rw [zl6,zl6] at h
  have h1:=(List.cons.inj h).1
  have h2:=zqb n (a.drop 6) (b.drop 6) (by rw [yar];omega) (by rw [yar];omega) (List.cons.inj h).2
  have la:(a.take 6).length=6:=by rw [yav];omega
  have lb:(b.take 6).length=6:=by rw [yav];omega
  unfold znd at h1
  rw [la,lb,ybl,ya2,yu,yu] at h1
  have va:=ziu (a.take 6)
  have vb:=ziu (b.take 6)
  rw [la] at va
  rw [lb] at vb
  have h3:=zz04k va vb h1
  have h4:=zis (a.take 6)
  have h5:=zis (b.take 6)
  rw [la] at h4
  rw [lb,←h3,h4] at h5
  rw [←ya5 6 a,←ya5 6 b,h2,h5]
theorem zih {n:Nat} (h:n<256):(ybr n).toNat=n:=by
 rw [UInt8.toNat_ofNat']
 exact ybh h
theorem zl2:∀ (n:Nat) (b:List Bool),8*n≤b.length→z8h (zl1 n b)=b.take (8*n)
 | 0,b,_=>by simp [zl1,z8h]
 | n+1,b,h=>by
  have l8:(b.take 8).length=8:=by rw [yav];omega
  have hv:=ziu (b.take 8)
  rw [l8] at hv
  have h4:=zis (b.take 8)
  rw [l8] at h4
  rw [zl1,zd6,zl2 n _ (by rw [yar];omega),zih hv,h4]
  rw [show 8*(n+1)=8+8*n by omega,List.take_add]
theorem zj4:∀ (n:Nat) (l:List Bool),(zl1 n l).length=n
 | 0,_=>rfl
 | n+1,l=>by rw [zl1,yaq,zj4]
theorem all_false:∀ {l:List Bool},l.all (!·)=true→l=ya1 l.length false
 | [],_=>rfl
 | x::l,h=>by
  rw [List.all_cons,yh] at h
  have:=all_false h.2
  rw [yaq,List.replicate_succ,←this]
  cases x
  ·rfl
  ·simp at h
theorem zx5 (n:Nat):(ya1 n false).all (!·)=true:=by simp
theorem zz032 {s:Z} {l:List Nat} (h:zn8 s=some l):b64E (zl1 (6*l.length / 8) (z5h l))=s↔zn3 ((z5h l).drop (8*(6*l.length / 8)))=true:=by
 have ⟨h1,h2⟩:=zfc s l h
 obtain ⟨B,hB⟩:∃ B,z5h l=B:=⟨_,rfl⟩
 have hL:=z7x l
 rw [hB] at hL h1
 rw [hB]
 obtain ⟨n,hn⟩:∃ n,6*l.length / 8=n:=⟨_,rfl⟩
 rw [hn]
 have h8:8*n≤B.length:=by omega
 have hlen:(B.take (8*n)).length=8*n:=by rw [yav];omega
 have hdl:(B.drop (8*n)).length=B.length - 8*n:=yar ..
 unfold b64E
 rw [zl2 n B h8,zj4]
 unfold zn3
 rw [yh,decide_eq_true_eq,hdl]
 constructor
 ·intro e
  have e1:=congrArg List.length e
  rw [zqc] at e1
  have hr:B.length - 8*n<6:=by omega
  refine ⟨hr,?_⟩
  rw [e1] at e
  rw [←zj7 s.length (B.take (8*n)) (B.length - 8*n)] at e
  have e2:=zqb s.length _ B (by rw [yap,hlen,yau];omega) (by omega) (e.trans h1.symm)
  have e3:B.drop (8*n)=ya1 (B.length - 8*n) false:=by
   have:=congrArg (List.drop (8*n)) e2
   rw [yab hlen] at this
   exact this.symm
  rw [e3]
  exact zx5 _
 ·intro ⟨hr,hz⟩
  have e1:(8*n+5) / 6=s.length:=by omega
  rw [e1,←zj7 s.length (B.take (8*n)) (B.length - 8*n)]
  have e3:=all_false hz
  rw [hdl] at e3
  rw [←e3,ya5,h1]
end
section
open Go.Lk Go.Pe
def q02.sz (f:q02):Nat:=f.zo.length+kys f.z7m+1
def zli (l:List q02):Nat:=(l.map (·.sz)).sum
theorem zlj (f:q02) (l:List q02):zli (f::l)=f.sz+zli l:=by simp [zli]
theorem zqq:∀ l:List q02,l.length≤zli l
 | []=>by simp
 | f::l=>by have:=zqq l;rw [zlj,yaq];unfold q02.sz;omega
theorem zph:∀ {l:List Nat} {x:Nat},x∈l→x≤l.sum
 | a::l,x,h=>by
  rw [List.sum_cons]
  rcases yax.1 h with rfl|h
  ·omega
  ·have:=zph h;omega
def kId:Z:=[105,100]
def z4a:Z:=[102,105,101,108,100,115]
end
section
open Go.Lk Go.Pe
def q05.sz (p:q05):Nat:=p.zo.length+p.z3g.length+1
def zrj (l:List q05):Nat:=(l.map (·.sz)).sum
theorem zme (f:q05) (l:List q05):zrj (f::l)=f.sz+zrj l:=by simp [zrj]
theorem zrk (l:List q05):l.length≤zrj l:=by
 induction l with
 | nil=>simp
 | cons x l ih =>
  rw [zme,yaq]
  unfold q05.sz
  omega
theorem zz00i {l:List q05} {p:q05} (h:p∈l):p.sz≤zrj l:=zph (List.mem_map.2 ⟨p,h,rfl⟩)
def q03.sz (q:q03):Nat:=q.z02.length+kys q.z09+zrj q.z0r+zrj q.z0h+q.z01.length
end
end Go.Sen
