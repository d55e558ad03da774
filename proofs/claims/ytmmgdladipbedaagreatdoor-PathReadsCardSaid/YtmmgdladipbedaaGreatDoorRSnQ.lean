import Derived.Test.YtmmgdladipbedaaGreatDoorRPaM
import Derived.Test.YtmmgdladipbedaaGreatDoorRPaP5
set_option linter.all false
namespace Go.Sen
open _root_.Option renaming bind_eq_bind → ya, bind_some → yb
open _root_.Bool renaming false_eq_true → yc
open _root_.List renaming drop_drop → yd, drop_zero → ye, getElem?_eq_getElem → yf, length_drop → yg, take_succ_cons → yh, take_zero → yi
open _root_.Nat renaming mod_eq_of_lt → yj, or_lt_two_pow → yk
open IntKind renaming u64 → yl, wrap → ym
open Go.Lk Go.Pe
theorem z4b {a b:Nat} (ha:a<18446744073709551616) (hb:b<18446744073709551616):orI .u64 (a:Int) (b:Int)=((a ||| b:Nat):Int):=by
 have h:(a ||| b)<2 ^ 64:=yk (by simpa using ha) (by simpa using hb)
 have e:(BitVec.ofInt yl.bits (a:Int) ||| BitVec.ofInt yl.bits (b:Int)).toNat=a ||| b:=by
  show (BitVec.ofInt 64 (a:Int) ||| BitVec.ofInt 64 (b:Int)).toNat=a ||| b
  rw [BitVec.toNat_or,BitVec.ofInt_natCast,BitVec.ofInt_natCast,BitVec.toNat_ofNat,BitVec.toNat_ofNat,yj (by simpa using ha),yj (by simpa using hb)]
 unfold orI
 rw [e,zuj (by omega) (by omega)]
theorem zpr {a b:Nat} (ha:a<18446744073709551616) (hb:b<18446744073709551616):zd0 .u64 (a:Int) (b:Int)=((a &&& b:Nat):Int):=by
 have h:(a &&& b)<2 ^ 64:=Nat.and_lt_two_pow _ (by simpa using hb)
 have e:(BitVec.ofInt yl.bits (a:Int) &&& BitVec.ofInt yl.bits (b:Int)).toNat=a &&& b:=by
  show (BitVec.ofInt 64 (a:Int) &&& BitVec.ofInt 64 (b:Int)).toNat=a &&& b
  rw [BitVec.toNat_and,BitVec.ofInt_natCast,BitVec.ofInt_natCast,BitVec.toNat_ofNat,BitVec.toNat_ofNat,yj (by simpa using ha),yj (by simpa using hb)]
 unfold zd0
 rw [e,zuj (by omega) (by omega)]
theorem z5w {a k:Nat} (hk:k≤64) (ha:a*2 ^ k<18446744073709551616):z4p .u64 (a:Int) ((k:Nat):Int)=((a*2 ^ k:Nat):Int):=by
 have e:min ((k:Nat):Int).toNat yl.bits=k:=by
  show min ((k:Nat):Int).toNat 64=k
  omega
 unfold z4p
 rw [e,show (a:Int)*2 ^ k=((a*2 ^ k:Nat):Int) by simp,zuj (by omega) (by omega)]
def hiB:Nat:=9259542123273814144
theorem zqq:∀ b:Fin 256,∀ i:Fin 8,(b.val*2 ^ (8*i.val)) &&& hiB=0→b.val<128:=by decide +kernel
theorem za6 {b:UInt8} (i:Nat) (hi:i<8) (h:(b.toNat*2 ^ (8*i)) &&& hiB=0):b.toNat<128:=zqq ⟨b.toNat,z8v⟩ ⟨i,hi⟩ h
theorem z6a {b:UInt8} (i:Nat) (hi:i<8):b.toNat*2 ^ (8*i)<18446744073709551616:=by
 have h1:=z8v (b:=b)
 have h2:2 ^ (8*i)≤2 ^ 56:=Nat.pow_le_pow_right (by decide) (by omega)
 have h3:b.toNat*2 ^ (8*i)≤255*2 ^ 56:=Nat.mul_le_mul (by omega) h2
 omega
theorem z9n {a b:Nat} (ha:a<18446744073709551616) (hb:b<18446744073709551616):(a ||| b)<18446744073709551616:=by
 have h:(a ||| b)<2 ^ 64:=yk (by simpa using ha) (by simpa using hb)
 simpa using h
theorem z8d {s:List UInt8} (h:8≤s.length):∃ W:Nat,W<18446744073709551616∧M.word (unb s)=some (W:Int)∧(W &&& hiB=0→∀ b∈s.take 8,b.toNat<128):=by
 obtain ⟨b0,b1,b2,b3,b4,b5,b6,b7,r,rfl⟩:∃ b0 b1 b2 b3 b4 b5 b6 b7 r,s=b0::b1::b2::b3::b4::b5::b6::b7::r:=by
  match s,h with
  | b0::b1::b2::b3::b4::b5::b6::b7::r,_=>exact ⟨b0,b1,b2,b3,b4,b5,b6,b7,r,rfl⟩
 have w:∀ b:UInt8,ym .u64 (b.toNat:Int)=(b.toNat:Int):=fun b=>zuj (by omega) (by have:=z8v (b:=b);omega)
 have l0:=z6a (b:=b0) 0 (by decide);have l1:=z6a (b:=b1) 1 (by decide);have l2:=z6a (b:=b2) 2 (by decide);have l3:=z6a (b:=b3) 3 (by decide)
 have l4:=z6a (b:=b4) 4 (by decide);have l5:=z6a (b:=b5) 5 (by decide);have l6:=z6a (b:=b6) 6 (by decide);have l7:=z6a (b:=b7) 7 (by decide)
 have s1:z4p .u64 (b1.toNat:Int) 8=_:=z5w (k:=8*1) (by decide) l1
 have s2:z4p .u64 (b2.toNat:Int) 16=_:=z5w (k:=8*2) (by decide) l2
 have s3:z4p .u64 (b3.toNat:Int) 24=_:=z5w (k:=8*3) (by decide) l3
 have s4:z4p .u64 (b4.toNat:Int) 32=_:=z5w (k:=8*4) (by decide) l4
 have s5:z4p .u64 (b5.toNat:Int) 40=_:=z5w (k:=8*5) (by decide) l5
 have s6:z4p .u64 (b6.toNat:Int) 48=_:=z5w (k:=8*6) (by decide) l6
 have s7:z4p .u64 (b7.toNat:Int) 56=_:=z5w (k:=8*7) (by decide) l7
 have z0:b0.toNat<18446744073709551616:=by have:=z8v (b:=b0);omega
 have o1:=z9n z0 l1;have o2:=z9n o1 l2;have o3:=z9n o2 l3;have o4:=z9n o3 l4;have o5:=z9n o4 l5;have o6:=z9n o5 l6;have o7:=z9n o6 l7
 refine ⟨_,o7,?_,?_⟩
 ·unfold M.word
  have e:unb (b0::b1::b2::b3::b4::b5::b6::b7::r)=(b0.toNat:Int)::(b1.toNat:Int)::(b2.toNat:Int)::(b3.toNat:Int)::(b4.toNat:Int)::(b5.toNat:Int)::(b6.toNat:Int)::(b7.toNat:Int)::unb r:=rfl
  rw [e]
  have i0:∀ (l:List Int),ix l 0=l[0]?:=fun l=>by simp [ix]
  have i1:∀ (l:List Int),ix l 1=l[1]?:=fun l=>by simp [ix]
  have i2:∀ (l:List Int),ix l 2=l[2]?:=fun l=>by simp [ix]
  have i3:∀ (l:List Int),ix l 3=l[3]?:=fun l=>by simp [ix]
  have i4:∀ (l:List Int),ix l 4=l[4]?:=fun l=>by simp [ix]
  have i5:∀ (l:List Int),ix l 5=l[5]?:=fun l=>by simp [ix]
  have i6:∀ (l:List Int),ix l 6=l[6]?:=fun l=>by simp [ix]
  have i7:∀ (l:List Int),ix l 7=l[7]?:=fun l=>by simp [ix]
  simp only [i0,i1,i2,i3,i4,i5,i6,i7,List.getElem?_cons_zero,List.getElem?_cons_succ,ya,yb,w,s1,s2,s3,s4,s5,s6,s7]
  rw [z4b z0 l1,z4b o1 l2,z4b o2 l3,z4b o3 l4,z4b o4 l5,z4b o5 l6,z4b o6 l7]
 ·intro hz
  simp only [Lib.or_mask] at hz
  obtain ⟨⟨⟨⟨⟨⟨⟨h0,h1⟩,h2⟩,h3⟩,h4⟩,h5⟩,h6⟩,h7⟩:=hz
  intro b hb
  simp only [yh,yi,List.mem_cons,List.not_mem_nil,or_false] at hb
  rcases hb with rfl|rfl|rfl|rfl|rfl|rfl|rfl|rfl
  ·exact za6 0 (by decide) (by simpa using h0)
  ·exact za6 1 (by decide) h1
  ·exact za6 2 (by decide) h2
  ·exact za6 3 (by decide) h3
  ·exact za6 4 (by decide) h4
  ·exact za6 5 (by decide) h5
  ·exact za6 6 (by decide) h6
  ·exact za6 7 (by decide) h7
theorem zrl (s:List UInt8) (k:Nat):(unb s).drop k=unb (s.drop k):=by simp [unb]
theorem z4d {s:List UInt8} {k:Nat} (h:k≤s.length):sub (unb s) (k:Int) ((unb s).length:Int)=some (unb (s.drop k)):=by
 rw [z8b (by rw [z1b];exact h),zrl]
theorem zt0:(9259542123273814144:Int)=((hiB:Nat):Int):=rfl
theorem zmy {W:Nat} (h:W<18446744073709551616):(decide (zd0 .u64 (W:Int) 9259542123273814144=0))=decide (W &&& hiB=0):=by
 rw [zt0,zpr h (by decide)]
 exact decide_eq_decide.2 (by omega)
theorem z5f {s:List UInt8} {a b:Nat} (ha:∀ x∈s.take a,x.toNat<128) (hb:∀ x∈(s.drop a).take b,x.toNat<128):∀ x∈s.take (a+b),x.toNat<128:=by
 intro x hx
 rw [List.take_add] at hx
 rcases List.mem_append.1 hx with h|h
 ·exact ha x h
 ·exact hb x h
theorem zj8:∀ (n:Nat) (s:List UInt8),s.length≤n→∃ k,M.z5x (unb s)=some (unb (s.drop k))∧∀ b∈s.take k,b.toNat<128:=by
 intro n
 induction n with
 | zero =>
  intro s hs
  refine ⟨0,?_,by simp⟩
  rw [M.z5x.eq_1]
  have h1:¬(32:Int)<((unb s).length:Int):=by rw [z1b];omega
  simp [h1]
 | succ n ih =>
  intro s hs
  rw [M.z5x.eq_1]
  by_cases h32:32<s.length
  ·have h1:(32:Int)<((unb s).length:Int):=by rw [z1b];omega
   have e8:sub (unb s) 8 ((unb s).length:Int)=some (unb (s.drop 8)):=z4d (k:=8) (by omega)
   have e16:sub (unb s) 16 ((unb s).length:Int)=some (unb (s.drop 16)):=z4d (k:=16) (by omega)
   have e24:sub (unb s) 24 ((unb s).length:Int)=some (unb (s.drop 24)):=z4d (k:=24) (by omega)
   have e32:sub (unb s) 32 ((unb s).length:Int)=some (unb (s.drop 32)):=z4d (k:=32) (by omega)
   obtain ⟨W0,a0,b0,c0⟩:=z8d (s:=s) (by omega)
   obtain ⟨W1,a1,b1,c1⟩:=z8d (s:=s.drop 8) (by simp;omega)
   obtain ⟨W2,a2,b2,c2⟩:=z8d (s:=s.drop 16) (by simp;omega)
   obtain ⟨W3,a3,b3,c3⟩:=z8d (s:=s.drop 24) (by simp;omega)
   simp only [h1,decide_true,if_true,e8,e16,e24,e32,b0,b1,b2,b3,ya,yb]
   rw [z4b a0 a1,z4b a2 a3,z4b (z9n a0 a1) (z9n a2 a3),zmy (z9n (z9n a0 a1) (z9n a2 a3))]
   by_cases hz:(W0 ||| W1 ||| (W2 ||| W3)) &&& hiB=0
   ·simp only [hz,decide_true,if_true]
    obtain ⟨k,k1,k2⟩:=ih (s.drop 32) (by simp;omega)
    simp only [Lib.or_mask] at hz
    refine ⟨32+k,by rw [k1,yd],z5f ?_ k2⟩
    have t1:=z5f (c0 hz.1.1) (c1 hz.1.2)
    have t2:=z5f t1 (c2 hz.2.1)
    exact z5f t2 (c3 hz.2.2)
   ·simp only [hz,decide_false,yc,if_false]
    exact ⟨0,by simp,by simp⟩
  ·have h1:¬(32:Int)<((unb s).length:Int):=by rw [z1b];omega
   exact ⟨0,by simp [h1],by simp⟩
theorem zqa {c:Nat} (h:c<256):ix utf8First (c:Int)=some ((Lib.firstT c:Nat):Int):=by
 rw [z2r]
 unfold utf8First
 simp [h]
theorem zv2 {i:Nat} (h:i<16):ix z8c (i:Int)=some ⟨((Lib.accLo i:Nat):Int),((Lib.accHi i:Nat):Int)⟩:=by
 rw [z2r]
 unfold z8c
 simp [h]
theorem zqb (c:Nat):Lib.firstT c<256:=by
 unfold Lib.firstT
 repeat' split
 all_goals omega
theorem zpq:∀ b:Fin 256,ym .i64 (zd0 .u8 ((b.val:Nat):Int) 7)=((b.val % 8:Nat):Int):=by decide +kernel
theorem shr4 {n:Nat}:zma .u8 (n:Int) 4=((n / 16:Nat):Int):=by
 have e:min (4:Int).toNat IntKind.u8.bits=4:=rfl
 unfold zma
 rw [e,show ((2:Int) ^ 4)=16 from rfl,Int.fdiv_eq_ediv_of_nonneg _ (by decide)]
 omega
theorem zk7 {s:List UInt8} {i:Nat} (h:i<s.length):ix (unb s) (i:Int)=some (((s.getD i 0).toNat:Nat):Int):=by
 rw [z2r,zj5,yf h,List.getD_eq_getElem?_getD,yf h]
 rfl
def VK (b:Bool):Jn Bool Unit:=if b=true then .go () else .done false
set_option maxRecDepth 100000 in
set_option maxHeartbeats 2000000 in
theorem zj7:∀ (n:Nat) (s:List UInt8),s.length≤n→M.z2v (unb s)=some (VK (Lib.validD s)):=by
 intro n
 induction n with
 | zero =>
  intro s hs
  obtain rfl:s=[]:=List.eq_nil_of_length_eq_zero (by omega)
  rw [M.z2v.eq_1]
  rfl
 | succ n ih =>
  intro s hs
  by_cases hne:s=[]
  ·subst hne
   rw [M.z2v.eq_1]
   rfl
  have hpos:0<s.length:=List.length_pos_iff.2 hne
  rw [M.z2v.eq_1]
  have h0:(0:Int)<((unb s).length:Int):=by rw [z1b];omega
  have x0:ix (unb s) 0=some (((s.getD 0 0).toNat:Nat):Int):=zk7 (i:=0) hpos
  simp only [h0,decide_true,if_true,x0,ya,yb]
  by_cases hc:(s.getD 0 0).toNat<128
  ·have hci:(((s.getD 0 0).toNat:Nat):Int)<128:=by omega
   have e1:sub (unb s) 1 ((unb s).length:Int)=some (unb (s.drop 1)):=z4d (k:=1) (by omega)
   have hs1:(s.drop 1).length<s.length:=by simp;omega
   have a0:∀ b∈s.take 1,b.toNat<128:=by
    obtain ⟨c,r,rfl⟩:∃ c r,s=c::r:=by
     cases s with
     | nil=>exact (hne rfl).elim
     | cons c r=>exact ⟨c,r,rfl⟩
    intro b hb
    simp only [yh,yi,List.mem_singleton] at hb
    subst hb
    simpa using hc
   have fin:∀ k:Nat,(∀ b∈(s.drop 1).take k,b.toNat<128)→((M.z2v (unb ((s.drop 1).drop k))).bind fun r=>some (Jn.done r:Jn (Jn Bool Unit) Unit))=some (.done (VK (Lib.validD s))):=fun k hk=>by
    rw [ih _ (by rw [yg];omega),yb,←Lib.validD_ascii k _ hk,←Lib.validD_ascii 1 _ a0]
   simp only [hci,decide_true,if_true,e1,yb]
   generalize s.drop 1=t at e1 hs1 fin
   by_cases h8:8<t.length
   ·have h8i:(8:Int)<((unb t).length:Int):=by rw [z1b];omega
    obtain ⟨W0,a0',b0,c0⟩:=z8d (s:=t) (by omega)
    simp only [h8i,decide_true,if_true,b0,yb]
    rw [zmy a0']
    by_cases hz:W0 &&& hiB=0
    ·have e8:sub (unb t) 8 ((unb t).length:Int)=some (unb (t.drop 8)):=z4d (k:=8) (by omega)
     simp only [hz,decide_true,if_true,e8,yb]
     have k8:=c0 hz
     by_cases h16:16<(t.drop 8).length
     ·have h16i:(16:Int)<((unb (t.drop 8)).length:Int):=by rw [z1b];omega
      obtain ⟨W1,a1,b1,c1⟩:=z8d (s:=t.drop 8) (by omega)
      obtain ⟨W2,a2,b2,c2⟩:=z8d (s:=(t.drop 8).drop 8) (by rw [yg];omega)
      have e82:sub (unb (t.drop 8)) 8 ((unb (t.drop 8)).length:Int)=some (unb ((t.drop 8).drop 8)):=z4d (k:=8) (by omega)
      have e16:sub (unb (t.drop 8)) 16 ((unb (t.drop 8)).length:Int)=some (unb ((t.drop 8).drop 16)):=z4d (k:=16) (by omega)
      simp only [h16i,decide_true,if_true,e82,b1,b2,yb]
      rw [z4b a1 a2,zmy (z9n a1 a2)]
      by_cases hz2:(W1 ||| W2) &&& hiB=0
      ·simp only [hz2,decide_true,if_true,e16,yb]
       obtain ⟨k,k1,k2⟩:=zj8 _ ((t.drop 8).drop 16) (Nat.le_refl _)
       simp only [Lib.or_mask] at hz2
       have q1:=z5f (c1 hz2.1) (c2 hz2.2)
       have q2:=z5f q1 k2
       have q3:=z5f k8 q2
       have f:=fin (8+(8+8+k)) q3
       have ek:((t.drop 8).drop 16).drop k=t.drop (8+(8+8+k)):=by
        rw [yd,yd]
       rw [ek] at k1
       simp only [k1,yb,f]
      ·have f:=fin 8 k8
       simp only [hz2,decide_false,yc,if_false,yb,f]
     ·have h16i:¬(16:Int)<((unb (t.drop 8)).length:Int):=by rw [z1b];omega
      have f:=fin 8 k8
      simp only [h16i,decide_false,yc,if_false,yb,f]
    ·have f:=fin 0 (by simp)
     rw [ye] at f
     simp only [hz,decide_false,yc,if_false,yb,f]
   ·have h8i:¬(8:Int)<((unb t).length:Int):=by rw [z1b];omega
    have f:=fin 0 (by simp)
    rw [ye] at f
    simp only [h8i,decide_false,yc,if_false,yb,f]
  ·have hci:¬(((s.getD 0 0).toNat:Nat):Int)<128:=by omega
   have hc256:=z8v (b:=s.getD 0 0)
   have hF:=zqb (s.getD 0 0).toNat
   have hand:=zpq ⟨Lib.firstT (s.getD 0 0).toNat,hF⟩
   simp only at hand
   rw [Lib.validD_lead s hne (by omega)]
   simp only [hci,decide_false,yc,if_false,yb,zqa hc256,shr4,zv2 (i:=Lib.firstT (s.getD 0 0).toNat / 16) (by omega),hand]
   generalize Lib.firstT (s.getD 0 0).toNat % 8=sz
   generalize Lib.accLo (Lib.firstT (s.getD 0 0).toNat / 16)=lo
   generalize Lib.accHi (Lib.firstT (s.getD 0 0).toNat / 16)=hi
   have hl:((unb s).length:Int)=(s.length:Int):=by rw [z1b]
   have x1:1<s.length→ix (unb s) 1=some (((s.getD 1 0).toNat:Nat):Int):=fun h=>zk7 (i:=1) h
   have x2:2<s.length→ix (unb s) 2=some (((s.getD 2 0).toNat:Nat):Int):=fun h=>zk7 (i:=2) h
   have x3:3<s.length→ix (unb s) 3=some (((s.getD 3 0).toNat:Nat):Int):=fun h=>zk7 (i:=3) h
   have d2:2≤s.length→sub (unb s) 2 ((unb s).length:Int)=some (unb (s.drop 2)):=fun h=>z4d (k:=2) h
   have d3:3≤s.length→sub (unb s) 3 ((unb s).length:Int)=some (unb (s.drop 3)):=fun h=>z4d (k:=3) h
   have d4:4≤s.length→sub (unb s) 4 ((unb s).length:Int)=some (unb (s.drop 4)):=fun h=>z4d (k:=4) h
   rw [hl] at d2 d3 d4
   simp only [hl]
   generalize (s.getD 1 0).toNat=b1 at x1
   generalize (s.getD 2 0).toNat=b2 at x2
   generalize (s.getD 3 0).toNat=b3 at x3
   unfold Lib.checkN
   have no:some (Jn.done false:Jn Bool Unit)=some (VK false):=rfl
   by_cases z2:sz=2
   ·have z2i:((sz:Nat):Int)=2:=by omega
    simp only [z2,z2i,decide_true,if_true]
    by_cases q1:s.length<2
    ·have q1i:(s.length:Int)<2:=by omega
     simp only [q1,q1i,decide_true,if_true,true_or]
     exact no
    ·have q1i:¬(s.length:Int)<2:=by omega
     simp only [q1,q1i,decide_false,yc,if_false,false_or,x1 (by omega),yb]
     by_cases q2:b1<lo
     ·have q2i:(b1:Int)<(lo:Int):=by omega
      simp only [q2,q2i,decide_true,if_true,true_or]
      exact no
     ·have q2i:¬(b1:Int)<(lo:Int):=by omega
      simp only [q2,q2i,decide_false,yc,if_false,false_or]
      by_cases q3:hi<b1
      ·have q3i:(hi:Int)<(b1:Int):=by omega
       simp only [q3,q3i,decide_true,if_true]
       exact no
      ·have q3i:¬(hi:Int)<(b1:Int):=by omega
       simp only [q3,q3i,decide_false,yc,if_false,d2 (by omega),yb]
       exact ih _ (by rw [yg];omega)
   ·have z2i:¬((sz:Nat):Int)=2:=by omega
    simp only [z2,z2i,decide_false,yc,if_false]
    by_cases z3:sz=3
    ·have z3i:((sz:Nat):Int)=3:=by omega
     simp only [z3,z3i,decide_true,if_true]
     by_cases q1:s.length<3
     ·have q1i:(s.length:Int)<3:=by omega
      simp only [q1,q1i,decide_true,if_true,true_or]
      exact no
     ·have q1i:¬(s.length:Int)<3:=by omega
      simp only [q1,q1i,decide_false,yc,if_false,false_or,x1 (by omega),x2 (by omega),yb]
      by_cases q2:b1<lo
      ·have q2i:(b1:Int)<(lo:Int):=by omega
       simp only [q2,q2i,decide_true,if_true,true_or]
       exact no
      ·have q2i:¬(b1:Int)<(lo:Int):=by omega
       simp only [q2,q2i,decide_false,yc,if_false,false_or]
       by_cases q3:hi<b1
       ·have q3i:(hi:Int)<(b1:Int):=by omega
        simp only [q3,q3i,decide_true,if_true,true_or]
        exact no
       ·have q3i:¬(hi:Int)<(b1:Int):=by omega
        simp only [q3,q3i,decide_false,yc,if_false,false_or]
        by_cases q4:b2<128
        ·have q4i:(b2:Int)<128:=by omega
         simp only [q4,q4i,decide_true,if_true,true_or]
         exact no
        ·have q4i:¬(b2:Int)<128:=by omega
         simp only [q4,q4i,decide_false,yc,if_false,false_or]
         by_cases q5:191<b2
         ·have q5i:(191:Int)<(b2:Int):=by omega
          simp only [q5,q5i,decide_true,if_true]
          exact no
         ·have q5i:¬(191:Int)<(b2:Int):=by omega
          simp only [q5,q5i,decide_false,yc,if_false,d3 (by omega),yb]
          exact ih _ (by rw [yg];omega)
    ·have z3i:¬((sz:Nat):Int)=3:=by omega
     simp only [z3,z3i,decide_false,yc,if_false]
     by_cases z4:sz=4
     ·have z4i:((sz:Nat):Int)=4:=by omega
      simp only [z4,z4i,decide_true,if_true]
      by_cases q1:s.length<4
      ·have q1i:(s.length:Int)<4:=by omega
       simp only [q1,q1i,decide_true,if_true,true_or]
       exact no
      ·have q1i:¬(s.length:Int)<4:=by omega
       simp only [q1,q1i,decide_false,yc,if_false,false_or,x1 (by omega),x2 (by omega),x3 (by omega),yb]
       by_cases q2:b1<lo
       ·have q2i:(b1:Int)<(lo:Int):=by omega
        simp only [q2,q2i,decide_true,if_true,true_or]
        exact no
       ·have q2i:¬(b1:Int)<(lo:Int):=by omega
        simp only [q2,q2i,decide_false,yc,if_false,false_or]
        by_cases q3:hi<b1
        ·have q3i:(hi:Int)<(b1:Int):=by omega
         simp only [q3,q3i,decide_true,if_true,true_or]
         exact no
        ·have q3i:¬(hi:Int)<(b1:Int):=by omega
         simp only [q3,q3i,decide_false,yc,if_false,false_or]
         by_cases q4:b2<128
         ·have q4i:(b2:Int)<128:=by omega
          simp only [q4,q4i,decide_true,if_true,true_or]
          exact no
         ·have q4i:¬(b2:Int)<128:=by omega
          simp only [q4,q4i,decide_false,yc,if_false,false_or]
          by_cases q5:191<b2
          ·have q5i:(191:Int)<(b2:Int):=by omega
           simp only [q5,q5i,decide_true,if_true,true_or]
           exact no
          ·have q5i:¬(191:Int)<(b2:Int):=by omega
           simp only [q5,q5i,decide_false,yc,if_false,false_or]
           by_cases q6:b3<128
           ·have q6i:(b3:Int)<128:=by omega
            simp only [q6,q6i,decide_true,if_true,true_or]
            exact no
           ·have q6i:¬(b3:Int)<128:=by omega
            simp only [q6,q6i,decide_false,yc,if_false,false_or]
            by_cases q7:191<b3
            ·have q7i:(191:Int)<(b3:Int):=by omega
             simp only [q7,q7i,decide_true,if_true]
             exact no
            ·have q7i:¬(191:Int)<(b3:Int):=by omega
             simp only [q7,q7i,decide_false,yc,if_false,d4 (by omega),yb]
             exact ih _ (by rw [yg];omega)
     ·have z4i:¬((sz:Nat):Int)=4:=by omega
      simp only [z4,z4i,decide_false,yc,if_false]
      exact no
theorem zrn (s:List UInt8):M.valid (unb s)=some (Lib.validD s):=by
 unfold M.valid
 have e0:sub (unb s) 0 ((unb s).length:Int)=some (unb s):=z8b (a:=0) (Nat.zero_le _)
 have h:((unb s).length:Int)≤((unb s).length:Int):=Int.le_refl _
 rw [z2z (by simp)]
 simp only [ya,yb,e0,zj7 _ s (Nat.le_refl _)]
 cases Lib.validD s<;>rfl
end Go.Sen
