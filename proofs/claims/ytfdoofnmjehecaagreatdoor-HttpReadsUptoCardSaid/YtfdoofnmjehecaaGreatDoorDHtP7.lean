import Derived.Test.YtfdoofnmjehecaaGreatDoorDPfY
import Derived.Test.YtfdoofnmjehecaaGreatDoorDHtP6
import Derived.Test.YtfdoofnmjehecaaGreatDoorDPfE
import Derived.Test.YtfdoofnmjehecaaGreatDoorDHtM
import Derived.Lib.SplitLaws
set_option linter.all false
section
set_option maxRecDepth 1000000
set_option maxHeartbeats 4000000
namespace Go.Proofs.YtfdoofnmjehecaaGreatDoor
open Go.Lk Go.Pe Go.Sen Go.RowKit
def A.q47:Ann:={ seq:=[(8,c1 [])],loop:=[(4,c1 [0,1,5])],drw:=[(6,{ anc:=[0,0,3,7,0,0,48,112,255],E:=[],qs:=[0,1,2,3,4,5,6,7,8],g:=.fin,lin:=some [] })] }
theorem C.q47 {p0 p1:List q05}:Qs (M.q47 p0 p1) 52 ⟨[.l72 p0,.l72 p1],[],[]⟩ fun r => .ok [.b r] [] [] :=
 Kf Tryz.func52 A.q47 [.tmp 4] (by unfold M.q47;exact S.m (S.m (S.cb S.q (S.gn (fun _=>st []) (S.lw (L:=M.z3k p0 p1) (fun x11=>st [(0,.l72 p0),(1,.l72 p1),(5,.i x11)]) (M.z3k.partial_correctness _ _) rfl fun _ _ ih_z3k x11=>S.m (S.cb (S.ixm q05.z2a fun x14=>S.ixm q05.z2a fun x15=>S.cb S.q (ih_z3k _)) S.zr)) fun j8=>S.q))))
def A.q5i:Ann:={ reg:=[(1,[(6,6,c1 [2,3,16]),(1,6,c1 [2,3,23]),(1,6,c1 [2,3,30]),(1,6,c1 [37])])],ro:=[2,3] }
theorem C.q5i {p0 p1:q03}:Qs (M.q5i p0 p1) 15 ⟨[.agg p0.v,.agg p1.v],[],[]⟩ fun r => .ok [.b r] [] [] :=
 Kf Tryz.func15 A.q5i [.tmp 4] (by unfold M.q5i;exact S.j (fun j4=>st [(2,.zp p0.d 0),(3,.zp p1.d 0),(16,.b j4)]) (fun _=>S.cb (S.k0 C.q4k fun a5=>S.n S.zr) S.zr) fun j4=>S.j (fun j10=>st [(2,.zp p0.d 0),(3,.zp p1.d 0),(23,.b j10)]) (fun _=>S.cb (S.k0 C.q47 fun a11=>S.n S.zr) S.zr) fun j10=>S.j (fun j16=>st [(2,.zp p0.d 0),(3,.zp p1.d 0),(30,.b j16)]) (fun _=>S.cb (S.k0 C.q47 fun a17=>S.n S.zr) S.zr) fun j16=>S.ja0 (fun x19=>st [(37,.b x19)]) rfl (S.q))
theorem C.q5k {p0:Int}:Qs (M.q5k p0) 17 ⟨[.i p0],[],[]⟩ fun r => .ok [.i r] [] [] :=
 Kf Tryz.func17 {} [.tmp 2] (by unfold M.q5k;exact S.cb S.q (S.cb S.q (S.cb S.q (S.cb S.q S.q))))
def A.q3t:Ann:={ reg:=[(1,[(10,0,c1 [0,3,4,5])]),(2,[(10,0,c1 [3,4,5,6,7,8])]),(3,[(2,4,c1 [3,4,5,6,7,26]),(1,4,c1 [3,5,6,31]),(1,4,c1 [5,36]),(1,6,c1 [43])])],ro:=[3,6] }
theorem C.q3t (fuel:Nat) (p0:Z):Qs (M.q3t fuel p0) 3 ⟨[.s p0],[],[]⟩ fun r => .ok [.b r] [] [] :=
 Kf Tryz.func3 A.q3t [.tmp 2] (by unfold M.q3t;exact S.k0 C.q0s fun a1=>S.n (S.jp (st [(0,.s p0),(3,.zp a1.1.d 0),(4,.i a1.2.1),(5,.i a1.2.2)]) (fun _=>rfl) (S.k0 C.q59 fun a3=>(by exact S.n (S.jp (st [(3,.zp a1.1.d 0),(4,.i a1.2.1),(5,.i a1.2.2),(6,.zp a3.1.d 0),(7,.i a3.2.1),(8,.i a3.2.2)]) (fun _=>rfl) (S.k0 C.q3x fun a5=>S.n (S.ja0 (fun x7=>st [(3,.zp a1.1.d 0),(4,.i a1.2.1),(5,.i a1.2.2),(6,.zp a3.1.d 0),(7,.i a3.2.1),(26,.b x7)]) rfl (S.ja0 (fun x9=>st [(3,.zp a1.1.d 0),(5,.i a1.2.2),(6,.zp a3.1.d 0),(31,.b x9)]) rfl (S.j (fun j14=>st [(5,.i a1.2.2),(36,.b j14)]) (fun _=>S.cb (S.k0 C.q5i fun a15=>S.n S.zr) S.zr) fun j14=>S.j (fun j22=>st [(43,.b j22)]) (fun _=>S.cb (S.k0 C.q0x fun a23=>S.n (S.k0 C.q5k fun a25=>S.n S.zr)) S.zr) fun j22=>S.q)))))))))
end Go.Proofs.YtfdoofnmjehecaaGreatDoor
end
section
namespace Go.Sen
open _root_.List renaming isPrefixOf_iff_prefix → ya
open IntKind renaming wrap → yb
open Go.Lk Go.Pe
theorem w64 {x:Int} (h1 : -9223372036854775808≤x) (h2:x<9223372036854775808):yb .i64 x=x:=by
 have h:yb .i64 x=if x % 18446744073709551616≥9223372036854775808 then x % 18446744073709551616 - 18446744073709551616 else x % 18446744073709551616:=by
  simp [yb,IntKind.bits,IntKind.signed]
 rw [h]
 split<;>omega
theorem w1 {n:Nat} (h:n<4611686018427387904):yb .i64 ((n:Int)+1)=((n+1:Nat):Int):=by rw [w64]<;>omega
theorem zx9 {n m:Nat} (h:n+m<4611686018427387904):yb .i64 ((n:Int)+(m:Int))=((n+m:Nat):Int):=by rw [w64]<;>omega
theorem z4p {α:Type} {k:Nat} {l l2:List α} (h:(l.length+l2.length)*k≤140737488355328):app k l l2=some (l++l2):=by
 unfold app
 rw [if_pos h]
theorem z5t {b:Bool} (h:b=true):chk b=some ():=by subst h;rfl
theorem zak {α:Type} (l:List α) (n:Nat):ix l (n:Int)=l[n]?:=by simp [ix]
theorem zoh {α:Type} (l:List α):ix l 0=l[0]?:=by simp [ix]
theorem zwq {α:Type} (l:List α):ix l 1=l[1]?:=by simp [ix]
theorem zc1 {α:Type} {l:List α} {a b:Nat} (h1:a≤b) (h2:b≤l.length):sub l (a:Int) (b:Int)=some ((l.take b).drop a):=by
 unfold sub
 rw [if_pos (by omega)]
 simp
theorem zpu {α:Type} {l:List α} {a:Nat} (h:a≤l.length):sub l (a:Int) (l.length:Int)=some (l.drop a):=by
 rw [zc1 h (Nat.le_refl _)]
 simp
theorem zib {α:Type} {l:List α} {a:Nat} (h:a≤l.length):sub l 0 (a:Int)=some (l.take a):=by
 have:=zc1 (l:=l) (Nat.zero_le a) h
 simpa using this
theorem z3m (s:Z):(unb s).length=s.length:=by simp [unb]
theorem zte (s:Z) (i:Nat):(unb s)[i]? = (s[i]?).map fun b=>(b.toNat:Int):=by simp [unb]
theorem za2 (a b:Z):unb (a++b)=unb a++unb b:=by simp [unb]
theorem zat (s:Z):byt (unb s)=s:=by simp [unb,byt,Function.comp_def]
theorem ztf (b:UInt8):[(b.toNat:Int)]=unb [b]:=rfl
theorem zo3 {α:Type} {l:List α} {i:Nat} (h:i<l.length):l.drop i=l[i]::l.drop (i+1):=by simp
theorem zqm {b:UInt8}:b.toNat<256:=UInt8.toNat_lt b
theorem zsc {p s:Z} (h:p.isPrefixOf s=true):p.length≤s.length:=(ya.1 h).length_le
theorem zou (p s:Z):decide (s.take p.length=p)=p.isPrefixOf s:=by
 rw [Bool.eq_iff_iff,decide_eq_true_iff,ya,List.prefix_iff_eq_take]
 exact ⟨fun h=>h.symm,fun h=>h.symm⟩
end Go.Sen
end
section
namespace Go.Sen
open Go.Lk Go.Pe
theorem zfk (s p:Z):M.q73 s p=some (p.isPrefixOf s):=by
 unfold M.q73 M.q30
 by_cases h:p.length≤s.length
 ·have h':((p.length:Int)≤(s.length:Int)):=by omega
  simp only [h',decide_true,if_true,zib h,Option.bind_eq_bind,Option.bind_some,zou]
 ·have h':¬((p.length:Int)≤(s.length:Int)):=by omega
  have:p.isPrefixOf s=false:=by
   cases hp:p.isPrefixOf s with
   | false=>rfl
   | true=>exact absurd (zsc hp) h
  simp [h',this]
def isD (b:UInt8):Bool:=decide (48≤b.toNat)&&decide (b.toNat≤57)
def digs (s:Z):Nat:=(s.takeWhile isD).length
def sgn (s:Z):Nat:=if s.head? = some 45 then 1 else 0
def intp (s:Z):Nat:=if s.head? = some 48 then 1 else digs s
def frac:Z→Nat
 | 46::r=>if 0<digs r then 1+digs r else 0
 | _=>0
def sgn2 (s:Z):Nat:=if s.head? = some 43∨s.head? = some 45 then 1 else 0
def expo:Z→Nat
 | c::r=>if c=101∨c=69 then (if 0<digs (r.drop (sgn2 r)) then 1+sgn2 r+digs (r.drop (sgn2 r)) else 0) else 0
 | []=>0
def num (s:Z):Nat :=
 let i:=sgn s
 if intp (s.drop i)=0 then 0 else
 let i:=i+intp (s.drop i)
 let i:=i+frac (s.drop i)
 i+expo (s.drop i)
theorem head_get (s:Z):s.head? = s[0]?:=by cases s<;>rfl
theorem getD {s:Z} {i:Nat}:(s.drop i).head? = s[i]?:=by rw [head_get];simp
end Go.Sen
end
section
namespace Go.Sen
open Go.Lk Go.Pe
end Go.Sen
end
section
namespace Go.Sen
open _root_.List renaming isPrefixOf → ya
open Go.Lk Go.Pe
theorem zb4 {P:UInt8→Prop} (h:∀ n:Fin 256,P (UInt8.ofNat n.val)) (b:UInt8):P b:=by
 have:=h ⟨b.toNat,zqm⟩
 simpa using this
theorem zch (c:UInt8) (s:Z):[c].isPrefixOf s=decide (s.head? = some c):=by
 cases s with
 | nil=>rfl
 | cons d r =>
  by_cases h:c=d
  ·simp [ya,h]
  ·have:¬d=c:=fun e=>h e.symm
   simp [ya,h,this]
instance:Std.Antisymm (α:=Z) (· ≤ ·):=⟨fun _ _ h1 h2=>List.le_antisymm h1 h2⟩
end Go.Sen
end
section
namespace Go.Sen
open _root_.List renaming eq_nil_of_length_eq_zero → ya, isPrefixOf → yb, length_cons → yc, length_drop → yd
open _root_.Nat renaming le_refl → ye
open Go.Lk Go.Pe
def z18 (c:UInt8):Z→Z × Z × Bool
 | []=>([],[],false)
 | x::r=>if x=c then ([],r,true) else (x::(z18 c r).1,(z18 c r).2.1,(z18 c r).2.2)
theorem cutb_nil (c:UInt8):z18 c []=([],[],false):=rfl
theorem z2q (c x:UInt8) (r:Z):z18 c (x::r)=if x=c then ([],r,true) else (x::(z18 c r).1,(z18 c r).2.1,(z18 c r).2.2):=rfl
theorem z3u (c x:UInt8) (r:Z):Lib.index (x::r) [c]=if x=c then 0 else if Lib.index r [c] = -1 then -1 else Lib.index r [c]+1:=by
 rw [Lib.index]
 by_cases h:x=c
 ·subst h;simp [yb]
 ·have:([c]:Z).isPrefixOf (x::r)=false:=by simp [yb,Ne.symm h]
  rw [this]
  simp [h]
theorem zu7 (c:UInt8):∀ s:Z,Lib.cut s [c]=z18 c s
 | []=>by simp [Lib.cut,Lib.index,z18]
 | x::r=>by
  have ih:=zu7 c r
  have hge:=Lib.index_ge r [c]
  have hc:=z3u c x r
  by_cases h:x=c
  ·rw [if_pos h] at hc
   unfold Lib.cut
   rw [hc,z2q,if_pos h]
   simp
  ·rw [if_neg h] at hc
   rw [z2q,if_neg h,←ih]
   by_cases hm:Lib.index r [c] = -1
   ·rw [if_pos hm] at hc
    unfold Lib.cut
    rw [hc,hm]
    simp
   ·rw [if_neg hm] at hc
    obtain ⟨k,hk⟩:∃ k:Nat,Lib.index r [c]=k:=⟨(Lib.index r [c]).toNat,by omega⟩
    unfold Lib.cut
    rw [hc,hk,if_pos (by omega),if_pos (by omega)]
    have e:((k:Int)+1).toNat=k+1:=by omega
    simp [e,Nat.add_assoc]
theorem z5i (c:UInt8):∀ s:Z,(z18 c s).1.length+(z18 c s).2.1.length≤s.length∧((z18 c s).2.2=true→(z18 c s).1.length+(z18 c s).2.1.length+1=s.length)
 | []=>by simp [z18]
 | x::r=>by
  have ih:=z5i c r
  rw [z2q]
  split
  ·simp
  ·simp only [yc]
   refine ⟨by omega,fun h => ?_⟩
   have:=ih.2 h
   omega
theorem zl6 {s:Z} (c:UInt8) (h:s.length<4294967281):M.cut s [c]=some (z18 c s):=by
 unfold M.cut
 rw [z5t (by simpa using h),←zu7]
 rfl
def z16 (c:UInt8):Z→List Z
 | []=>[[]]
 | x::r=>if x=c then []::z16 c r else match z16 c r with
  | []=>[[x]]
  | h::t=>(x::h)::t
theorem zgl (c:UInt8):∀ s:Z,∃ h t,z16 c s=h::t
 | []=>⟨_,_,rfl⟩
 | x::r=>by
  unfold z16
  split
  ·exact ⟨_,_,rfl⟩
  ·split<;>exact ⟨_,_,rfl⟩
def z4e (sep:Z):Nat→Z→List Z
 | 0,s=>[s]
 | k+1,s=>if Lib.index s sep = -1 then [s] else s.take (Lib.index s sep).toNat::z4e sep k (s.drop ((Lib.index s sep).toNat+sep.length))
theorem z6c (s sub:Z):Lib.indexB ⟨s.toArray⟩ ⟨sub.toArray⟩=Lib.index s sub:=by
 unfold Lib.indexB
 simp
theorem z6x (s:Z) (a b:Nat):(⟨s.toArray⟩:ByteArray).extract a b=⟨((s.take b).drop a).toArray⟩:=by
 apply ByteArray.ext
 rw [ByteArray.data_extract]
 simp [List.drop_take]
theorem zby (sep:Z):∀ (k:Nat) (s:Z),(Lib.splitB ⟨sep.toArray⟩ 0 k ⟨s.toArray⟩).map (·.data.toList)=z4e sep k s
 | 0,s=>by simp [Lib.splitB,z4e]
 | k+1,s=>by
  have hsz:∀ l:Z,(⟨l.toArray⟩:ByteArray).size=l.length:=fun l=>by simp [ByteArray.size]
  unfold Lib.splitB z4e
  rw [z6c]
  by_cases h:Lib.index s sep = -1
  ·rw [if_pos (by simpa using h),if_pos h];simp
  ·rw [if_neg (by simpa using h),if_neg h,z6x,z6x,List.map_cons,zby sep k]
   simp [hsz]
theorem zia {sep:Z} (h1:1≤sep.length):∀ (n:Nat) (s:Z),s.length≤n→∀ k,s.length≤k→z4e sep (Lib.countB ⟨s.toArray⟩ ⟨sep.toArray⟩) s=z4e sep k s:=by
 intro n
 have hsz:∀ l:Z,(⟨l.toArray⟩:ByteArray).size=l.length:=fun l=>by simp [ByteArray.size]
 induction n with
 | zero =>
  intro s hn k hk
  have:s=[]:=ya (by omega)
  subst this
  have hi:Lib.index [] sep = -1:=by rw [Lib.index,if_neg];cases sep<;>simp_all
  rw [Lib.countB_miss _ _ (by rw [z6c];exact hi)]
  cases k with
  | zero=>rfl
  | succ k=>unfold z4e;rw [if_pos hi]
 | succ n ih =>
  intro s hn k hk
  have hge:=Lib.index_ge s sep
  by_cases hi:Lib.index s sep = -1
  ·rw [Lib.countB_miss _ _ (by rw [z6c];exact hi)]
   cases k with
   | zero=>rfl
   | succ k =>
    conv=>rhs;unfold z4e;rw [if_pos hi]
    rfl
  ·obtain ⟨i,hi2⟩:∃ i:Nat,Lib.index s sep=i:=⟨(Lib.index s sep).toNat,by omega⟩
   have hroom:=Lib.index_room s sep (by omega)
   have hh:=Lib.countB_hit ⟨s.toArray⟩ ⟨sep.toArray⟩ i (by rw [hsz];exact h1) (by rw [z6c];exact hi2)
   rw [z6x,hsz,hsz,List.take_length] at hh
   have hd:(s.drop (i+sep.length)).length≤n:=by rw [yd];omega
   obtain ⟨k,rfl⟩:∃ j,k=j+1:=⟨k - 1,by omega⟩
   rw [hh,Nat.add_comm 1]
   unfold z4e
   rw [if_neg hi,if_neg hi,hi2]
   have e:((i:Int)).toNat=i:=by omega
   rw [e,ih _ hd k (by rw [yd];omega)]
theorem zjs {sep:Z} (h1:1≤sep.length) (s:Z):zbz s sep=z4e sep s.length s:=by
 unfold zbz
 rw [zby]
 exact zia h1 _ s (ye _) _ (ye _)
theorem zec (c:UInt8):∀ (s:Z) (k:Nat),s.length≤k→z4e [c] k s=z16 c s
 | [],k,_=>by
  cases k with
  | zero=>rfl
  | succ k=>unfold z4e;rw [if_pos (by simp [Lib.index])];rfl
 | x::r,k,hk=>by
  obtain ⟨k,rfl⟩:∃ j,k=j+1:=⟨k - 1,by simp at hk;omega⟩
  simp only [yc] at hk
  have ih:=zec c r k (by omega)
  have hge:=Lib.index_ge r [c]
  unfold z16
  by_cases hx:x=c
  ·rw [if_pos hx]
   unfold z4e
   rw [z3u,if_pos hx,if_neg (by decide)]
   simp [ih]
  ·rw [if_neg hx,←zec c r (k+1) (by omega)]
   unfold z4e
   rw [z3u,if_neg hx]
   by_cases hm:Lib.index r [c] = -1
   ·simp [hm]
   ·obtain ⟨i,hi⟩:∃ i:Nat,Lib.index r [c]=i:=⟨(Lib.index r [c]).toNat,by omega⟩
    rw [if_neg hm,hi,if_neg (by omega),if_neg (by omega)]
    have e1:((i:Int)+1).toNat=i+1:=by omega
    have e2:((i:Int)).toNat=i:=by omega
    simp [e1,e2,Nat.add_assoc]
theorem zgv {s:Z} (c:UInt8) (h:s.length<4294967281):M.split s [c]=some (z16 c s):=by
 unfold M.split
 rw [z5t (by simpa using h),zjs (by simp),zec c s _ (ye _)]
 rfl
def z2g:Z→List Z
 | []=>[[]]
 | x::r=>if x=13∧r.head? = some 10 then []::z2g (r.drop 1) else match z2g r with
  | []=>[[x]]
  | h::t=>(x::h)::t
termination_by s=>s.length
theorem z7l:∀ s:Z,∃ h t,z2g s=h::t
 | []=>⟨_,_,by unfold z2g;rfl⟩
 | x::r=>by
  unfold z2g
  split
  ·exact ⟨_,_,rfl⟩
  ·split<;>exact ⟨_,_,rfl⟩
theorem zo1 (x:UInt8) (r:Z):([13,10]:Z).isPrefixOf (x::r)=decide (x=13∧r.head? = some 10):=by
 cases r with
 | nil=>simp [yb]
 | cons y r =>
  simp only [yb,List.head?_cons,Option.some.injEq]
  by_cases h1:x=13<;>by_cases h2:y=10<;>simp [h1,h2]
  ·exact fun h=>h2 h.symm
  ·exact fun h=>(h1 h.symm).elim
  ·exact fun h=>(h1 h.symm).elim
theorem z71 (x:UInt8) (r:Z):Lib.index (x::r) [13,10]=if x=13∧r.head? = some 10 then 0 else if Lib.index r [13,10] = -1 then -1 else Lib.index r [13,10]+1:=by
 rw [Lib.index,zo1]
 by_cases h:x=13∧r.head? = some 10
 ·simp [h]
 ·simp [h]
theorem zpr:∀ (n:Nat) (s:Z) (k:Nat),s.length≤n→s.length≤k→z4e [13,10] k s=z2g s:=by
 intro n
 induction n with
 | zero =>
  intro s k hn hk
  have:s=[]:=ya (by omega)
  subst this
  unfold z2g
  cases k with
  | zero=>rfl
  | succ k=>unfold z4e;rw [if_pos (by simp [Lib.index])]
 | succ n ih =>
  intro s k hn hk
  cases s with
  | nil =>
   unfold z2g
   cases k with
   | zero=>rfl
   | succ k=>unfold z4e;rw [if_pos (by simp [Lib.index])]
  | cons x r =>
   simp only [yc] at hn hk
   obtain ⟨k,rfl⟩:∃ j,k=j+1:=⟨k - 1,by omega⟩
   have hge:=Lib.index_ge r [13,10]
   unfold z2g
   by_cases hx:x=13∧r.head? = some 10
   ·rw [if_pos hx]
    unfold z4e
    rw [z71,if_pos hx,if_neg (by decide)]
    have hd:(r.drop 1).length≤n:=by rw [yd];omega
    have q:=ih (r.drop 1) k hd (by rw [yd];omega)
    simpa using q
   ·rw [if_neg hx,←ih r (k+1) (by omega) (by omega)]
    unfold z4e
    rw [z71,if_neg hx]
    by_cases hm:Lib.index r [13,10] = -1
    ·simp [hm]
    ·obtain ⟨i,hi⟩:∃ i:Nat,Lib.index r [13,10]=i:=⟨(Lib.index r [13,10]).toNat,by omega⟩
     rw [if_neg hm,hi,if_neg (by omega),if_neg (by omega)]
     have e1:((i:Int)+1).toNat=i+1:=by omega
     have e2:((i:Int)).toNat=i:=by omega
     simp [e1,e2,Nat.add_right_comm]
theorem znq {s:Z} (h:s.length<4294967281):M.split s [13,10]=some (z2g s):=by
 unfold M.split
 rw [z5t (by simpa using h),zjs (by simp),zpr _ s _ (ye _) (ye _)]
 rfl
end Go.Sen
end
section
namespace Go.Sen
open Go.Lk Go.Pe
end Go.Sen
end
section
namespace Go.Sen
open _root_.Option renaming bind_eq_bind → ya, bind_some → yb
open Go.Lk Go.Pe
theorem zgr {a:List Int} {b:Int} (h:a.length<1099511627776):M.q70 a b=some (a++[b]):=by
 unfold M.q70 M.z2p
 simp only [ya,yb]
 rw [z4p (by simp;omega)]
 rfl
theorem zcl {a:List Int} {b:Z} (h:a.length+b.length<1099511627776):M.q71 a b=some ((b.length:Int),a++unb b):=by
 unfold M.q71 M.z2p
 simp only [ya,yb]
 rw [z4p (by simp [unb];omega)]
 rfl
theorem z6j (s:Z):M.zj (unb s)=some s:=by
 unfold M.zj
 rw [z5t (by simp [zat])]
 simp [zat]
end Go.Sen
end
section
namespace Go.Sen
open Go.Lk Go.Pe
end Go.Sen
end
section
namespace Go.Sen
open Go.Lk Go.Pe
def bl (b:UInt8):Bool:=([32,9,10,13]:Z).contains b
def blanks (s:Z):Z:=s.dropWhile bl
def take (s p:Z):Option Z:=if p.isPrefixOf s=true then some (blanks (s.drop p.length)) else none
def zc7 (c:UInt8):Option Nat:=if isD c=true then some (c.toNat - 48) else if 97≤c.toNat∧c.toNat≤102 then some (c.toNat - 87) else if 65≤c.toNat∧c.toNat≤70 then some (c.toNat - 55) else none
theorem zdw:∀ c:UInt8,∀ d,zc7 c=some d→d<16:=by
 intro c d h
 unfold zc7 isD at h
 have:=zqm (b:=c)
 split at h
 ·rename_i hc
  simp only [Bool.and_eq_true,decide_eq_true_eq] at hc
  cases h
  omega
 ·split at h
  ·cases h;omega
  ·split at h
   ·cases h;omega
   ·cases h
theorem dropWhile_nil {α:Type} (p:α→Bool):∀ l:List α,l.dropWhile p=[]↔∀ b∈l,p b=true
 | []=>by simp
 | a::l=>by
  rw [List.dropWhile_cons]
  cases h:p a with
  | false=>simp [h]
  | true=>simp [h,dropWhile_nil p l]
theorem znf (l cs:Z):Lib.trimS l cs=[]↔∀ b∈l,cs.contains b=true:=by
 unfold Lib.trimS Lib.trimLeftS Lib.trimRightS
 rw [dropWhile_nil]
 constructor
 ·intro h
  have h2:l.reverse.dropWhile (cs.contains ·)=[]:=by
   cases hd:l.reverse.dropWhile (cs.contains ·) with
   | nil=>rfl
   | cons a r =>
    have h3:¬cs.contains a=true:=by
     have:=List.head?_dropWhile_not (cs.contains ·) l.reverse
     rw [hd] at this
     simpa using this
    exact absurd (h a (by rw [hd];simp)) h3
  rw [dropWhile_nil] at h2
  exact fun b hb=>h2 b (by simpa using hb)
 ·intro h b hb
  rw [List.mem_reverse] at hb
  exact h b (by simpa using (List.dropWhile_sublist _).subset hb)
def unit (s:Z):Option (Nat × Z) :=
 match s with
 | x::y::a::b::c::d::r=>if x=92∧y=117 then (zc7 a).bind fun ha=>(zc7 b).bind fun hb=>(zc7 c).bind fun hc=>(zc7 d).bind fun hd=>some (16*(16*(16*ha+hb)+hc)+hd,r) else none
 | _=>none
def esc1 (c:UInt8):Option UInt8:=if c=34 then some 34 else if c=92 then some 92 else if c=47 then some 47 else if c=98 then some 8 else if c=102 then some 12 else if c=110 then some 10 else if c=114 then some 13 else if c=116 then some 9 else none
def lowS (n:Nat):Bool:=decide (56320≤n)&&decide (n≤57343)
def highS (n:Nat):Bool:=decide (55296≤n)&&decide (n≤57343)
def escd (s:Z):Option (Z × Z) :=
 match s with
 | a::c::r=>match esc1 c with
  | some x=>some ([x],r)
  | none=>match unit (a::c::r) with
   | none=>none
   | some (n,r1)=>if lowS n=true then none else if highS n=false then some (encS (n:Int),r1) else match unit r1 with
    | none=>none
    | some (m,r2)=>if lowS m=true then some (encS (65536+((n:Int) - 55296)*1024+(m:Int) - 56320),r2) else none
 | _=>none
def txt:Nat→Z→Z→Option (Z × Z)
 | 0,_,_=>none
 | _+1,[],_=>none
 | f+1,c::r,acc=>if c.toNat<32 then none else if c=34 then (if Lib.validD acc=true then some (acc,r) else none)
  else if c=92 then match escd (c::r) with
   | none=>none
   | some (t,r2)=>txt f r2 (acc++t)
  else txt f r (acc++[c])
def text (s:Z):Option (Z × Z) :=
 match s with
 | c::r=>if c=34 then txt (r.length+1) r [] else none
 | []=>none
end Go.Sen
end
section
namespace Go.Sen
open Go.Lk Go.Pe
abbrev J:=q04
abbrev Rd:=Rs (J × Z)
def key1 (s:Z) (ks:List Z):Rs (Z × List Z) :=
 match text s with
 | none => .pan 20
 | some (k,r)=>if k∈ks then .pan 20 else match take (blanks r) [58] with
  | none => .pan 20
  | some r2 => .ok (r2,ks++[k])
def items (vf:Z→Rd) (o:Bool) (e:UInt8):Nat→Z→List J→List Z→Rd
 | 0,_,_,_ => .pan 20
 | f+1,s,l,ks=>match (if o=true then key1 s ks else .ok (s,ks)) with
  | .pan c => .pan c
  | .ok (s1,ks1)=>match vf s1 with
   | .pan c => .pan c
   | .ok (x,s2)=>match take s2 [e] with
    | some r => .ok (⟨if o=true then 6 else 5,[],l++[x],ks1⟩,r)
    | none=>match take s2 [44] with
     | none => .pan 20
     | some r=>items vf o e f r (l++[x]) ks1
def nest (vf:Z→Rd) (o:Bool) (w:Nat) (s:Z):Rd :=
 if 16≤w then .pan 21 else match take s [if o=true then 125 else 93] with
  | some r => .ok (⟨if o=true then 6 else 5,[],[],[]⟩,r)
  | none=>items vf o (if o=true then 125 else 93) (s.length+1) s [] []
def word (s:Z):Rd :=
 match take s [110,117,108,108] with
 | some r => .ok (⟨0,[],[],[]⟩,r)
 | none=>match take s [102,97,108,115,101] with
  | some r => .ok (⟨1,[],[],[]⟩,r)
  | none=>match take s [116,114,117,101] with
   | some r => .ok (⟨2,[],[],[]⟩,r)
   | none=>if num s=0 then .pan 20 else .ok (⟨3,s.take (num s),[],[]⟩,blanks (s.drop (num s)))
def val:Nat→Z→Nat→Rd
 | 0,_,_ => .pan 20
 | f+1,s,w=>match text s with
  | some (t,r) => .ok (⟨4,t,[],[]⟩,blanks r)
  | none=>if s.head? = some 34 then .pan 20 else match take s [91] with
   | some r=>nest (fun s=>val f s (w+1)) false w r
   | none=>match take s [123] with
    | some r=>nest (fun s=>val f s (w+1)) true w r
    | none=>word s
end Go.Sen
end
section
namespace Go.Sen
open Go.Lk Go.Pe
def nch (c:UInt8):Bool:=isD c||decide (c=46)||decide (c=101)||decide (c=69)||decide (c=43)||decide (c=45)
def stop (r:Z):Prop := ∀ c,r.head? = some c→nch c=false
theorem zj6 (s r:Z):(s++r).head? = if s=[] then r.head? else s.head?:=by cases s<;>simp
end Go.Sen
end
section
namespace Go.Sen
open Go.Lk Go.Pe
end Go.Sen
end
section
namespace Go.Sen
open Go.Lk Go.Pe Go.RowKit
end Go.Sen
end
section
namespace Go.Sen
open _root_.List renaming length_cons → ya, mem_singleton → yb
open _root_.UInt8 renaming ofNat → yc
open Go.Lk Go.Pe
def texts:List J→Option (List Z)
 | []=>some []
 | x::l=>if x.zi=4 then (texts l).map (x.z0f :: ·) else none
def textsOf (v:J):List Z × Bool:=if v.zi=5 then (match texts v.z09 with|some l=>(l,true)|none=>([],false)) else ([],false)
theorem zi7 (l:List Z) (hl:l.length<1000000000):∀ (n i:Nat),l.length - i=n→i≤l.length→M.z1t l l (i:Int)=some (.go ()):=by
 intro n
 induction n with
 | zero =>
  intro i hn hi
  rw [M.z1t.eq_1]
  have:¬((i:Int)<(l.length:Int)):=by omega
  rw [if_neg (by simp [this])]
 | succ n ih =>
  intro i hn hi
  have hlt:i<l.length:=by omega
  rw [M.z1t.eq_1]
  have h1:((i:Int)<(l.length:Int)):=by omega
  simp only [h1,decide_true,if_true,zak,List.getElem?_eq_getElem hlt,Option.bind_eq_bind,Option.bind_some,Bool.not_true,Bool.false_eq_true,if_false]
  rw [w1 (by omega),ih (i+1) (by omega) (by omega)]
theorem zgg {l:List Z} (hl:l.length<1000000000):M.q4k l l=some true:=by
 unfold M.q4k
 have:M.z1t l l 0=some (.go ()):=zi7 l hl _ 0 rfl (Nat.zero_le _)
 simp [this]
def zf1 (a:Nat) (c:UInt8):Nat:=10*a+(c.toNat - 48)
def z8w (a:Nat) (l:Z):Nat:=l.foldl zf1 a
theorem z63 (a:Nat) (c:UInt8):zf1 a c=10*a+(c.toNat - 48):=rfl
theorem ziu (a:Nat):z8w a []=a:=rfl
theorem z8x (a:Nat) (c:UInt8) (r:Z):z8w a (c::r)=z8w (zf1 a c) r:=by unfold z8w;rw [List.foldl_cons]
theorem zo4 (l:Z) (a:Nat) (c:UInt8):z8w a (l++[c])=zf1 (z8w a l) c:=by
 unfold z8w
 rw [List.foldl_append]
 rfl
theorem zfn {c:UInt8} (h:isD c=true):48≤c.toNat∧c.toNat≤57:=by
 unfold isD at h
 simpa using h
theorem zlr:∀ (l:Z) (a k:Nat),(∀ c∈l,isD c=true)→a<10 ^ k→z8w a l<10 ^ (k+l.length)
 | [],a,k,_,h=>by rw [ziu];exact h
 | c::l,a,k,hd,h=>by
  have h1:=zfn (hd c (by simp))
  have h2:zf1 a c<10 ^ (k+1):=by rw [z63,Nat.pow_succ];omega
  have:=zlr l _ (k+1) (fun x hx=>hd x (by simp [hx])) h2
  rw [z8x,ya,show k+(l.length+1)=k+1+l.length by omega]
  exact this
theorem zsd {a:Nat} {c:UInt8} {l:Z} (hd:isD c=true) (ha:a<1000000000000000):Lib.parseUint10 a (c::l)=Lib.parseUint10 (zf1 a c) l:=by
 have h1:=zfn hd
 have e:a*10+(c.toNat - 48)=zf1 a c:=by rw [z63];omega
 rw [Lib.parseUint10,e,if_pos h1,if_neg (by omega),if_neg (by rw [z63];omega)]
@[reducible] def noN:Lib.NumEnd Nat:=Lib.parseMag []
theorem zse {a:Nat} {c:UInt8} {l:Z} (hd:isD c=false):Lib.parseUint10 a (c::l)=noN:=by
 have h1:¬(48≤c.toNat∧c.toNat≤57):=fun x=>by
  have:isD c=true:=by unfold isD;simpa using x
  rw [hd] at this;cases this
 rw [Lib.parseUint10,if_neg h1];rfl
theorem zsa {N:Nat} (hN:N≤1000000000000000) (l:Z):∀ a:Nat,(a+1)*10 ^ l.length≤N→Lib.parseUint10 a l=if (l.all isD)=true then .ok (z8w a l) else noN:=by
 induction l with
 | nil=>intro a _;rfl
 | cons c l ih =>
  intro a ha
  have hpos:0<10 ^ l.length:=Nat.pow_pos (by decide)
  rw [ya,Nat.pow_succ] at ha
  cases hd:isD c with
  | true =>
   have h1:=zfn hd
   have h3:(a+1)*(10 ^ l.length*10)=(10*a+10)*10 ^ l.length:=by
    rw [Nat.mul_comm (10 ^ l.length) 10,←Nat.mul_assoc]
    congr 1
    omega
   rw [h3] at ha
   have h4:a+1≤(10*a+10)*10 ^ l.length:=by
    have:=Nat.le_mul_of_pos_right (10*a+10) hpos
    omega
   have h2:(zf1 a c+1)*10 ^ l.length≤N:=by
    refine Nat.le_trans (Nat.mul_le_mul_right _ ?_) ha
    rw [z63]
    omega
   rw [zsd hd (by omega),ih _ h2,List.all_cons,hd,z8x,Bool.true_and]
  | false=>rw [zse hd,List.all_cons,hd];rfl
theorem zhw {l:Z} (hl:l.length≤15):Lib.parseMag l=if l=[] then noN else if (l.all isD)=true then .ok (z8w 0 l) else noN:=by
 unfold Lib.parseMag
 rw [zsa (N:=10 ^ 15) (by decide) l 0 (by rw [Nat.zero_add,Nat.one_mul];exact Nat.pow_le_pow_right (by decide) hl)]
 by_cases h:l=[]
 ·subst h;rfl
 ·rw [if_neg h,if_neg h]
theorem zfx {c:UInt8} (h:isD c=true):yc (48+(c.toNat - 48))=c:=by
 have:=zfn h
 rw [show 48+(c.toNat - 48)=c.toNat by omega]
 simp
theorem zh2 {n:Nat} (h:n<10):isD (yc (48+n))=true∧(yc (48+n)=48→n=0):=by
 have tab:∀ n:Fin 10,isD (yc (48+n.val))=true∧(yc (48+n.val)=48→n.val=0):=by decide
 exact tab ⟨n,h⟩
theorem zay:∀ (n u:Nat),u≤n→(∀ c∈Lib.decDigits u,isD c=true)∧¬Lib.decDigits u=[]∧((Lib.decDigits u).head? = some 48→u=0)
 | n,u,hu=>by
  rw [Lib.decDigits]
  by_cases h:u<10
  ·rw [dif_pos h]
   refine ⟨fun c hc => ?_,List.cons_ne_nil _ _,fun he => ?_⟩
   ·rw [yb.1 hc];exact (zh2 h).1
   ·exact (zh2 h).2 (Option.some.inj he)
  ·rw [dif_neg h]
   match n,hu with
   | n+1,hu =>
    obtain ⟨h1,h2,h3⟩:=zay n (u / 10) (by omega)
    refine ⟨fun c hc => ?_,by simp,fun he => ?_⟩
    ·rcases List.mem_append.1 hc with hc|hc
     ·exact h1 c hc
     ·rw [yb.1 hc];exact (zh2 (by omega)).1
    ·rw [zj6,if_neg h2] at he
     have:=h3 he
     omega
   | 0,hu=>omega
theorem ziv:∀ (l:Z) (a:Nat),0<a→0<z8w a l
 | [],a,h=>h
 | c::l,a,h=>ziv l _ (by rw [z63];omega)
theorem zdq:∀ (n:Nat) (l:Z),l.length=n→(∀ c∈l,isD c=true)→¬l=[]→(l.head? = some 48→l.length=1)→Lib.decDigits (z8w 0 l)=l:=by
 intro n
 induction n with
 | zero=>intro l hn _ h;exact absurd (List.eq_nil_of_length_eq_zero hn) h
 | succ n ih =>
  intro l' hn hd hne hh
  obtain ⟨l,c,rfl⟩:∃ l c,l'=l++[c]:=⟨l'.dropLast,l'.getLast hne,(List.dropLast_concat_getLast hne).symm⟩
  have hln:l.length=n:=by simpa using hn
  rw [zo4,z63]
  have hc:=hd c (by simp)
  have hn:=zfn hc
  by_cases hl:l=[]
  ·subst hl
   rw [ziu,Lib.decDigits,dif_pos (by omega)]
   rw [show 48+(10*0+(c.toNat - 48))=48+(c.toNat - 48) by omega,zfx hc]
   rfl
  ·have hh':¬l.head? = some 48:=fun e=>by
    have h2:=hh (by rw [zj6,if_neg hl];exact e)
    have:0<l.length:=List.length_pos_iff.2 hl
    simp at h2
    exact hl h2
   have ihl:=ih l hln (fun x hx=>hd x (by simp [hx])) hl (fun e=>absurd e hh')
   have hp:0<z8w 0 l:=by
    cases l with
    | nil=>exact absurd rfl hl
    | cons d r =>
     have h1:=zfn (hd d (by simp))
     have h2:¬d=48:=fun e=>hh' (by rw [e];rfl)
     have h3:¬d.toNat=48:=fun e=>h2 (by rw [show (48:UInt8)=yc 48 from rfl,←e];simp)
     rw [z8x]
     exact ziv r _ (by rw [z63];omega)
   rw [Lib.decDigits,dif_neg (by omega)]
   have e1:(10*z8w 0 l+(c.toNat - 48)) / 10=z8w 0 l:=by omega
   have e2:(10*z8w 0 l+(c.toNat - 48)) % 10=c.toNat - 48:=by omega
   rw [e1,e2,ihl,zfx hc]
def mag (t:Z):Z:=if t.head? = some 45 then t.drop 1 else t
def way (t:Z):Int:=if t.head? = some 45 then -1 else 1
def canon (t:Z):Bool := !decide (mag t=[])&&(mag t).all isD&&decide ((mag t).length≤15) && !(decide ((mag t).head? = some 48)&&(decide (1<(mag t).length)||decide (way t<0)))
def intOf (v:J):Int × Bool:=if v.zi=3∧canon v.z0f=true then (way v.z0f*(z8w 0 (mag v.z0f):Int),true) else (0,false)
end Go.Sen
end
