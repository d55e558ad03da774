import Derived.Test.YtfdoofnmjehecaaGreatDoorBPfY
import Derived.Test.YtfdoofnmjehecaaGreatDoorBHtP6
import Derived.Test.YtfdoofnmjehecaaGreatDoorBPfE
import Derived.Test.YtfdoofnmjehecaaGreatDoorBHtM
set_option linter.all false
section
set_option maxRecDepth 1000000
set_option maxHeartbeats 4000000
namespace Go.Proofs.YtfdoofnmjehecaaGreatDoor
open Go.Lk Go.Pe Go.Sen Go.RowKit
end Go.Proofs.YtfdoofnmjehecaaGreatDoor
end
section
set_option maxRecDepth 1000000
set_option maxHeartbeats 4000000
namespace Go.Proofs.YtfdoofnmjehecaaGreatDoor
open Go.Lk Go.Pe Go.Sen Go.RowKit
def A.q51:Ann:={ reg:=[(1,[(6,6,c1 [2,3,16]),(1,6,c1 [2,3,23]),(1,6,c1 [2,3,30]),(1,6,c1 [2,3,37]),(1,6,c1 [2,3,44]),(1,6,c1 [2,3,51]),(1,6,c1 [2,3,58]),(1,6,c1 [2,3,65]),(1,6,c1 [2,3,72]),(1,6,c1 [79])])],ro:=[2,3] }
theorem C.q51 {p0 p1:q01}:Qs (M.q51 p0 p1) 88 ⟨[.agg p0.v,.agg p1.v],[],[]⟩ fun r => .ok [.b r] [] [] :=
 Kf Tryz.func88 A.q51 [.tmp 4] (by unfold M.q51;exact S.ja0 (fun x1=>st [(2,.zq p0.d 0),(3,.zq p1.d 0),(16,.b x1)]) rfl (S.ja0 (fun x3=>st [(2,.zq p0.d 0),(3,.zq p1.d 0),(23,.b x3)]) rfl (S.ja0 (fun x5=>st [(2,.zq p0.d 0),(3,.zq p1.d 0),(30,.b x5)]) rfl (S.ja0 (fun x7=>st [(2,.zq p0.d 0),(3,.zq p1.d 0),(37,.b x7)]) rfl (S.ja0 (fun x9=>st [(2,.zq p0.d 0),(3,.zq p1.d 0),(44,.b x9)]) rfl (S.ja0 (fun x11=>st [(2,.zq p0.d 0),(3,.zq p1.d 0),(51,.b x11)]) rfl (S.ja0 (fun x13=>st [(2,.zq p0.d 0),(3,.zq p1.d 0),(58,.b x13)]) rfl (S.ja0 (fun x15=>st [(2,.zq p0.d 0),(3,.zq p1.d 0),(65,.b x15)]) rfl (S.j (fun j20=>st [(2,.zq p0.d 0),(3,.zq p1.d 0),(72,.b j20)]) (fun _=>S.cb (S.k0 C.q4k fun a21=>S.n S.zr) S.zr) fun j20=>S.j (fun j26=>st [(79,.b j26)]) (fun _=>S.cb (S.k0 C.q4k fun a27=>S.n S.zr) S.zr) fun j26=>S.q)))))))))
def A.q5h:Ann:={ seq:=[(8,c1 [])],loop:=[(4,c1 [0,1,5])],drw:=[(6,{ anc:=[0,0,3,7,15,0,0,96,224,480,1023,2047,4095,4095,16383,32767,65535,4095,4095,397311,921599,1970175,4194303,8388607,16777215],E:=[22],qs:=[0,1,2,3,4,5,6,7,8,9,10,11,12,13,14,15,16,17,18,19,20,21],g:=.one 22 [] [23,24] (.fin),lin:=some [(12,13,c1 [0,1,5,41])] })] }
theorem C.q5h {p0 p1:List q02}:Qs (M.q5h p0 p1) 83 ⟨[.z7t p0,.z7t p1],[],[]⟩ fun r => .ok [.b r] [] [] :=
 Kf Tryz.func83 A.q5h [.tmp 4] (by unfold M.q5h;exact S.m (S.m (by exact S.cb S.q (S.gn (fun _=>st []) (S.lw (L:=M.z1w p0 p1) (fun x51=>st [(0,.z7t p0),(1,.z7t p1),(5,.i x51)]) (M.z1w.partial_correctness _ _) rfl fun _ _ ih_z1w x51=>S.m (S.cb (S.ixm q02.z29 fun x64=>S.ixm q02.z29 fun x65=>S.j (fun j71=>st [(0,.z7t p0),(1,.z7t p1),(5,.i x51),(41,.b j71)]) (fun _=>S.cb S.zr (S.ixm q02.z29 fun x72=>S.ixm q02.z29 fun x73=>S.k0 C.q4k fun a74=>S.n S.zr)) fun j71=>S.cb S.q (ih_z1w _)) S.zr)) fun j38=>S.q))))
def A.q5j:Ann:={ seq:=[(8,c1 [])],loop:=[(4,c1 [2,3,5])],reg:=[(1,[(6,6,c1 [2,3,17]),(1,6,c1 [2,3,24]),(1,6,c1 [2,3,31]),(1,6,c1 [2,3,38]),(1,6,c1 [2,3,45]),(1,6,c1 [2,3,52]),(1,6,c1 [2,3,59]),(1,7,c1 [2,3,67]),(1,6,c1 [2,3,74]),(1,6,c1 [2,3,81]),(1,6,c1 [2,3,88]),(1,6,c1 [2,3,95]),(1,7,c1 [2,3,103]),(1,8,c1 [2,3,112])])],drw:=[(6,{ anc:=[0,1,0,7,15,31,0,64,0,448,960,1984,4095,8191,16383,32767,16383,131071,262143,524287,16383,1064959,16383,7356415,15745023,32522239,67108863,134217727,268435455,536870911,1073741823,536870911,4294967295,8589934591,17179869183,536870911,34896609279,536870911,241055039487,515932946431,1065688760319,2199023255551,4398046511103,8796093022207,17592186044415,35184372088831,17592186044415,140737488355327,281474976710655,562949953421311,17592186044415,1143492092887039,17592186044415,7898891533942783,16906090788683775,34920489298165759,72057594037927935,144115188075855871,288230376151711743],E:=[56],qs:=[0,1,2,3,4,5,6,7,8,9,10,11,12,13,14,15,16,17,18,19,20,21,22,23,24,25,26,27,28,29,30,31,32,33,34,35,36,37,38,39,40,41,42,43,44,45,46,47,48,49,50,51,52,53,54,55],g:=.one 56 [] [57,58] (.fin),lin:=some [(14,14,c1 [2,3,5,147]),(1,14,c1 [2,3,5,162]),(1,15,c1 [2,3,5,178])] })],ro:=[2,3] }
theorem C.q5j {p0 p1:q06}:Qs (M.q5j p0 p1) 26 ⟨[.agg p0.v,.agg p1.v],[],[]⟩ fun r => .ok [.b r] [] [] :=
 Kf Tryz.func26 A.q5j [.tmp 4] (by unfold M.q5j;exact S.ju0 (fun x37=>st [(2,.zq p0.d 0),(3,.zq p1.d 0),(17,.b x37)]) rfl (S.ju0 (fun x39=>st [(2,.zq p0.d 0),(3,.zq p1.d 0),(24,.b x39)]) rfl (S.ju0 (fun x41=>st [(2,.zq p0.d 0),(3,.zq p1.d 0),(31,.b x41)]) rfl ((by exact S.ju0 (fun x43=>st [(2,.zq p0.d 0),(3,.zq p1.d 0),(38,.b x43)]) rfl (S.ju0 (fun x45=>st [(2,.zq p0.d 0),(3,.zq p1.d 0),(45,.b x45)]) rfl (S.ju0 (fun x47=>st [(2,.zq p0.d 0),(3,.zq p1.d 0),(52,.b x47)]) rfl (S.ju0 (fun x49=>st [(2,.zq p0.d 0),(3,.zq p1.d 0),(59,.b x49)]) rfl (S.j (fun j54=>st [(2,.zq p0.d 0),(3,.zq p1.d 0),(67,.b j54)]) (fun _=>S.cb S.zr (S.k0 C.q4k fun a55=>S.n S.zr)) fun j54=>S.ju0 (fun x57=>st [(2,.zq p0.d 0),(3,.zq p1.d 0),(74,.b x57)]) rfl (S.ju0 (fun x59=>st [(2,.zq p0.d 0),(3,.zq p1.d 0),(81,.b x59)]) rfl (S.ju0 (fun x61=>st [(2,.zq p0.d 0),(3,.zq p1.d 0),(88,.b x61)]) rfl (S.ju0 (fun x63=>st [(2,.zq p0.d 0),(3,.zq p1.d 0),(95,.b x63)]) rfl (S.j (fun j68=>st [(2,.zq p0.d 0),(3,.zq p1.d 0),(103,.b j68)]) (fun _=>S.cb S.zr (S.k0 C.q51 fun a69=>S.n S.zr)) fun j68=>S.ju (fun x71=>st [(2,.zq p0.d 0),(3,.zq p1.d 0),(112,.b x71)]) (fun _=>Ex.i z36 (Ex.i z36 (jbI rfl rfl))) (S.cb S.q (S.gn (fun _=>st []) ((by exact S.lw (L:=M.z25 p0 p1) (fun x171=>st [(2,.zq p0.d 0),(3,.zq p1.d 0),(5,.i x171)]) (M.z25.partial_correctness _ _) rfl fun _ _ ih_z25 x171=>S.m (S.cb (S.ixm q07.z29 fun x196=>S.ixm q07.z29 fun x197=>S.j (fun j201=>st [(2,.zq p0.d 0),(3,.zq p1.d 0),(5,.i x171),(147,.b j201)]) (fun _=>S.cb S.zr (S.ixm q07.z29 fun x202=>S.ixm q07.z29 fun x203=>S.zr)) fun j201=>S.j (fun j207=>st [(2,.zq p0.d 0),(3,.zq p1.d 0),(5,.i x171),(162,.b j207)]) (fun _=>S.cb S.zr (S.ixm q07.z29 fun x208=>S.ixm q07.z29 fun x209=>S.zr)) fun j207=>S.j (fun j215=>st [(2,.zq p0.d 0),(3,.zq p1.d 0),(5,.i x171),(178,.b j215)]) (fun _=>S.cb S.zr (S.ixm q07.z29 fun x216=>S.ixm q07.z29 fun x217=>S.k0 C.q5h fun a218=>S.n S.zr)) fun j215=>S.cb S.q (ih_z25 _)) S.zr))) fun j146=>S.q)))))))))))))))
def A.q3p:Ann:={ reg:=[(1,[(7,0,c1 [1,2,3,7,8])]),(5,[(3,3,c1 [29])]),(6,[(12,0,c1 [2,3,7,9,10,11])]),(7,[(3,5,c1 [2,3,7,9,45]),(1,5,c1 [2,7,51])]),(9,[(3,5,c1 [2,7,59])]),(11,[(12,0,c1 [13,14])]),(12,[(3,3,c1 [73])])],ro:=[3,9,12] }
theorem C.q3p (fuel:Nat) (p0:q06) (p1:Z) (p2:Int):Qs (M.q3p fuel p0 p1 p2) 8 ⟨[.agg p0.v,.s p1,.i p2],[],[]⟩ fun r => .ok [.b r] [] [] :=
 Kf Tryz.func8 A.q3p [.tmp 6] (by unfold M.q3p;exact S.k0 C.q0v fun a1=>S.n (S.jp (st [(1,.s p1),(2,.i p2),(3,.zq p0.d 0),(7,.s a1.1),(8,.i a1.2)]) (fun _=>rfl) (S.k0 C.q3x fun a5=>S.n (S.cb S.q (S.cb (S.ja0 (fun x9=>st [(29,.b x9)]) rfl (S.q)) (S.e fun s11=>(by exact S.k0 C.q0t fun a12=>S.n (S.jp (st [(2,.i p2),(3,.zq p0.d 0),(7,.s a1.1),(9,.zq a12.1.d 0),(10,.i a12.2.1),(11,.i a12.2.2)]) (fun _=>rfl) (S.ju0 (fun x22=>st [(2,.i p2),(3,.zq p0.d 0),(7,.s a1.1),(9,.zq a12.1.d 0),(45,.b x22)]) rfl (S.j (fun j27=>st [(2,.i p2),(7,.s a1.1),(51,.b j27)]) (fun _=>S.cb S.zr (S.k0 C.q5j fun a28=>S.n S.zr)) fun j27=>S.cb S.q (S.ju0 (fun x32=>st [(2,.i p2),(7,.s a1.1),(59,.b x32)]) rfl (S.cb S.q (S.e fun s34=>S.k0 C.q0t fun a35=>S.n (S.jp (st [(13,.i a35.2.1),(14,.i a35.2.2)]) (fun _=>rfl) (S.ja0 (fun x37=>st [(73,.b x37)]) rfl (S.q))))))))))))))))
end Go.Proofs.YtfdoofnmjehecaaGreatDoor
end
section
namespace Go.Sen
open _root_.List renaming isPrefixOf_iff_prefix → ya
open IntKind renaming bits → yb, signed → yc, wrap → yd
open Go.Lk Go.Pe
theorem w64 {x:Int} (h1 : -9223372036854775808≤x) (h2:x<9223372036854775808):yd .i64 x=x:=by
 have h:yd .i64 x=if x % 18446744073709551616≥9223372036854775808 then x % 18446744073709551616 - 18446744073709551616 else x % 18446744073709551616:=by
  simp [yd,yb,yc]
 rw [h]
 split<;>omega
theorem w32 {x:Int} (h1 : -2147483648≤x) (h2:x<2147483648):yd .i32 x=x:=by
 have h:yd .i32 x=if x % 4294967296≥2147483648 then x % 4294967296 - 4294967296 else x % 4294967296:=by
  simp [yd,yb,yc]
 rw [h]
 split<;>omega
theorem wu64 {x:Int} (h1:0≤x) (h2:x<18446744073709551616):yd .u64 x=x:=by
 unfold yd
 simp only [yb,yc]
 simp
 omega
theorem w1 {n:Nat} (h:n<4611686018427387904):yd .i64 ((n:Int)+1)=((n+1:Nat):Int):=by rw [w64]<;>omega
theorem wadd {n m:Nat} (h:n+m<4611686018427387904):yd .i64 ((n:Int)+(m:Int))=((n+m:Nat):Int):=by rw [w64]<;>omega
theorem z6b {α:Type} {k:Nat} {l l2:List α} (h:(l.length+l2.length)*k≤140737488355328):app k l l2=some (l++l2):=by
 unfold app
 rw [if_pos h]
theorem z3r {a b:Z} (h:a.length+b.length≤9223372036854775807):cat a b=some (a++b):=by
 unfold cat
 rw [if_pos h]
theorem z4k {b:Bool} (h:b=true):chk b=some ():=by subst h;rfl
theorem zcj {α:Type} (l:List α) (n:Nat):ix l (n:Int)=l[n]?:=by simp [ix]
theorem ix_0 {α:Type} (l:List α):ix l 0=l[0]?:=by simp [ix]
theorem ix_1 {α:Type} (l:List α):ix l 1=l[1]?:=by simp [ix]
theorem zw1 {α:Type} {l:List α} {a b:Nat} (h1:a≤b) (h2:b≤l.length):sub l (a:Int) (b:Int)=some ((l.take b).drop a):=by
 unfold sub
 rw [if_pos (by omega)]
 simp
theorem zhc {α:Type} {l:List α} {a:Nat} (h:a≤l.length):sub l (a:Int) (l.length:Int)=some (l.drop a):=by
 rw [zw1 h (Nat.le_refl _)]
 simp
theorem zjw {α:Type} {l:List α} {a:Nat} (h:a≤l.length):sub l 0 (a:Int)=some (l.take a):=by
 have:=zw1 (l:=l) (Nat.zero_le a) h
 simpa using this
theorem z9p (s:Z):(unb s).length=s.length:=by simp [unb]
theorem zst (s:Z) (i:Nat):(unb s)[i]? = (s[i]?).map fun b=>(b.toNat:Int):=by simp [unb]
theorem z5r (a b:Z):unb (a++b)=unb a++unb b:=by simp [unb]
theorem zpr (s:Z):byt (unb s)=s:=by simp [unb,byt,Function.comp_def]
theorem ztn {α:Type} {l:List α} {i:Nat} (h:i<l.length):l.drop i=l[i]::l.drop (i+1):=by simp
theorem zu1 {α:Type} {l r:List α} {i:Nat} {c:α} (h:l.drop i=c::r):l[i]? = some c∧l.drop (i+1)=r∧i<l.length:=by
 have hi:i<l.length:=by
  rcases Nat.lt_or_ge i l.length with h1|h1
  ·exact h1
  ·rw [List.drop_eq_nil_of_le h1] at h;cases h
 rw [List.drop_eq_getElem_cons hi] at h
 injection h with h1 h2
 exact ⟨by rw [List.getElem?_eq_getElem hi,h1],h2,hi⟩
theorem toNat_eq {b:UInt8} {n:Nat} (hn:n<256):((b.toNat:Int)=(n:Int))↔b=UInt8.ofNat n:=by
 constructor
 ·intro h
  have:b.toNat=n:=by omega
  rw [←this]
  simp
 ·rintro rfl
  simp [UInt8.toNat_ofNat']
  omega
theorem zrf {b:UInt8}:b.toNat<256:=UInt8.toNat_lt b
theorem zh5 {p s:Z} (h:p.isPrefixOf s=true):p.length≤s.length:=(ya.1 h).length_le
theorem zv3 (p s:Z):decide (s.take p.length=p)=p.isPrefixOf s:=by
 rw [Bool.eq_iff_iff,decide_eq_true_iff,ya,List.prefix_iff_eq_take]
 exact ⟨fun h=>h.symm,fun h=>h.symm⟩
end Go.Sen
end
section
namespace Go.Sen
open _root_.Option renaming bind_eq_bind → ya, bind_some → yb
open _root_.List renaming drop_eq_nil_of_le → yc, getElem?_eq_getElem → yd, length_drop → ye
open _root_.Nat renaming le_of_not_lt → yf
open IntKind renaming wrap → yg
open Go.Lk Go.Pe
theorem z5a (s p:Z):M.q73 s p=some (p.isPrefixOf s):=by
 unfold M.q73 M.q2z
 by_cases h:p.length≤s.length
 ·have h':((p.length:Int)≤(s.length:Int)):=by omega
  simp only [h',decide_true,if_true,zjw h,ya,yb,zv3]
 ·have h':¬((p.length:Int)≤(s.length:Int)):=by omega
  have:p.isPrefixOf s=false:=by
   cases hp:p.isPrefixOf s with
   | false=>rfl
   | true=>exact absurd (zh5 hp) h
  simp [h',this]
theorem z8n (s p:Z):M.q72 s p=some (if p.isPrefixOf s then (s.drop p.length,true) else (s,false)):=by
 have h:=z5a s p
 unfold M.q73 at h
 simp only [ya] at h
 unfold M.q72 M.q2y
 cases h1:M.q2z s p with
 | none=>rw [h1] at h;cases h
 | some b =>
  rw [h1] at h
  simp only [yb,Option.some.injEq] at h
  subst h
  cases hb:p.isPrefixOf s with
  | false=>simp
  | true=>simp [zhc (zh5 hb)]
theorem z7z (s p:Z):M.q74 s p=some (if p.isPrefixOf s then s.drop p.length else s):=by
 have h:=z5a s p
 unfold M.q73 at h
 simp only [ya] at h
 unfold M.q74 M.q30
 cases h1:M.q2z s p with
 | none=>rw [h1] at h;cases h
 | some b =>
  rw [h1] at h
  simp only [yb,Option.some.injEq] at h
  subst h
  cases hb:p.isPrefixOf s with
  | false=>simp
  | true=>simp [zhc (zh5 hb)]
def isD (b:UInt8):Bool:=decide (48≤b.toNat)&&decide (b.toNat≤57)
theorem zy4:∀ b:UInt8,([48,49,50,51,52,53,54,55,56,57]:Z).contains b=isD b:=by
 intro b
 have h:∀ n:Fin 256,([48,49,50,51,52,53,54,55,56,57]:Z).contains (UInt8.ofNat n.val)=isD (UInt8.ofNat n.val):=by decide +kernel
 have:=h ⟨b.toNat,zrf⟩
 simpa using this
def z6k (s:Z):Nat:=(s.takeWhile isD).length
theorem zdh (s:Z):z6k s≤s.length:=by
 unfold z6k
 exact (List.takeWhile_sublist _).length_le
theorem z8q (c:UInt8) (s:Z):z6k (c::s)=if isD c then z6k s+1 else 0:=by
 unfold z6k
 rw [List.takeWhile_cons]
 split<;>simp
theorem z6p {s:Z} (h:s.length<4611686018427387904):M.q3c s=some (z6k s:Int):=by
 unfold M.q3c M.trimLeft
 have e:(decide ((([48,49,50,51,52,53,54,55,56,57]:Z)).length<4294967281)&&([48,49,50,51,52,53,54,55,56,57]:Z).all fun b=>decide (b.toNat<128))=true:=by decide
 rw [z4k e]
 simp only [ya,yb]
 have e2:Lib.trimLeftS s [48,49,50,51,52,53,54,55,56,57]=s.dropWhile isD:=by
  unfold Lib.trimLeftS
  congr 1
  funext b
  exact zy4 b
 rw [e2]
 have e3:z6k s+(s.dropWhile isD).length=s.length:=by
  unfold z6k
  rw [←List.length_append,List.takeWhile_append_dropWhile]
 rw [w64 (by omega) (by omega)]
 congr 1
 omega
def sgn (s:Z):Nat:=if s.head? = some 45 then 1 else 0
def z8b (s:Z):Nat:=if s.head? = some 48 then 1 else z6k s
def zbz:Z→Nat
 | 46::r=>if 0<z6k r then 1+z6k r else 0
 | _=>0
def z98 (s:Z):Nat:=if s.head? = some 43∨s.head? = some 45 then 1 else 0
def zdl:Z→Nat
 | c::r=>if c=101∨c=69 then (if 0<z6k (r.drop (z98 r)) then 1+z98 r+z6k (r.drop (z98 r)) else 0) else 0
 | []=>0
def num (s:Z):Nat :=
 let i:=sgn s
 if z8b (s.drop i)=0 then 0 else
 let i:=i+z8b (s.drop i)
 let i:=i+zbz (s.drop i)
 i+zdl (s.drop i)
theorem zsh (s:Z):sgn s≤s.length:=by
 unfold sgn
 cases s<;>simp
 split<;>omega
theorem zlx (s:Z):z98 s≤s.length:=by
 unfold z98
 cases s<;>simp
 split<;>omega
theorem zkt (s:Z):z8b s≤s.length:=by
 unfold z8b
 have:=zdh s
 cases s with
 | nil=>simp [z6k]
 | cons c r=>split<;>simp_all
theorem zko (s:Z):zbz s≤s.length:=by
 unfold zbz
 split
 ·rename_i r
  have:=zdh r
  split<;>simp<;>omega
 ·simp
theorem zxs (s:Z):zdl s≤s.length:=by
 unfold zdl
 split
 ·rename_i c r
  have h1:=zlx r
  have h2:=zdh (r.drop (z98 r))
  rw [ye] at h2
  repeat' split
  all_goals simp only [List.length_cons]
  all_goals omega
 ·simp
theorem zn8 (s:Z):num s≤s.length:=by
 unfold num
 simp only
 split
 ·simp
 ·have h1:=zsh s
  have h2:=zkt (s.drop (sgn s))
  have h3:=zko (s.drop (sgn s+z8b (s.drop (sgn s))))
  have h4:=zxs (s.drop (sgn s+z8b (s.drop (sgn s))+zbz (s.drop (sgn s+z8b (s.drop (sgn s))))))
  simp only [ye] at h2 h3 h4
  omega
theorem z6l (s:Z):z6k s=0↔z8b s=0:=by
 unfold z8b
 cases s with
 | nil=>simp [z6k]
 | cons c r =>
  by_cases h:c=48
  ·subst h
   simp [z8q,isD]
  ·simp [h]
theorem zu2 (s:Z):s.head? = s[0]?:=by cases s<;>rfl
theorem getD {s:Z} {i:Nat}:(s.drop i).head? = s[i]?:=by rw [zu2];simp
theorem z9w {s:Z} (h:s.length<1152921504606846976):M.q3f s=some (num s:Int):=by
 unfold M.q3f
 have a1:(do
   let a_7←M.q73 s ([45]:Z)
   if a_7 then
    some 1
   else
    some 0:Option Int)=some ((sgn s:Nat):Int):=by
  rw [z5a]
  unfold sgn
  cases s with
  | nil=>rfl
  | cons c r =>
   by_cases hc:c=45
   ·subst hc;simp
   ·have:¬(45:UInt8)=c:=fun e=>hc e.symm
    simp [hc,this]
 rw [a1]
 simp only [ya,yb]
 have l1:=zsh s
 rw [zhc l1]
 simp only [yb]
 rw [z6p (by simp;omega)]
 simp only [yb]
 unfold num
 simp only
 by_cases hz:z6k (s.drop (sgn s))=0
 ·rw [if_pos (by simpa using hz),if_pos ((z6l _).1 hz)]
  rfl
 rw [if_neg (by simpa using hz),if_neg (fun e=>hz ((z6l _).2 e))]
 generalize hi:sgn s=i at *
 have hlt:i<s.length:=by
  rcases Nat.lt_or_ge i s.length with h1|h1
  ·exact h1
  ·rw [yc h1] at hz;exact absurd rfl hz
 rw [zcj,yd hlt]
 simp only [yb]
 have a2:(if (decide (((s[i]).toNat:Int)=48))=true then some 1 else some ((z6k (s.drop i):Nat):Int))=some ((z8b (s.drop i):Nat):Int):=by
  unfold z8b
  rw [getD,yd hlt]
  by_cases hc:s[i]=48
  ·have:((s[i]).toNat:Int)=48:=by rw [hc];rfl
   simp [hc]
  ·have:¬((s[i]).toNat:Int)=48:=fun e=>hc ((toNat_eq (n:=48) (by omega)).1 e)
   simp [hc,this]
 rw [a2]
 simp only [yb]
 have l2:=zkt (s.drop i)
 generalize hn:z8b (s.drop i)=n at *
 rw [ye] at l2
 have e1:yg .i64 ((i:Int)+(n:Int))=((i+n:Nat):Int):=wadd (by omega)
 rw [e1]
 have hk:i+n≤s.length:=by omega
 generalize hj:i+n=j at *
 have a3:(do
   let s_31←sub s (j:Int) (s.length:Int)
   let a_32←M.q73 s_31 ([46]:Z)
   if a_32 then
    let s_34←sub s (yg .i64 ((j:Int)+1)) (s.length:Int)
    let a_35←M.q3c s_34
    if (decide (0<a_35)) then
     some (yg .i64 ((j:Int)+(yg .i64 (1+a_35))))
    else
     some (j:Int)
   else
    some (j:Int):Option Int)=some ((j+zbz (s.drop j):Nat):Int):=by
  rw [zhc hk]
  simp only [ya,yb,z5a]
  have ex:(∃ r,s.drop j=46::r)∨(([46]:Z).isPrefixOf (s.drop j)=false∧zbz (s.drop j)=0):=by
   cases hd:s.drop j with
   | nil=>exact .inr ⟨rfl,rfl⟩
   | cons c r =>
    by_cases hc:c=46
    ·subst hc;exact .inl ⟨r,rfl⟩
    ·have h46:¬(46:UInt8)=c:=fun e=>hc e.symm
     refine .inr ⟨by simp [List.isPrefixOf,h46],?_⟩
     unfold zbz
     split
     ·rename_i r' hr
      injection hr with e1 e2
      exact absurd e1 hc
     ·rfl
  rcases ex with ⟨r,hr⟩|⟨e1,e2⟩
  ·obtain ⟨g1,g2,g3⟩:=zu1 hr
   have:([46]:Z).isPrefixOf (s.drop j)=true:=by rw [hr];rfl
   rw [this,if_pos rfl,w1 (by omega),zhc (by omega),hr]
   simp only [yb,zbz]
   rw [g2,z6p (by rw [←g2];simp;omega)]
   simp only [yb]
   have:=zdh r
   have hr2:r.length+(j+1)=s.length:=by rw [←g2];simp;omega
   by_cases hd:0<z6k r
   ·rw [if_pos (by simpa using hd),if_pos hd]
    rw [show (1:Int)+(z6k r:Int)=((1+z6k r:Nat):Int) by omega,w64 (x:=((1+z6k r:Nat):Int)) (by omega) (by omega),wadd (by omega)]
   ·rw [if_neg (by simpa using hd),if_neg hd]
    rfl
  ·rw [e1,e2]
   simp
 simp only [ya] at a3
 rw [a3]
 simp only [yb]
 have l3:=zko (s.drop j)
 rw [ye] at l3
 have hk2:j+zbz (s.drop j)≤s.length:=by omega
 generalize j+zbz (s.drop j)=k at *
 clear a1 a2 a3
 by_cases hks:k<s.length
 ·have hks':((k:Int)<(s.length:Int)):=by omega
  have hdr:s.drop k=s[k]::s.drop (k+1):=by simp
  simp only [hks',decide_true,if_true,zcj,yd hks,yb]
  have ec:(if (decide (((s[k]).toNat:Int)=101))=true then some true else some (decide (((s[k]).toNat:Int)=69)))=some (decide (s[k]=101∨s[k]=69)):=by
   have t1:(((s[k]).toNat:Int)=101)↔s[k]=101:=toNat_eq (n:=101) (by omega)
   have t2:(((s[k]).toNat:Int)=69)↔s[k]=69:=toNat_eq (n:=69) (by omega)
   simp only [t1,t2]
   by_cases q:s[k]=101<;>simp [q]
  rw [ec]
  simp only [yb]
  rw [hdr]
  unfold zdl
  simp only
  by_cases hc:s[k]=101∨s[k]=69
  ·rw [if_pos (by simpa using hc),if_pos hc,w1 (by omega)]
   have es:(do
     let j_60 ← (if decide (((k + 1 : Nat) : Int) < (s.length : Int)) = true then do
        let c_61←ix s ((k+1:Nat):Int)
        if decide ((c_61.toNat:Int)=43)=true then some true
        else do
         let c_62←ix s ((k+1:Nat):Int)
         some (decide ((c_62.toNat:Int)=45))
       else some false)
     if j_60=true then some (yg .i64 (((k+1:Nat):Int)+1)) else some ((k+1:Nat):Int))=some ((k+1+z98 (s.drop (k+1)):Nat):Int):=by
    unfold z98
    rw [getD]
    by_cases hk1:k+1<s.length
    ·have:(((k+1:Nat):Int)<(s.length:Int)):=by omega
     simp only [this,decide_true,if_true,zcj,yd hk1,ya,yb]
     have t1:(((s[k+1]).toNat:Int)=43)↔s[k+1]=43:=toNat_eq (n:=43) (by omega)
     have t2:(((s[k+1]).toNat:Int)=45)↔s[k+1]=45:=toNat_eq (n:=45) (by omega)
     simp only [t1,t2,Option.some.injEq]
     have ww:yg .i64 (((k+1:Nat):Int)+1)=((k+1+1:Nat):Int):=w1 (by omega)
     rw [ww]
     by_cases q:s[k+1]=43
     ·simp [q]
     ·by_cases q2:s[k+1]=45
      ·simp [q2]
      ·simp [q,q2]
    ·have:¬((k:Int)+1<(s.length:Int)):=by omega
     simp [this,List.getElem?_eq_none (yf hk1)]
   simp only [ya] at es
   rw [es]
   simp only [yb]
   have l4:=zlx (s.drop (k+1))
   rw [ye] at l4
   rw [zhc (by omega)]
   simp only [yb]
   rw [z6p (by simp;omega),←List.drop_drop]
   simp only [yb]
   have l5:=zdh ((s.drop (k+1)).drop (z98 (s.drop (k+1))))
   rw [ye,ye] at l5
   by_cases hd:0<z6k ((s.drop (k+1)).drop (z98 (s.drop (k+1))))
   ·rw [if_pos (by simpa using hd),if_pos hd,wadd (by omega)]
    congr 2
    omega
   ·rw [if_neg (by simpa using hd),if_neg hd]
    rfl
  ·rw [if_neg (by simpa using hc),if_neg hc]
   rfl
 ·have hks':¬((k:Int)<(s.length:Int)):=by omega
  rw [yc (yf hks)]
  simp [hks',zdl]
end Go.Sen
end
section
namespace Go.Sen
open Go.Lk Go.Pe
end Go.Sen
end
section
namespace Go.Sen
open _root_.Option renaming bind_eq_bind → ya, bind_some → yb
open _root_.Bool renaming and_comm → yc, and_left_comm → yd
open _root_.List renaming drop_zero → ye, isPrefixOf → yf, le_antisymm → yg, length_cons → yh, nodup_iff_pairwise_ne → yi, pairwise_iff_getElem → yj
open Go.Lk Go.Pe
theorem zcg {P:UInt8→Prop} (h:∀ n:Fin 256,P (UInt8.ofNat n.val)) (b:UInt8):P b:=by
 have:=h ⟨b.toNat,zrf⟩
 simpa using this
theorem z6o (c:UInt8) (s:Z):[c].isPrefixOf s=decide (s.head? = some c):=by
 cases s with
 | nil=>rfl
 | cons d r =>
  by_cases h:c=d
  ·simp [yf,h]
  ·have:¬d=c:=fun e=>h e.symm
   simp [yf,h,this]
def kys (ks:List Z):Nat:=(ks.map fun k=>k.length+1).sum
mutual
def q04.sz:q04→Nat
 | ⟨_,t,l,ks⟩=>szs l+t.length+kys ks+1
def szs:List q04→Nat
 | []=>0
 | x::xs=>x.sz+szs xs+1
end
theorem q04.z8f (v:q04):v.sz=szs v.zj+v.zt.length+kys v.zw+1:=by cases v;simp [q04.sz]
theorem kys_nil:kys []=0:=rfl
theorem z4p (k:Z) (ks:List Z):kys (k::ks)=k.length+1+kys ks:=by simp [kys]
theorem z4y:∀ ks:List Z,ks.length≤kys ks
 | []=>by simp
 | k::ks=>by have:=z4y ks;rw [z4p,yh];omega
theorem zkw:∀ {ks:List Z} {k:Z},k∈ks→k.length<kys ks
 | a::ks,k,h=>by
  rw [z4p]
  rcases List.mem_cons.1 h with rfl|h
  ·omega
  ·have:=zkw h;omega
theorem zhg:∀ {l:List q04} {x:q04},x∈l→x.sz<szs l
 | y::l,x,hx=>by
  simp only [szs]
  rcases List.mem_cons.1 hx with rfl|hx
  ·omega
  ·have:=zhg hx;omega
theorem zhf:∀ l:List q04,l.length≤szs l
 | []=>by simp
 | y::l=>by have:=zhf l;simp only [szs,yh];omega
def frm (k:Int) (t:Z) (n:Nat) (ks:List Z):Bool :=
 ks.all Lib.validD &&
 if k=0∨k=1∨k=2 then decide (t=[])&&decide (n=0)&&decide (ks=[])
 else if k=3 then !decide (t=[])&&decide (num t=t.length)&&decide (n=0)&&decide (ks=[])
 else if k=4 then Lib.validD t&&decide (n=0)&&decide (ks=[])
 else if k=5 then decide (t=[])&&decide (ks=[])
 else if k=6 then decide (t=[])&&decide (ks.length=n)&&decide ks.Nodup
 else false
mutual
def z5i:q04→Nat→Int
 | ⟨k,t,l,ks⟩,w=>if (k=5∨k=6)∧16≤w then 21 else if frm k t l.length ks=false then 23 else z9r l (w+1)
def z9r:List q04→Nat→Int
 | [],_=>0
 | x::xs,w=>if z5i x w=0 then z9r xs w else z5i x w
end
theorem z6j (v:q04) (w:Nat):z5i v w=if (v.zi=5∨v.zi=6)∧16≤w then 21 else if frm v.zi v.zt v.zj.length v.zw=false then 23 else z9r v.zj (w+1):=by cases v;simp only [z5i]
def zs9 (e:Int):Rs Unit:=if e=0 then .ok () else .pan e
theorem zjb (e:Int):M.q3e true e=some (.ok ()):=by simp [M.q3e]
instance:Std.Antisymm (α:=Z) (· ≤ ·):=⟨fun _ _ h1 h2=>yg h1 h2⟩
theorem zsl (l:List Z):(l.mergeSort fun x y=>decide (x≤y)).Pairwise (· ≤ ·):=by
 have:=List.pairwise_mergeSort (le:=fun x y:Z=>decide (x≤y)) (by intro a b c h1 h2;simp only [decide_eq_true_eq] at *;exact List.le_trans h1 h2) (by intro a b;simp only [Bool.or_eq_true,decide_eq_true_eq];exact List.le_total a b) l
 exact this.imp fun h=>by simpa using h
theorem zjt {m:List Z} (hs:m.Pairwise (· ≤ ·)):(∀ j,j<m.length→Lib.keeps m.toArray j=true)↔m.Nodup:=by
 have get:∀ i (h:i<m.length),m.toArray[i]! = m[i]:=fun i h=>by simp [h]
 rw [yj] at hs
 constructor
 ·intro hk
  rw [yi,yj]
  intro i j hi hj hij he
  have h1:=hk j hj
  unfold Lib.keeps at h1
  simp only [decide_eq_true_eq] at h1
  rcases h1 with h1|h1
  ·omega
  ·rw [get j hj,get (j - 1) (by omega)] at h1
   apply h1
   have h3:m[j - 1]≤m[j]:=hs (j - 1) j (by omega) hj (by omega)
   rcases Nat.lt_or_ge i (j - 1) with h|h
   ·have h2:m[i]≤m[j - 1]:=hs i (j - 1) hi (by omega) h
    rw [he] at h2
    exact yg h2 h3
   ·have:i=j - 1:=by omega
    subst this
    exact he.symm
 ·intro hn j hj
  unfold Lib.keeps
  simp only [decide_eq_true_eq]
  rcases Nat.eq_zero_or_pos j with h|h
  ·exact .inl h
  ·refine .inr ?_
   rw [get j hj,get (j - 1) (by omega)]
   rw [yi,yj] at hn
   exact fun e=>hn (j - 1) j (by omega) hj (by omega) e.symm
theorem zkh (m:List Z):(Lib.compact m).length=m.length↔∀ j,j<m.length→Lib.keeps m.toArray j=true:=by
 unfold Lib.compact Lib.compactUpTo
 rw [List.length_map]
 conv=>lhs;rhs;rw [←List.length_range (n:=m.length)]
 rw [List.length_filter_eq_length_iff]
 simp
theorem zsj {l:List Z} (h:l.length*16≤140737488355328):M.single l=some (decide l.Nodup):=by
 unfold M.single
 rw [z4k (by simpa using h)]
 simp only [ya,yb,Option.some.injEq]
 apply decide_eq_decide.2
 rw [←List.Perm.nodup_iff (List.mergeSort_perm l fun x y=>decide (x≤y)),←zjt (zsl l),←zkh,List.length_mergeSort]
 omega
theorem z56 {s:Z} (h:s.length≤9223372036854775807):M.z1i s=some (Lib.validD s):=by
 unfold M.z1i
 rw [z4k (by simpa using h)]
 rfl
theorem zis {ks:List Z} (hs:∀ k∈ks,k.length<1152921504606846976) (hl:ks.length<1152921504606846976):∀ (n i:Nat),ks.length - i=n→i≤ks.length →
  ∃ r,M.zb ks (i:Int)=some r∧(((ks.drop i).all Lib.validD=true∧r = .go ())∨((ks.drop i).all Lib.validD=false∧∃ j:Nat,r = .done (j:Int))):=by
 intro n
 induction n with
 | zero =>
  intro i hn hi
  rw [M.zb.eq_1]
  have:¬((i:Int)<(ks.length:Int)):=by omega
  exact ⟨_,by rw [if_neg (by simpa using this)],.inl ⟨by rw [List.drop_eq_nil_of_le (by omega)];rfl,rfl⟩⟩
 | succ n ih =>
  intro i hn hi
  have hlt:i<ks.length:=by omega
  rw [M.zb.eq_1]
  have h1:((i:Int)<(ks.length:Int)):=by omega
  have h2:=hs ks[i] (List.getElem_mem hlt)
  unfold M.q3b
  simp only [h1,decide_true,if_true,zcj,List.getElem?_eq_getElem hlt,ya,yb]
  rw [z56 (by omega),List.drop_eq_getElem_cons hlt]
  simp only [yb,List.all_cons]
  cases hv:Lib.validD ks[i] with
  | false=>exact ⟨_,by simp,.inr ⟨by simp,i,rfl⟩⟩
  | true =>
   rw [w1 (by omega)]
   obtain ⟨r,h3,h4⟩:=ih (i+1) (by omega) (by omega)
   exact ⟨r,by simpa using h3,by simpa using h4⟩
theorem zdf {ks:List Z} (hs:∀ k∈ks,k.length<1152921504606846976) (hl:ks.length<1152921504606846976):M.q6r ks=some (!ks.all Lib.validD):=by
 unfold M.q6r M.q6w
 obtain ⟨r,h1,h2⟩:=zis hs hl _ 0 rfl (Nat.zero_le _)
 have h1:M.zb ks 0=some r:=h1
 rw [h1]
 rcases h2 with ⟨h3,rfl⟩|⟨h3,j,rfl⟩
 ·simp only [ye] at h3
  rw [h3]
  simp
 ·simp only [ye] at h3
  rw [h3]
  simp
theorem ziw {k:Int} {t:Z} {n:Nat} {ks:List Z} (hw:¬(k=5∨k=6)∨True) :
  frm k t n ks=(((decide (0≤k))&&(decide (k<7)))&&((((decide (k=5))||(decide (k=6)))||(decide ((n:Int)=0)))&&((((decide (k=6))&&(decide ((ks.length:Int)=(n:Int))))||((decide ((ks.length:Int)=0))&&(!decide (k=6)))) &&
   ((ks.all Lib.validD&&decide ks.Nodup)&&(if k=3 then !decide (t=[])&&decide (num t=t.length) else if k=4 then Lib.validD t else decide (t=[])))))):=by
 have k0:((ks.length:Int)=0)↔ks=[]:=by rw [←List.length_eq_zero_iff];omega
 have n0:((n:Int)=0)↔n=0:=by omega
 simp only [k0,n0]
 unfold frm
 by_cases h0:k=0
 ·subst h0;cases ks<;>simp [and_comm,yc]
 by_cases h1:k=1
 ·subst h1;cases ks<;>simp [and_comm,yc]
 by_cases h2:k=2
 ·subst h2;cases ks<;>simp [and_comm,yc]
 by_cases h3:k=3
 ·subst h3;cases ks<;>simp [yc,yd]
 by_cases h4:k=4
 ·subst h4;cases ks<;>simp [yc,yd]
 by_cases h5:k=5
 ·subst h5;cases ks<;>simp
 by_cases h6:k=6
 ·subst h6
  have:(((ks.length:Int)=(n:Int)))↔ks.length=n:=by omega
  simp [this,yc,yd,Bool.and_assoc]
 have:((decide (0≤k))&&(decide (k<7)))=false:=by
  rw [←Bool.not_eq_true,Bool.and_eq_true,decide_eq_true_iff,decide_eq_true_iff]
  omega
 rw [this]
 simp [h0,h1,h2,h3,h4,h5,h6]
end Go.Sen
end
