import Derived.Test.YtmmgdladipbedaaGreatDoorRPaG
import Derived.Test.YtmmgdladipbedaaGreatDoorRPaP4
import Derived.Test.YtmmgdladipbedaaGreatDoorRPeE
import Derived.Test.YtmmgdladipbedaaGreatDoorRPaM
set_option linter.all false
section
set_option maxRecDepth 1000000
set_option maxHeartbeats 4000000
namespace Go.Proofs.YtmmgdladipbedaaGreatDoor
open Go.Lk Go.Pe Go.Sen Go.RowKit
@[reducible] def T.q4l (fuel:Nat):Prop := ∀ (p0:q09) (p1:Int),Qs (M.q4l fuel p0 p1) 73 ⟨[.p 0,.i p1],[⟨107,p0.v⟩],[]⟩ fun r => .ok [.agg r.1.v] [⟨107,r.2.v⟩] []
@[reducible] def T.q4k (fuel:Nat):Prop := ∀ (p0:q09) (p1:Int),Qs (M.q4k fuel p0 p1) 134 ⟨[.p 0,.i p1],[⟨107,p0.v⟩],[]⟩ fun r => .ok [.agg r.1.v] [⟨107,r.2.v⟩] []
def A.q4l:Ann:={ seq:=[(7,{ L:=[0,1,4,5,7],B:=[0,1004],A:=[3205,3206],H:=[(.slot 5 none,3205,24,4),(.slot 7 none,3206,24,4)] }),(9,{ L:=[4,5],B:=[0,1004],A:=[3112],H:=[(.slot 5 none,3112,24,4)] })],loop:=[(3,{ L:=[0,1,4,5,6],B:=[0,1004],A:=[3149],H:=[(.slot 5 none,3149,24,4)] }),(5,{ L:=[0,1,4,5,7],B:=[0,1004],A:=[3213,3214],H:=[(.slot 5 none,3213,24,4),(.slot 7 none,3214,24,4)] })],reg:=[(3,[(2,6,{ L:=[0,1,4,5,16],B:=[0,1004],A:=[3188],H:=[(.slot 5 none,3188,24,4)] })]),(4,[(5,0,{ L:=[0,1,4,5,7],B:=[0,1004],A:=[100201,100202],H:=[(.slot 5 none,100201,24,4),(.slot 7 none,100202,24,4)] })]),(5,[(6,3,{ L:=[0,1,4,5,7,29],B:=[0,1004],A:=[3221,3222],H:=[(.slot 5 none,3221,24,4),(.slot 7 none,3222,24,4)] })]),(6,[(7,0,{ L:=[0,1,4,5,7],B:=[0,1004],A:=[100301,100302],H:=[(.slot 5 none,100301,24,4),(.slot 7 none,100302,24,4)] })]),(7,[(6,0,{ L:=[0,1,4,5],B:=[0,1004],A:=[100351],H:=[(.slot 5 none,100351,24,4)] })]),(8,[(6,3,{ L:=[0,1,4,5,49],B:=[0,1004],A:=[3223],H:=[(.slot 5 none,3223,24,4)] })])],own:=[8,20],nb:=1 }
theorem L.q4l (fuel:Nat) (ih_q4l:T.q4l fuel) (ih_q4k:T.q4k fuel):T.q4l (fuel+1):=fun p0 p1 =>
 Kf Tryz.func73 A.q4l [.cell 4 24] (by unfold M.q4l;exact S.j (fun j477=>⟨[(4,.p 1004),(5,.ref 3112)],[(0,⟨107,[.s j477.2.1,.i j477.2.2.1,.i j477.2.2.2]⟩),(1004,⟨24,[.i 0,.s [],.s [],.nil]⟩)],[(3112,⟨true,24,4,(q01.z2n j477.1)⟩)],none⟩) (fun _=>S.lw5 (L:=M.z0h (M.q4k fuel) p1) (fun x631 x632 x633 x634 x635=>⟨[(0,.p 0),(1,.i p1),(4,.p 1004),(5,.ref 3149),(6,.b x632)],[(0,⟨107,[.s x633,.i x634,.i x635]⟩),(1004,⟨24,[.i 0,.s [],.s [],.nil]⟩)],[(3149,⟨true,24,4,(q01.z2n x631)⟩)],none⟩) (M.z0h.partial_correctness _ _) rfl fun _ _ ih_z0h x631 x632 x633 x634 x635=>S.j (fun j796=>⟨[(0,.p 0),(1,.i p1),(4,.p 1004),(5,.ref 3188),(16,.b j796)],[(0,⟨107,[.s x633,.i x634,.i x635]⟩),(1004,⟨24,[.i 0,.s [],.s [],.nil]⟩)],[(3188,⟨true,24,4,(q01.z2n x631)⟩)],none⟩) (fun _=>S.cb S.zr S.zr) fun j796=>(by exact S.cb (S.kk [0] [] [] (ih_q4k _ _) fun a797=>S.n (S.jp (⟨[(0,.p 0),(1,.i p1),(4,.p 1004),(5,.ref 100201),(7,.ref 100202)],[(0,⟨107,a797.2.v⟩),(1004,⟨24,[.i 0,.s [],.s [],.nil]⟩)],[(100201,⟨true,24,4,(q01.z2n x631)⟩),(100202,⟨true,24,4,(q01.z2n [(q01.mk a797.1.zc a797.1.zk a797.1.z06 a797.1.ze)])⟩)],none⟩) (fun _=>rfl) (S.j (fun j870=>⟨[(0,.p 0),(1,.i p1),(4,.p 1004),(5,.ref 3205),(7,.ref 3206)],[(0,⟨107,[.s j870.2.1,.i j870.2.2.1,.i j870.2.2.2]⟩),(1004,⟨24,[.i 0,.s [],.s [],.nil]⟩)],[(3205,⟨true,24,4,(q01.z2n x631)⟩),(3206,⟨true,24,4,(q01.z2n j870.1)⟩)],none⟩) (fun _=>S.lw4 (L:=M.z07 (M.q4k fuel) p1) (fun x892 x893 x894 x895=>⟨[(0,.p 0),(1,.i p1),(4,.p 1004),(5,.ref 3213),(7,.ref 3214)],[(0,⟨107,[.s x893,.i x894,.i x895]⟩),(1004,⟨24,[.i 0,.s [],.s [],.nil]⟩)],[(3213,⟨true,24,4,(q01.z2n x631)⟩),(3214,⟨true,24,4,(q01.z2n x892)⟩)],none⟩) (M.z07.partial_correctness _ _) rfl fun _ _ ih_z07 x892 x893 x894 x895=>S.j (fun j932=>⟨[(0,.p 0),(1,.i p1),(4,.p 1004),(5,.ref 3221),(7,.ref 3222),(29,.b j932.1)],[(0,⟨107,[.s j932.2.1,.i j932.2.2.1,.i j932.2.2.2]⟩),(1004,⟨24,[.i 0,.s [],.s [],.nil]⟩)],[(3221,⟨true,24,4,(q01.z2n x631)⟩),(3222,⟨true,24,4,(q01.z2n x892)⟩)],none⟩) (fun _=>S.cb (S.kk [0] [] [] C.q4m fun a933=>S.n S.zr) S.zr) fun j932=>S.cb (S.kk [0] [] [] (ih_q4k _ _) fun a935=>S.n (S.apps q01.z02 (fun l937=>S.jp (⟨[(0,.p 0),(1,.i p1),(4,.p 1004),(5,.ref 100301),(7,.ref 100302)],[(0,⟨107,a935.2.v⟩),(1004,⟨24,[.i 0,.s [],.s [],.nil]⟩)],[(100301,⟨true,24,4,(q01.z2n x631)⟩),(100302,⟨true,24,4,(q01.z2n l937)⟩)],none⟩) (fun _=>rfl) (ih_z07 _ _ _ _)) (by first|rfl|simp only [q01.z02,List.map_cons,List.map_nil,q01.z11]))) S.zr) fun j870=>S.k0 C.q4e fun a938=>S.n (S.apps q01.z02 (fun l940=>S.jp (⟨[(0,.p 0),(1,.i p1),(4,.p 1004),(5,.ref 100351)],[(0,⟨107,[.s j870.2.1,.i j870.2.2.1,.i j870.2.2.2]⟩),(1004,⟨24,[.i 0,.s [],.s [],.nil]⟩)],[(100351,⟨true,24,4,(q01.z2n l940)⟩)],none⟩) (fun _=>rfl) (S.j (fun j947=>⟨[(0,.p 0),(1,.i p1),(4,.p 1004),(5,.ref 3223),(49,.b j947.1)],[(0,⟨107,[.s j947.2.1,.i j947.2.2.1,.i j947.2.2.2]⟩),(1004,⟨24,[.i 0,.s [],.s [],.nil]⟩)],[(3223,⟨true,24,4,(q01.z2n l940)⟩)],none⟩) (fun _=>S.cb (S.kk [0] [] [] C.q4m fun a948=>S.n S.zr) S.zr) fun j947=>ih_z0h _ _ _ _ _)) (by first|rfl|simp only [q01.z02,List.map_cons,List.map_nil,q01.z11]))))) S.zr)) fun j477=>S.k0 C.q4e fun a950=>S.n S.q)
def A.q4k:Ann:={ seq:=[(9,cu [4,5,6] [0,1004,1006] []),(25,cu [0,4] [0,1004] [])],loop:=[(21,cu [0,4,7,8,9] [0,1004] [])],reg:=[(2,[(2,0,cu [0,1,4,5,13] [0,1004] [])]),(6,[(6,0,cu [0,4,5,6] [0,1004,1006] [])]),(8,[(2,0,cu [4,5,6] [0,1004,1006] [])]),(13,[(2,4,cu [0,4,7,40] [0,1004] [])]),(17,[(2,0,cu [0,4,7,54] [0,1004] [])]),(23,[(6,0,cu [0,4,7,8,9,69] [0,1004] [])]),(24,[(7,0,cu [4] [0,1004] [])])],nb:=1 }
theorem L.q4k (fuel:Nat) (ih_q4l:T.q4l fuel) (ih_q4k:T.q4k fuel):T.q4k (fuel+1):=fun p0 p1 =>
 Kf Tryz.func134 A.q4k [.cell 4 24] (by unfold M.q4k;exact S.kk [0] [] [] C.q4m fun a1=>S.n (S.kk [0] [] [] C.q4h fun a27=>S.n (by exact S.jp (sb [(0,.p 0),(1,.i p1),(4,.p 1004),(5,.b a1.1),(13,.b a27.1)] [(0,⟨107,a27.2.v⟩),(1004,⟨24,[.i 0,.s [],.s [],.nil]⟩)]) (fun _=>rfl) (S.cb (S.cb (S.kk [0] [] [] C.q4p fun a31=>S.n S.q) (S.kk [0] [] [] (ih_q4l _ _) fun a33=>S.n (S.jp (sb [(0,.p 0),(4,.p 1004),(5,.b a1.1),(6,.p 1006)] [(0,⟨107,a33.2.v⟩),(1004,⟨24,[.i 0,.s [],.s [],.nil]⟩),(1006,⟨24,a33.1.v⟩)]) (fun _=>rfl) (S.j (fun j46=>sb [(4,.p 1004),(5,.b a1.1),(6,.p 1006)] [(0,⟨107,[.s j46.1,.i j46.2.1,.i j46.2.2]⟩),(1004,⟨24,[.i 0,.s [],.s [],.nil]⟩),(1006,⟨24,a33.1.v⟩)]) (fun _=>S.kk [0] [] [] C.q4h fun a47=>S.n (S.cb (S.kk [0] [] [] C.q4p fun a49=>S.n (S.jp (sb [(4,.p 1004),(5,.b a1.1),(6,.p 1006)] [(0,⟨107,a49.v⟩),(1004,⟨24,[.i 0,.s [],.s [],.nil]⟩),(1006,⟨24,a33.1.v⟩)]) (fun _=>rfl) S.zr)) S.zr)) fun j46=>S.cb S.q S.q)))) (S.kk [0] [] [] C.q4o fun a51=>S.n (S.j (fun j64=>sb [(0,.p 0),(4,.p 1004),(7,.s a51.1),(40,.b j64)] [(0,⟨107,a51.2.v⟩),(1004,⟨24,[.i 0,.s [],.s [],.nil]⟩)]) (fun _=>S.cb S.zr (S.k0 C.q3t fun a65=>S.n S.zr)) fun j64=>S.cb (S.kk [0] [] [] C.q4p fun a67=>S.n S.q) (S.kk [0] [] [] C.q4m fun a71=>S.n (S.jp (sb [(0,.p 0),(4,.p 1004),(7,.s a51.1),(54,.b a71.1)] [(0,⟨107,a71.2.v⟩),(1004,⟨24,[.i 0,.s [],.s [],.nil]⟩)]) (fun _=>rfl) (S.cb S.q (S.k0 C.q4v fun a73=>(by exact S.n (S.gn (fun j97=>sb [(0,.p 0),(4,.p 1004)] [(0,⟨107,[.s j97.1,.i j97.2.1,.i j97.2.2]⟩),(1004,⟨24,[.i 0,.s [],.s [],.nil]⟩)]) (S.lw4 (L:=M.z0s a73 fuel a51) (fun x103 x104 x105 x106=>sb [(0,.p 0),(4,.p 1004),(7,.s a51.1),(8,.l9 a73),(9,.i x103)] [(0,⟨107,[.s x104,.i x105,.i x106]⟩),(1004,⟨24,[.i 0,.s [],.s [],.nil]⟩)]) (M.z0s.partial_correctness _ _ _) rfl fun _ _ ih_z0s x103 x104 x105 x106=>S.m (S.cb (S.ixf eS fun x112=>S.kk [0] [] [] C.q4m fun a113=>S.n (S.jp (sb [(0,.p 0),(4,.p 1004),(7,.s a51.1),(8,.l9 a73),(9,.i x103),(69,.b a113.1)] [(0,⟨107,a113.2.v⟩),(1004,⟨24,[.i 0,.s [],.s [],.nil]⟩)]) (fun _=>rfl) (S.cb (S.kk [0] [] [] C.q4n fun a115=>S.n (S.jp (sb [(4,.p 1004)] [(0,⟨107,a115.2.v⟩),(1004,⟨24,[.i (IntKind.wrap .i64 (4+x103)),.s a51.1,.s a115.1,.nil]⟩)]) (fun _=>rfl) S.q)) (ih_z0s _ _ _ _)))) S.zr)) fun j97=>S.kk [0] [] [] C.q4p fun a117=>S.n S.q))))))))))))
theorem C.q4l (fuel:Nat):T.q4l fuel∧T.q4k fuel:=by
 induction fuel with
 | zero=>exact ⟨fun _ _=>S.no,fun _ _=>S.no⟩
 | succ fuel ih=>exact ⟨L.q4l fuel ih.1 ih.2,L.q4k fuel ih.1 ih.2⟩
def A.q3u:Ann:={ seq:=[(8,cu [2,4,5] [1002,1012,1005] [])],reg:=[(4,[(4,0,cu [0,2,4,5] [1002,1012,1005] [])]),(6,[(7,0,cu [2,4,5,23] [1002,1012,1005] [])])],drw:=[(9,{ anc:=[0,0,2,6,14,1,63],E:=[5],qs:=[0,1,2,3,4],g:=.one 5 [1,2,3,4] [6] (.fin) })] }
theorem C.q3u {fuel:Nat} {p0:List UInt8}:Qs (M.q3u fuel p0) 33 ⟨[.s p0],[],[]⟩ fun r => .ok [.agg r.1.v,.i r.2] [] [] :=
 Kf Tryz.func33 A.q3u [.cell 2 24,.tmp 3] (by unfold M.q3u;exact S.cb S.q (S.kk [1012] [] [] ((C.q4l _).1 _ _) fun a1=>S.n (S.jp (sb [(0,.s p0),(2,.p 1002),(4,.p 1012),(5,.p 1005)] [(1002,⟨24,[.i 0,.s [],.s [],.nil]⟩),(1012,⟨107,a1.2.v⟩),(1005,⟨24,a1.1.v⟩)]) (fun _=>rfl) (S.kk [1012] [] [] C.q4j fun a3=>S.n (S.j (fun j12=>sb [(2,.p 1002),(4,.p 1012),(5,.p 1005)] [(1002,⟨24,[.i 0,.s [],.s [],.nil]⟩),(1012,⟨107,[.s j12.1,.i j12.2.1,.i j12.2.2]⟩),(1005,⟨24,a1.1.v⟩)]) (fun _=>S.jp (sb [(2,.p 1002),(4,.p 1012),(5,.p 1005),(23,.b (decide (a3.gi<(p0.length:Int))))] [(1002,⟨24,[.i 0,.s [],.s [],.nil]⟩),(1012,⟨107,a3.v⟩),(1005,⟨24,a1.1.v⟩)]) (fun _=>rfl) (S.cb (S.kk [1012] [] [] C.q4p fun a13=>S.n S.zr) S.zr)) fun j12=>S.cb (S.n (S.n S.q)) S.q)))))
def A.q1b:Ann:={ reg:=[(1,[(8,0,cu [0,3,4] [1003] [])]),(2,[(8,0,cu [3,4,5,6] [1003,1005] [])]),(3,[(2,4,cu [3,5,22] [1003,1005] []),(1,4,c1 [27])])] }
theorem C.q1b (fuel:Nat) (p0:List UInt8):Qs (M.q1b fuel p0) 11 ⟨[.s p0],[],[]⟩ fun r => .ok [.b r] [] [] :=
 Kf Tryz.func11 A.q1b [.tmp 2] (by unfold M.q1b;exact S.k0 C.q1m fun a1=>S.n (S.jp (sb [(0,.s p0),(3,.p 1003),(4,.i a1.2)] [(1003,⟨24,a1.1.v⟩)]) (fun _=>rfl) (S.k0 C.q3u fun a3=>S.n (S.jp (sb [(3,.p 1003),(4,.i a1.2),(5,.p 1005),(6,.i a3.2)] [(1003,⟨24,a1.1.v⟩),(1005,⟨24,a3.1.v⟩)]) (fun _=>rfl) (S.k0 C.q1d fun a5=>S.n (S.ja0 (fun x7=>sb [(3,.p 1003),(5,.p 1005),(22,.b x7)] [(1003,⟨24,a1.1.v⟩),(1005,⟨24,a3.1.v⟩)]) rfl (S.j (fun j12=>st [(27,.b j12)]) (fun _=>S.cb (S.k0 (C.q3z _ _ _) fun a13=>S.n S.zr) S.zr) fun j12=>S.q)))))))
end Go.Proofs.YtmmgdladipbedaaGreatDoor
end
section
namespace Go.Sen
open _root_.List renaming isPrefixOf_iff_prefix → ya
open IntKind renaming bits → yb, signed → yc, wrap → yd
open Go.Lk Go.Pe
theorem w64 {x:Int} (h1 : -9223372036854775808≤x) (h2:x<9223372036854775808):yd .i64 x=x:=by
 have h:yd .i64 x=if x % 18446744073709551616≥9223372036854775808 then x % 18446744073709551616 - 18446744073709551616 else x % 18446744073709551616:=by
  simp [yd,yb,yc]
 rw [h]
 split<;>omega
theorem w32 {x:Int} (h1 : -2147483648≤x) (h2:x<2147483648):yd .i32 x=x:=by
 have h:yd .i32 x=if x % 4294967296≥2147483648 then x % 4294967296 - 4294967296 else x % 4294967296:=by
  simp [yd,yb,yc]
 rw [h]
 split<;>omega
theorem zuj {x:Int} (h1:0≤x) (h2:x<18446744073709551616):yd .u64 x=x:=by
 unfold yd
 simp only [yb,yc]
 simp
 omega
theorem wu8 (x:Int):yd .u8 x=x % 256:=by
 unfold yd
 simp [yb,yc]
theorem w1 {n:Nat} (h:n<4611686018427387904):yd .i64 ((n:Int)+1)=((n+1:Nat):Int):=by rw [w64]<;>omega
theorem zwt {n m:Nat} (h:n+m<4611686018427387904):yd .i64 ((n:Int)+(m:Int))=((n+m:Nat):Int):=by rw [w64]<;>omega
theorem z1v {α:Type} {k:Nat} {l l2:List α} (h:(l.length+l2.length)*k≤140737488355328):app k l l2=some (l++l2):=by
 unfold app
 rw [if_pos h]
theorem z2e {a b:List UInt8} (h:a.length+b.length≤9223372036854775807):cat a b=some (a++b):=by
 unfold cat
 rw [if_pos h]
theorem z2z {b:Bool} (h:b=true):chk b=some ():=by subst h;rfl
theorem z2r {α:Type} (l:List α) (n:Nat):ix l (n:Int)=l[n]?:=by simp [ix]
theorem zlt {α:Type} (l:List α):ix l 0=l[0]?:=by simp [ix]
theorem zxa {α:Type} (l:List α):ix l 1=l[1]?:=by simp [ix]
theorem zj1 {α:Type} {l:List α} {a b:Nat} (h1:a≤b) (h2:b≤l.length):sub l (a:Int) (b:Int)=some ((l.take b).drop a):=by
 unfold sub
 rw [if_pos (by omega)]
 simp
theorem z8b {α:Type} {l:List α} {a:Nat} (h:a≤l.length):sub l (a:Int) (l.length:Int)=some (l.drop a):=by
 rw [zj1 h (Nat.le_refl _)]
 simp
theorem zmc {α:Type} {l:List α} {a:Nat} (h:a≤l.length):sub l 0 (a:Int)=some (l.take a):=by
 have:=zj1 (l:=l) (Nat.zero_le a) h
 simpa using this
theorem zyv {α:Type} {l:List α} {a:Nat} (h:a<l.length) (h2:l.length<4611686018427387904):sub l (a:Int) (yd .i64 ((a:Int)+1))=some [l[a]]:=by
 rw [w1 (by omega),zj1 (by omega) (by omega)]
 congr 1
 rw [List.drop_take]
 simp [List.take_one,h]
theorem z1b (s:List UInt8):(unb s).length=s.length:=by simp [unb]
theorem zj5 (s:List UInt8) (i:Nat):(unb s)[i]? = (s[i]?).map fun b=>(b.toNat:Int):=by simp [unb]
theorem z34 (a b:List UInt8):unb (a++b)=unb a++unb b:=by simp [unb]
theorem zaw (s:List UInt8):byt (unb s)=s:=by simp [unb,byt,Function.comp_def]
theorem z2k {α:Type} {l:List α} {i:Nat} (h:i<l.length):l.drop i=l[i]::l.drop (i+1):=by simp
theorem ze5 {α:Type} {l r:List α} {i:Nat} {c:α} (h:l.drop i=c::r):l[i]? = some c∧l.drop (i+1)=r∧i<l.length:=by
 have hi:i<l.length:=by
  rcases Nat.lt_or_ge i l.length with h1|h1
  ·exact h1
  ·rw [List.drop_eq_nil_of_le h1] at h;cases h
 rw [List.drop_eq_getElem_cons hi] at h
 injection h with h1 h2
 exact ⟨by rw [List.getElem?_eq_getElem hi,h1],h2,hi⟩
theorem toNat_eq {b:UInt8} {n:Nat} (hn:n<256):((b.toNat:Int)=(n:Int))↔b=UInt8.ofNat n:=by
 constructor
 ·intro h
  have:b.toNat=n:=by omega
  rw [←this]
  simp
 ·rintro rfl
  simp [UInt8.toNat_ofNat']
  omega
theorem z8v {b:UInt8}:b.toNat<256:=UInt8.toNat_lt b
theorem z5t {p s:List UInt8} (h:p.isPrefixOf s=true):p.length≤s.length:=(ya.1 h).length_le
theorem zkm (p s:List UInt8):decide (s.take p.length=p)=p.isPrefixOf s:=by
 rw [Bool.eq_iff_iff,decide_eq_true_iff,ya,List.prefix_iff_eq_take]
 exact ⟨fun h=>h.symm,fun h=>h.symm⟩
end Go.Sen
end
section
namespace Go.Sen
open _root_.Option renaming bind_eq_bind → ya, bind_some → yb
open _root_.List renaming drop_eq_nil_of_le → yc, getElem?_eq_getElem → yd, length_drop → ye
open _root_.Nat renaming le_of_not_lt → yf
open IntKind renaming wrap → yg
open Go.Lk Go.Pe
theorem z2g (s p:List UInt8):M.q60 s p=some (p.isPrefixOf s):=by
 unfold M.q60 M.q0g
 by_cases h:p.length≤s.length
 ·have h':((p.length:Int)≤(s.length:Int)):=by omega
  simp only [h',decide_true,if_true,zmc h,ya,yb,zkm]
 ·have h':¬((p.length:Int)≤(s.length:Int)):=by omega
  have:p.isPrefixOf s=false:=by
   cases hp:p.isPrefixOf s with
   | false=>rfl
   | true=>exact absurd (z5t hp) h
  simp [h',this]
theorem z6b (s p:List UInt8):M.q5y s p=some (if p.isPrefixOf s then (s.drop p.length,true) else (s,false)):=by
 have h:=z2g s p
 unfold M.q60 at h
 simp only [ya] at h
 unfold M.q5y M.q0e
 cases h1:M.q0g s p with
 | none=>rw [h1] at h;cases h
 | some b =>
  rw [h1] at h
  simp only [yb,Option.some.injEq] at h
  subst h
  cases hb:p.isPrefixOf s with
  | false=>simp
  | true=>simp [z8b (z5t hb)]
def isD (b:UInt8):Bool:=decide (48≤b.toNat)&&decide (b.toNat≤57)
theorem zt5:∀ b:UInt8,([48,49,50,51,52,53,54,55,56,57]:List UInt8).contains b=isD b:=by
 intro b
 have h:∀ n:Fin 256,([48,49,50,51,52,53,54,55,56,57]:List UInt8).contains (UInt8.ofNat n.val)=isD (UInt8.ofNat n.val):=by decide +kernel
 have:=h ⟨b.toNat,z8v⟩
 simpa using this
def z42 (s:List UInt8):Nat:=(s.takeWhile isD).length
theorem zb3 (s:List UInt8):z42 s≤s.length:=by
 unfold z42
 exact (List.takeWhile_sublist _).length_le
theorem zfu (c:UInt8) (s:List UInt8):z42 (c::s)=if isD c then z42 s+1 else 0:=by
 unfold z42
 rw [List.takeWhile_cons]
 split<;>simp
theorem z4u {s:List UInt8} (h:s.length<4611686018427387904):M.q0p s=some (z42 s:Int):=by
 unfold M.q0p M.trimLeft
 have e:(decide ((([48,49,50,51,52,53,54,55,56,57]:List UInt8)).length<4294967281)&&([48,49,50,51,52,53,54,55,56,57]:List UInt8).all fun b=>decide (b.toNat<128))=true:=by decide
 rw [z2z e]
 simp only [ya,yb]
 have e2:Lib.trimLeftS s [48,49,50,51,52,53,54,55,56,57]=s.dropWhile isD:=by
  unfold Lib.trimLeftS
  congr 1
  funext b
  exact zt5 b
 rw [e2]
 have e3:z42 s+(s.dropWhile isD).length=s.length:=by
  unfold z42
  rw [←List.length_append,List.takeWhile_append_dropWhile]
 rw [w64 (by omega) (by omega)]
 congr 1
 omega
def sgn (s:List UInt8):Nat:=if s.head? = some 45 then 1 else 0
def z4v (s:List UInt8):Nat:=if s.head? = some 48 then 1 else z42 s
def z7a:List UInt8→Nat
 | 46::r=>if 0<z42 r then 1+z42 r else 0
 | _=>0
def z63 (s:List UInt8):Nat:=if s.head? = some 43∨s.head? = some 45 then 1 else 0
def zcm:List UInt8→Nat
 | c::r=>if c=101∨c=69 then (if 0<z42 (r.drop (z63 r)) then 1+z63 r+z42 (r.drop (z63 r)) else 0) else 0
 | []=>0
def num (s:List UInt8):Nat :=
 let i:=sgn s
 if z4v (s.drop i)=0 then 0 else
 let i:=i+z4v (s.drop i)
 let i:=i+z7a (s.drop i)
 i+zcm (s.drop i)
theorem zp2 (s:List UInt8):sgn s≤s.length:=by
 unfold sgn
 cases s<;>simp
 split<;>omega
theorem ziy (s:List UInt8):z63 s≤s.length:=by
 unfold z63
 cases s<;>simp
 split<;>omega
theorem zi2 (s:List UInt8):z4v s≤s.length:=by
 unfold z4v
 have:=zb3 s
 cases s with
 | nil=>simp [z42]
 | cons c r=>split<;>simp_all
theorem zhz (s:List UInt8):z7a s≤s.length:=by
 unfold z7a
 split
 ·rename_i r
  have:=zb3 r
  split<;>simp<;>omega
 ·simp
theorem zsx (s:List UInt8):zcm s≤s.length:=by
 unfold zcm
 split
 ·rename_i c r
  have h1:=ziy r
  have h2:=zb3 (r.drop (z63 r))
  rw [ye] at h2
  repeat' split
  all_goals simp only [List.length_cons]
  all_goals omega
 ·simp
theorem zgl (s:List UInt8):num s≤s.length:=by
 unfold num
 simp only
 split
 ·simp
 ·have h1:=zp2 s
  have h2:=zi2 (s.drop (sgn s))
  have h3:=zhz (s.drop (sgn s+z4v (s.drop (sgn s))))
  have h4:=zsx (s.drop (sgn s+z4v (s.drop (sgn s))+z7a (s.drop (sgn s+z4v (s.drop (sgn s))))))
  simp only [ye] at h2 h3 h4
  omega
theorem z7g (s:List UInt8):z42 s=0↔z4v s=0:=by
 unfold z4v
 cases s with
 | nil=>simp [z42]
 | cons c r =>
  by_cases h:c=48
  ·subst h
   simp [zfu,isD]
  ·simp [h]
theorem zqf (s:List UInt8):s.head? = s[0]?:=by cases s<;>rfl
theorem getD {s:List UInt8} {i:Nat}:(s.drop i).head? = s[i]?:=by rw [zqf];simp
theorem z7j {s:List UInt8} (h:s.length<1152921504606846976):M.q0s s=some (num s:Int):=by
 unfold M.q0s
 have a1:(do
   let a_7←M.q60 s ([45]:List UInt8)
   if a_7 then
    some 1
   else
    some 0:Option Int)=some ((sgn s:Nat):Int):=by
  rw [z2g]
  unfold sgn
  cases s with
  | nil=>rfl
  | cons c r =>
   by_cases hc:c=45
   ·subst hc;simp
   ·have:¬(45:UInt8)=c:=fun e=>hc e.symm
    simp [hc,this]
 rw [a1]
 simp only [ya,yb]
 have l1:=zp2 s
 rw [z8b l1]
 simp only [yb]
 rw [z4u (by simp;omega)]
 simp only [yb]
 unfold num
 simp only
 by_cases hz:z42 (s.drop (sgn s))=0
 ·rw [if_pos (by simpa using hz),if_pos ((z7g _).1 hz)]
  rfl
 rw [if_neg (by simpa using hz),if_neg (fun e=>hz ((z7g _).2 e))]
 generalize hi:sgn s=i at *
 have hlt:i<s.length:=by
  rcases Nat.lt_or_ge i s.length with h1|h1
  ·exact h1
  ·rw [yc h1] at hz;exact absurd rfl hz
 rw [z2r,yd hlt]
 simp only [yb]
 have a2:(if (decide (((s[i]).toNat:Int)=48))=true then some 1 else some ((z42 (s.drop i):Nat):Int))=some ((z4v (s.drop i):Nat):Int):=by
  unfold z4v
  rw [getD,yd hlt]
  by_cases hc:s[i]=48
  ·have:((s[i]).toNat:Int)=48:=by rw [hc];rfl
   simp [hc]
  ·have:¬((s[i]).toNat:Int)=48:=fun e=>hc ((toNat_eq (n:=48) (by omega)).1 e)
   simp [hc,this]
 rw [a2]
 simp only [yb]
 have l2:=zi2 (s.drop i)
 generalize hn:z4v (s.drop i)=n at *
 rw [ye] at l2
 have e1:yg .i64 ((i:Int)+(n:Int))=((i+n:Nat):Int):=zwt (by omega)
 rw [e1]
 have hk:i+n≤s.length:=by omega
 generalize hj:i+n=j at *
 have a3:(do
   let s_31←sub s (j:Int) (s.length:Int)
   let a_32←M.q60 s_31 ([46]:List UInt8)
   if a_32 then
    let s_34←sub s (yg .i64 ((j:Int)+1)) (s.length:Int)
    let a_35←M.q0p s_34
    if (decide (0<a_35)) then
     some (yg .i64 ((j:Int)+(yg .i64 (1+a_35))))
    else
     some (j:Int)
   else
    some (j:Int):Option Int)=some ((j+z7a (s.drop j):Nat):Int):=by
  rw [z8b hk]
  simp only [ya,yb,z2g]
  have ex:(∃ r,s.drop j=46::r)∨(([46]:List UInt8).isPrefixOf (s.drop j)=false∧z7a (s.drop j)=0):=by
   cases hd:s.drop j with
   | nil=>exact .inr ⟨rfl,rfl⟩
   | cons c r =>
    by_cases hc:c=46
    ·subst hc;exact .inl ⟨r,rfl⟩
    ·have h46:¬(46:UInt8)=c:=fun e=>hc e.symm
     refine .inr ⟨by simp [List.isPrefixOf,h46],?_⟩
     unfold z7a
     split
     ·rename_i r' hr
      injection hr with e1 e2
      exact absurd e1 hc
     ·rfl
  rcases ex with ⟨r,hr⟩|⟨e1,e2⟩
  ·obtain ⟨g1,g2,g3⟩:=ze5 hr
   have:([46]:List UInt8).isPrefixOf (s.drop j)=true:=by rw [hr];rfl
   rw [this,if_pos rfl,w1 (by omega),z8b (by omega),hr]
   simp only [yb,z7a]
   rw [g2,z4u (by rw [←g2];simp;omega)]
   simp only [yb]
   have:=zb3 r
   have hr2:r.length+(j+1)=s.length:=by rw [←g2];simp;omega
   by_cases hd:0<z42 r
   ·rw [if_pos (by simpa using hd),if_pos hd]
    rw [show (1:Int)+(z42 r:Int)=((1+z42 r:Nat):Int) by omega,w64 (x:=((1+z42 r:Nat):Int)) (by omega) (by omega),zwt (by omega)]
   ·rw [if_neg (by simpa using hd),if_neg hd]
    rfl
  ·rw [e1,e2]
   simp
 simp only [ya] at a3
 rw [a3]
 simp only [yb]
 have l3:=zhz (s.drop j)
 rw [ye] at l3
 have hk2:j+z7a (s.drop j)≤s.length:=by omega
 generalize j+z7a (s.drop j)=k at *
 clear a1 a2 a3
 by_cases hks:k<s.length
 ·have hks':((k:Int)<(s.length:Int)):=by omega
  have hdr:s.drop k=s[k]::s.drop (k+1):=by simp
  simp only [hks',decide_true,if_true,z2r,yd hks,yb]
  have ec:(if (decide (((s[k]).toNat:Int)=101))=true then some true else some (decide (((s[k]).toNat:Int)=69)))=some (decide (s[k]=101∨s[k]=69)):=by
   have t1:(((s[k]).toNat:Int)=101)↔s[k]=101:=toNat_eq (n:=101) (by omega)
   have t2:(((s[k]).toNat:Int)=69)↔s[k]=69:=toNat_eq (n:=69) (by omega)
   simp only [t1,t2]
   by_cases q:s[k]=101<;>simp [q]
  rw [ec]
  simp only [yb]
  rw [hdr]
  unfold zcm
  simp only
  by_cases hc:s[k]=101∨s[k]=69
  ·rw [if_pos (by simpa using hc),if_pos hc,w1 (by omega)]
   have es:(do
     let j_60 ← (if decide (((k + 1 : Nat) : Int) < (s.length : Int)) = true then do
        let c_61←ix s ((k+1:Nat):Int)
        if decide ((c_61.toNat:Int)=43)=true then some true
        else do
         let c_62←ix s ((k+1:Nat):Int)
         some (decide ((c_62.toNat:Int)=45))
       else some false)
     if j_60=true then some (yg .i64 (((k+1:Nat):Int)+1)) else some ((k+1:Nat):Int))=some ((k+1+z63 (s.drop (k+1)):Nat):Int):=by
    unfold z63
    rw [getD]
    by_cases hk1:k+1<s.length
    ·have:(((k+1:Nat):Int)<(s.length:Int)):=by omega
     simp only [this,decide_true,if_true,z2r,yd hk1,ya,yb]
     have t1:(((s[k+1]).toNat:Int)=43)↔s[k+1]=43:=toNat_eq (n:=43) (by omega)
     have t2:(((s[k+1]).toNat:Int)=45)↔s[k+1]=45:=toNat_eq (n:=45) (by omega)
     simp only [t1,t2,Option.some.injEq]
     have ww:yg .i64 (((k+1:Nat):Int)+1)=((k+1+1:Nat):Int):=w1 (by omega)
     rw [ww]
     by_cases q:s[k+1]=43
     ·simp [q]
     ·by_cases q2:s[k+1]=45
      ·simp [q2]
      ·simp [q,q2]
    ·have:¬((k:Int)+1<(s.length:Int)):=by omega
     simp [this,List.getElem?_eq_none (yf hk1)]
   simp only [ya] at es
   rw [es]
   simp only [yb]
   have l4:=ziy (s.drop (k+1))
   rw [ye] at l4
   rw [z8b (by omega)]
   simp only [yb]
   rw [z4u (by simp;omega),←List.drop_drop]
   simp only [yb]
   have l5:=zb3 ((s.drop (k+1)).drop (z63 (s.drop (k+1))))
   rw [ye,ye] at l5
   by_cases hd:0<z42 ((s.drop (k+1)).drop (z63 (s.drop (k+1))))
   ·rw [if_pos (by simpa using hd),if_pos hd,zwt (by omega)]
    congr 2
    omega
   ·rw [if_neg (by simpa using hd),if_neg hd]
    rfl
  ·rw [if_neg (by simpa using hc),if_neg hc]
   rfl
 ·have hks':¬((k:Int)<(s.length:Int)):=by omega
  rw [yc (yf hks)]
  simp [hks',zcm]
end Go.Sen
end
