import Derived.Test.YtfdoofnmjehecaaGreatDoorPPfY
import Derived.Test.YtfdoofnmjehecaaGreatDoorPHtP6
import Derived.Test.YtfdoofnmjehecaaGreatDoorPPfE
import Derived.Test.YtfdoofnmjehecaaGreatDoorPHtM
import Derived.Lib.SplitLaws
import Derived.Lib.AtoiAllCases
import Derived.Lib.MapLaws
import Derived.Lib.TrimAscii
import Derived.Lib.TrimU
set_option linter.all false
section
set_option maxRecDepth 1000000
set_option maxHeartbeats 4000000
namespace Go.Proofs.YtfdoofnmjehecaaGreatDoor
open IntKind renaming wrap → ya
open Go.Lk Go.Pe Go.Sen Go.RowKit
def A.q4b:Ann:={ reg:=[(1,[(3,3,c1 [0,8]),(1,7,c1 [0,16]),(1,7,c1 [0,24]),(1,3,c1 [0,28]),(1,3,c1 [0,32]),(1,3,c1 [0,36]),(1,3,c1 [40])])] }
theorem C.q4b {p0:Int}:Qs (M.q4b p0) 125 ⟨[.int .u8 p0],[],[]⟩ fun r => .ok [.b r] [] [] :=
 Kf Tryz.func125 A.q4b [.tmp 2] (by unfold M.q4b;exact S.ja0 (fun x1=>st [(0,.int .u8 p0),(8,.b x1)]) rfl (S.ju (fun x3=>st [(0,.int .u8 p0),(16,.b x3)]) (fun _=>cnd (fun h5=>jbI rfl (zdu h5 rfl)) (fun h5=>jbI rfl (zdt h5))) (S.ju (fun x6=>st [(0,.int .u8 p0),(24,.b x6)]) (fun _=>cnd (fun h8=>jbI rfl (zdu h8 rfl)) (fun h8=>jbI rfl (zdt h8))) (S.ju0 (fun x9=>st [(0,.int .u8 p0),(28,.b x9)]) rfl (S.ju0 (fun x11=>st [(0,.int .u8 p0),(32,.b x11)]) rfl (S.ju0 (fun x13=>st [(0,.int .u8 p0),(36,.b x13)]) rfl (S.ju0 (fun x15=>st [(40,.b x15)]) rfl (S.q))))))))
def A.q46:Ann:={ seq:=[(8,{ L:=[3],B:=[],A:=[3003],H:=[(.slot 3 none,3003,5,1)] })],loop:=[(3,{ L:=[0,3,4],B:=[],A:=[3005],H:=[(.slot 3 none,3005,5,1)] })],reg:=[(5,[(4,0,{ L:=[0,3,4,15],B:=[],A:=[100251],H:=[(.slot 3 none,100251,5,1)] })])],drw:=[(7,{ anc:=[0,0,0,6,14,30,0,0,192,448,960,2046,4095,8191],E:=[11,12,13],qs:=[0,1,2,3,4,5,6,7,8,9,10],g:=.one 11 [0] [] (.one 12 [] [] (.one 13 [] [] (.fin))),lin:=some [] })],own:=[5] }
theorem C.q46 {p0:Z}:Qs (M.q46 p0) 64 ⟨[.s p0],[],[]⟩ fun r => .ok [.s r] [] [] :=
 Kf Tryz.func64 A.q46 [.tmp 2] (by unfold M.q46;exact S.j (fun j34=>⟨[(3,.ref 3003)],[],[(3003,⟨true,5,1,(j34.map (eI .u8))⟩)],none⟩) (fun _=>S.lw2 (L:=M.z1v p0) (fun x45 x46=>⟨[(0,.s p0),(3,.ref 3005),(4,.i x46)],[],[(3005,⟨true,5,1,(x45.map (eI .u8))⟩)],none⟩) (M.z1v.partial_correctness _) rfl fun _ _ ih_z1v x45 x46=>(by exact S.cb (S.e fun c57=>S.k0 C.q4b fun a58=>S.n (S.jp (⟨[(0,.s p0),(3,.ref 100251),(4,.i x46),(15,.b a58)],[],[(100251,⟨true,5,1,(x45.map (eI .u8))⟩)],none⟩) (fun _=>rfl) (S.cb (S.e fun c60=>S.z7f (eI .u8) fun l61=>ih_z1v _ _) (S.e fun c62=>S.eq (by decide:chk _=some ()) (S.e fun c63=>S.e fun c64=>S.eq (by decide:chk _=some ()) (S.e fun c65=>S.z7f (eI .u8) fun l66=>ih_z1v _ _)))))) S.zr)) fun j34=>S.d S.q)
def A.q4d:Ann:={ seq:=[(8,{ L:=[3],B:=[],A:=[3003],H:=[(.slot 3 none,3003,5,1)] })],loop:=[(3,{ L:=[0,3,4],B:=[],A:=[3005],H:=[(.slot 3 none,3005,5,1)] })],reg:=[(4,[(3,0,{ L:=[0,3,4],B:=[],A:=[100201],H:=[(.slot 3 none,100201,5,1)] })]),(7,[(9,0,{ L:=[0,3,4],B:=[],A:=[100351],H:=[(.slot 3 none,100351,5,1)] })])],own:=[5] }
theorem C.q4d {p0:Z}:Qs (M.q4d p0) 124 ⟨[.s p0],[],[]⟩ fun r => .ok [.s r] [] [] :=
 Kf Tryz.func124 A.q4d [.tmp 2] (by unfold M.q4d;exact S.j (fun j22=>⟨[(3,.ref 3003)],[],[(3003,⟨true,5,1,(j22.map (eI .u8))⟩)],none⟩) (fun _=>S.lw2 (L:=M.z2z p0) (fun x29 x30=>⟨[(0,.s p0),(3,.ref 3005),(4,.i x30)],[],[(3005,⟨true,5,1,(x29.map (eI .u8))⟩)],none⟩) (M.z2z.partial_correctness _) rfl fun _ _ ih_z2z x29 x30=>S.cb (S.e fun c37=>S.cb (S.z7f (eI .u8) fun l38=>S.jp (⟨[(0,.s p0),(3,.ref 100201),(4,.i (ya .i64 (x30+1)))],[],[(100201,⟨true,5,1,(l38.map (eI .u8))⟩)],none⟩) (fun _=>rfl) (ih_z2z _ _)) (S.e fun s39=>S.k0 C.q46 fun a40=>S.n (S.z7f (eI .u8) fun l42=>S.jp (⟨[(0,.s p0),(3,.ref 100351),(4,.i x30)],[],[(100351,⟨true,5,1,(l42.map (eI .u8))⟩)],none⟩) (fun _=>rfl) (S.jp (⟨[(0,.s p0),(3,.ref 100201),(4,.i (ya .i64 (x30+1)))],[],[(100201,⟨true,5,1,(l42.map (eI .u8))⟩)],none⟩) (fun _=>rfl) (ih_z2z _ _))))) S.zr) fun j22=>S.d S.q)
def A.q3z:Ann:={ seq:=[(9,c1 [0,4,5]),(10,c1 [4])],loop:=[(5,c1 [0,4,5])],drw:=[(9,{ anc:=[0,0,0,6,14,30,62,126,0,0,768,1792,3840,8062,16382,32767,65535],E:=[6,13,16],qs:=[0,1,2,3,4,5,8,9,10,11,12],g:=.one 6 [0,8,9,10,11,12] [7] (.one 13 [0,7] [14,15] (.one 16 [] [] (.fin))),lin:=some [(13,0,c1 [0,5,19,26,31])] })] }
theorem C.q3z {p0:List q05}:Qs (M.q3z p0) 61 ⟨[.l72 p0],[],[]⟩ fun r => .ok [.s r.1,.i r.2] [] [] :=
 Kf Tryz.func61 A.q3z [.tmp 2,.tmp 3] (by unfold M.q3z;exact S.m (S.cb S.q (S.j (fun j46=>st [(4,.s j46)]) (fun _=>S.lw2 (L:=M.z1t p0) (fun x61 x62=>st [(0,.l72 p0),(4,.s x61),(5,.i x62)]) (M.z1t.partial_correctness _) rfl fun _ _ ih_z1t x61 x62=>(by exact S.m (S.cb (S.j (fun j80=>st [(0,.l72 p0),(4,.s j80),(5,.i x62)]) (fun _=>S.cb (S.e fun s81=>S.zr) S.zr) fun j80=>S.ixm q05.z1z fun x82=>S.ixm q05.z1z fun x83=>S.k0 C.q4d fun a84=>S.n (S.e fun s86=>S.jp (st [(0,.l72 p0),(5,.i x62),(19,.s j80),(26,.s s86),(31,.s x83.z1d)]) (fun _=>rfl) (S.k0 C.q4d fun a87=>S.n (S.e fun s89=>S.e fun s90=>ih_z1t _ _)))) S.zr))) fun j46=>S.cb S.q S.q)))
def A.q64:Ann:={ seq:=[(6,c1 [3])],loop:=[(3,c1 [3,4])],reg:=[(3,[(3,3,c1 [3,4,11])])] }
theorem C.q64 {p0:Int}:Qs (M.q64 p0) 65 ⟨[.i p0],[],[]⟩ fun r => .ok [.s r] [] [] :=
 Kf Tryz.func65 A.q64 [.tmp 2] (by unfold M.q64;exact S.j (fun j19=>st [(3,.s j19)]) (fun _=>S.lw2 (L:=M.z1w) (fun x25 x26=>st [(3,.s x25),(4,.i x26)]) (M.z1w.partial_correctness) rfl fun _ _ ih_z1w x25 x26=>S.ju0 (fun x34=>st [(3,.s x25),(4,.i x26),(11,.b x34)]) rfl (S.cb (S.eq (by decide:chk _=some ()) (S.d (S.e fun s36=>S.eq (by decide:chk _=some ()) (ih_z1w _ _)))) S.zr)) fun j19=>S.q)
def A.q5b:Ann:={ seq:=[(11,c1 [1,4,10]),(18,{ L:=[1,4,15],B:=[],A:=[3003],H:=[(.slot 15 none,3003,5,1)] }),(20,{ L:=[1,15],B:=[],A:=[3006],H:=[(.slot 15 none,3006,5,1)] }),(25,{ L:=[1,15],B:=[],A:=[3009],H:=[(.slot 15 none,3009,5,1)] }),(27,{ L:=[1,15],B:=[],A:=[3012],H:=[(.slot 15 none,3012,5,1)] })],loop:=[(6,c1 [1,4,10,11]),(15,{ L:=[1,4,15,16],B:=[],A:=[3005],H:=[(.slot 15 none,3005,5,1)] }),(22,{ L:=[1,15,17],B:=[],A:=[3011],H:=[(.slot 15 none,3011,5,1)] })],reg:=[(1,[(8,0,c1 [1,4,5])]),(3,[(8,0,c1 [1,4,5,6,9])]),(4,[(4,5,c1 [1,4,5,6,9,44]),(1,5,c1 [1,4,5,6,9,50]),(1,3,c1 [1,4,6,9,54]),(1,16,c1 [1,4,6,9,71]),(1,2,c1 [1,4,6,74]),(1,3,c1 [1,4,78]),(1,5,c1 [1,4,84])]),(6,[(6,2,c1 [1,4,10,11,92])]),(9,[(10,0,c1 [1,4,11,12,14])]),(10,[(4,4,c1 [1,4,11,12,14,115]),(1,3,c1 [1,4,11,12,119]),(1,4,c1 [1,4,11,12,124]),(1,4,c1 [1,4,11,129])]),(17,[(10,0,{ L:=[1,4,15,16],B:=[],A:=[100851],H:=[(.slot 15 none,100851,5,1)] })]),(26,[(9,0,{ L:=[1,15],B:=[],A:=[101301],H:=[(.slot 15 none,101301,5,1)] })])],drw:=[(24,{ anc:=[0,0,2,0,14,30,62,126,0,256,0,1792,3840,7936,16382,32766,65535,131071],E:=[16,17],qs:=[0,1,2,3,4,5,6,7,8,9,10,11,12,13,14,15],g:=.one 16 [] [] (.one 17 [] [] (.fin)),lin:=some [(16,0,{ L:=[1,17,169,184],B:=[],A:=[220801],H:=[(.slot 169 none,220801,5,1)] })] })],own:=[135],ro:=[1,12] }
theorem C.q5b {p0:q03}:Qs (M.q5b p0) 19 ⟨[.agg p0.v],[],[]⟩ fun r => .ok [.s r.1,.i r.2] [] [] :=
 Kf Tryz.func19 A.q5b [.tmp 2,.tmp 3] (by unfold M.q5b;exact S.k0 C.q3z fun a1=>S.n (S.jp (st [(1,.zn p0.d 0),(4,.s a1.1),(5,.i a1.2)]) (fun _=>rfl) (S.k0 C.q5t fun a3=>S.n (S.k0 C.q5t fun a5=>(by exact S.n (S.jp (st [(1,.zn p0.d 0),(4,.s a1.1),(5,.i a1.2),(6,.s a3.1),(9,.b a5.2)]) (fun _=>rfl) (S.k0 C.q62 fun a7=>S.n (S.ja (fun x9=>st [(1,.zn p0.d 0),(4,.s a1.1),(5,.i a1.2),(6,.s a3.1),(9,.b a5.2),(44,.b x9)]) (fun _=>Ex.i z2a (jbI rfl rfl)) (S.ja (fun x11=>st [(1,.zn p0.d 0),(4,.s a1.1),(5,.i a1.2),(6,.s a3.1),(9,.b a5.2),(50,.b x11)]) (fun _=>Ex.i z2a (jbI rfl rfl)) (S.ja0 (fun x13=>st [(1,.zn p0.d 0),(4,.s a1.1),(6,.s a3.1),(9,.b a5.2),(54,.b x13)]) rfl (S.ja (fun x15=>st [(1,.zn p0.d 0),(4,.s a1.1),(6,.s a3.1),(9,.b a5.2),(71,.b x15)]) (fun _=>Ex.i z2a (cnd (fun h17=>jbI rfl (zw3 h17)) (fun h17=>Ex.i z2a (cnd (fun h18=>jbI rfl (zv9 h17 (zdu h18 rfl))) (fun h18=>jbI rfl (zv9 h17 (zdt h18))))))) (S.ja0 (fun x19=>st [(1,.zn p0.d 0),(4,.s a1.1),(6,.s a3.1),(74,.b x19)]) rfl (S.j (fun j24=>st [(1,.zn p0.d 0),(4,.s a1.1),(78,.b j24)]) (fun _=>S.cb (S.k0 C.q6m fun a25=>S.n S.zr) S.zr) fun j24=>S.ja0 (fun x27=>st [(1,.zn p0.d 0),(4,.s a1.1),(84,.b x27)]) rfl (S.j (fun j95=>st [(1,.zn p0.d 0),(4,.s a1.1),(10,.b j95)]) (fun _=>S.lw2 (L:=M.z2r p0) (fun x117 x118=>st [(1,.zn p0.d 0),(4,.s a1.1),(10,.b x117),(11,.i x118)]) (M.z2r.partial_correctness _) rfl fun _ _ ih_z2r x117 x118=>(by exact S.m (S.ja0 (fun x142=>st [(1,.zn p0.d 0),(4,.s a1.1),(10,.b x117),(11,.i x118),(92,.b x142)]) rfl (S.cb (S.ixm q05.z1z fun x144=>S.k0 C.q45 fun a145=>S.n (S.jp (st [(1,.zn p0.d 0),(4,.s a1.1),(11,.i x118),(12,.zn x144.d 0),(14,.i a145.2)]) (fun _=>rfl) (S.k0 C.q63 fun a147=>S.n (S.j (fun j152=>st [(1,.zn p0.d 0),(4,.s a1.1),(11,.i x118),(12,.zn x144.d 0),(14,.i a145.2),(115,.b j152)]) (fun _=>S.cb (S.k0 C.q6m fun a153=>S.n S.zr) S.zr) fun j152=>S.ja0 (fun x155=>st [(1,.zn p0.d 0),(4,.s a1.1),(11,.i x118),(12,.zn x144.d 0),(119,.b x155)]) rfl (S.ja0 (fun x157=>st [(1,.zn p0.d 0),(4,.s a1.1),(11,.i x118),(12,.zn x144.d 0),(124,.b x157)]) rfl (S.ja0 (fun x159=>st [(1,.zn p0.d 0),(4,.s a1.1),(11,.i x118),(129,.b x159)]) rfl (ih_z2r _ _))))))) S.zr)))) fun j95=>(by exact S.cb S.q (S.e fun s161=>S.e fun _=>S.j (fun j180=>⟨[(1,.zn p0.d 0),(4,.s a1.1),(15,.ref 3003)],[],[(3003,⟨true,2000005,1,(j180.map (eI .u8))⟩)],none⟩) (fun _=>S.lw2 (L:=M.z2s p0) (fun x186 x187=>⟨[(1,.zn p0.d 0),(4,.s a1.1),(15,.ref 3005),(16,.i x187)],[],[(3005,⟨true,2000005,1,(x186.map (eI .u8))⟩)],none⟩) (M.z2s.partial_correctness _) rfl fun _ _ ih_z2s x186 x187=>S.m (S.cb (S.ixf eS fun x193=>S.k0 C.q46 fun a194=>S.n (S.e fun s196=>S.z7f (eI .u8) fun l197=>S.jp (⟨[(1,.zn p0.d 0),(4,.s a1.1),(15,.ref 100851),(16,.i x187)],[],[(100851,⟨true,2000005,1,(l197.map (eI .u8))⟩)],none⟩) (fun _=>rfl) (ih_z2s _ _))) S.zr)) fun j180=>(by exact S.j (fun j203=>⟨[(1,.zn p0.d 0),(15,.ref 3006)],[],[(3006,⟨true,2000005,1,(j203.map (eI .u8))⟩)],none⟩) (fun _=>S.m (S.cb (S.e fun s204=>S.z7f (eI .u8) fun l205=>S.zr) S.zr)) fun j203=>S.z7f (eI .u8) fun l206=>S.j (fun j228=>⟨[(1,.zn p0.d 0),(15,.ref 3009)],[],[(3009,⟨true,2000005,1,(j228.map (eI .u8))⟩)],none⟩) (fun _=>S.lw2 (L:=M.z2t p0) (fun x235 x236=>⟨[(1,.zn p0.d 0),(15,.ref 3011),(17,.i x236)],[],[(3011,⟨true,2000005,1,(x235.map (eI .u8))⟩)],none⟩) (M.z2t.partial_correctness _) rfl fun _ _ ih_z2t x235 x236=>S.m (S.cb (S.ixm q05.z1z fun x243=>S.e fun s244=>S.ixm q05.z1z fun x245=>S.e fun s246=>S.e fun s247=>S.jp (⟨[(1,.zn p0.d 0),(17,.i x236),(169,.ref 220801),(184,.s s247)],[],[(220801,⟨true,2000005,1,(x235.map (eI .u8))⟩)],none⟩) (fun _=>rfl) (S.z7f (eI .u8) fun l248=>ih_z2t _ _)) S.zr)) fun j228=>S.j (fun j260=>⟨[(1,.zn p0.d 0),(15,.ref 3012)],[],[(3012,⟨true,2000005,1,(j260.map (eI .u8))⟩)],none⟩) (fun _=>S.cb (S.k0 C.q64 fun a261=>S.n (S.e fun s263=>S.e fun s264=>S.z7f (eI .u8) fun l265=>S.jp (⟨[(1,.zn p0.d 0),(15,.ref 101301)],[],[(101301,⟨true,2000005,1,(l265.map (eI .u8))⟩)],none⟩) (fun _=>rfl) S.zr)) S.zr) fun j260=>S.z7f (eI .u8) fun l266=>S.m (S.cb S.q (S.d (S.e fun s267=>S.q))))))))))))))))))))
def A.q3s:Ann:={ reg:=[(1,[(7,0,c1 [1,3,4])]),(3,[(2,4,c1 [4,6,22]),(1,4,c1 [27])])],ro:=[1] }
theorem C.q3s (fuel:Nat) (p0:q03):Qs (M.q3s fuel p0) 4 ⟨[.agg p0.v],[],[]⟩ fun r => .ok [.b r] [] [] :=
 Kf Tryz.func4 A.q3s [.tmp 2] (by unfold M.q3s;exact S.k0 C.q0u fun a1=>S.n (S.jp (st [(1,.zn p0.d 0),(3,.s a1.1),(4,.i a1.2)]) (fun _=>rfl) (S.k0 C.q5b fun a3=>S.n (S.k0 C.q3x fun a5=>S.n (S.ja0 (fun x7=>st [(4,.i a1.2),(6,.i a3.2),(22,.b x7)]) rfl (S.ja0 (fun x9=>st [(27,.b x9)]) rfl (S.q)))))))
end Go.Proofs.YtfdoofnmjehecaaGreatDoor
end
section
namespace Go.Sen
open IntKind renaming wrap → ya
open Go.Lk Go.Pe
theorem w64 {x:Int} (h1 : -9223372036854775808≤x) (h2:x<9223372036854775808):ya .i64 x=x:=by
 have h:ya .i64 x=if x % 18446744073709551616≥9223372036854775808 then x % 18446744073709551616 - 18446744073709551616 else x % 18446744073709551616:=by
  simp [ya,IntKind.bits,IntKind.signed]
 rw [h]
 split<;>omega
theorem w1 {n:Nat} (h:n<4611686018427387904):ya .i64 ((n:Int)+1)=((n+1:Nat):Int):=by rw [w64]<;>omega
theorem z55 {α:Type} {k:Nat} {l l2:List α} (h:(l.length+l2.length)*k≤140737488355328):app k l l2=some (l++l2):=by
 unfold app
 rw [if_pos h]
theorem z2q {a b:Z} (h:a.length+b.length≤9223372036854775807):cat a b=some (a++b):=by
 unfold cat
 rw [if_pos h]
theorem zbp {b:Bool} (h:b=true):chk b=some ():=by subst h;rfl
theorem zfj {α:Type} (l:List α) (n:Nat):ix l (n:Int)=l[n]?:=by simp [ix]
theorem zvu {α:Type} (l:List α):ix l 0=l[0]?:=by simp [ix]
theorem zux {α:Type} {l:List α} {a b:Nat} (h1:a≤b) (h2:b≤l.length):sub l (a:Int) (b:Int)=some ((l.take b).drop a):=by
 unfold sub
 rw [if_pos (by omega)]
 simp
theorem zuw {α:Type} {l:List α} {a:Nat} (h:a<l.length) (h2:l.length<4611686018427387904):sub l (a:Int) (ya .i64 ((a:Int)+1))=some [l[a]]:=by
 rw [w1 (by omega),zux (by omega) (by omega)]
 congr 1
 rw [List.drop_take]
 simp [List.take_one,h]
theorem z11 (s:Z):(unb s).length=s.length:=by simp [unb]
theorem zr2 (s:Z) (i:Nat):(unb s)[i]? = (s[i]?).map fun b=>(b.toNat:Int):=by simp [unb]
theorem z2o (a b:Z):unb (a++b)=unb a++unb b:=by simp [unb]
theorem z9x (s:Z):byt (unb s)=s:=by simp [unb,byt,Function.comp_def]
theorem zr3 (b:UInt8):[(b.toNat:Int)]=unb [b]:=rfl
theorem zm8 {α:Type} {l:List α} {i:Nat} (h:i<l.length):l.drop i=l[i]::l.drop (i+1):=by simp
theorem zsk {b:UInt8}:b.toNat<256:=UInt8.toNat_lt b
end Go.Sen
end
section
namespace Go.Sen
open Go.Lk Go.Pe
def isD (b:UInt8):Bool:=decide (48≤b.toNat)&&decide (b.toNat≤57)
def digs (s:Z):Nat:=(s.takeWhile isD).length
def sgn (s:Z):Nat:=if s.head? = some 45 then 1 else 0
def intp (s:Z):Nat:=if s.head? = some 48 then 1 else digs s
def frac:Z→Nat
 | 46::r=>if 0<digs r then 1+digs r else 0
 | _=>0
def sgn2 (s:Z):Nat:=if s.head? = some 43∨s.head? = some 45 then 1 else 0
def expo:Z→Nat
 | c::r=>if c=101∨c=69 then (if 0<digs (r.drop (sgn2 r)) then 1+sgn2 r+digs (r.drop (sgn2 r)) else 0) else 0
 | []=>0
def num (s:Z):Nat :=
 let i:=sgn s
 if intp (s.drop i)=0 then 0 else
 let i:=i+intp (s.drop i)
 let i:=i+frac (s.drop i)
 i+expo (s.drop i)
theorem head_get (s:Z):s.head? = s[0]?:=by cases s<;>rfl
theorem getD {s:Z} {i:Nat}:(s.drop i).head? = s[i]?:=by rw [head_get];simp
end Go.Sen
end
section
namespace Go.Sen
open Go.Lk Go.Pe
end Go.Sen
end
section
namespace Go.Sen
open Go.Lk Go.Pe
theorem za8 {P:UInt8→Prop} (h:∀ n:Fin 256,P (UInt8.ofNat n.val)) (b:UInt8):P b:=by
 have:=h ⟨b.toNat,zsk⟩
 simpa using this
def kys (ks:List Z):Nat:=(ks.map fun k=>k.length+1).sum
theorem zd2 (k:Z) (ks:List Z):kys (k::ks)=k.length+1+kys ks:=by simp [kys]
theorem zka:∀ ks:List Z,ks.length≤kys ks
 | []=>by simp
 | k::ks=>by have:=zka ks;rw [zd2,List.length_cons];omega
theorem zkb:∀ {ks:List Z} {k:Z},k∈ks→k.length<kys ks
 | a::ks,k,h=>by
  rw [zd2]
  rcases List.mem_cons.1 h with rfl|h
  ·omega
  ·have:=zkb h;omega
instance:Std.Antisymm (α:=Z) (· ≤ ·):=⟨fun _ _ h1 h2=>List.le_antisymm h1 h2⟩
end Go.Sen
end
section
namespace Go.Sen
open Go.Lk Go.Pe
end Go.Sen
end
section
namespace Go.Sen
open Go.Lk Go.Pe
end Go.Sen
end
section
namespace Go.Sen
open _root_.Option renaming bind_eq_bind → ya, bind_some → yb
open Go.Lk Go.Pe
theorem zfi {a:List Int} {b:Int} (h:a.length<1099511627776):M.q70 a b=some (a++[b]):=by
 unfold M.q70 M.z2k
 simp only [ya,yb]
 rw [z55 (by simp;omega)]
 rfl
theorem zbh {a:List Int} {b:Z} (h:a.length+b.length<1099511627776):M.q71 a b=some ((b.length:Int),a++unb b):=by
 unfold M.q71 M.z2k
 simp only [ya,yb]
 rw [z55 (by simp [unb];omega)]
 rfl
theorem z5u (s:Z):M.zj (unb s)=some s:=by
 unfold M.zj
 rw [zbp (by simp [z9x])]
 simp [z9x]
end Go.Sen
end
section
namespace Go.Sen
open Go.Lk Go.Pe
end Go.Sen
end
section
namespace Go.Sen
open Go.Lk Go.Pe
def bl (b:UInt8):Bool:=([32,9,10,13]:Z).contains b
def blanks (s:Z):Z:=s.dropWhile bl
def take (s p:Z):Option Z:=if p.isPrefixOf s=true then some (blanks (s.drop p.length)) else none
def hexv (c:UInt8):Option Nat:=if isD c=true then some (c.toNat - 48) else if 97≤c.toNat∧c.toNat≤102 then some (c.toNat - 87) else if 65≤c.toNat∧c.toNat≤70 then some (c.toNat - 55) else none
theorem dropWhile_nil {α:Type} (p:α→Bool):∀ l:List α,l.dropWhile p=[]↔∀ b∈l,p b=true
 | []=>by simp
 | a::l=>by
  rw [List.dropWhile_cons]
  cases h:p a with
  | false=>simp [h]
  | true=>simp [h,dropWhile_nil p l]
theorem zlm (l cs:Z):Lib.trimS l cs=[]↔∀ b∈l,cs.contains b=true:=by
 unfold Lib.trimS Lib.trimLeftS Lib.trimRightS
 rw [dropWhile_nil]
 constructor
 ·intro h
  have h2:l.reverse.dropWhile (cs.contains ·)=[]:=by
   cases hd:l.reverse.dropWhile (cs.contains ·) with
   | nil=>rfl
   | cons a r =>
    have h3:¬cs.contains a=true:=by
     have:=List.head?_dropWhile_not (cs.contains ·) l.reverse
     rw [hd] at this
     simpa using this
    exact absurd (h a (by rw [hd];simp)) h3
  rw [dropWhile_nil] at h2
  exact fun b hb=>h2 b (by simpa using hb)
 ·intro h b hb
  rw [List.mem_reverse] at hb
  exact h b (by simpa using (List.dropWhile_sublist _).subset hb)
def unit (s:Z):Option (Nat × Z) :=
 match s with
 | x::y::a::b::c::d::r=>if x=92∧y=117 then (hexv a).bind fun ha=>(hexv b).bind fun hb=>(hexv c).bind fun hc=>(hexv d).bind fun hd=>some (16*(16*(16*ha+hb)+hc)+hd,r) else none
 | _=>none
def esc1 (c:UInt8):Option UInt8:=if c=34 then some 34 else if c=92 then some 92 else if c=47 then some 47 else if c=98 then some 8 else if c=102 then some 12 else if c=110 then some 10 else if c=114 then some 13 else if c=116 then some 9 else none
def lowS (n:Nat):Bool:=decide (56320≤n)&&decide (n≤57343)
def highS (n:Nat):Bool:=decide (55296≤n)&&decide (n≤57343)
def escd (s:Z):Option (Z × Z) :=
 match s with
 | a::c::r=>match esc1 c with
  | some x=>some ([x],r)
  | none=>match unit (a::c::r) with
   | none=>none
   | some (n,r1)=>if lowS n=true then none else if highS n=false then some (encS (n:Int),r1) else match unit r1 with
    | none=>none
    | some (m,r2)=>if lowS m=true then some (encS (65536+((n:Int) - 55296)*1024+(m:Int) - 56320),r2) else none
 | _=>none
def txt:Nat→Z→Z→Option (Z × Z)
 | 0,_,_=>none
 | _+1,[],_=>none
 | f+1,c::r,acc=>if c.toNat<32 then none else if c=34 then (if Lib.validD acc=true then some (acc,r) else none)
  else if c=92 then match escd (c::r) with
   | none=>none
   | some (t,r2)=>txt f r2 (acc++t)
  else txt f r (acc++[c])
def text (s:Z):Option (Z × Z) :=
 match s with
 | c::r=>if c=34 then txt (r.length+1) r [] else none
 | []=>none
end Go.Sen
end
section
namespace Go.Sen
open Go.Lk Go.Pe
abbrev J:=q04
abbrev Rd:=Rs (J × Z)
def key1 (s:Z) (ks:List Z):Rs (Z × List Z) :=
 match text s with
 | none => .pan 20
 | some (k,r)=>if k∈ks then .pan 20 else match take (blanks r) [58] with
  | none => .pan 20
  | some r2 => .ok (r2,ks++[k])
def items (vf:Z→Rd) (o:Bool) (e:UInt8):Nat→Z→List J→List Z→Rd
 | 0,_,_,_ => .pan 20
 | f+1,s,l,ks=>match (if o=true then key1 s ks else .ok (s,ks)) with
  | .pan c => .pan c
  | .ok (s1,ks1)=>match vf s1 with
   | .pan c => .pan c
   | .ok (x,s2)=>match take s2 [e] with
    | some r => .ok (⟨if o=true then 6 else 5,[],l++[x],ks1⟩,r)
    | none=>match take s2 [44] with
     | none => .pan 20
     | some r=>items vf o e f r (l++[x]) ks1
def nest (vf:Z→Rd) (o:Bool) (w:Nat) (s:Z):Rd :=
 if 16≤w then .pan 21 else match take s [if o=true then 125 else 93] with
  | some r => .ok (⟨if o=true then 6 else 5,[],[],[]⟩,r)
  | none=>items vf o (if o=true then 125 else 93) (s.length+1) s [] []
def word (s:Z):Rd :=
 match take s [110,117,108,108] with
 | some r => .ok (⟨0,[],[],[]⟩,r)
 | none=>match take s [102,97,108,115,101] with
  | some r => .ok (⟨1,[],[],[]⟩,r)
  | none=>match take s [116,114,117,101] with
   | some r => .ok (⟨2,[],[],[]⟩,r)
   | none=>if num s=0 then .pan 20 else .ok (⟨3,s.take (num s),[],[]⟩,blanks (s.drop (num s)))
def val:Nat→Z→Nat→Rd
 | 0,_,_ => .pan 20
 | f+1,s,w=>match text s with
  | some (t,r) => .ok (⟨4,t,[],[]⟩,blanks r)
  | none=>if s.head? = some 34 then .pan 20 else match take s [91] with
   | some r=>nest (fun s=>val f s (w+1)) false w r
   | none=>match take s [123] with
    | some r=>nest (fun s=>val f s (w+1)) true w r
    | none=>word s
end Go.Sen
end
section
namespace Go.Sen
open Go.Lk Go.Pe
def nch (c:UInt8):Bool:=isD c||decide (c=46)||decide (c=101)||decide (c=69)||decide (c=43)||decide (c=45)
def stop (r:Z):Prop := ∀ c,r.head? = some c→nch c=false
end Go.Sen
end
section
namespace Go.Sen
open Go.Lk Go.Pe
end Go.Sen
end
section
namespace Go.Sen
open Go.Lk Go.Pe Go.RowKit
end Go.Sen
end
section
namespace Go.Sen
open Go.Lk Go.Pe
def texts:List J→Option (List Z)
 | []=>some []
 | x::l=>if x.zi=4 then (texts l).map (x.z0l :: ·) else none
def textsOf (v:J):List Z × Bool:=if v.zi=5 then (match texts v.z0c with|some l=>(l,true)|none=>([],false)) else ([],false)
def dstep (a:Nat) (c:UInt8):Nat:=10*a+(c.toNat - 48)
def dval (a:Nat) (l:Z):Nat:=l.foldl dstep a
def mag (t:Z):Z:=if t.head? = some 45 then t.drop 1 else t
def way (t:Z):Int:=if t.head? = some 45 then -1 else 1
def canon (t:Z):Bool := !decide (mag t=[])&&(mag t).all isD&&decide ((mag t).length≤15) && !(decide ((mag t).head? = some 48)&&(decide (1<(mag t).length)||decide (way t<0)))
def intOf (v:J):Int × Bool:=if v.zi=3∧canon v.z0l=true then (way v.z0l*(dval 0 (mag v.z0l):Int),true) else (0,false)
end Go.Sen
end
section
namespace Go.Sen
open _root_.Option renaming bind_eq_bind → ya, bind_some → yb
open Go.Lk Go.Pe
theorem zuu {α R X:Type} {l:List α} {p:α→Bool} {F:Int→Option (Jn R X)} (d:Nat→R) (x0:X) (hl:l.length<1152921504606846976)
  (hF:∀ (i:Nat) (h:i<l.length),F (i:Int)=if p l[i]=true then some (.done (d i)) else F (IntKind.wrap .i64 ((i:Int)+1))) (hE:F (l.length:Int)=some (.go x0)) :
  F 0=some (match l.findIdx? p with|some i => .done (d i)|none => .go x0):=by
 have key:∀ (n i:Nat),l.length - i=n→i≤l.length→F (i:Int)=some (match (l.drop i).findIdx? p with|some k => .done (d (i+k))|none => .go x0):=by
  intro n
  induction n with
  | zero =>
   intro i h1 h2
   have:i=l.length:=by omega
   subst this
   simp [hE]
  | succ n ih =>
   intro i h1 h2
   have hi:i<l.length:=by omega
   rw [hF i hi,zm8 hi,List.findIdx?_cons]
   cases hp:p l[i] with
   | true=>simp
   | false =>
    rw [w1 (by omega),ih (i+1) (by omega) (by omega)]
    simp only [Bool.false_eq_true,if_false]
    cases (l.drop (i+1)).findIdx? p with
    | none=>rfl
    | some k=>simp [Nat.add_assoc,Nat.add_comm 1 k]
 have:=key _ 0 rfl (Nat.zero_le _)
 simpa using this
theorem zct {α:Type} (l:List α) (p:α→Bool):(l.findIdx? (fun x => !p x)=none∧l.all p=true)∨∃ i,l.findIdx? (fun x => !p x)=some i∧l.all p=false:=by
 have e:l.all p = !(l.any fun x => !p x):=by rw [List.all_eq_not_any_not]
 have:=List.findIdx?_isSome (xs:=l) (p:=fun x => !p x)
 cases h:l.findIdx? (fun x => !p x) with
 | none=>rw [h] at this;exact .inl ⟨rfl,by rw [e,←this];rfl⟩
 | some i=>rw [h] at this;exact .inr ⟨i,rfl,by rw [e,←this];rfl⟩
theorem zfe {l cs:Z}:decide (Lib.trimS l cs=[])=l.all cs.contains:=by
 rw [Bool.eq_iff_iff,decide_eq_true_iff,zlm,List.all_eq_true]
theorem zjb {l cs:Z} (hl:l.length≤9223372036854775807) (hc:(decide (cs.length<4294967281)&&cs.all fun b=>decide (b.toNat<128))=true):M.trim l cs=some (Lib.trimS l cs):=by
 unfold M.trim
 rw [zbp]
 ·rfl
 ·simp only [Bool.and_eq_true] at hc ⊢
  exact ⟨by simpa using hl,hc⟩
def zaq (lo hi:Nat) (s:Z):Bool:=s.all fun b=>decide (lo≤b.toNat)&&decide (b.toNat≤hi)
theorem zei {s:Z} (lo hi:Nat) (hs:s.length<1152921504606846976):M.q1x s (lo:Int) (hi:Int)=some (zaq lo hi s):=by
 unfold M.q1x
 have hk:M.z0u s (lo:Int) (hi:Int) 0=some (match s.findIdx? (fun b => !(decide (lo≤b.toNat)&&decide (b.toNat≤hi))) with|some i => .done false|none => .go ()):=by
  refine zuu (fun _=>false) () hs (fun i h => ?_) ?_
  ·rw [M.z0u]
   have h1:((i:Int)<(s.length:Int)):=by omega
   simp only [h1,decide_true,if_true,zfj,List.getElem?_eq_getElem h,ya,yb]
   by_cases a:lo≤(s[i]).toNat
   ·have a':¬(((s[i]).toNat:Int)<(lo:Int)):=by omega
    by_cases b:(s[i]).toNat≤hi
    ·have b':¬((hi:Int)<((s[i]).toNat:Int)):=by omega
     simp [a,a',b,b']
    ·have b':((hi:Int)<((s[i]).toNat:Int)):=by omega
     simp [a,a',b,b']
   ·have a':(((s[i]).toNat:Int)<(lo:Int)):=by omega
    simp [a,a']
  ·rw [M.z0u]
   simp
 simp only [ya,hk,yb]
 unfold zaq
 rcases zct s (fun b=>decide (lo≤b.toNat)&&decide (b.toNat≤hi)) with ⟨h1,h2⟩|⟨i,h1,h2⟩
 ·rw [h1,h2]
 ·rw [h1,h2]
def isA (b:UInt8):Bool:=decide (65≤b.toNat)&&decide (b.toNat≤90)
def z6g (s:Z):Bool := !decide (s=[])&&decide (s.length≤8)&&s.all isA
def z56:Z:=[65,66,67,68,69,70,71,72,73,74,75,76,77,78,79,80,81,82,83,84,85,86,87,88,89,90]
theorem zm4:∀ b:UInt8,z56.contains b=isA b:=za8 (by decide +kernel)
theorem zbd (s:Z):M.q1o s=some (z6g s):=by
 unfold M.q1o z6g
 by_cases h:s=[]
 ·subst h;simp
 ·by_cases h8:s.length≤8
  ·have e:M.trim s z56=some (Lib.trimS s z56):=zjb (by omega) (by decide)
   have e2:decide (Lib.trimS s z56=[])=s.all isA:=by rw [zfe];congr 1;funext b;exact zm4 b
   have h8':((s.length:Int)≤8):=by omega
   unfold z56 at e e2
   simp [h,h8',h8,e]
   simpa using e2
  ·have h8':¬((s.length:Int)≤8):=by omega
   simp [h8',h8]
def isN (b:UInt8):Bool:=decide (97≤b.toNat)&&decide (b.toNat≤122)||isD b||decide (b=45)
def zhf (s:Z):Bool := !decide (s=[])&&decide (s.length≤32)&&s.all isN
def zt4:Z:=[97,98,99,100,101,102,103,104,105,106,107,108,109,110,111,112,113,114,115,116,117,118,119,120,121,122,48,49,50,51,52,53,54,55,56,57,45]
theorem znu:∀ b:UInt8,zt4.contains b=isN b:=za8 (by decide +kernel)
theorem zeh (s:Z):M.q1q s=some (zhf s):=by
 unfold M.q1q zhf
 by_cases h:s=[]
 ·subst h;simp
 ·by_cases h8:s.length≤32
  ·have e:M.trim s zt4=some (Lib.trimS s zt4):=zjb (by omega) (by decide)
   have e2:decide (Lib.trimS s zt4=[])=s.all isN:=by rw [zfe];congr 1;funext b;exact znu b
   have h8':((s.length:Int)≤32):=by omega
   unfold zt4 at e e2
   simp [h,h8',h8,e]
   simpa using e2
  ·have h8':¬((s.length:Int)≤32):=by omega
   simp [h8',h8]
def bare (s:Z):Z:=Lib.trimS s [32]
def isVal (s:Z):Bool:=zaq 32 126 s&&decide (bare s=s)
theorem zcz {s:Z} (hs:s.length<1152921504606846976):M.q2t s=some (isVal s):=by
 unfold M.q2t isVal
 have h1:M.q1x s 32 126=some (zaq 32 126 s):=zei 32 126 hs
 have h2:M.trim s [32]=some (Lib.trimS s [32]):=zjb (by omega) (by decide)
 rw [h1]
 cases h:zaq 32 126 s
 ·simp
 ·simp only [ya,yb,if_true,h2,Bool.true_and,bare]
  exact congrArg some (decide_eq_decide.2 Iff.rfl)
theorem zmp (n:Nat):Lib.itoa (n:Int)=Lib.decDigits n:=by unfold Lib.itoa;rw [if_neg (by omega)];simp
theorem zrk {n:Nat} (h:n<1000000000000000000):M.itoa (n:Int)=some (Lib.decDigits n):=by
 unfold M.itoa
 rw [zbp (by simp;omega),zmp]
 rfl
end Go.Sen
end
section
namespace Go.Sen
open Go.Lk Go.Pe
theorem z1r {a b:Z} (h:a.length+b.length<1000000000000):M.q71 (unb a) b=some ((b.length:Int),unb (a++b)):=by
 rw [zbh (by rw [z11];omega),z2o]
def zhd (l:List q05) (k v:Z):Z:=match l.find? (fun p=>decide (p.z03=k)) with
 | some p=>p.z1d
 | none=>v
def zhc (l:List q05) (k:Z):Nat:=l.countP fun p=>decide (p.z03=k)
theorem zk6 (p:q05) (l:List q05) (k v:Z):zhd (p::l) k v=if p.z03=k then p.z1d else zhd l k v:=by
 unfold zhd
 rw [List.find?_cons]
 by_cases h:p.z03=k<;>simp [h]
def zj6 (l:List q05) (k:Z):Bool:=l.any fun p=>decide (p.z03=k)
theorem zmh (l:List q05) (k:Z):decide (0<zhc l k)=zj6 l k:=by
 unfold zhc zj6
 rw [Bool.eq_iff_iff,decide_eq_true_iff,List.countP_pos_iff,List.any_eq_true]
end Go.Sen
end
section
namespace Go.Sen
open Go.Lk Go.Pe
def lowB (b:UInt8):UInt8:=if isA b=true then b+32 else b
def low (s:Z):Z:=s.map lowB
end Go.Sen
end
