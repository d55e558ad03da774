import Derived.Test.YtfdoofnmjehecaaGreatDoorUHtP6
set_option linter.all false
set_option maxRecDepth 1000000
set_option maxHeartbeats 4000000
namespace Go.Proofs.YtfdoofnmjehecaaGreatDoor
open Go.Lk Go.Pe Go.Sen Go.RowKit
def A.q47:Ann:={ seq:=[(8,c1 [])],loop:=[(4,c1 [0,1,5])],drw:=[(6,{ anc:=[0,0,3,7,0,0,48,112,255],E:=[],qs:=[0,1,2,3,4,5,6,7,8],g:=.fin,lin:=some [] })] }
theorem C.q47 {p0 p1:List q05}:Qs (M.q47 p0 p1) 52 ⟨[.l72 p0,.l72 p1],[],[]⟩ fun r => .ok [.b r] [] [] :=
 Kf Tryz.func52 A.q47 [.tmp 4] (by unfold M.q47;exact S.m (S.m (S.cb S.q (S.gn (fun _=>st []) (S.lw (L:=M.z3z p0 p1) (fun x11=>st [(0,.l72 p0),(1,.l72 p1),(5,.i x11)]) (M.z3z.partial_correctness _ _) rfl fun _ _ ih_z3z x11=>S.m (S.cb (S.ixm q05.z2b fun x14=>S.ixm q05.z2b fun x15=>S.cb S.q (ih_z3z _)) S.zr)) fun j8=>S.q))))
def A.q5i:Ann:={ reg:=[(1,[(6,6,c1 [2,3,16]),(1,6,c1 [2,3,23]),(1,6,c1 [2,3,30]),(1,6,c1 [37])])],ro:=[2,3] }
theorem C.q5i {p0 p1:q03}:Qs (M.q5i p0 p1) 15 ⟨[.agg p0.v,.agg p1.v],[],[]⟩ fun r => .ok [.b r] [] [] :=
 Kf Tryz.func15 A.q5i [.tmp 4] (by unfold M.q5i;exact S.j (fun j4=>st [(2,.zm p0.d 0),(3,.zm p1.d 0),(16,.b j4)]) (fun _=>S.cb (S.k0 C.q4k fun a5=>S.n S.zr) S.zr) fun j4=>S.j (fun j10=>st [(2,.zm p0.d 0),(3,.zm p1.d 0),(23,.b j10)]) (fun _=>S.cb (S.k0 C.q47 fun a11=>S.n S.zr) S.zr) fun j10=>S.j (fun j16=>st [(2,.zm p0.d 0),(3,.zm p1.d 0),(30,.b j16)]) (fun _=>S.cb (S.k0 C.q47 fun a17=>S.n S.zr) S.zr) fun j16=>S.ja0 (fun x19=>st [(37,.b x19)]) rfl (S.q))
end Go.Proofs.YtfdoofnmjehecaaGreatDoor
