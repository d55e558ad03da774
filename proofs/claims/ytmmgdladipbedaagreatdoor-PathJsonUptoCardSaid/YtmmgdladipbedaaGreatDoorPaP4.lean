import Derived.Test.YtmmgdladipbedaaGreatDoorPaG
import Derived.Test.YtmmgdladipbedaaGreatDoorPaP3
import Derived.Test.YtmmgdladipbedaaGreatDoorSpL
import Derived.Lib.ValidLaws
set_option linter.all false
section
set_option maxRecDepth 1000000
set_option maxHeartbeats 4000000
namespace Go.Proofs.YtmmgdladipbedaaGreatDoor
open Go.Lk Go.Pe Go.Sen Go.RowKit
def A.q1p:Ann:={ seq:=[(14,{ L:=[5,7,8,21,22,23],B:=[1005,1007],A:=[3489],H:=[(.cell 1005 2,3489,91,4)] }),(22,{ L:=[5,11,12,21,22,23],B:=[1005,1011,1012],A:=[3524,3525,3526,3527],H:=[(.cell 1005 2,3524,91,4),(.cell 1011 2,3525,91,4),(.cell 1011 3,3526,9,1),(.cell 1012 2,3527,91,4)] }),(23,{ L:=[5,11,21,22,23],B:=[1005,1011],A:=[3514,3515,3516],H:=[(.cell 1005 2,3514,91,4),(.cell 1011 2,3515,91,4),(.cell 1011 3,3516,9,1)] }),(24,{ L:=[5,21,22,23],B:=[1005],A:=[3488],H:=[(.cell 1005 2,3488,91,4)] }),(25,{ L:=[5],B:=[1005],A:=[3269],H:=[(.cell 1005 2,3269,91,4)] })],loop:=[(6,{ L:=[5,21,22,23],B:=[1005],A:=[3339],H:=[(.cell 1005 2,3339,91,4)] }),(18,{ L:=[5,11,12,21,22,23,61,62,63],B:=[1005,1011,1012],A:=[3531,3532,3533,3534],H:=[(.cell 1005 2,3531,91,4),(.cell 1011 2,3532,91,4),(.cell 1011 3,3533,9,1),(.cell 1012 2,3534,91,4)] })],reg:=[(4,[(3,0,cu [0,5] [1005] [])]),(25,[(9,0,c1 [2,3])])],drw:=[(14,{ anc:=[0,0,0,4,14,30,62,0,254,510,1023,0,4095],E:=[0,1,6,8,9,11,12],qs:=[2,3,7],g:=.alt 0 [2,3,7] [] (.alt 1 [2,3,7] [4,5] (.alt 6 [7] [] (.alt 8 [] [] (.alt 9 [] [10] (.one 11 [10] [] (.one 12 [] [] (.fin))) (.one 11 [] [] (.one 9 [] [10] (.one 12 [] [] (.fin))))) (.one 11 [7] [] (.one 8 [] [] (.one 9 [] [10] (.one 12 [] [] (.fin)))))) (.one 11 [2,3,7,4,5] [] (.one 6 [7] [] (.one 8 [] [] (.one 9 [] [10] (.one 12 [] [] (.fin))))))) (.one 11 [2,3,7] [] (.one 1 [2,3,7] [4,5] (.one 6 [7] [] (.one 8 [] [] (.one 9 [] [10] (.one 12 [] [] (.fin)))))))) (.alt 1 [2,3,7] [4,5] (.alt 0 [2,3,7,4,5] [] (.alt 6 [7] [] (.alt 8 [] [] (.alt 9 [] [10] (.one 11 [10] [] (.one 12 [] [] (.fin))) (.one 11 [] [] (.one 9 [] [10] (.one 12 [] [] (.fin))))) (.one 11 [7] [] (.one 8 [] [] (.one 9 [] [10] (.one 12 [] [] (.fin)))))) (.one 11 [2,3,7,4,5] [] (.one 6 [7] [] (.one 8 [] [] (.one 9 [] [10] (.one 12 [] [] (.fin))))))) (.alt 6 [7] [] (.alt 0 [7] [] (.alt 8 [] [] (.alt 9 [] [10] (.one 11 [10] [] (.one 12 [] [] (.fin))) (.one 11 [] [] (.one 9 [] [10] (.one 12 [] [] (.fin))))) (.one 11 [7] [] (.one 8 [] [] (.one 9 [] [10] (.one 12 [] [] (.fin)))))) (.alt 8 [] [] (.alt 0 [] [] (.alt 9 [] [10] (.one 11 [10] [] (.one 12 [] [] (.fin))) (.one 11 [] [] (.one 9 [] [10] (.one 12 [] [] (.fin))))) (.alt 9 [] [] (.alt 0 [] [10] (.one 11 [10] [] (.one 12 [] [] (.fin))) (.one 11 [] [] (.one 0 [] [10] (.one 12 [] [] (.fin))))) (.one 11 [] [] (.alt 0 [] [] (.one 9 [] [10] (.one 12 [] [] (.fin))) (.one 9 [] [] (.one 0 [] [10] (.one 12 [] [] (.fin)))))))) (.one 11 [7] [] (.alt 0 [7] [] (.one 8 [] [] (.one 9 [] [10] (.one 12 [] [] (.fin)))) (.one 8 [] [] (.alt 0 [] [] (.one 9 [] [10] (.one 12 [] [] (.fin))) (.one 9 [] [] (.one 0 [] [10] (.one 12 [] [] (.fin)))))))))) (.one 11 [2,3,7,4,5] [] (.alt 0 [2,3,7,4,5] [] (.one 6 [7] [] (.one 8 [] [] (.one 9 [] [10] (.one 12 [] [] (.fin))))) (.one 6 [7] [] (.alt 0 [7] [] (.one 8 [] [] (.one 9 [] [10] (.one 12 [] [] (.fin)))) (.one 8 [] [] (.alt 0 [] [] (.one 9 [] [10] (.one 12 [] [] (.fin))) (.one 9 [] [] (.one 0 [] [10] (.one 12 [] [] (.fin)))))))))))) (.one 11 [2,3,7] [] (.alt 0 [2,3,7] [] (.one 1 [2,3,7] [4,5] (.one 6 [7] [] (.one 8 [] [] (.one 9 [] [10] (.one 12 [] [] (.fin)))))) (.one 1 [2,3,7] [4,5] (.alt 0 [2,3,7,4,5] [] (.one 6 [7] [] (.one 8 [] [] (.one 9 [] [10] (.one 12 [] [] (.fin))))) (.one 6 [7] [] (.alt 0 [7] [] (.one 8 [] [] (.one 9 [] [10] (.one 12 [] [] (.fin)))) (.one 8 [] [] (.alt 0 [] [] (.one 9 [] [10] (.one 12 [] [] (.fin))) (.one 9 [] [] (.one 0 [] [10] (.one 12 [] [] (.fin))))))))))))),c:=some { L:=[5,7,11,21,22,23],B:=[1005,1007,1011],A:=[3490,3491,3492],H:=[(.cell 1005 2,3490,91,4),(.cell 1011 2,3491,91,4),(.cell 1011 3,3492,9,1)] } }),(20,{ anc:=[0,1,0,4,12,31,63,127],E:=[3,4,5,7],qs:=[0,1,2],g:=.one 3 [0,1] [] (.one 4 [0,1] [] (.one 5 [] [6] (.one 7 [] [] (.fin)))) }),(22,{ anc:=[0,1,0,7,0,16,0,64,255,63,1023,2047,4095],E:=[2,3,7,8,10,12],qs:=[0,1,4,5,6],g:=.alt 2 [0,1,4,5,6] [] (.alt 3 [4,5,6] [9] (.one 7 [4,5,9] [] (.one 8 [9] [] (.one 10 [] [11] (.one 12 [] [] (.fin))))) (.one 7 [0,1,4,5] [] (.one 3 [4,5] [9] (.one 8 [9] [] (.one 10 [] [11] (.one 12 [] [] (.fin))))))) (.one 7 [0,1,4,5] [] (.one 2 [0,1,4,5] [] (.one 3 [4,5] [9] (.one 8 [9] [] (.one 10 [] [11] (.one 12 [] [] (.fin))))))),c:=some { L:=[5,11,21,22,23],B:=[1005,1011],A:=[3535,3536,3537],H:=[(.cell 1005 2,3535,91,4),(.cell 1011 2,3536,91,4),(.cell 1011 3,3537,9,1)] } })],own:=[45,54] }
theorem C.q1p {fuel:Nat} {p0:List q00}:Qs (M.q1p fuel p0) 30 ⟨[.l51 p0],[],[]⟩ fun r => .ok [.s r.1,.i r.2] [] [] :=
 Kf Tryz.func30 A.q1p [.tmp 2,.tmp 3] (by unfold M.q1p;exact S.k0 C.q1g fun a3=>S.n (S.cb S.q (S.jp (sb [(0,.l51 p0),(5,.p 1005)] [(1005,⟨91,[.i 5,.s ([]:List UInt8),.nil,.nil]⟩)]) (fun _=>rfl) (S.gn (fun j686=>⟨[(5,.p 1005)],[(1005,⟨91,[.i 5,.s ([]:List UInt8),.ref 3269,.nil]⟩)],[(3269,⟨true,91,4,(q03.z3p j686)⟩)],none⟩) (S.m (S.lw2 (L:=M.z0q p0 fuel) (fun x913 x914=>⟨[(5,.p 1005),(21,.l51 p0),(22,.i (p0.length:Int)),(23,.i x913)],[(1005,⟨91,[.i 5,.s ([]:List UInt8),.ref 3339,.nil]⟩)],[(3339,⟨true,91,4,(q03.z3p x914)⟩)],none⟩) (M.z0q.partial_correctness _ _) rfl fun _ _ ih_z0q x913 x914=>S.cb (S.gn (fun j1254=>⟨[(5,.p 1005),(21,.l51 p0),(22,.i (p0.length:Int)),(23,.i x913)],[(1005,⟨91,[.i 5,.s ([]:List UInt8),.ref 3488,.nil]⟩)],[(3488,⟨true,91,4,(q03.z3p j1254)⟩)],none⟩) (S.ixm q00.z09 fun x1255=>(by exact S.gn (fun j1267=>⟨[(5,.p 1005),(7,.p 1007),(8,.s j1267),(21,.l51 p0),(22,.i (p0.length:Int)),(23,.i x913)],[(1005,⟨91,[.i 5,.s ([]:List UInt8),.ref 3489,.nil]⟩),(1007,⟨51,x1255.v⟩)],[(3489,⟨true,91,4,(q03.z3p x914)⟩)],none⟩) (S.cb (S.k0 C.q1o fun a1268=>S.n (S.cb S.q (S.e fun s1270=>S.e fun s1271=>S.e fun s1272=>S.zr))) S.zr) fun j1267=>S.j (fun j1281=>⟨[(5,.p 1005),(7,.p 1007),(11,.p 1011),(21,.l51 p0),(22,.i (p0.length:Int)),(23,.i x913)],[(1005,⟨91,[.i 5,.s ([]:List UInt8),.ref 3490,.nil]⟩),(1007,⟨51,x1255.v⟩),(1011,⟨91,[.i 6,.s ([]:List UInt8),.ref 3491,.ref 3492]⟩)],[(3490,⟨true,91,4,(q03.z3p x914)⟩),(3491,⟨true,91,4,(q03.z3p j1281)⟩),(3492,⟨true,9,1,([([111,112]:List UInt8),([112,97,116,104]:List UInt8)].map eS)⟩)],none⟩) (fun _=>S.n (S.two (S.n (S.two (S.k0 C.q2d fun a1282=>S.n (S.ixf eS fun x1284=>(by exact S.n (S.two (S.k0 C.q2q fun a1285=>S.n (S.n (S.two (S.k0 C.q2q fun a1287=>S.n (S.n (S.two (S.n (S.n (S.n S.zr))) (S.n (S.n (S.n S.zr)))))) (S.n (S.k0 C.q2q fun a1287=>S.n (S.n (S.n (S.n S.zr)))))))) (S.n (S.k0 C.q2q fun a1285=>S.n (S.n (S.k0 C.q2q fun a1287=>S.n (S.n (S.n (S.n S.zr))))))))))) (by exact S.n (S.k0 C.q2d fun a1282=>S.n (S.ixf eS fun x1284=>S.n (S.k0 C.q2q fun a1285=>S.n (S.n (S.k0 C.q2q fun a1287=>S.n (S.n (S.n (S.n S.zr))))))))))) (S.two (S.k0 C.q2d fun a1282=>S.n (S.ixf eS fun x1284=>S.n (S.two (by exact S.n (S.two (S.k0 C.q2q fun a1285=>S.n (S.n (S.two (S.k0 C.q2q fun a1287=>S.n (S.n (S.two (S.n (S.n (S.n S.zr))) (S.n (S.n (S.n S.zr)))))) (S.n (S.k0 C.q2q fun a1287=>S.n (S.n (S.n (S.n S.zr)))))))) (S.n (S.k0 C.q2q fun a1285=>S.n (S.n (S.k0 C.q2q fun a1287=>S.n (S.n (S.n (S.n S.zr))))))))) (S.two (S.k0 C.q2q fun a1285=>S.n (by exact S.n (S.two (S.n (S.two (S.k0 C.q2q fun a1287=>S.n (S.n (S.two (S.n (S.n (S.n S.zr))) (S.n (S.n (S.n S.zr)))))) (S.n (S.k0 C.q2q fun a1287=>S.n (S.n (S.n (S.n S.zr))))))) (S.two (S.k0 C.q2q fun a1287=>S.n (S.n (S.two (S.n (S.two (S.n (S.n (S.n S.zr))) (S.n (S.n (S.n S.zr))))) (S.two (S.n (S.two (S.n (S.n (S.n S.zr))) (S.n (S.n (S.n S.zr))))) (S.n (S.two (S.n (S.n (S.n S.zr))) (S.n (S.n (S.n S.zr))))))))) (S.n (S.two (S.n (S.k0 C.q2q fun a1287=>S.n (S.n (S.n (S.n S.zr))))) (S.k0 C.q2q fun a1287=>S.n (S.n (S.two (S.n (S.n (S.n S.zr))) (S.n (S.n (S.n S.zr)))))))))))) (by exact S.n (S.two (S.n (S.k0 C.q2q fun a1285=>S.n (S.n (S.k0 C.q2q fun a1287=>S.n (S.n (S.n (S.n S.zr))))))) (S.k0 C.q2q fun a1285=>S.n (S.n (S.two (S.n (S.k0 C.q2q fun a1287=>S.n (S.n (S.n (S.n S.zr))))) (S.k0 C.q2q fun a1287=>S.n (S.n (S.two (S.n (S.n (S.n S.zr))) (S.n (S.n (S.n S.zr))))))))))))))) (S.n (S.two (by exact S.n (S.k0 C.q2d fun a1282=>S.n (S.ixf eS fun x1284=>S.n (S.k0 C.q2q fun a1285=>S.n (S.n (S.k0 C.q2q fun a1287=>S.n (S.n (S.n (S.n S.zr))))))))) (S.k0 C.q2d fun a1282=>S.n (S.ixf eS fun x1284=>(by exact S.n (S.two (S.n (S.k0 C.q2q fun a1285=>S.n (S.n (S.k0 C.q2q fun a1287=>S.n (S.n (S.n (S.n S.zr))))))) (S.k0 C.q2q fun a1285=>S.n (S.n (S.two (S.n (S.k0 C.q2q fun a1287=>S.n (S.n (S.n (S.n S.zr))))) (S.k0 C.q2q fun a1287=>S.n (S.n (S.two (S.n (S.n (S.n S.zr))) (S.n (S.n (S.n S.zr)))))))))))))))))) fun j1281=>S.j (fun j1328=>⟨[(5,.p 1005),(11,.p 1011),(21,.l51 p0),(22,.i (p0.length:Int)),(23,.i x913)],[(1005,⟨91,[.i 5,.s ([]:List UInt8),.ref 3514,.nil]⟩),(1011,⟨91,[.i 6,.s ([]:List UInt8),.ref 3515,.ref 3516]⟩)],[(3514,⟨true,91,4,(q03.z3p x914)⟩),(3515,⟨true,91,4,(q03.z3p j1328.1)⟩),(3516,⟨true,9,1,(j1328.2.map eS)⟩)],none⟩) (fun _=>S.cb (by exact S.j (fun j1344=>⟨[(5,.p 1005),(11,.p 1011),(12,.p 1012),(21,.l51 p0),(22,.i (p0.length:Int)),(23,.i x913)],[(1005,⟨91,[.i 5,.s ([]:List UInt8),.ref 3524,.nil]⟩),(1011,⟨91,[.i 6,.s ([]:List UInt8),.ref 3525,.ref 3526]⟩),(1012,⟨91,[.i 5,.s ([]:List UInt8),.ref 3527,.nil]⟩)],[(3524,⟨true,91,4,(q03.z3p x914)⟩),(3525,⟨true,91,4,(q03.z3p j1281)⟩),(3526,⟨true,9,1,([([111,112]:List UInt8),([112,97,116,104]:List UInt8)].map eS)⟩),(3527,⟨true,91,4,(q03.z3p j1344)⟩)],none⟩) (fun _=>S.m (S.lw2 (L:=M.z0h x1255) (fun x1349 x1350=>⟨[(5,.p 1005),(11,.p 1011),(12,.p 1012),(21,.l51 p0),(22,.i (p0.length:Int)),(23,.i x913),(61,.l9 x1255.zh),(62,.i (x1255.zh.length:Int)),(63,.i x1349)],[(1005,⟨91,[.i 5,.s ([]:List UInt8),.ref 3531,.nil]⟩),(1011,⟨91,[.i 6,.s ([]:List UInt8),.ref 3532,.ref 3533]⟩),(1012,⟨91,[.i 5,.s ([]:List UInt8),.ref 3534,.nil]⟩)],[(3531,⟨true,91,4,(q03.z3p x914)⟩),(3532,⟨true,91,4,(q03.z3p j1281)⟩),(3533,⟨true,9,1,([([111,112]:List UInt8),([112,97,116,104]:List UInt8)].map eS)⟩),(3534,⟨true,91,4,(q03.z3p x1350)⟩)],none⟩) (M.z0h.partial_correctness _) rfl fun _ _ ih_z0h x1349 x1350=>S.cb (S.ixf eS fun x1355=>S.n (S.k0 C.q2q fun a1356=>S.n (S.n (S.n (S.apps q03.z02 (fun l1358=>S.n (S.n (ih_z0h _ _))) (by first|rfl|simp only [q03.z02,List.map_cons,List.map_nil,q03.z09])))))) S.zr)) fun j1344=>S.j (fun j1363=>⟨[(5,.p 1005),(11,.p 1011),(21,.l51 p0),(22,.i (p0.length:Int)),(23,.i x913)],[(1005,⟨91,[.i 5,.s ([]:List UInt8),.ref 3535,.nil]⟩),(1011,⟨91,[.i 6,.s ([]:List UInt8),.ref 3536,.ref 3537]⟩)],[(3535,⟨true,91,4,(q03.z3p x914)⟩),(3536,⟨true,91,4,(q03.z3p j1363.1)⟩),(3537,⟨true,9,1,(j1363.2.map eS)⟩)],none⟩) (fun _=>S.n (S.two (S.n (S.two (S.zbt eS fun l1364=>S.n (S.n (S.apps q03.z02 (fun l1365=>S.n (S.n (S.n S.zr))) (by first|rfl|simp only [q03.z02,List.map_cons,List.map_nil,q03.z09])))) (S.n (S.zbt eS fun l1364=>S.n (S.apps q03.z02 (fun l1365=>S.n (S.n (S.n S.zr))) (by first|rfl|simp only [q03.z02,List.map_cons,List.map_nil,q03.z09])))))) (S.n (S.n (S.zbt eS fun l1364=>S.n (S.apps q03.z02 (fun l1365=>S.n (S.n (S.n S.zr))) (by first|rfl|simp only [q03.z02,List.map_cons,List.map_nil,q03.z09]))))))) fun j1363=>S.zr) S.zr) fun j1328=>S.apps q03.z02 (fun l1366=>S.zr) (by first|rfl|simp only [q03.z02,List.map_cons,List.map_nil,q03.z09]))) fun j1254=>ih_z0q _ _) S.zr)) fun j686=>S.k0 C.q0l fun a1367=>S.n (S.jp (st [(2,.s a1367.1),(3,.i a1367.2)]) (fun _=>rfl) S.q)))))
def A.q3v:Ann:={ seq:=[(8,c1 [])],loop:=[(4,c1 [0,1,5])],drw:=[(6,{ anc:=[0,0,3,7,15,0,0,96,224,480,1023,2047,4095,4095,16383,32767,65535,4095,4095,397311,921599,1970175,4194303,8388607,16777215,33554431,33554431,134217727,268435455,536870911,33554431,33554431,3254779903,7549747199,16139681791,34359738367,68719476735,137438953471,274877906943,274877906943,1099511627775,2199023255551,4398046511103,274877906943,274877906943,26663156973567,61847529062399,132216273240063,281474976710655,562949953421311,1125899906842623,2251799813685247,4503599627370495,4503599627370495,18014398509481983,36028797018963967,72057594037927935,4503599627370495,4503599627370495,436849163854938111,1013309916158361599,2166231420765208575,4611686018427387903,9223372036854775807,18446744073709551615],E:=[48,62],qs:=[0,1,2,3,4,5,6,7,8,9,10,11,12,13,14,15,16,17,18,19,20,21,22,23,24,25,26,27,28,29,30,31,32,33,34,35,36,37,38,39,40,41,42,43,44,45,46,47],g:=.one 48 [] [49,50,51,52,53,54,55,56,57,58,59,60,61] (.one 62 [] [63,64] (.fin)),lin:=some [(12,12,c1 [0,1,5,40]),(1,12,c1 [0,1,5,53]),(1,13,c1 [0,1,5,67]),(1,13,c1 [0,1,5,81])] })] }
theorem C.q3v {fuel:Nat} {p0 p1:List q00}:Qs (M.q3v fuel p0 p1) 32 ⟨[.l51 p0,.l51 p1],[],[]⟩ fun r => .ok [.b r] [] [] :=
 Kf Tryz.func32 A.q3v [.tmp 4] (by unfold M.q3v;exact S.m (S.m (S.cb S.q (S.gn (fun _=>st []) (S.lw (L:=M.z10 p0 p1 fuel) (fun x139=>st [(0,.l51 p0),(1,.l51 p1),(5,.i x139)]) (M.z10.partial_correctness _ _ _) rfl fun _ _ ih_z10 x139=>(by exact S.m (S.cb (S.ixm q00.z09 fun x174=>S.ixm q00.z09 fun x175=>S.j (fun j179=>st [(0,.l51 p0),(1,.l51 p1),(5,.i x139),(40,.b j179)]) (fun _=>S.cb S.zr (S.ixm q00.z09 fun x180=>S.ixm q00.z09 fun x181=>S.zr)) fun j179=>S.j (fun j185=>st [(0,.l51 p0),(1,.l51 p1),(5,.i x139),(53,.b j185)]) (fun _=>S.cb S.zr (S.ixm q00.z09 fun x186=>S.ixm q00.z09 fun x187=>S.zr)) fun j185=>S.j (fun j193=>st [(0,.l51 p0),(1,.l51 p1),(5,.i x139),(67,.b j193)]) (fun _=>S.cb S.zr (S.ixm q00.z09 fun x194=>S.ixm q00.z09 fun x195=>S.k0 (C.q3w _ _ _) fun a196=>S.n S.zr)) fun j193=>S.j (fun j203=>st [(0,.l51 p0),(1,.l51 p1),(5,.i x139),(81,.b j203)]) (fun _=>S.cb S.zr (S.ixm q00.z09 fun x204=>S.ixm q00.z09 fun x205=>S.k0 C.q32 fun a206=>S.n S.zr)) fun j203=>S.cb S.q (ih_z10 _)) S.zr))) fun j104=>S.q))))
def A.q17:Ann:={ seq:=[(8,c1 [1])],reg:=[(2,[(2,0,c1 [0,1,5,6,21])]),(6,[(3,5,c1 [1,36])]),(10,[(4,0,c1 [4])]),(11,[(7,0,c1 [9,11,12])]),(13,[(4,7,c1 [64])]),(15,[(3,4,c1 [76])])] }
theorem C.q17 (fuel:Nat) (p0:List q00) (p1:List UInt8):Qs (M.q17 fuel p0 p1) 10 ⟨[.l51 p0,.s p1],[],[]⟩ fun r => .ok [.b r] [] [] :=
 Kf Tryz.func10 A.q17 [.tmp 4] (by unfold M.q17;exact S.k0 C.q1p fun a1=>(by exact S.n (S.k0 C.q1d fun a5=>S.n (S.jp (st [(0,.l51 p0),(1,.s p1),(5,.s a1.1),(6,.i a1.2),(21,.b (!a5))]) (fun _=>rfl) (S.cb S.q (S.gn (fun _=>st [(1,.s p1)]) (S.cb (S.k0 C.q1m fun a24=>S.n (S.j (fun j29=>st [(1,.s p1),(36,.b j29)]) (fun _=>S.cb S.zr (S.k0 C.q3v fun a30=>S.n S.zr)) fun j29=>S.cb S.q S.zr)) S.zr) fun j23=>(by exact S.k0 C.q1m fun a32=>S.n (S.cb (S.m (S.jp (st [(4,.b (decide ((a32.1.length:Int)=0)))]) (fun _=>rfl) S.q)) (S.k0 C.q1p fun a34=>S.n (S.jp (st [(9,.l51 a32.1),(11,.s a34.1),(12,.i a34.2)]) (fun _=>rfl) (S.cb (S.k0 C.q1g fun a41=>S.n (S.ja (fun x43=>st [(64,.b x43)]) (fun _=>cnd (fun h45=>jbI rfl (or_t h45)) (fun h45=>jbI rfl (or_f h45 rfl))) (S.q))) (S.k0 C.q1m fun a46=>S.n (S.j (fun j51=>st [(76,.b j51)]) (fun _=>S.cb (S.k0 C.q3v fun a52=>S.n S.zr) S.zr) fun j51=>S.q)))))))))))))
end Go.Proofs.YtmmgdladipbedaaGreatDoor
end
section
namespace Go.Sen
open Go.Lk Go.Pe
theorem zsw:∀ b:Fin 256,(Lib.firstT b.val % 8=2∨Lib.firstT b.val % 8=3∨Lib.firstT b.val % 8=4)→128≤Lib.accLo (Lib.firstT b.val / 16):=by decide +kernel
theorem getD_take {l m:List UInt8} {k i:Nat} (hk:k≤l.length) (hi:i<k):(l.take k++m).getD i 0=l.getD i 0:=by
 rw [List.getD_eq_getElem?_getD,List.getD_eq_getElem?_getD,List.getElem?_append_left (by rw [List.length_take];omega),List.getElem?_take_of_lt hi]
theorem zza {l:List UInt8} {k:Nat} (hk:1≤k) (hkl:k≤l.length) (hb:∀ i,i<k→128≤(l.getD i 0).toNat) (hd:Lib.validD (l.drop k)=true)
  (hc:∀ n b1 b2 b3,k≤n→(1<k→b1=(l.getD 1 0).toNat)→(2<k→b2=(l.getD 2 0).toNat)→(3<k→b3=(l.getD 3 0).toNat)→Lib.checkN n b1 b2 b3 (Lib.firstT (l.getD 0 0).toNat % 8) (Lib.accLo (Lib.firstT (l.getD 0 0).toNat / 16)) (Lib.accHi (Lib.firstT (l.getD 0 0).toNat / 16))=some k) :
  ∃ k,1≤k∧k≤l.length∧(∀ b∈l.take k,128≤b.toNat)∧Lib.validD (l.drop k)=true∧∀ m,Lib.validD (l.take k++m)=Lib.validD m:=by
 refine ⟨k,hk,hkl,fun b h => ?_,hd,fun m => ?_⟩
 ·obtain ⟨i,hi,e⟩:=List.getElem_of_mem h
  rw [List.length_take] at hi
  have:=hb i (by omega)
  rw [List.getElem_take] at e
  rw [List.getD_eq_getElem?_getD,List.getElem?_eq_getElem (by omega),Option.getD_some,e] at this
  exact this
 ·have hl:(l.take k).length=k:=by rw [List.length_take];omega
  have g0:=getD_take (m:=m) hkl (show 0<k by omega)
  rw [Lib.validD_lead (l.take k++m) (by intro e;have:=congrArg List.length e;simp only [List.length_append,hl,List.length_nil] at this;omega) (by rw [g0];exact hb 0 (by omega))]
  rw [g0,hc _ _ _ _ (by rw [List.length_append,hl];omega) (fun h=>by rw [getD_take hkl h]) (fun h=>by rw [getD_take hkl h]) (fun h=>by rw [getD_take hkl h])]
  simp only
  rw [List.drop_append_of_le_length (by omega),List.drop_eq_nil_of_le (by omega),List.nil_append]
theorem zq7 {l:List UInt8} (hne:l≠[]) (h0:128≤(l.getD 0 0).toNat) (hv:Lib.validD l=true):∃ k,1≤k∧k≤l.length∧(∀ b∈l.take k,128≤b.toNat)∧Lib.validD (l.drop k)=true∧∀ m,Lib.validD (l.take k++m)=Lib.validD m:=by
 rw [Lib.validD_lead l hne h0] at hv
 have hlo:=zsw ⟨(l.getD 0 0).toNat,(l.getD 0 0).toNat_lt⟩
 simp only at hlo
 have hk:=fun k => @zza l k
 generalize hz:Lib.firstT (l.getD 0 0).toNat % 8=sz at hv hlo hk
 generalize Lib.accLo (Lib.firstT (l.getD 0 0).toNat / 16)=lo at hv hlo hk
 generalize Lib.accHi (Lib.firstT (l.getD 0 0).toNat / 16)=hi at hv hk
 unfold Lib.checkN at hv
 by_cases h2:sz=2
 ·have hlo:=hlo (.inl h2)
  rw [if_pos h2] at hv
  by_cases hc:l.length<2∨(l.getD 1 0).toNat<lo∨hi<(l.getD 1 0).toNat
  ·rw [if_pos hc] at hv;cases hv
  ·rw [if_neg hc] at hv
   refine hk 2 (by omega) (by omega) (fun i h => ?_) hv fun n b1 b2 b3 hn e1 _ _ => ?_
   ·match i,h with
    | 0,_=>exact h0
    | 1,_=>omega
   ·unfold Lib.checkN
    rw [if_pos h2,if_neg (by rw [e1 (by omega)];omega)]
 ·rw [if_neg h2] at hv
  by_cases h3:sz=3
  ·have hlo:=hlo (.inr (.inl h3))
   rw [if_pos h3] at hv
   by_cases hc:l.length<3∨(l.getD 1 0).toNat<lo∨hi<(l.getD 1 0).toNat∨(l.getD 2 0).toNat<128∨191<(l.getD 2 0).toNat
   ·rw [if_pos hc] at hv;cases hv
   ·rw [if_neg hc] at hv
    refine hk 3 (by omega) (by omega) (fun i h => ?_) hv fun n b1 b2 b3 hn e1 e2 _ => ?_
    ·match i,h with
     | 0,_=>exact h0
     | 1,_=>omega
     | 2,_=>omega
    ·unfold Lib.checkN
     rw [if_neg h2,if_pos h3,if_neg (by rw [e1 (by omega),e2 (by omega)];omega)]
  ·rw [if_neg h3] at hv
   by_cases h4:sz=4
   ·have hlo:=hlo (.inr (.inr h4))
    rw [if_pos h4] at hv
    by_cases hc:l.length<4∨(l.getD 1 0).toNat<lo∨hi<(l.getD 1 0).toNat∨(l.getD 2 0).toNat<128∨191<(l.getD 2 0).toNat∨(l.getD 3 0).toNat<128∨191<(l.getD 3 0).toNat
    ·rw [if_pos hc] at hv;cases hv
    ·rw [if_neg hc] at hv
     refine hk 4 (by omega) (by omega) (fun i h => ?_) hv fun n b1 b2 b3 hn e1 e2 e3 => ?_
     ·match i,h with
      | 0,_=>exact h0
      | 1,_=>omega
      | 2,_=>omega
      | 3,_=>omega
     ·unfold Lib.checkN
      rw [if_neg h2,if_neg h3,if_pos h4,if_neg (by rw [e1 (by omega),e2 (by omega),e3 (by omega)];omega)]
   ·rw [if_neg h4] at hv;cases hv
theorem z4p {a:List UInt8} (h:∀ b∈a,b.toNat<128) (r:List UInt8):Lib.validD (a++r)=Lib.validD r:=by
 rw [Lib.validD_ascii a.length (a++r) (by simpa using h)]
 simp
theorem zzv (c:UInt8) (h:c.toNat<128):∀ b∈qb c,b.toNat<128:=by
 have:=z6g (P:=fun c=>c.toNat<128→(qb c).all (fun b=>decide (b.toNat<128))=true) (by decide +kernel) c h
 simpa using this
theorem zx7 (c:UInt8) (h:128≤c.toNat):qb c=[c]:=z6g (P:=fun c=>128≤c.toNat→qb c=[c]) (by decide +kernel) c h
theorem zml:∀ {l:List UInt8},(∀ b∈l,128≤b.toNat)→qbs l=l
 | [],_=>rfl
 | c::l,h=>by
  have h2:=zml (l:=l) fun b hb=>h b (List.mem_cons_of_mem _ hb)
  unfold qbs at h2 ⊢
  rw [List.flatMap_cons,zx7 c (h c List.mem_cons_self),h2]
  rfl
theorem zx8 (a b:List UInt8):qbs (a++b)=qbs a++qbs b:=by simp [qbs]
theorem z7m:∀ (n:Nat) (v r:List UInt8),v.length≤n→Lib.validD v=true→Lib.validD (qbs v++r)=Lib.validD r∧Lib.validD (v++r)=Lib.validD r
 | n,[],r,_,_=>⟨rfl,rfl⟩
 | 0,c::t,r,h,_=>by simp at h
 | n+1,c::t,r,h,hv=>by
  rw [List.length_cons] at h
  by_cases hc:c.toNat<128
  ·rw [Lib.validD_cons c t hc] at hv
   obtain ⟨h1,h2⟩:=z7m n t r (by omega) hv
   refine ⟨?_,?_⟩
   ·have e:qbs (c::t)=qb c++qbs t:=by simp [qbs]
    rw [e,List.append_assoc,z4p (zzv c hc),h1]
   ·rw [List.cons_append,Lib.validD_cons c _ hc,h2]
  ·obtain ⟨k,k1,k2,k3,k4,k5⟩:=zq7 (l:=c::t) (by simp) (by show 128≤c.toNat;omega) hv
   obtain ⟨h1,h2⟩:=z7m n ((c::t).drop k) r (by rw [List.length_drop,List.length_cons];omega) k4
   refine ⟨?_,?_⟩
   ·have e:qbs (c::t)=(c::t).take k++qbs ((c::t).drop k):=by
     conv=>lhs;rw [←List.take_append_drop k (c::t)]
     rw [zx8,zml k3]
    rw [e,List.append_assoc,k5,h1]
   ·have e:(c::t)++r=(c::t).take k++((c::t).drop k++r):=by rw [←List.append_assoc,List.take_append_drop]
    rw [e,k5,h2]
theorem z9z {v r:List UInt8} (hv:Lib.validD v=true):Lib.validD (v++r)=Lib.validD r:=(z7m v.length v r (Nat.le_refl _) hv).2
theorem zu3 {v:List UInt8} (hv:Lib.validD v=true):Lib.validD (qt v)=true:=by
 unfold qt
 rw [List.cons_append,Lib.validD_cons 34 _ (by decide),(z7m v.length v [34] (Nat.le_refl _) hv).1]
 decide
theorem zp1 {a:List UInt8} (h:∀ b∈a,b.toNat<128):Lib.validD a=true:=by
 have:=z4p h []
 rw [List.append_nil] at this
 rw [this];rfl
theorem zy2:∀ b:UInt8,wch b=true→b.toNat<128:=z6g (by decide +kernel)
theorem zge {n:List UInt8} (h:isName n=true):∀ b∈n,b.toNat<128:=fun b hb=>zy2 b (List.all_eq_true.1 (zg0 h).1 b hb)
theorem zy5 (k:Int):∀ b∈wrd k,b.toNat<128:=by
 unfold wrd
 split
 ·rename_i w h
  have:=List.mem_of_getElem? h
  simp only [List.mem_cons,List.not_mem_nil,or_false] at this
  rcases this with rfl|rfl|rfl|rfl|rfl|rfl|rfl|rfl|rfl<;>decide
 ·intro b h;cases h
theorem znr {sp:List UInt8} (hs:∀ b∈sp,b.toNat<128):∀ {l:List (List UInt8)},(∀ x∈l,Lib.validD x=true)→Lib.validD (Lib.join l sp)=true
 | [],_=>rfl
 | x::r,h=>by
  rw [Lib.join_cons,z9z (h x List.mem_cons_self)]
  have:∀ q:List (List UInt8),(∀ x∈q,Lib.validD x=true)→Lib.validD (Lib.joinTail sp q)=true:=by
   intro q
   induction q with
   | nil=>intro _;rfl
   | cons y q ih =>
    intro hq
    have e:Lib.joinTail sp (y::q)=sp++(y++Lib.joinTail sp q):=by simp [Lib.joinTail]
    rw [e,z4p hs,z9z (hq y List.mem_cons_self),ih fun x hx=>hq x (List.mem_cons_of_mem _ hx)]
  exact this r fun x hx=>h x (List.mem_cons_of_mem _ hx)
theorem zb7 {s:List UInt8} (h:z2n s=true):Lib.validD s=true:=by
 unfold z2n at h
 simp only [Bool.and_eq_true] at h
 exact h.2
theorem zuk:∀ e:EX,fm e=true→Lib.validD (tx e)=true:=by
 intro e
 induction h:e.sz using Nat.strongRecOn generalizing e with
 | ind n ih =>
  subst h
  intro hf
  have hz:=e.z1m
  have hsub:∀ x∈txL e.za e.zf,Lib.validD x=true:=by
   intro y hy
   rw [z90] at hy
   obtain ⟨x,hx,rfl⟩:=List.mem_map.1 hy
   have h1:=ih x.sz (by have:=z2k hx;omega) x rfl (zcq hf hx)
   unfold txb
   split
   ·rw [Lib.validD_cons 40 _ (by decide),z9z h1];decide
   ·exact h1
  rw [zav]
  by_cases h3:e.za=3
  ·rw [if_pos h3,z4p (zge (z8n hf (by omega)).2.1)]
   decide
  ·rw [if_neg h3]
   by_cases h4:3<e.za
   ·rw [if_pos h4]
    obtain ⟨_,hn,ht,_⟩:=z8n hf (by omega)
    simp only [List.append_assoc]
    rw [z4p (zge hn),z4p (a:=[32]) (by decide),z4p (zy5 _),z4p (a:=[32]) (by decide)]
    exact zu3 (zb7 ht)
   ·rw [if_neg h4]
    by_cases h2:e.za=2
    ·rw [if_pos h2,z4p (a:=[110,111,116,32]) (by decide)]
     cases hl:txL e.za e.zf with
     | nil=>rfl
     | cons y q=>rw [hl] at hsub;exact hsub y List.mem_cons_self
    ·rw [if_neg h2]
     refine znr ?_ hsub
     unfold sep
     split<;>decide
end Go.Sen
end
