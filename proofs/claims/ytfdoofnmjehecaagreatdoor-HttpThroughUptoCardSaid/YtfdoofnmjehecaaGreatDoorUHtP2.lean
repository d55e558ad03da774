import Derived.Test.YtfdoofnmjehecaaGreatDoorUHtP1
set_option linter.all false
set_option maxRecDepth 1000000
set_option maxHeartbeats 4000000
namespace Go.Proofs.YtfdoofnmjehecaaGreatDoor
open IntKind renaming wrap → ya
open Go.Lk Go.Pe Go.Sen Go.RowKit
theorem C.q1w {p0:Z} {p1:Nat}:Qs (M.q1w p0 p1) 151 ⟨[.s p0,.fn p1 [] []],[],[]⟩ fun r => .ok [.agg r.v] [] [] :=
 Kf Tryz.func151 {} [.cell 4 179] (by unfold M.q1w;exact S.q)
theorem C.q2u {p0:Z} {p1:Nat}:Qs (M.q2u p0 p1) 159 ⟨[.s p0,.fn p1 [] []],[],[]⟩ fun r => .ok [.agg r.v] [] [] :=
 Kf Tryz.func159 {} [.cell 4 179] (by unfold M.q2u;exact S.q)
theorem C.q1i {p0 p1:Z}:Qs (M.q1i p0 p1) 154 ⟨[.s p0,.s p1],[],[]⟩ fun r => .ok [.agg r.v] [] [] :=
 Kf Tryz.func154 {} [.cell 4 179] (by unfold M.q1i;exact S.q)
def A.q2f:Ann:={ reg:=[(1,[(4,0,{ L:=[0,1,5],B:=[],A:=[100051],H:=[(.slot 5 none,100051,179,4)] })]),(3,[(6,0,{ L:=[1,5],B:=[],A:=[100151],H:=[(.slot 5 none,100151,179,4)] })])],own:=[8,13] }
theorem C.q2f {p0:Z} {p1:List q0b}:Qs (M.q2f p0 p1) 150 ⟨[.s p0,.z8i p1],[],[]⟩ fun r => .ok [.z8i r] [] [] :=
 Kf Tryz.func150 A.q2f [.tmp 4] (by unfold M.q2f;exact S.k0 C.q1w fun a1=>S.n (S.k0 C.q1w fun a3=>S.n (S.jp (⟨[(0,.s p0),(1,.z8i p1),(5,.ref 100051)],[],[(100051,⟨true,179,4,([a1,a3].map q0b.enc)⟩)],none⟩) (fun _=>rfl) (S.cb (S.k0 C.q1i fun a5=>S.n (S.zfl q0b.enc (fun l7=>S.jp (⟨[(1,.z8i p1),(5,.ref 100151)],[],[(100151,⟨true,179,4,(l7.map q0b.enc)⟩)],none⟩) (fun _=>rfl) (S.zfl q0b.enc fun l8=>S.q)) (by first|rfl|simp only [List.map_cons,List.map_nil,q0b.z2b]))) (S.zfl q0b.enc fun l9=>S.q)))))
def A.q2e:Ann:={ reg:=[(2,[(8,0,c1 [1,5,8,9]),(11,0,c1 [1,5,8,14,15,18,19,20]),(8,0,c1 [1,5,8,14,15,18,19,20,23,27,28]),(5,0,c1 [1,5,8,14,15,18,19,20,23,27,28,29,30,31,32,33]),(8,0,c1 [1,5,8,14,15,18,19,20,23,27,36,37,41]),(10,0,c1 [1,5,8,14,15,18,19,20,23,27,36,43,49,50,51]),(8,0,c1 [1,5,8,14,15,18,19,20,23,27,36,43,49,55,56,57,58,59]),(10,0,c1 [5,8,14,15,18,19,20,23,27,36,43,49,55,63,68,69]),(15,0,c1 [5,8,14,15,18,19,20,23,27,36,43,49,55,63,68,73,74,75,80,81,82,83,84]),(7,0,c1 [0])])] }
theorem C.q2e:Qs (M.q2e) 78 ⟨[],[],[]⟩ fun r => .ok [.zql r] [] [] :=
 Kf Tryz.func78 A.q2e [.tmp 0] (by unfold M.q2e;exact S.k0 C.q1w fun a1=>S.n (S.k0 C.q1w fun a3=>(by exact S.n (S.k0 C.q1w fun a5=>S.n (let u2_:PV:=.agg [.i 1,.s [80,79,83,84],.s [47,108,111,103,105,110],.i 0,.i 1,.z8i [a1,a3]];S.k0 C.q1w fun a7=>S.n (let u0_:PV:=.agg [.i 2,.s [80,79,83,84],.s [47,108,111,103,105,110,47,99,111,100,101],.i 1,.i 1,.z8i [a5]];S.jp (st [(1,.fn 150 [] []),(5,u2_),(8,u0_),(9,.agg a7.v)]) (fun _=>rfl) (S.k0 C.q2u fun a9=>S.n (let u6_:PV:=.agg [.i 7,.s [80,79,83,84],.s [47,108,111,103,111,117,116],.i 1,.i 1,.nil];S.k0 C.q2u fun a11=>S.n (let u5_:PV:=.agg [.i 6,.s [80,79,83,84],.s [47,99,104,97,108,108,101,110,103,101],.i 1,.i 1,.nil];S.k0 C.q2u fun a13=>S.n (let u4_:PV:=.agg [.i 4,.s [80,79,83,84],.s [47,101,110,114,111,108,47,99,111,100,101],.i 1,.i 1,.nil];S.k0 C.q2u fun a15=>(by exact let u3_:PV:=.agg [.i 5,.s [80,79,83,84],.s [47,101,110,114,111,108,47,107,101,121],.i 1,.i 1,.z8i [a15]];S.n (let u1_:PV:=.agg [.i 3,.s [80,79,83,84],.s [47,108,111,103,105,110,47,107,101,121],.i 1,.i 1,.z8i [a7,a9,a11,a13]];S.jp (st [(1,.fn 150 [] []),(5,u2_),(8,u0_),(14,u1_),(15,u4_),(18,u3_),(19,u5_),(20,u6_)]) (fun _=>rfl) (S.k0 C.q1w fun a17=>S.n (S.k0 C.q1w fun a19=>S.n (S.k0 C.q1w fun a21=>S.n (let u8_:PV:=.agg [.i 9,.s [80,79,83,84],.s [47,114,101,115,101,116],.i 0,.i 1,.z8i [a19,a21]];S.k0 C.q1i fun a23=>S.n (let u7_:PV:=.agg [.i 8,.s [80,79,83,84],.s [47,102,111,114,103,111,116],.i 0,.i 1,.z8i [a17]];S.jp (st [(1,.fn 150 [] []),(5,u2_),(8,u0_),(14,u1_),(15,u4_),(18,u3_),(19,u5_),(20,u6_),(23,u7_),(27,u8_),(28,.agg a23.v)]) (fun _=>rfl) (S.k0 C.q1w fun a25=>S.n (by exact S.k0 C.q1w fun a27=>S.n (S.k0 C.q1w fun a29=>S.n (S.k0 C.q1i fun a31=>S.n (S.k0 C.q1w fun a33=>S.n (S.jp (st [(1,.fn 150 [] []),(5,u2_),(8,u0_),(14,u1_),(15,u4_),(18,u3_),(19,u5_),(20,u6_),(23,u7_),(27,u8_),(28,.agg a23.v),(29,.agg a25.v),(30,.agg a27.v),(31,.agg a29.v),(32,.agg a31.v),(33,.agg a33.v)]) (fun _=>rfl) (S.k0 C.q1w fun a35=>S.n (S.k0 C.q1w fun a37=>S.n (by exact S.k0 C.q1w fun a39=>S.n (S.k0 C.q1w fun a41=>S.n (let u9_:PV:=.agg [.i 10,.s [71,69,84],.s [47,97,117,116,104,111,114,105,122,101],.i 1,.i 2,.z8i [a23,a25,a27,a29,a31,a33,a35]];S.jp (st [(1,.fn 150 [] []),(5,u2_),(8,u0_),(14,u1_),(15,u4_),(18,u3_),(19,u5_),(20,u6_),(23,u7_),(27,u8_),(36,u9_),(37,.fn 150 [] []),(41,.z8i [a37,a39,a41])]) (fun _=>rfl) (S.k0 C.q2f fun a43=>S.n (S.k0 C.q1w fun a45=>S.n (S.k0 C.q1w fun a47=>S.n (S.k0 C.q2f fun a49=>S.n (by exact let u11_:PV:=.agg [.i 12,.s [80,79,83,84],.s [47,116,111,107,101,110],.i 0,.i 1,.z8i a49];S.k0 C.q1w fun a51=>S.n (let u10_:PV:=.agg [.i 11,.s [80,79,83,84],.s [47,116,111,107,101,110],.i 0,.i 1,.z8i a43];S.jp (st [(1,.fn 150 [] []),(5,u2_),(8,u0_),(14,u1_),(15,u4_),(18,u3_),(19,u5_),(20,u6_),(23,u7_),(27,u8_),(36,u9_),(43,u10_),(49,u11_),(50,.fn 150 [] []),(51,.agg a51.v)]) (fun _=>rfl) (S.k0 C.q1w fun a53=>S.n (S.k0 C.q2f fun a55=>S.n (S.k0 C.q1w fun a57=>S.n (S.k0 C.q1w fun a59=>S.n (S.k0 C.q1w fun a61=>S.n (by exact let u12_:PV:=.agg [.i 13,.s [80,79,83,84],.s [47,116,111,107,101,110],.i 0,.i 1,.z8i a55];S.jp (st [(1,.fn 150 [] []),(5,u2_),(8,u0_),(14,u1_),(15,u4_),(18,u3_),(19,u5_),(20,u6_),(23,u7_),(27,u8_),(36,u9_),(43,u10_),(49,u11_),(55,u12_),(56,.fn 150 [] []),(57,.agg a57.v),(58,.agg a59.v),(59,.agg a61.v)]) (fun _=>rfl) (S.k0 C.q1w fun a63=>S.n (S.k0 C.q2f fun a65=>S.n (S.k0 C.q1w fun a67=>S.n (let u14_:PV:=.agg [.i 14,.s [80,79,83,84],.s [47,116,111,107,101,110],.i 0,.i 1,.z8i a65];S.k0 C.q2f fun a69=>S.n (let u13_:PV:=.agg [.i 15,.s [80,79,83,84],.s [47,114,101,118,111,107,101],.i 0,.i 1,.z8i a69];S.jp (st [(5,u2_),(8,u0_),(14,u1_),(15,u4_),(18,u3_),(19,u5_),(20,u6_),(23,u7_),(27,u8_),(36,u9_),(43,u10_),(49,u11_),(55,u12_),(63,u14_),(68,u13_),(69,.fn 150 [] [])]) (fun _=>rfl) (S.k0 C.q1w fun a71=>S.n (S.k0 C.q2f fun a73=>(by exact S.n (S.k0 C.q1w fun a75=>S.n (S.k0 C.q1i fun a77=>S.n (S.k0 C.q1i fun a79=>S.n (S.jp (st [(5,u2_),(8,u0_),(14,u1_),(15,u4_),(18,u3_),(19,u5_),(20,u6_),(23,u7_),(27,u8_),(36,u9_),(43,u10_),(49,u11_),(55,u12_),(63,u14_),(68,u13_),(73,.agg [.i 16,.s [80,79,83,84],.s [47,105,110,116,114,111,115,112,101,99,116],.i 0,.i 1,.z8i a73]),(74,.agg [.i 17,.s [71,69,84],.s [47,117,115,101,114,105,110,102,111],.i 2,.i 0,.nil]),(75,.agg [.i 18,.s [71,69,84],.s [47,107,101,121,115],.i 0,.i 0,.nil]),(80,.agg [.i 19,.s [71,69,84],.s [47,115,99,105,109,47,79,70],.i 2,.i 2,.z8i [a75,a77,a79]]),(81,.agg [.i 20,.s [71,69,84],.s [47,115,99,105,109,47,79,70,47,78,65,77,69],.i 2,.i 0,.nil]),(82,.agg [.i 21,.s [80,79,83,84],.s [47,115,99,105,109,47,79,70],.i 2,.i 3,.nil]),(83,.agg [.i 22,.s [80,65,84,67,72],.s [47,115,99,105,109,47,79,70,47,78,65,77,69],.i 6,.i 4,.nil]),(84,.agg [.i 23,.s [68,69,76,69,84,69],.s [47,115,99,105,109,47,79,70,47,78,65,77,69],.i 6,.i 0,.nil])]) (fun _=>rfl) (S.k0 C.q1w fun a81=>S.n (S.k0 C.q1w fun a83=>S.n (S.jp (st [(0,.zql [(q0a.mk 1 [80,79,83,84] [47,108,111,103,105,110] 0 1 [a1,a3]),(q0a.mk 2 [80,79,83,84] [47,108,111,103,105,110,47,99,111,100,101] 1 1 [a5]),(q0a.mk 3 [80,79,83,84] [47,108,111,103,105,110,47,107,101,121] 1 1 [a7,a9,a11,a13]),(q0a.mk 4 [80,79,83,84] [47,101,110,114,111,108,47,99,111,100,101] 1 1 []),(q0a.mk 5 [80,79,83,84] [47,101,110,114,111,108,47,107,101,121] 1 1 [a15]),(q0a.mk 6 [80,79,83,84] [47,99,104,97,108,108,101,110,103,101] 1 1 []),(q0a.mk 7 [80,79,83,84] [47,108,111,103,111,117,116] 1 1 []),(q0a.mk 8 [80,79,83,84] [47,102,111,114,103,111,116] 0 1 [a17]),(q0a.mk 9 [80,79,83,84] [47,114,101,115,101,116] 0 1 [a19,a21]),(q0a.mk 10 [71,69,84] [47,97,117,116,104,111,114,105,122,101] 1 2 [a23,a25,a27,a29,a31,a33,a35]),(q0a.mk 11 [80,79,83,84] [47,116,111,107,101,110] 0 1 a43),(q0a.mk 12 [80,79,83,84] [47,116,111,107,101,110] 0 1 a49),(q0a.mk 13 [80,79,83,84] [47,116,111,107,101,110] 0 1 a55),(q0a.mk 14 [80,79,83,84] [47,116,111,107,101,110] 0 1 a65),(q0a.mk 15 [80,79,83,84] [47,114,101,118,111,107,101] 0 1 a69),(q0a.mk 16 [80,79,83,84] [47,105,110,116,114,111,115,112,101,99,116] 0 1 a73),(q0a.mk 17 [71,69,84] [47,117,115,101,114,105,110,102,111] 2 0 []),(q0a.mk 18 [71,69,84] [47,107,101,121,115] 0 0 []),(q0a.mk 19 [71,69,84] [47,115,99,105,109,47,79,70] 2 2 [a75,a77,a79]),(q0a.mk 20 [71,69,84] [47,115,99,105,109,47,79,70,47,78,65,77,69] 2 0 []),(q0a.mk 21 [80,79,83,84] [47,115,99,105,109,47,79,70] 2 3 []),(q0a.mk 22 [80,65,84,67,72] [47,115,99,105,109,47,79,70,47,78,65,77,69] 6 4 []),(q0a.mk 23 [68,69,76,69,84,69] [47,115,99,105,109,47,79,70,47,78,65,77,69] 6 0 []),(q0a.mk 24 [80,79,83,84] [47,97,100,109,105,110,47,112,97,115,115,119,111,114,100] 2 1 [a81,a83]),(q0a.mk 25 [80,79,83,84] [47,97,100,109,105,110,47,116,117,114,110] 2 1 [])])]) (fun _=>rfl) S.q)))))))))))))))))))))))))))))))))))))))))))))))))))))))
def A.q28:Ann:={ seq:=[(14,cu [] [0] [])],loop:=[(5,cu [2,7,19,20,21] [0] [])],reg:=[(1,[(5,0,cu [1,2,7] [0] [])]),(7,[(6,3,cu [2,7,8,9,19,20,21,35] [0] [])]),(11,[(7,6,cu [2,7,19,20,21,63] [0] [])])],ro:=[3],nb:=1 }
theorem C.q28 {p0:q0a} {p1:List Z} {p2:q00}:Qs (M.q28 p0 p1 p2) 81 ⟨[.agg p0.v,.l9 p1,.p 0],[⟨46,p2.v⟩],[]⟩ fun r => .ok [.b r.1] [⟨46,r.2.v⟩] [] :=
 Kf Tryz.func81 A.q28 [.tmp 6] (by unfold M.q28;exact S.e fun s1=>S.k0 (C.split _ _) fun a2=>S.n (S.jp (sb [(1,.l9 p1),(2,.p 0),(7,.l9 a2)] [(0,⟨46,p2.v⟩)]) (fun _=>rfl) (S.m (S.m (S.cb S.q (S.gn (fun j39=>sb [] [(0,⟨46,[.i p2.zh,.s j39.1,.s p2.z2q,.s p2.z2p,.s p2.z09,.s p2.z19,.s p2.z1d,.s p2.z1g,.s p2.z00,.s p2.z0o,.s p2.z02,.s p2.z07,.s p2.z01,.s p2.zv,.s p2.z03,.s p2.z0f,.s j39.2,.s p2.z2z,.s p2.zt,.s p2.z6e,.s p2.z5k,.s p2.z0n,.s p2.z1c,.z34 p2.zi,.i p2.z2l,.i p2.z11]⟩)]) ((by exact S.m (S.lw3 (L:=M.z0w p1 a2 p2) (fun x50 x51 x52=>sb [(2,.p 0),(7,.l9 a2),(19,.l9 p1),(20,.i (p1.length:Int)),(21,.i x50)] [(0,⟨46,[.i p2.zh,.s x51,.s p2.z2q,.s p2.z2p,.s p2.z09,.s p2.z19,.s p2.z1d,.s p2.z1g,.s p2.z00,.s p2.z0o,.s p2.z02,.s p2.z07,.s p2.z01,.s p2.zv,.s p2.z03,.s p2.z0f,.s x52,.s p2.z2z,.s p2.zt,.s p2.z6e,.s p2.z5k,.s p2.z0n,.s p2.z1c,.z34 p2.zi,.i p2.z2l,.i p2.z11]⟩)]) (M.z0w.partial_correctness _ _ _) rfl fun _ _ ih_z0w x50 x51 x52=>S.cb (S.ixf eS fun x63=>S.ixf eS fun x64=>S.ja0 (fun x65=>sb [(2,.p 0),(7,.l9 a2),(8,.i x50),(9,.s x63),(19,.l9 p1),(20,.i (p1.length:Int)),(21,.i x50),(35,.b x65)] [(0,⟨46,[.i p2.zh,.s x51,.s p2.z2q,.s p2.z2p,.s p2.z09,.s p2.z19,.s p2.z1d,.s p2.z1g,.s p2.z00,.s p2.z0o,.s p2.z02,.s p2.z07,.s p2.z01,.s p2.zv,.s p2.z03,.s p2.z0f,.s x52,.s p2.z2z,.s p2.zt,.s p2.z6e,.s p2.z5k,.s p2.z0n,.s p2.z1c,.z34 p2.zi,.i p2.z2l,.i p2.z11]⟩)]) rfl (S.cb (ih_z0w _ _ _) (S.ixf eS fun x67=>S.cb (ih_z0w _ _ _) (S.ixf eS fun x68=>S.j (fun j71=>sb [(2,.p 0),(7,.l9 a2),(19,.l9 p1),(20,.i (p1.length:Int)),(21,.i x50),(63,.b j71)] [(0,⟨46,[.i p2.zh,.s x51,.s p2.z2q,.s p2.z2p,.s p2.z09,.s p2.z19,.s p2.z1d,.s p2.z1g,.s p2.z00,.s p2.z0o,.s p2.z02,.s p2.z07,.s p2.z01,.s p2.zv,.s p2.z03,.s p2.z0f,.s x52,.s p2.z2z,.s p2.zt,.s p2.z6e,.s p2.z5k,.s p2.z0n,.s p2.z1c,.z34 p2.zi,.i p2.z2l,.i p2.z11]⟩)]) (fun _=>S.cb S.zr (S.ixf eS fun x72=>S.zr)) fun j71=>S.cb S.q (ih_z0w _ _ _))))) S.zr))) fun j39=>S.q))))))
def A.q0m:Ann:={ seq:=[(8,c1 [6,7])],loop:=[(3,c1 [0,1,6,7,8])] }
theorem C.q0m {p0:List q05} {p1:Z}:Qs (M.q0m p0 p1) 239 ⟨[.l72 p0,.s p1],[],[]⟩ fun r => .ok [.s r.1,.i r.2] [] [] :=
 Kf Tryz.func239 A.q0m [.tmp 4,.tmp 5] (by unfold M.q0m;exact S.j (fun j12=>st [(6,.s j12.1),(7,.i j12.2)]) (fun _=>S.m (S.lw3 (L:=M.z2t p0 p1) (fun x15 x16 x17=>st [(0,.l72 p0),(1,.s p1),(6,.s x15),(7,.i x16),(8,.i x17)]) (M.z2t.partial_correctness _ _) rfl fun _ _ ih_z2t x15 x16 x17=>S.cb (S.ixm q05.z2b fun x20=>S.cb (S.ixm q05.z2b fun x21=>ih_z2t _ _ _) (ih_z2t _ _ _)) S.zr)) fun j12=>S.q)
def A.q1h:Ann:={ reg:=[(2,[(5,0,c1 [4,5])])] }
theorem C.q1h {p0:List q05} {p1:Z}:Qs (M.q1h p0 p1) 236 ⟨[.l72 p0,.s p1],[],[]⟩ fun r => .ok [.s r.1,.b r.2] [] [] :=
 Kf Tryz.func236 A.q1h [.tmp 4,.tmp 5] (by unfold M.q1h;exact S.k0 C.q0m fun a1=>S.n (S.jp (st [(4,.s a1.1),(5,.b (decide (0<a1.2)))]) (fun _=>rfl) S.q))
def A.q2y:Ann:={ reg:=[(3,[(6,0,c1 [4,5])])] }
theorem C.q2y {p0 p1:Z}:Qs (M.q2y p0 p1) 289 ⟨[.s p0,.s p1],[],[]⟩ fun r => .ok [.s r.1,.b r.2] [] [] :=
 Kf Tryz.func289 A.q2y [.tmp 4,.tmp 5] (by unfold M.q2y;exact S.k0 C.q2z fun a3=>S.n (S.cb S.q (S.e fun s5=>S.jp (st [(4,.s s5),(5,.b true)]) (fun _=>rfl) S.q)))
theorem C.q72 {p0 p1:Z}:Qs (M.q72 p0 p1) 237 ⟨[.s p0,.s p1],[],[]⟩ fun r => .ok [.s r.1,.b r.2] [] [] :=
 Kf Tryz.func237 {} [.tmp 4,.tmp 5] (by unfold M.q72;exact S.k0 C.q2y fun a1=>S.n S.q)
def A.q1c:Ann:={ seq:=[(9,c1 [])],loop:=[(3,c1 [15,16,17])],reg:=[(2,[(4,0,c1 [15,16,17])]),(5,[(8,0,c1 [7,8,15,16,17])])] }
theorem C.q1c {p0:List q05}:Qs (M.q1c p0) 235 ⟨[.l72 p0],[],[]⟩ fun r => .ok [.s r] [] [] :=
 Kf Tryz.func235 A.q1c [.tmp 2] (by unfold M.q1c;exact S.k0 C.q1h fun a1=>S.n (S.gn (fun _=>st []) ((by exact S.k0 (C.split _ _) fun a22=>S.n (S.m (S.jp (st [(15,.l9 a22),(16,.i (a22.length:Int)),(17,.i 0)]) (fun _=>rfl) (S.lw (L:=M.z2g a22) (fun x29=>st [(15,.l9 a22),(16,.i (a22.length:Int)),(17,.i x29)]) (M.z2g.partial_correctness _) rfl fun _ _ ih_z2g x29=>S.cb (S.ixf eS fun x35=>S.k0 (C.trim _ _) fun a36=>S.n (S.k0 C.q72 fun a38=>S.n (S.jp (st [(7,.s a38.1),(8,.b a38.2),(15,.l9 a22),(16,.i (a22.length:Int)),(17,.i x29)]) (fun _=>rfl) (S.cb S.q (ih_z2g _))))) S.zr))))) fun j21=>S.q))
def A.q2b:Ann:={ seq:=[(4,cu [1,2,3] [0] []),(9,cu [1,2,3] [0] [])],reg:=[(2,[(6,0,cu [1,2,3] [0] [])]),(3,[(7,0,cu [1,2,3] [0] [])]),(5,[(2,5,cu [1,2,3,6,39] [0] [])]),(7,[(2,3,cu [1,2,3,8,49] [0] [])]),(10,[(2,5,cu [2,10,66] [0] [])]),(11,[(4,4,cu [2,10,74] [0] []),(1,7,cu [2,10,82] [0] [])]),(12,[(9,0,cu [2] [0] [])]),(13,[(6,7,cu [104] [0] [])])],ro:=[3],nb:=1 }
theorem C.q2b {p0:q0a} {p1:List q05} {p2:q00}:Qs (M.q2b p0 p1 p2) 180 ⟨[.agg p0.v,.l72 p1,.p 0],[⟨46,p2.v⟩],[]⟩ (rb 59 .i64 (fun r => .ok [] [⟨46,r.v⟩] []) fun x=>[⟨46,x.v⟩]) :=
 Kf Tryz.func180 A.q2b [] (by unfold M.q2b;exact S.gn (fun j18=>sb [(1,.l72 p1),(2,.p 0),(3,.zm p0.d 0)] [(0,⟨46,[.i p2.zh,.s p2.gOf,.s p2.z2q,.s p2.z2p,.s j18,.s p2.z19,.s p2.z1d,.s p2.z1g,.s p2.z00,.s p2.z0o,.s p2.z02,.s p2.z07,.s p2.z01,.s p2.zv,.s p2.z03,.s p2.z0f,.s p2.zu,.s p2.z2z,.s p2.zt,.s p2.z6e,.s p2.z5k,.s p2.z0n,.s p2.z1c,.z34 p2.zi,.i p2.z2l,.i p2.z11]⟩)]) (S.cb (S.k0 C.q1c fun a19=>S.n (S.jp (sb [(1,.l72 p1),(2,.p 0),(3,.zm p0.d 0)] [(0,⟨46,[.i p2.zh,.s p2.gOf,.s p2.z2q,.s p2.z2p,.s a19,.s p2.z19,.s p2.z1d,.s p2.z1g,.s p2.z00,.s p2.z0o,.s p2.z02,.s p2.z07,.s p2.z01,.s p2.zv,.s p2.z03,.s p2.z0f,.s p2.zu,.s p2.z2z,.s p2.zt,.s p2.z6e,.s p2.z5k,.s p2.z0n,.s p2.z1c,.z34 p2.zi,.i p2.z2l,.i p2.z11]⟩)]) (fun _=>rfl) (S.k0 (C.trim _ _) fun a21=>S.n (S.k0 C.q1p fun a23=>(match a23 with | .pan e26=>S.n S.qb | .ok a25=>S.n (S.jp (sb [(1,.l72 p1),(2,.p 0),(3,.zm p0.d 0)] [(0,⟨46,[.i p2.zh,.s p2.gOf,.s p2.z2q,.s p2.z2p,.s a19,.s p2.z19,.s p2.z1d,.s p2.z1g,.s p2.z00,.s p2.z0o,.s p2.z02,.s p2.z07,.s p2.z01,.s p2.zv,.s p2.z03,.s p2.z0f,.s p2.zu,.s p2.z2z,.s p2.zt,.s p2.z6e,.s p2.z5k,.s p2.z0n,.s p2.z1c,.z34 p2.zi,.i p2.z2l,.i p2.z11]⟩)]) (fun _=>rfl) S.zr)))))) S.zr) fun j18=>S.gn (fun j60=>sb [(1,.l72 p1),(2,.p 0),(3,.zm p0.d 0)] [(0,⟨46,[.i p2.zh,.s p2.gOf,.s p2.z2q,.s p2.z2p,.s j18,.s p2.z19,.s j60,.s p2.z1g,.s p2.z00,.s p2.z0o,.s p2.z02,.s p2.z07,.s p2.z01,.s p2.zv,.s p2.z03,.s p2.z0f,.s p2.zu,.s p2.z2z,.s p2.zt,.s p2.z6e,.s p2.z5k,.s p2.z0n,.s p2.z1c,.z34 p2.zi,.i p2.z2l,.i p2.z11]⟩)]) (S.k0 C.q1h fun a61=>S.n (S.ja0 (fun x63=>sb [(1,.l72 p1),(2,.p 0),(3,.zm p0.d 0),(6,.s a61.1),(39,.b x63)] [(0,⟨46,[.i p2.zh,.s p2.gOf,.s p2.z2q,.s p2.z2p,.s j18,.s p2.z19,.s p2.z1d,.s p2.z1g,.s p2.z00,.s p2.z0o,.s p2.z02,.s p2.z07,.s p2.z01,.s p2.zv,.s p2.z03,.s p2.z0f,.s p2.zu,.s p2.z2z,.s p2.zt,.s p2.z6e,.s p2.z5k,.s p2.z0n,.s p2.z1c,.z34 p2.zi,.i p2.z2l,.i p2.z11]⟩)]) rfl (S.cb (S.k0 C.q72 fun a65=>S.n (S.j (fun j70=>sb [(1,.l72 p1),(2,.p 0),(3,.zm p0.d 0),(8,.s a65.1),(49,.b j70)] [(0,⟨46,[.i p2.zh,.s p2.gOf,.s p2.z2q,.s p2.z2p,.s j18,.s p2.z19,.s p2.z1d,.s p2.z1g,.s p2.z00,.s p2.z0o,.s p2.z02,.s p2.z07,.s p2.z01,.s p2.zv,.s p2.z03,.s p2.z0f,.s p2.zu,.s p2.z2z,.s p2.zt,.s p2.z6e,.s p2.z5k,.s p2.z0n,.s p2.z1c,.z34 p2.zi,.i p2.z2l,.i p2.z11]⟩)]) (fun _=>S.cb (S.k0 C.q1x fun a71=>S.n S.zr) S.zr) fun j70=>S.k0 C.q1p fun a73=>(match a73 with | .pan e76=>S.n S.qb | .ok a75=>S.n S.zr))) S.zr))) fun j60=>S.k0 C.q1h fun a77=>S.n (S.ja0 (fun x79=>sb [(2,.p 0),(10,.s a77.1),(66,.b x79)] [(0,⟨46,[.i p2.zh,.s p2.gOf,.s p2.z2q,.s p2.z2p,.s j18,.s p2.z19,.s j60,.s p2.z1g,.s p2.z00,.s p2.z0o,.s p2.z02,.s p2.z07,.s p2.z01,.s p2.zv,.s p2.z03,.s p2.z0f,.s p2.zu,.s p2.z2z,.s p2.zt,.s p2.z6e,.s p2.z5k,.s p2.z0n,.s p2.z1c,.z34 p2.zi,.i p2.z2l,.i p2.z11]⟩)]) rfl (S.cb (by exact S.j (fun j83=>sb [(2,.p 0),(10,.s a77.1),(74,.b j83)] [(0,⟨46,[.i p2.zh,.s p2.gOf,.s p2.z2q,.s p2.z2p,.s j18,.s p2.z19,.s j60,.s p2.z1g,.s p2.z00,.s p2.z0o,.s p2.z02,.s p2.z07,.s p2.z01,.s p2.zv,.s p2.z03,.s p2.z0f,.s p2.zu,.s p2.z2z,.s p2.zt,.s p2.z6e,.s p2.z5k,.s p2.z0n,.s p2.z1c,.z34 p2.zi,.i p2.z2l,.i p2.z11]⟩)]) (fun _=>S.cb (S.e fun c84=>S.zr) S.zr) fun j83=>S.j (fun j87=>sb [(2,.p 0),(10,.s a77.1),(82,.b j87)] [(0,⟨46,[.i p2.zh,.s p2.gOf,.s p2.z2q,.s p2.z2p,.s j18,.s p2.z19,.s j60,.s p2.z1g,.s p2.z00,.s p2.z0o,.s p2.z02,.s p2.z07,.s p2.z01,.s p2.zv,.s p2.z03,.s p2.z0f,.s p2.zu,.s p2.z2z,.s p2.zt,.s p2.z6e,.s p2.z5k,.s p2.z0n,.s p2.z1c,.z34 p2.zi,.i p2.z2l,.i p2.z11]⟩)]) (fun _=>S.cb (S.e fun c88=>S.zr) S.zr) fun j87=>S.k0 C.q1p fun a89=>(match a89 with | .pan e92=>S.n S.qb | .ok a91=>S.n (S.e fun s93=>S.jp (sb [(2,.p 0)] [(0,⟨46,[.i p2.zh,.s p2.gOf,.s p2.z2q,.s p2.z2p,.s j18,.s p2.z19,.s j60,.s p2.z1g,.s p2.z00,.s p2.z0o,.s p2.z02,.s p2.z07,.s p2.z01,.s p2.zv,.s p2.z03,.s p2.z0f,.s p2.zu,.s p2.z2z,.s p2.zt,.s p2.z6e,.s s93,.s p2.z0n,.s p2.z1c,.z34 p2.zi,.i p2.z2l,.i p2.z11]⟩)]) (fun _=>rfl) (S.k0 C.q1x fun a94=>S.n (S.j (fun j99=>sb [(104,.b j99)] [(0,⟨46,[.i p2.zh,.s p2.gOf,.s p2.z2q,.s p2.z2p,.s j18,.s p2.z19,.s j60,.s p2.z1g,.s p2.z00,.s p2.z0o,.s p2.z02,.s p2.z07,.s p2.z01,.s p2.zv,.s p2.z03,.s p2.z0f,.s p2.zu,.s p2.z2z,.s p2.zt,.s p2.z6e,.s s93,.s p2.z0n,.s p2.z1c,.z34 p2.zi,.i p2.z2l,.i p2.z11]⟩)]) (fun _=>S.cb (S.k0 (C.contains _ _) fun a100=>S.n S.zr) S.zr) fun j99=>S.k0 C.q1p fun a102=>(match a102 with | .pan e105=>S.n S.qb | .ok a104=>S.n S.q)))))) S.q)))
def A.q2a:Ann:={ nb:=1 }
theorem C.q2a {p0:q0b} {p1:q05}:Qs (M.q2a p0 p1) 241 ⟨[.agg p0.v,.p 0],[⟨72,p1.v⟩],[]⟩ fun r => .ok [.b r] [⟨72,p1.v⟩] [] :=
 Kf Tryz.func241 A.q2a [.tmp 3] (by unfold M.q2a;exact S.q)
def A.q6v:Ann:={ seq:=[(7,cu [] [0] [])],loop:=[(2,cu [0,1,7,8] [0] [])],reg:=[(5,[(2,0,cu [4] [0] [])]),(6,[(2,0,cu [0,1,7,8] [0] [])])],nb:=1 }
theorem C.q6v {p0:List q0b} {p1:q05}:Qs (M.q6v p0 p1) 290 ⟨[.z8i p0,.fn 241 [] [.p 0]],[⟨72,p1.v⟩],[]⟩ fun r => .ok [.i r] [⟨72,p1.v⟩] [] :=
 Kf Tryz.func290 A.q6v [.tmp 4] (by unfold M.q6v;exact S.gn (fun _=>sb [] [(0,⟨72,p1.v⟩)]) (S.m (S.lw (L:=M.zg p0 p1) (fun x15=>sb [(0,.z8i p0),(1,.fn 241 [] [.p 0]),(7,.i (p0.length:Int)),(8,.i x15)] [(0,⟨72,p1.v⟩)]) (M.zg.partial_correctness _ _) rfl fun _ _ ih_zg x15=>S.cb (S.ixm q0b.z2b fun x19=>S.kk [0] [] [] C.q2a fun a20=>S.n (S.cb (S.jp (sb [(4,.i x15)] [(0,⟨72,p1.v⟩)]) (fun _=>rfl) S.q) (S.jp (sb [(0,.z8i p0),(1,.fn 241 [] [.p 0]),(7,.i (p0.length:Int)),(8,.i (ya .i64 (x15+1)))] [(0,⟨72,p1.v⟩)]) (fun _=>rfl) (ih_zg _)))) S.zr)) fun j11=>S.q)
def A.q6q:Ann:={ nb:=1 }
theorem C.q6q {p0:List q0b} {p1:q05}:Qs (M.q6q p0 p1) 240 ⟨[.z8i p0,.fn 241 [] [.p 0]],[⟨72,p1.v⟩],[]⟩ fun r => .ok [.b r] [⟨72,p1.v⟩] [] :=
 Kf Tryz.func240 A.q6q [.tmp 4] (by unfold M.q6q;exact S.kk [0] [] [] C.q6v fun a1=>S.n S.q)
def A.q2p:Ann:={ nb:=1 }
theorem C.q2p {p0:q0b} {p1:q00}:Qs (M.q2p p0 p1) 173 ⟨[.agg p0.v,.p 0],[⟨46,p1.v⟩],[]⟩ fun r => .ok [pn 0 r] [⟨46,p1.v⟩] [] :=
 Kf Tryz.func173 A.q2p [.tmp 4] (by unfold M.q2p;exact S.cb S.q (S.cb S.q S.q))
def A.q0j:Ann:={ seq:=[(15,{ L:=[4,5,6],B:=[],A:=[3002],H:=[(.slot 4 none,3002,5,1)] })],loop:=[(4,{ L:=[4,5,6,11,12,13],B:=[],A:=[3003],H:=[(.slot 4 none,3003,5,1)] })],reg:=[(8,[(2,0,c1 [2,3])]),(13,[(6,0,{ L:=[4,5,6,11,12,13],B:=[],A:=[100651],H:=[(.slot 4 none,100651,5,1)] })]),(15,[(3,3,{ L:=[4,49],B:=[],A:=[3004],H:=[(.slot 4 none,3004,5,1)] })])] }
theorem C.q0j {p0:Z}:Qs (M.q0j p0) 242 ⟨[.s p0],[],[]⟩ fun r => .ok [.s r.1,.i r.2] [] [] :=
 Kf Tryz.func242 A.q0j [.tmp 2,.tmp 3] (by unfold M.q0j;exact S.gn (fun j20=>⟨[(4,.ref 3002),(5,.i j20.2.1),(6,.i j20.2.2)],[],[(3002,⟨true,5,1,(j20.1.map (eI .u8))⟩)],none⟩) (S.e fun _=>(by exact S.m (S.lw4 (L:=M.z0u p0) (fun x25 x26 x27 x28=>⟨[(4,.ref 3003),(5,.i x26),(6,.i x27),(11,.l5 (unb p0)),(12,.i ((unb p0).length:Int)),(13,.i x28)],[],[(3003,⟨true,5,1,(x25.map (eI .u8))⟩)],none⟩) (M.z0u.partial_correctness _) rfl fun _ _ ih_z0u x25 x26 x27 x28=>S.cb (S.ixf (eI .u8) fun x33=>S.k0 (C.z0y _ _) fun a34=>S.n (S.cb (S.jp (st [(2,.s []),(3,.i 11)]) (fun _=>rfl) S.q) (S.eq (by decide:chk _=some ()) (S.cb (S.e fun _=>S.zfl (eI .u8) fun l36=>S.e fun _=>S.jp (⟨[(4,.ref 100651),(5,.i (z7w .i64 (orI .i64 (z5x .i64 x26 6) a34) (ya .i64 ((z5x .i64 1 (ya .i64 ((ya .i64 (x27+6)) - 8))) - 1)))),(6,.i (ya .i64 ((ya .i64 (x27+6)) - 8))),(11,.l5 (unb p0)),(12,.i ((unb p0).length:Int)),(13,.i x28)],[],[(100651,⟨true,5,1,(l36.map (eI .u8))⟩)],none⟩) (fun _=>rfl) (ih_z0u _ _ _ _)) (ih_z0u _ _ _ _))))) S.zr))) fun j20=>S.ju0 (fun x37=>⟨[(4,.ref 3004),(49,.b x37)],[],[(3004,⟨true,5,1,(j20.1.map (eI .u8))⟩)],none⟩) rfl (S.cb S.q (S.d S.q)))
def A.q2r:Ann:={ nb:=1 }
theorem C.q2r {p0:q00}:Qs (M.q2r p0) 155 ⟨[.p 0],[⟨46,p0.v⟩],[]⟩ fun r => .ok [.ptr 0 r] [⟨46,p0.v⟩] [] :=
 Kf Tryz.func155 A.q2r [.tmp 2] (by unfold M.q2r;exact S.q)
def A.q1y:Ann:={ nb:=1 }
theorem C.q1y {p0:q00}:Qs (M.q1y p0) 156 ⟨[.p 0],[⟨46,p0.v⟩],[]⟩ fun r => .ok [.ptr 0 r] [⟨46,p0.v⟩] [] :=
 Kf Tryz.func156 A.q1y [.tmp 2] (by unfold M.q1y;exact S.q)
def A.q1b:Ann:={ nb:=1 }
theorem C.q1b {p0:q00}:Qs (M.q1b p0) 157 ⟨[.p 0],[⟨46,p0.v⟩],[]⟩ fun r => .ok [.ptr 0 r] [⟨46,p0.v⟩] [] :=
 Kf Tryz.func157 A.q1b [.tmp 2] (by unfold M.q1b;exact S.q)
def A.q1r:Ann:={ nb:=1 }
theorem C.q1r {p0:q00}:Qs (M.q1r p0) 158 ⟨[.p 0],[⟨46,p0.v⟩],[]⟩ fun r => .ok [.ptr 0 r] [⟨46,p0.v⟩] [] :=
 Kf Tryz.func158 A.q1r [.tmp 2] (by unfold M.q1r;exact S.q)
def A.q1d:Ann:={ nb:=1 }
theorem C.q1d {p0:q00}:Qs (M.q1d p0) 160 ⟨[.p 0],[⟨46,p0.v⟩],[]⟩ fun r => .ok [.ptr 0 r] [⟨46,p0.v⟩] [] :=
 Kf Tryz.func160 A.q1d [.tmp 2] (by unfold M.q1d;exact S.q)
def A.q12:Ann:={ nb:=1 }
theorem C.q12 {p0:q00}:Qs (M.q12 p0) 161 ⟨[.p 0],[⟨46,p0.v⟩],[]⟩ fun r => .ok [.ptr 0 r] [⟨46,p0.v⟩] [] :=
 Kf Tryz.func161 A.q12 [.tmp 2] (by unfold M.q12;exact S.q)
def A.q2l:Ann:={ nb:=1 }
theorem C.q2l {p0:q00}:Qs (M.q2l p0) 162 ⟨[.p 0],[⟨46,p0.v⟩],[]⟩ fun r => .ok [.ptr 0 r] [⟨46,p0.v⟩] [] :=
 Kf Tryz.func162 A.q2l [.tmp 2] (by unfold M.q2l;exact S.q)
def A.q2o:Ann:={ nb:=1 }
theorem C.q2o {p0:q00}:Qs (M.q2o p0) 163 ⟨[.p 0],[⟨46,p0.v⟩],[]⟩ fun r => .ok [.ptr 0 r] [⟨46,p0.v⟩] [] :=
 Kf Tryz.func163 A.q2o [.tmp 2] (by unfold M.q2o;exact S.q)
def A.q1a:Ann:={ nb:=1 }
theorem C.q1a {p0:q00}:Qs (M.q1a p0) 152 ⟨[.p 0],[⟨46,p0.v⟩],[]⟩ fun r => .ok [.ptr 0 r] [⟨46,p0.v⟩] [] :=
 Kf Tryz.func152 A.q1a [.tmp 2] (by unfold M.q1a;exact S.q)
def A.q25:Ann:={ nb:=1 }
theorem C.q25 {p0:q00}:Qs (M.q25 p0) 164 ⟨[.p 0],[⟨46,p0.v⟩],[]⟩ fun r => .ok [.ptr 0 r] [⟨46,p0.v⟩] [] :=
 Kf Tryz.func164 A.q25 [.tmp 2] (by unfold M.q25;exact S.q)
def A.q2j:Ann:={ nb:=1 }
theorem C.q2j {p0:q00}:Qs (M.q2j p0) 165 ⟨[.p 0],[⟨46,p0.v⟩],[]⟩ fun r => .ok [.ptr 0 r] [⟨46,p0.v⟩] [] :=
 Kf Tryz.func165 A.q2j [.tmp 2] (by unfold M.q2j;exact S.q)
def A.q16:Ann:={ nb:=1 }
theorem C.q16 {p0:q00}:Qs (M.q16 p0) 166 ⟨[.p 0],[⟨46,p0.v⟩],[]⟩ fun r => .ok [.ptr 0 r] [⟨46,p0.v⟩] [] :=
 Kf Tryz.func166 A.q16 [.tmp 2] (by unfold M.q16;exact S.q)
def A.q1s:Ann:={ nb:=1 }
theorem C.q1s {p0:q00}:Qs (M.q1s p0) 167 ⟨[.p 0],[⟨46,p0.v⟩],[]⟩ fun r => .ok [.ptr 0 r] [⟨46,p0.v⟩] [] :=
 Kf Tryz.func167 A.q1s [.tmp 2] (by unfold M.q1s;exact S.q)
def A.q2t:Ann:={ nb:=1 }
theorem C.q2t {p0:q00}:Qs (M.q2t p0) 168 ⟨[.p 0],[⟨46,p0.v⟩],[]⟩ fun r => .ok [.ptr 0 r] [⟨46,p0.v⟩] [] :=
 Kf Tryz.func168 A.q2t [.tmp 2] (by unfold M.q2t;exact S.q)
def A.q0z:Ann:={ nb:=1 }
theorem C.q0z {p0:q00}:Qs (M.q0z p0) 169 ⟨[.p 0],[⟨46,p0.v⟩],[]⟩ fun r => .ok [.ptr 0 r] [⟨46,p0.v⟩] [] :=
 Kf Tryz.func169 A.q0z [.tmp 2] (by unfold M.q0z;exact S.q)
def A.q0y:Ann:={ nb:=1 }
theorem C.q0y {p0:q00}:Qs (M.q0y p0) 170 ⟨[.p 0],[⟨46,p0.v⟩],[]⟩ fun r => .ok [.ptr 0 r] [⟨46,p0.v⟩] [] :=
 Kf Tryz.func170 A.q0y [.tmp 2] (by unfold M.q0y;exact S.q)
def A.q1g:Ann:={ nb:=1 }
theorem C.q1g {p0:q00}:Qs (M.q1g p0) 171 ⟨[.p 0],[⟨46,p0.v⟩],[]⟩ fun r => .ok [.ptr 0 r] [⟨46,p0.v⟩] [] :=
 Kf Tryz.func171 A.q1g [.tmp 2] (by unfold M.q1g;exact S.q)
def A.q2k:Ann:={ nb:=1 }
theorem C.q2k {p0:q00}:Qs (M.q2k p0) 153 ⟨[.p 0],[⟨46,p0.v⟩],[]⟩ fun r => .ok [.ptr 0 r] [⟨46,p0.v⟩] [] :=
 Kf Tryz.func153 A.q2k [.tmp 2] (by unfold M.q2k;exact S.q)
theorem C.q0q {p0:Nat} {p1:q00}:Qs (M.q0q p0 p1) p0 ⟨[.p 0],[⟨46,p1.v⟩],[]⟩ fun r => .ok [.ptr 0 r] [⟨46,p1.v⟩] []:=by
 unfold M.q0q
 refine S.di (fun h => ?_) ?_
 ·subst h;exact C.q2r
 refine S.di (fun h => ?_) ?_
 ·subst h;exact C.q1y
 refine S.di (fun h => ?_) ?_
 ·subst h;exact C.q1b
 refine S.di (fun h => ?_) ?_
 ·subst h;exact C.q1r
 refine S.di (fun h => ?_) ?_
 ·subst h;exact C.q1d
 refine S.di (fun h => ?_) ?_
 ·subst h;exact C.q12
 refine S.di (fun h => ?_) ?_
 ·subst h;exact C.q2l
 refine S.di (fun h => ?_) ?_
 ·subst h;exact C.q2o
 refine S.di (fun h => ?_) ?_
 ·subst h;exact C.q1a
 refine S.di (fun h => ?_) ?_
 ·subst h;exact C.q25
 refine S.di (fun h => ?_) ?_
 ·subst h;exact C.q2j
 refine S.di (fun h => ?_) ?_
 ·subst h;exact C.q16
 refine S.di (fun h => ?_) ?_
 ·subst h;exact C.q1s
 refine S.di (fun h => ?_) ?_
 ·subst h;exact C.q2t
 refine S.di (fun h => ?_) ?_
 ·subst h;exact C.q0z
 refine S.di (fun h => ?_) ?_
 ·subst h;exact C.q0y
 refine S.di (fun h => ?_) ?_
 ·subst h;exact C.q1g
 refine S.di (fun h => ?_) ?_
 ·subst h;exact C.q2k
 exact fun _ h=>by cases h
end Go.Proofs.YtfdoofnmjehecaaGreatDoor
