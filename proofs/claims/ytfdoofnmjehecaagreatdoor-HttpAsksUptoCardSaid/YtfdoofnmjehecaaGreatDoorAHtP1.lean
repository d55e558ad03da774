import Derived.Test.YtfdoofnmjehecaaGreatDoorAHtV
set_option linter.all false
set_option maxRecDepth 1000000
set_option maxHeartbeats 4000000
namespace Go.Proofs.YtfdoofnmjehecaaGreatDoor
open _root_.List renaming map_cons → ya, map_nil → yb
open Go.Lk Go.Pe Go.Sen Go.RowKit
theorem C.q1h {p0:Z}:Q1 (M.q1h p0) 31 [.s p0] fun r=>[.i r] :=
 Kf Tryz.func31 {} (S.e fun s1=>S.k0 (C.z5q _ _) fun a2=>S.n (S.cb S.q S.q))
theorem C.q1s {p0:Bool} {p1:Int}:Qs (M.q1s p0 p1) 32 ⟨[.b p0,.i p1],[],[]⟩ (ro 59 .i64 fun _ => .ok [] [] []) :=
 Kf Tryz.func32 {} (S.cb S.zr S.q)
def A.q1r:Ann:={ reg:=[(1,[(3,4,c1 [0,9]),(1,4,c1 [14])])] }
theorem C.q1r {p0:Z}:Q1 (M.q1r p0) 54 [.s p0] fun r=>[.b r] :=
 Kf Tryz.func54 A.q1r (S.ja0 9 rfl (S.ho (fun j6=>oL [(14,.b j6)]) (fun _=>S.cb (S.k0 (C.trim _ _) fun a7=>S.n S.zr) S.zr) fun j6=>S.q))
def A.q36:Ann:={ reg:=[(1,[(6,7,c1 [17])])] }
theorem C.q36 {p0 p1:Z}:Q1 (M.q36 p0 p1) 209 [.s p0,.s p1] fun r=>[.b r] :=
 Kf Tryz.func209 A.q36 (S.ho (fun j3=>oL [(17,.b j3)]) (fun _=>S.cb (S.e fun s4=>S.zr) S.zr) fun j3=>S.q)
theorem C.q7d {p0 p1:Z}:Q1 (M.q7d p0 p1) 98 [.s p0,.s p1] fun r=>[.b r] :=
 Kf Tryz.func98 {} (S.k0 C.q36 fun a1=>S.n S.q)
def A.q22:Ann:={ seq:=[(7,c1 [])],loop:=[(2,c1 [0,1,2,9,10])],reg:=[(4,[(6,6,c1 [0,1,2,9,10,24])])] }
theorem C.q22 {p0:Z} {p1 p2:Int}:Q1 (M.q22 p0 p1 p2) 99 [.s p0,.int .u8 p1,.int .u8 p2] fun r=>[.b r] :=
 Kf Tryz.func99 A.q22 (S.gn (fun _=>oL []) (S.lw (L:=M.z4s p0 p1 p2) (fun x23=>oL [(10,.i x23)]) (M.z4s.partial_correctness _ _ _) rfl fun _ _ ih_z4s x23=>S.cb (S.e fun c29=>S.ho (fun j32=>oL [(24,.b j32)]) (fun _=>S.cb S.zr (S.e fun c33=>S.zr)) fun j32=>S.cb S.q (ih_z4s _)) S.zr) fun j17=>S.q)
def A.q7b:Ann:={ fin:=[(.cell 0 1,0,5,1)],nb:=1 }
theorem C.q7b {p0:List Int} {p1:Z}:Qs (M.q7b p0 p1) 56 ⟨[.p 0,.s p1],[⟨89,[.z1l 0,.ref 0]⟩],[(5,1,(p0.map (eI .u8)))]⟩ fun r => .ok [.i r.1,.ze6] [⟨89,[.z1l 0,.ref 0]⟩] [some (5,1,(r.2.map (eI .u8)))] :=
 Kf Tryz.func56 A.q7b (S.kk [0] [0] [5020] (C.z4g _) fun a1=>S.n (S.z8f (eI .u8) fun l3=>S.q))
def A.q0o:Ann:={ reg:=[(4,[(10,3,c1 [25,31])])],drw:=[(3,{ anc:=[0,0,2,7,0,0,32,127,255,511],E:=[3,7],qs:=[0,1,2,4,5,6],g:=.one 3 [4,5,6] [] (.one 7 [] [8,9] (.fin)),lin:=some [] })] }
theorem C.q0o {p0 p1:Z}:Q1 (M.q0o p0 p1) 210 [.s p0,.s p1] fun r=>[.int .u8 r.1,.b r.2] :=
 Kf Tryz.func210 A.q0o (S.cb S.q (S.e fun c1=>S.e fun c2=>S.k0 (C.z1b _ _) fun a3=>S.n (S.k0 (C.z1b _ _) fun a5=>S.n (S.eq (by decide:chk _=some ()) (S.eq (by decide:chk _=some ()) (S.eq (by decide:chk _=some ()) (S.ja0 31 rfl (S.q))))))))
def A.q7a:Ann:={ fin:=[(.cell 0 1,0,5,1)],nb:=1 }
theorem C.q7a {p0:List Int} {p1:Int}:Qs (M.q7a p0 p1) 108 ⟨[.p 0,.int .u8 p1],[⟨89,[.z1l 0,.ref 0]⟩],[(5,1,(p0.map (eI .u8)))]⟩ fun r => .ok [.ze6] [⟨89,[.z1l 0,.ref 0]⟩] [some (5,1,(r.map (eI .u8)))] :=
 Kf Tryz.func108 A.q7a (S.kk [0] [0] [5020] (C.z4g _) fun a1=>S.n (S.z8f (eI .u8) fun l3=>S.q))
def A.q0l:Ann:={ loop:=[(2,{ L:=[0,4],B:=[1004],A:=[3003],H:=[(.cell 1004 1,3003,5,1)] })],reg:=[(7,[(3,4,{ L:=[4,6,8,32],B:=[1004],A:=[3005],H:=[(.cell 1004 1,3005,5,1)] })])] }
theorem C.q0l {p0:Z}:Q1 (M.q0l p0) 100 [.s p0] fun r=>[.s r.1,.i r.2] :=
 Kf Tryz.func100 A.q0l (S.lw2 (L:=M.z1m) (fun x22 x23=>⟨[(0,.s x22)],[(1004,⟨89,[.z1l 1004,.ref 3003]⟩)],[(3003,⟨true,5,1,(x23.map (eI .u8))⟩)]⟩) (M.z1m.partial_correctness) rfl fun _ _ ih_z1m x22 x23=>S.k0 (C.cut _ _) fun a45=>S.n (S.kk [1004] [3003] [5480] C.q7b fun a47=>S.n (S.cb (S.kk [1004] [5480] [5520] (C.zn _) fun a51=>S.n S.q) (S.k0 C.q0o fun a53=>S.n (S.ho (fun j59=>⟨[(32,.b j59)],[(1004,⟨89,[.z1l 1004,.ref 3005]⟩)],[(3005,⟨true,5,1,(a47.2.map (eI .u8))⟩)]⟩) (fun _=>S.cb S.zr (S.e fun s60=>S.k0 (C.containsAny _ _) fun a61=>S.n S.zr)) fun j59=>S.cb S.q (S.kk [1004] [3005] [5640] C.q7a fun a63=>S.n (S.e fun s65=>ih_z1m _ _)))))))
def A.q0k:Ann:={ seq:=[(19,{ L:=[5],B:=[],A:=[3006],H:=[(.slot 5 none,3006,72,2)] })],loop:=[(8,{ L:=[5,29,30,31],B:=[],A:=[3007],H:=[(.slot 5 none,3007,72,2)] })],reg:=[(2,[(4,4,c1 [0,4,25])]),(15,[(3,3,{ L:=[5,11,13,29,30,31,59],B:=[],A:=[3011],H:=[(.slot 5 none,3011,72,2)] })])] }
theorem C.q0k {p0:Z}:Q1 (M.q0k p0) 101 [.s p0] fun r=>[.l72 r.1,.i r.2] :=
 Kf Tryz.func101 A.q0k (S.k0 (C.split _ _) fun a1=>S.n (S.ju 25 (fun _=>Ex.i z4b (jbI rfl rfl)) (S.cb S.q (S.cb S.q (S.gn (fun j52=>⟨[(5,.ref 3006)],[],[(3006,⟨true,72,2,(j52.map q05.enc)⟩)]⟩) (S.m (S.lw2 (L:=M.z1t a1) (fun x67 x68=>⟨[(5,.ref 3007),(31,.i x68)],[],[(3007,⟨true,72,2,(x67.map q05.enc)⟩)]⟩) (M.z1t.partial_correctness _) rfl fun _ _ ih_z1t x67 x68=>S.cb (by exact S.ixf eS fun x83=>S.cb S.q (S.k0 (C.replaceAll _ _ _) fun a84=>S.n (S.k0 (C.cut _ _) fun a86=>S.n (S.k0 C.q0l fun a88=>S.n (S.k0 C.q0l fun a90=>S.n (S.ju0 59 rfl (S.cb S.q (S.z8f q05.enc (fun l96=>ih_z1t _ _) (by first|rfl|simp only [ya,yb,q05.z1i]))))))))) S.zr)) fun j52=>S.q)))))
def A.q2v:Ann:={ seq:=[(12,{ L:=[2,4,6],B:=[1002,1004],A:=[3002],H:=[(.cell 1004 1,3002,9,1)] })],loop:=[(6,{ L:=[2,4,6,58,59,60],B:=[1002,1004],A:=[3003],H:=[(.cell 1004 1,3003,9,1)] })],reg:=[(2,[(4,5,cu [2,3,24] [1002] []),(1,5,cu [2,3,30] [1002] []),(1,5,cu [2,3,36] [1002] []),(1,5,cu [2,3,42] [1002] [])]),(13,[(3,5,{ L:=[2,4,12,91],B:=[1002,1004],A:=[3004],H:=[(.cell 1004 1,3004,9,1)] })])],fin:=[(.cell 1002 3,0,72,2)] }
theorem C.q2v {p0:Z}:Qs (M.q2v p0) 34 ⟨[.s p0],[],[]⟩ (ro 59 .i64 fun r => .ok [.agg [.s r.z02,.l9 r.z09,.l72 r.z0r,.ref 0,.s r.z01]] [] [some (72,2,(r.z0h.map q05.enc))]) :=
 Kf Tryz.func34 A.q2v (S.k0 (C.split _ _) fun a1=>S.n (S.m (S.ho (fun j7=>oL [(24,.b j7)]) (fun _=>S.cb (S.ixf eS fun x8=>S.k0 C.q1r fun a9=>S.n S.zr) S.zr) fun j7=>S.ho (fun j13=>oL [(30,.b j13)]) (fun _=>S.cb (S.ixf eS fun x14=>S.zr) S.zr) fun j13=>S.ho (fun j19=>oL [(36,.b j19)]) (fun _=>S.cb (S.ixf eS fun x20=>S.k0 C.q7d fun a21=>S.n S.zr) S.zr) fun j19=>S.ho (fun j27=>oL [(42,.b j27)]) (fun _=>S.cb (S.ixf eS fun x28=>S.k0 C.q22 fun a29=>S.n S.zr) S.zr) fun j27=>S.k0 C.q1s fun a31=>(by exact (match a31 with | .pan e34=>S.n S.zr | .ok a33=>S.n (S.ixf eS fun x35=>S.ixf eS fun x36=>S.k0 (C.cut _ _) fun a37=>S.n (S.gn (fun j69=>⟨[],[(1004,⟨25,[.s x35,.ref 3002,.nil,.nil,.s []]⟩)],[(3002,⟨true,9,1,(j69.map eS)⟩)]⟩) ((by exact S.e fun s70=>S.k0 (C.split _ _) fun a71=>S.n (S.m (S.lw2 (L:=M.z3t a71) (fun x81 x82=>⟨[(60,.i x81)],[(1004,⟨25,[.s x35,.ref 3003,.nil,.nil,.s []]⟩)],[(3003,⟨true,9,1,(x82.map eS)⟩)]⟩) (M.z3t.partial_correctness _) rfl fun _ _ ih_z3t x81 x82=>S.cb (S.ixf eS fun x91=>S.k0 C.q0l fun a92=>S.n (S.k0 C.q1s fun a94=>(match a94 with | .pan e97=>S.n S.zr | .ok a96=>S.n (S.z8f eS fun l98=>ih_z3t _ _)))) S.zr)))) fun j69=>S.k0 C.q0k fun a99=>S.n (S.ja 91 (fun _=>Ex.i z4b (jbI rfl rfl)) (S.k0 C.q1s fun a103=>(match a103 with | .pan e106=>S.n S.zr | .ok a105=>S.n S.q))))))))))
def A.q1t:Ann:={ reg:=[(1,[(3,4,c1 [0,9]),(1,4,c1 [14])])] }
theorem C.q1t {p0:Z}:Q1 (M.q1t p0) 39 [.s p0] fun r=>[.b r] :=
 Kf Tryz.func39 A.q1t (S.ja0 9 rfl (S.ho (fun j6=>oL [(14,.b j6)]) (fun _=>S.cb (S.k0 (C.trim _ _) fun a7=>S.n S.zr) S.zr) fun j6=>S.q))
def A.q2x:Ann:={ reg:=[(1,[(3,5,c1 [10])])] }
theorem C.q2x {p0:Z}:Q1 (M.q2x p0) 40 [.s p0] fun r=>[.b r] :=
 Kf Tryz.func40 A.q2x (S.k0 C.q22 fun a1=>S.n (S.ho (fun j6=>oL [(10,.b j6)]) (fun _=>S.cb (S.k0 (C.trim _ _) fun a7=>S.n S.zr) S.zr) fun j6=>S.q))
def A.q1w:Ann:={ reg:=[(2,[(4,5,c1 [0,6,13,21]),(1,3,c1 [0,6,13,25]),(1,5,c1 [13,31])])] }
theorem C.q1w {p0:Z} {p1:Int}:Q1 (M.q1w p0 p1) 41 [.s p0,.i p1] fun r=>[.i r.1,.b r.2] :=
 Kf Tryz.func41 A.q1w (S.k0 (C.atoi _) fun a1=>S.n (S.ja0 21 rfl (S.ja0 25 rfl (S.ho (fun j10=>oL [(31,.b j10)]) (fun _=>S.cb (S.k0 (C.itoa _) fun a11=>S.n S.zr) S.zr) fun j10=>S.q))))
def A.q0s:Ann:={ seq:=[(23,{ L:=[0,2,3,4,6,7],B:=[990,991,992,1037],A:=[3012],H:=[(.cell 990 3,3012,72,2)] })],loop:=[(10,{ L:=[0,2,3,4,6,7,40,41,42],B:=[990,991,992,1037],A:=[3017],H:=[(.cell 990 3,3017,72,2)] })],reg:=[(3,[(3,4,cu [0,2,3,4,23] [990,991,992] [])]),(16,[(2,3,{ L:=[0,2,3,4,6,7,10,13,40,41,42,66],B:=[990,991,992,1037],A:=[3021],H:=[(.cell 990 3,3021,72,2)] }),(1,4,{ L:=[0,2,3,4,6,7,10,13,40,41,42,71],B:=[990,991,992,1037],A:=[3022],H:=[(.cell 990 3,3022,72,2)] }),(1,5,{ L:=[0,2,3,4,6,7,10,13,40,41,42,77],B:=[990,991,992,1037],A:=[3023],H:=[(.cell 990 3,3023,72,2)] })])],drw:=[(27,{ anc:=[0,0,0,6,1,31,63],E:=[4,5,6],qs:=[0,1,2,3],g:=.one 4 [1,2,3] [] (.one 5 [] [] (.one 6 [] [] (.fin))) })],ro:=[13] }
theorem C.zoo:zev Tryz.prog GG 30 [(25,5),(3,1),(26,1)] 59 .i64 (fun e=>[⟨25,[.s [],.nil,.nil,.nil,.s []]⟩,⟨3,[.i 0]⟩,⟨26,[.i e]⟩]):=⟨Kr Tryz.func30 { drw:=[(2,{ anc:=[0,0,2,1,9,31],E:=[3,4,5],qs:=[0,1,2],g:=.one 3 [1,2] [] (.one 4 [1,2] [] (.one 5 [] [] (.fin))) })] } (S.q),fun e=>Kr Tryz.func30 { drw:=[(2,{ anc:=[0,0,2,1,9,31],E:=[3,4,5],qs:=[0,1,2],g:=.one 3 [1,2] [] (.one 4 [1,2] [] (.one 5 [] [] (.fin))) })],nb:=3 } (S.n (S.n (S.n (S.n S.q))))⟩
theorem C.q0s {p0:Z}:Q1 (M.q0s p0) 12 [.s p0] fun r=>[.agg r.1.v,.i r.2.1,.i r.2.2] :=
 Ke C.zoo Tryz.func12 A.q0s (S.k0 C.q1h fun a1=>S.n (S.ju0 23 rfl (S.k0 C.q1s fun a5=>(match a5 with | .pan e8=>S.n S.qd | .ok a7=>S.n (S.k0 C.q1s fun a9=>(by exact (match a9 with | .pan e12=>S.n S.qd | .ok a11=>S.n (S.e fun s13=>S.k0 (C.split _ _) fun a14=>S.n (S.ixf eS fun x16=>S.kk [] [] [5180] C.q2v fun a17=>(match a17 with | .pan e20=>S.n S.qd | .ok a19=>S.n (S.z89 (l:=[]) (f:=(fun x:Z × Bool=>D.str x.1::eB x.2)) (kf:=D.str) (vf:=eB) (fun _=>rfl) z8v rfl rfl fun m21=>S.gn (fun j144=>⟨[(6,.i j144.1)],[(990,⟨25,[.s a19.z02,.l9 a19.z09,.l72 a19.z0r,.ref 3012,.s a19.z01]⟩),(1037,⟨1000000,[.md (.cont none false (j144.2.2.map (fun x:Z × Bool=>D.str x.1::eB x.2)))]⟩)],[(3012,⟨true,72,2,(j144.2.1.map q05.enc)⟩)]⟩) (S.m (S.ztd eS fun l145=>(by exact S.m (S.lw4 (L:=M.z2f l145) (fun x184 x185 x186 x187=>⟨[(6,.i x184),(42,.i x185)],[(990,⟨25,[.s a19.z02,.l9 a19.z09,.l72 a19.z0r,.ref 3017,.s a19.z01]⟩),(1037,⟨1000000,[.md (.cont none false (x187.map (fun x:Z × Bool=>D.str x.1::eB x.2)))]⟩)],[(3017,⟨true,72,2,(x186.map q05.enc)⟩)]⟩) (M.z2f.partial_correctness _) rfl fun _ _ ih_z2f x184 x185 x186 x187=>S.cb (S.ixf eS fun x226=>S.k0 C.q1s fun a227=>(match a227 with | .pan e230=>S.n S.qd | .ok a229=>S.n (S.k0 (C.cut _ _) fun a231=>S.n (S.k0 (C.z5m _) fun a233=>S.n (S.k0 (C.trim _ _) fun a235=>S.n (by exact S.ho (fun j240=>⟨[(66,.b j240)],[(990,⟨25,[.s a19.z02,.l9 a19.z09,.l72 a19.z0r,.ref 3021,.s a19.z01]⟩)],[(3021,⟨true,72,2,(x186.map q05.enc)⟩)]⟩) (fun _=>S.cb (S.k0 C.q1t fun a241=>S.n S.zr) S.zr) fun j240=>S.ho (fun j246=>⟨[(71,.b j246)],[(990,⟨25,[.s a19.z02,.l9 a19.z09,.l72 a19.z0r,.ref 3022,.s a19.z01]⟩)],[(3022,⟨true,72,2,(x186.map q05.enc)⟩)]⟩) (fun _=>S.cb (S.k0 C.q2x fun a247=>S.n S.zr) S.zr) fun j246=>S.ho (fun j250=>⟨[(77,.b j250)],[(990,⟨25,[.s a19.z02,.l9 a19.z09,.l72 a19.z0r,.ref 3023,.s a19.z01]⟩)],[(3023,⟨true,72,2,(x186.map q05.enc)⟩)]⟩) (fun _=>S.cb (S.mget (f:=(fun x:Z × Bool=>D.str x.1::eB x.2)) (kf:=D.str) (vf:=eB) (fun _=>rfl) z8v (k:=a233) (z:=false) (c:=fun x:Bool=>[.bool x]) rfl rfl (fun _=>rfl) S.zr) S.zr) fun j250=>S.k0 C.q1s fun a251=>(match a251 with | .pan e254=>S.n S.qd | .ok a253=>S.n (S.z89 (f:=(fun x:Z × Bool=>D.str x.1::eB x.2)) (kf:=D.str) (vf:=eB) (fun _=>rfl) z8v rfl rfl fun m255=>S.cb (S.z8f q05.enc (fun l257=>ih_z2f _ _ _ _) (by first|rfl|simp only [ya,yb,q05.z1i])) (S.k0 C.q1w fun a258=>S.n (S.k0 C.q1s fun a260=>(match a260 with | .pan e263=>S.n S.qd | .ok a262=>S.n (ih_z2f _ _ _ _)))))))))))) S.zr)))) fun j144=>S.mget (f:=(fun x:Z × Bool=>D.str x.1::eB x.2)) (kf:=D.str) (vf:=eB) (fun _=>rfl) z8v (k:=[104,111,115,116]) (z:=false) (c:=fun x:Bool=>[.bool x]) rfl rfl (fun _=>rfl) (S.k0 C.q1s fun a264=>(by exact (match a264 with | .pan e267=>S.n S.qd | .ok a266=>S.n (S.k0 C.q1s fun a268=>(match a268 with | .pan e271=>S.n S.qd | .ok a270=>S.n (S.k0 C.q1s fun a272=>(match a272 with | .pan e275=>S.n S.qd | .ok a274=>S.n (S.e fun s276=>S.n (S.n (S.n (S.n S.q))))))))))))))))))))))
def A.q5z:Ann:={ seq:=[(9,{ L:=[5],B:=[],A:=[3006],H:=[(.slot 5 none,3006,9,1)] })],loop:=[(4,{ L:=[0,1,5,6,7],B:=[],A:=[3009],H:=[(.slot 5 none,3009,9,1)] })],reg:=[(6,[(5,6,{ L:=[0,1,5,6,7,25],B:=[],A:=[3011],H:=[(.slot 5 none,3011,9,1)] })])],own:=[8] }
theorem C.q5z {p0:Z} {p1:Int}:Q1 (M.q5z p0 p1) 93 [.s p0,.int .u8 p1] fun r=>[.l9 r] :=
 Kf Tryz.func93 A.q5z (S.hn (fun j23=>⟨[(5,.ref 3006)],[],[(3006,⟨true,9,1,(j23.map eS)⟩)]⟩) (fun _=>S.lw3 (L:=M.z1c p0 p1) (fun x30 x31 x32=>⟨[(5,.ref 3009),(6,.i x31),(7,.i x32)],[],[(3009,⟨true,9,1,(x30.map eS)⟩)]⟩) (M.z1c.partial_correctness _ _) rfl fun _ _ ih_z1c x30 x31 x32=>S.cb (S.ho (fun j41=>⟨[(5,.ref 3011),(25,.b j41)],[],[(3011,⟨true,9,1,(x30.map eS)⟩)]⟩) (fun _=>S.cb S.zr (S.e fun c42=>S.zr)) fun j41=>S.cb (S.e fun s43=>S.z8f eS fun l44=>ih_z1c _ _ _) (ih_z1c _ _ _)) S.zr) fun j23=>S.q)
def A.q5u:Ann:={ seq:=[(6,c1 [])],loop:=[(2,c1 [0,1,2,7])],reg:=[(4,[(6,6,c1 [0,1,2,7,25])])] }
theorem C.q5u {p0:Z} {p1 p2:Int}:Q1 (M.q5u p0 p1 p2) 117 [.s p0,.int .u8 p1,.int .u8 p2] fun r=>[.b r] :=
 Kf Tryz.func117 A.q5u (S.gn (fun _=>oL []) (S.lw (L:=M.z5y p0 p1 p2) (fun x23=>oL [(7,.i x23)]) (M.z5y.partial_correctness _ _ _) rfl fun _ _ ih_z5y x23=>S.cb (S.e fun c29=>S.ho (fun j32=>oL [(25,.b j32)]) (fun _=>S.cb S.zr (S.e fun c33=>S.zr)) fun j32=>S.cb S.q (ih_z5y _)) S.zr) fun j17=>S.q)
def A.q67:Ann:={ seq:=[(6,c1 [0])],loop:=[(2,c1 [0,1,7])],drw:=[(5,{ anc:=[0,0,3,0,0,16,56,7,255,511],E:=[],qs:=[0,1,2,3,4,5,6,7,8,9],g:=.fin,lin:=some [] })] }
theorem C.q67 {p0:Z} {p1:Int}:Q1 (M.q67 p0 p1) 44 [.s p0,.int .u8 p1] fun r=>[.s r.1,.s r.2.1,.b r.2.2] :=
 Kf Tryz.func44 A.q67 (S.gn (fun _=>oL []) (S.lw (L:=M.z0e p0 p1) (fun x15=>oL [(7,.i x15)]) (M.z0e.partial_correctness _ _) rfl fun _ _ ih_z0e x15=>S.cb (S.e fun c19=>S.cb (S.e fun s20=>S.e fun s21=>S.q) (ih_z0e _)) S.zr) fun j11=>S.q)
def A.q4i:Ann:={ reg:=[(1,[(3,3,c1 [0,1,11])]),(3,[(3,3,c1 [0,1,21])]),(5,[(2,3,c1 [0,31]),(1,3,c1 [0,35])])] }
theorem C.q4i {p0:Int} {p1:Bool}:Q1 (M.q4i p0 p1) 221 [.int .u8 p0,.b p1] fun r=>[.i r] :=
 Kf Tryz.func221 A.q4i (S.ja0 11 rfl (S.cb S.q (S.ja0 21 rfl (S.cb S.q (S.ja0 31 rfl (S.ja0 35 rfl (S.cb S.q S.q)))))))
def A.q4d:Ann:={ seq:=[(14,{ L:=[4],B:=[],A:=[3009],H:=[(.slot 4 none,3009,5,1)] })],loop:=[(3,{ L:=[0,4,5],B:=[],A:=[3013],H:=[(.slot 4 none,3013,5,1)] })],reg:=[(10,[(3,3,{ L:=[0,4,5,6,7,45],B:=[],A:=[3017],H:=[(.slot 4 none,3017,5,1)] })])],drw:=[(9,{ anc:=[0,0,2,7,15,0,0,64,224,511,1023,2047],E:=[4,9],qs:=[0,1,2,3,5,6,7,8],g:=.one 4 [5,6,7,8] [] (.one 9 [] [10,11] (.fin)),lin:=some [] })],own:=[8] }
theorem C.q4d {p0:Z}:Q1 (M.q4d p0) 118 [.s p0] fun r=>[.s r.1,.i r.2] :=
 Kf Tryz.func118 A.q4d (S.gn (fun j55=>⟨[(4,.ref 3009)],[],[(3009,⟨true,5,1,(j55.map (eI .u8))⟩)]⟩) (S.lw2 (L:=M.z0x p0) (fun x73 x74=>⟨[(4,.ref 3013),(5,.i x74)],[],[(3013,⟨true,5,1,(x73.map (eI .u8))⟩)]⟩) (M.z0x.partial_correctness _) rfl fun _ _ ih_z0x x73 x74=>(by exact S.cb (S.e fun c95=>S.cb (S.e fun c96=>S.z8f (eI .u8) fun l97=>ih_z0x _ _) (S.cb S.q (S.e fun c98=>S.e fun c99=>S.k0 C.q4i fun a100=>S.n (S.k0 C.q4i fun a102=>S.n (S.ju0 45 rfl (S.cb S.q (S.z8f (eI .u8) fun l108=>ih_z0x _ _))))))) S.zr)) fun j55=>S.d S.q)
def A.q4k:Ann:={ seq:=[(9,{ L:=[7],B:=[],A:=[3003],H:=[(.slot 7 none,3003,5,1)] })],loop:=[(3,{ L:=[0,1,2,7,8],B:=[],A:=[3005],H:=[(.slot 7 none,3005,5,1)] })],own:=[10] }
theorem C.q4k {p0:Z} {p1 p2:Int}:Q1 (M.q4k p0 p1 p2) 222 [.s p0,.int .u8 p1,.int .u8 p2] fun r=>[.s r] :=
 Kf Tryz.func222 A.q4k (S.hn (fun j13=>⟨[(7,.ref 3003)],[],[(3003,⟨true,5,1,(j13.map (eI .u8))⟩)]⟩) (fun _=>S.lw2 (L:=M.z4e p0 p1 p2) (fun x17 x18=>⟨[(7,.ref 3005),(8,.i x18)],[],[(3005,⟨true,5,1,(x17.map (eI .u8))⟩)]⟩) (M.z4e.partial_correctness _ _ _) rfl fun _ _ ih_z4e x17 x18=>S.cb (S.e fun c22=>S.cb (S.z8f (eI .u8) fun l23=>ih_z4e _ _) (S.z8f (eI .u8) fun l24=>ih_z4e _ _)) S.zr) fun j13=>S.d S.q)
def A.q4c:Ann:={ seq:=[(13,{ L:=[4],B:=[],A:=[3006],H:=[(.slot 4 none,3006,9,1)] }),(18,{ L:=[4,7,8],B:=[],A:=[3339,3340],H:=[(.slot 4 none,3339,9,1),(.slot 7 none,3340,72,2)] }),(25,{ L:=[4,7,8,9,10],B:=[],A:=[3351,3352],H:=[(.slot 4 none,3351,9,1),(.slot 7 none,3352,72,2)] }),(28,{ L:=[4,7,8,9,10,11],B:=[],A:=[3363,3364],H:=[(.slot 4 none,3363,9,1),(.slot 7 none,3364,72,2)] }),(33,{ L:=[7],B:=[],A:=[3190],H:=[(.slot 7 none,3190,72,2)] })],loop:=[(8,{ L:=[0,4,5,6],B:=[],A:=[3009],H:=[(.slot 4 none,3009,9,1)] }),(17,{ L:=[4,7,8],B:=[],A:=[3251,3252],H:=[(.slot 4 none,3251,9,1),(.slot 7 none,3252,72,2)] }),(23,{ L:=[4,7,8,9,10],B:=[],A:=[3357,3358],H:=[(.slot 4 none,3357,9,1),(.slot 7 none,3358,72,2)] })],reg:=[(10,[(5,5,{ L:=[0,4,5,6,37],B:=[],A:=[3011],H:=[(.slot 4 none,3011,9,1)] })]),(23,[(5,5,{ L:=[4,7,8,9,10,72],B:=[],A:=[3361,3362],H:=[(.slot 4 none,3361,9,1),(.slot 7 none,3362,72,2)] })]),(30,[(3,3,{ L:=[4,7,8,12,14,102],B:=[],A:=[3367,3368],H:=[(.slot 4 none,3367,9,1),(.slot 7 none,3368,72,2)] })])],own:=[21,50] }
theorem C.q4c {p0:Z}:Q1 (M.q4c p0) 119 [.s p0] fun r=>[.l72 r.1,.i r.2] :=
 Kf Tryz.func119 A.q4c (S.cb S.q (S.cb S.q (S.hn (fun j23=>⟨[(4,.ref 3006)],[],[(3006,⟨true,9,1,(j23.map eS)⟩)]⟩) (fun _=>S.lw3 (L:=M.z2m p0) (fun x30 x31 x32=>⟨[(4,.ref 3009),(5,.i x31),(6,.i x32)],[],[(3009,⟨true,9,1,(x30.map eS)⟩)]⟩) (M.z2m.partial_correctness _) rfl fun _ _ ih_z2m x30 x31 x32=>S.cb (S.ho (fun j41=>⟨[(4,.ref 3011),(37,.b j41)],[],[(3011,⟨true,9,1,(x30.map eS)⟩)]⟩) (fun _=>S.cb S.zr (S.e fun c42=>S.zr)) fun j41=>S.cb (S.e fun s43=>S.z8f eS fun l44=>ih_z2m _ _ _) (ih_z2m _ _ _)) S.zr) fun j23=>S.m (S.cb S.q (by exact S.gn (fun j348=>⟨[(7,.ref 3190)],[],[(3190,⟨true,72,2,(j348.map q05.enc)⟩)]⟩) (S.lw2 (L:=M.z2n j23) (fun x449 x450=>⟨[(4,.ref 3251),(7,.ref 3252),(8,.i x450)],[],[(3251,⟨true,9,1,(j23.map eS)⟩),(3252,⟨true,72,2,(x449.map q05.enc)⟩)]⟩) (M.z2n.partial_correctness _) rfl fun _ _ ih_z2n x449 x450=>S.m (S.cb (S.gn (fun j601=>⟨[(4,.ref 3339),(7,.ref 3340)],[],[(3339,⟨true,9,1,(j23.map eS)⟩),(3340,⟨true,72,2,(j601.map q05.enc)⟩)]⟩) (S.ixf eS fun x602=>S.ixf eS fun x603=>S.cb S.q (S.hn (fun j618=>⟨[(4,.ref 3351),(7,.ref 3352),(10,.i j618)],[],[(3351,⟨true,9,1,(j23.map eS)⟩),(3352,⟨true,72,2,(x449.map q05.enc)⟩)]⟩) (fun _=>S.lw (L:=M.z2o x603) (fun x623=>⟨[(4,.ref 3357),(7,.ref 3358),(10,.i x623)],[],[(3357,⟨true,9,1,(j23.map eS)⟩),(3358,⟨true,72,2,(x449.map q05.enc)⟩)]⟩) (M.z2o.partial_correctness _) rfl fun _ _ ih_z2o x623=>S.ho (fun j630=>⟨[(4,.ref 3361),(7,.ref 3362),(72,.b j630)],[],[(3361,⟨true,9,1,(j23.map eS)⟩),(3362,⟨true,72,2,(x449.map q05.enc)⟩)]⟩) (fun _=>S.cb (S.e fun c631=>S.zr) S.zr) fun j630=>S.cb (ih_z2o _) S.zr) fun j618=>(by exact S.hn (fun j635=>⟨[(4,.ref 3363),(7,.ref 3364),(11,.s j635)],[],[(3363,⟨true,9,1,(j23.map eS)⟩),(3364,⟨true,72,2,(x449.map q05.enc)⟩)]⟩) (fun _=>S.cb (S.e fun s636=>S.zr) S.zr) fun j635=>S.e fun s637=>S.k0 C.q4k fun a638=>S.n (S.k0 C.q4d fun a640=>S.n (S.k0 C.q4k fun a642=>S.n (S.k0 C.q4d fun a644=>S.n (S.ju0 102 rfl (S.cb S.q (S.z8f q05.enc (fun l650=>S.zr) (by first|rfl|simp only [ya,yb,q05.z1i])))))))))) fun j601=>ih_z2n _ _) S.zr)) fun j348=>S.q)))))
def A.q5w:Ann:={ seq:=[(3,c1 [0]),(5,c1 [0])],loop:=[(1,c1 [0]),(3,c1 [0])],reg:=[(1,[(3,4,c1 [0,9])]),(3,[(3,7,c1 [0,21])])] }
theorem C.q5w {p0:Z}:Q1 (M.q5w p0) 46 [.s p0] fun r=>[.s r] :=
 Kf Tryz.func46 A.q5w (S.hn (fun j18=>oL [(0,.s j18)]) (fun _=>S.lw (L:=M.z11) (fun x24=>oL [(0,.s x24)]) (M.z11.partial_correctness) rfl fun _ _ ih_z11 x24=>S.ho (fun j32=>oL [(9,.b j32)]) (fun _=>S.cb (S.e fun c33=>S.zr) S.zr) fun j32=>S.cb (S.e fun s34=>ih_z11 _) S.zr) fun j18=>S.hn (fun j64=>oL [(0,.s j64)]) (fun _=>S.lw (L:=M.z13) (fun x74=>oL [(0,.s x74)]) (M.z13.partial_correctness) rfl fun _ _ ih_z13 x74=>S.ho (fun j90=>oL [(21,.b j90)]) (fun _=>S.cb (S.e fun c91=>S.zr) S.zr) fun j90=>S.cb (S.e fun s92=>ih_z13 _) S.zr) fun j64=>S.q)
def A.q4e:Ann:={ seq:=[(9,c1 [6,7])],loop:=[(3,c1 [0,1,6,7,8])] }
theorem C.q4e {p0:List q05} {p1:Z}:Q1 (M.q4e p0 p1) 63 [.l72 p0,.s p1] fun r=>[.s r.1,.i r.2] :=
 Kf Tryz.func63 A.q4e (S.hn (fun j12=>oL [(6,.s j12.1),(7,.i j12.2)]) (fun _=>S.lw3 (L:=M.z4l p0 p1) (fun x15 x16 x17=>oL [(6,.s x15),(7,.i x16),(8,.i x17)]) (M.z4l.partial_correctness _ _) rfl fun _ _ ih_z4l x15 x16 x17=>S.m (S.cb (S.ixm q05.z1i fun x20=>S.cb (S.cb (S.ixm q05.z1i fun x21=>ih_z4l _ _ _) (ih_z4l _ _ _)) (ih_z4l _ _ _)) S.zr)) fun j12=>S.q)
theorem C.q63 {p0:List q05} {p1:Z}:Q1 (M.q63 p0 p1) 47 [.l72 p0,.s p1] fun r=>[.s r.1,.b r.2] :=
 Kf Tryz.func47 {} (S.k0 C.q4e fun a1=>S.n S.q)
def A.q5y:Ann:={ seq:=[(10,c1 [5])],loop:=[(5,c1 [0,5,6])],reg:=[(1,[(3,5,c1 [0,14]),(1,8,c1 [0,23])]),(7,[(5,5,c1 [0,5,6,39])])] }
theorem C.q5y {p0:Z} {p1:Int}:Q1 (M.q5y p0 p1) 50 [.s p0,.i p1] fun r=>[.i r] :=
 Kf Tryz.func50 A.q5y (S.ju0 14 rfl (S.ho (fun j11=>oL [(23,.b j11)]) (fun _=>S.cb S.zr (S.e fun c12=>S.cb S.zr S.zr)) fun j11=>S.cb S.q (S.gn (fun j49=>oL [(5,.i j49)]) (S.lw2 (L:=M.z45 p0) (fun x61 x62=>oL [(5,.i x61),(6,.i x62)]) (M.z45.partial_correctness _) rfl fun _ _ ih_z45 x61 x62=>S.cb (S.e fun c79=>S.ho (fun j82=>oL [(39,.b j82)]) (fun _=>S.cb S.zr (S.e fun c83=>S.zr)) fun j82=>S.cb S.q (S.e fun c84=>ih_z45 _ _)) S.zr) fun j49=>S.q)))
theorem C.q1z {p0:Z} {p1:Nat}:Q1 (M.q1z p0 p1) 151 [.s p0,.fn p1 [] []] fun r=>[.agg r.v] :=
 Kf Tryz.func151 {} (S.q)
theorem C.q2z {p0:Z} {p1:Nat}:Q1 (M.q2z p0 p1) 159 [.s p0,.fn p1 [] []] fun r=>[.agg r.v] :=
 Kf Tryz.func159 {} (S.q)
theorem C.q1l {p0 p1:Z}:Q1 (M.q1l p0 p1) 154 [.s p0,.s p1] fun r=>[.agg r.v] :=
 Kf Tryz.func154 {} (S.q)
def A.q2k:Ann:={ own:=[8,13] }
theorem C.q2k {p0:Z} {p1:List q0b}:Q1 (M.q2k p0 p1) 150 [.s p0,.l179 p1] fun r=>[.l179 r] :=
 Kf Tryz.func150 A.q2k (S.k0 C.q1z fun a1=>S.n (S.k0 C.q1z fun a3=>S.n (S.cb (S.k0 C.q1l fun a5=>S.n (S.z8f q0b.enc (fun l7=>S.z8f q0b.enc fun l8=>S.q) (by first|rfl|simp only [ya,yb,q0b.z1i]))) (S.z8f q0b.enc fun l9=>S.q))))
def A.q2j:Ann:={ reg:=[(2,[(40,0,c1 [1,5,8,14,15,18,19,20,23,27,36,37,41]),(50,0,c1 [0])])] }
theorem C.q2j:Q1 (M.q2j) 78 [] fun r=>[.l112 r] :=
 Kf Tryz.func78 A.q2j (S.k0 C.q1z fun a1=>S.n (S.k0 C.q1z fun a3=>S.n (S.k0 C.q1z fun a5=>S.n (S.k0 C.q1z fun a7=>S.n (by exact S.k0 C.q2z fun a9=>S.n (S.k0 C.q2z fun a11=>S.n (S.k0 C.q2z fun a13=>S.n (S.k0 C.q2z fun a15=>S.n (S.k0 C.q1z fun a17=>S.n (S.k0 C.q1z fun a19=>S.n (S.k0 C.q1z fun a21=>(by exact S.n (S.k0 C.q1l fun a23=>S.n (S.k0 C.q1z fun a25=>S.n (S.k0 C.q1z fun a27=>S.n (S.k0 C.q1z fun a29=>S.n (S.k0 C.q1l fun a31=>S.n (S.k0 C.q1z fun a33=>S.n (by exact S.k0 C.q1z fun a35=>S.n (S.k0 C.q1z fun a37=>S.n (S.k0 C.q1z fun a39=>S.n (S.k0 C.q1z fun a41=>S.n (S.jq (S.k0 C.q2k fun a43=>S.n (S.k0 C.q1z fun a45=>S.n (by exact S.k0 C.q1z fun a47=>S.n (S.k0 C.q2k fun a49=>S.n (S.k0 C.q1z fun a51=>S.n (S.k0 C.q1z fun a53=>S.n (S.k0 C.q2k fun a55=>S.n (S.k0 C.q1z fun a57=>S.n (S.k0 C.q1z fun a59=>(by exact S.n (S.k0 C.q1z fun a61=>S.n (S.k0 C.q1z fun a63=>S.n (S.k0 C.q2k fun a65=>S.n (S.k0 C.q1z fun a67=>S.n (S.k0 C.q2k fun a69=>S.n (S.k0 C.q1z fun a71=>S.n (by exact S.k0 C.q2k fun a73=>S.n (S.k0 C.q1z fun a75=>S.n (S.k0 C.q1l fun a77=>S.n (S.k0 C.q1l fun a79=>S.n (S.k0 C.q1z fun a81=>S.n (S.k0 C.q1z fun a83=>S.n (S.jq S.q))))))))))))))))))))))))))))))))))))))))))))))
def A.q2d:Ann:={ seq:=[(14,cu [] [0] [])],loop:=[(5,cu [2,7,19,20,21] [0] [])],reg:=[(7,[(6,3,cu [2,7,8,9,19,20,21,35] [0] [])]),(11,[(7,6,cu [2,7,19,20,21,63] [0] [])])],ro:=[3],nb:=1 }
theorem C.q2d {p0:q0a} {p1:List Z} {p2:q00}:Qs (M.q2d p0 p1 p2) 81 ⟨[.agg p0.v,.l9 p1,.p 0],[⟨46,p2.v⟩],[]⟩ fun r => .ok [.b r.1] [⟨46,r.2.v⟩] [] :=
 Kf Tryz.func81 A.q2d (S.e fun s1=>S.k0 (C.split _ _) fun a2=>S.n (S.m (S.m (S.cb S.q (S.gn (fun j39=>oB [] [(0,⟨46,[.i p2.zh,.s j39.1,.s p2.z39,.s p2.z38,.s p2.zq,.s p2.z22,.s p2.z1p,.s p2.z1o,.s p2.z03,.s p2.z0n,.s p2.zy,.s p2.z0a,.s p2.zx,.s p2.zm,.s p2.z00,.s p2.z0q,.s j39.2,.s p2.z3s,.s p2.z01,.s p2.z7l,.s p2.z5v,.s p2.z0m,.s p2.z1j,.zvu p2.zt,.i p2.z2y,.i p2.z1d]⟩)]) ((by exact S.m (S.lw3 (L:=M.z15 p1 a2 p2) (fun x50 x51 x52=>oB [(21,.i x50)] [(0,⟨46,[.i p2.zh,.s x51,.s p2.z39,.s p2.z38,.s p2.zq,.s p2.z22,.s p2.z1p,.s p2.z1o,.s p2.z03,.s p2.z0n,.s p2.zy,.s p2.z0a,.s p2.zx,.s p2.zm,.s p2.z00,.s p2.z0q,.s x52,.s p2.z3s,.s p2.z01,.s p2.z7l,.s p2.z5v,.s p2.z0m,.s p2.z1j,.zvu p2.zt,.i p2.z2y,.i p2.z1d]⟩)]) (M.z15.partial_correctness _ _ _) rfl fun _ _ ih_z15 x50 x51 x52=>S.cb (S.ixf eS fun x63=>S.ixf eS fun x64=>S.ja0 35 rfl (S.cb (ih_z15 _ _ _) (S.ixf eS fun x67=>S.cb (ih_z15 _ _ _) (S.ixf eS fun x68=>S.ho (fun j71=>oL [(63,.b j71)]) (fun _=>S.cb S.zr (S.ixf eS fun x72=>S.zr)) fun j71=>S.cb S.q (ih_z15 _ _ _))))) S.zr))) fun j39=>S.q)))))
def A.q0m:Ann:={ seq:=[(8,c1 [6,7])],loop:=[(3,c1 [0,1,6,7,8])] }
theorem C.q0m {p0:List q05} {p1:Z}:Q1 (M.q0m p0 p1) 239 [.l72 p0,.s p1] fun r=>[.s r.1,.i r.2] :=
 Kf Tryz.func239 A.q0m (S.hn (fun j12=>oL [(6,.s j12.1),(7,.i j12.2)]) (fun _=>S.m (S.lw3 (L:=M.z3c p0 p1) (fun x15 x16 x17=>oL [(6,.s x15),(7,.i x16),(8,.i x17)]) (M.z3c.partial_correctness _ _) rfl fun _ _ ih_z3c x15 x16 x17=>S.cb (S.ixm q05.z1i fun x20=>S.cb (S.ixm q05.z1i fun x21=>ih_z3c _ _ _) (ih_z3c _ _ _)) S.zr)) fun j12=>S.q)
theorem C.q1k {p0:List q05} {p1:Z}:Q1 (M.q1k p0 p1) 236 [.l72 p0,.s p1] fun r=>[.s r.1,.b r.2] :=
 Kf Tryz.func236 {} (S.k0 C.q0m fun a1=>S.n S.q)
theorem C.q35 {p0 p1:Z}:Q1 (M.q35 p0 p1) 289 [.s p0,.s p1] fun r=>[.s r.1,.b r.2] :=
 Kf Tryz.func289 {} (S.k0 C.q36 fun a3=>S.n (S.cb S.q (S.e fun s5=>S.q)))
theorem C.q7c {p0 p1:Z}:Q1 (M.q7c p0 p1) 237 [.s p0,.s p1] fun r=>[.s r.1,.b r.2] :=
 Kf Tryz.func237 {} (S.k0 C.q35 fun a1=>S.n S.q)
def A.q1e:Ann:={ seq:=[(9,c1 [])],loop:=[(3,c1 [15,16,17])] }
theorem C.q1e {p0:List q05}:Q1 (M.q1e p0) 235 [.l72 p0] fun r=>[.s r] :=
 Kf Tryz.func235 A.q1e (S.k0 C.q1k fun a1=>(by exact S.n (S.gn (fun _=>oL []) (S.k0 (C.split _ _) fun a22=>S.n (S.m (S.lw (L:=M.z2r a22) (fun x29=>oL [(17,.i x29)]) (M.z2r.partial_correctness _) rfl fun _ _ ih_z2r x29=>S.cb (S.ixf eS fun x35=>S.k0 (C.trim _ _) fun a36=>S.n (S.k0 C.q7c fun a38=>S.n (S.cb S.q (ih_z2r _)))) S.zr))) fun j21=>S.q)))
def A.q2g:Ann:={ seq:=[(4,cu [1,2,3] [0] []),(9,cu [1,2,3] [0] [])],reg:=[(5,[(2,5,cu [1,2,3,6,39] [0] [])]),(7,[(2,3,cu [1,2,3,8,49] [0] [])]),(10,[(2,5,cu [2,10,66] [0] [])]),(11,[(4,4,cu [2,10,74] [0] []),(1,7,cu [2,10,82] [0] [])]),(13,[(6,7,cu [104] [0] [])])],ro:=[3],nb:=1 }
theorem C.q2g {p0:q0a} {p1:List q05} {p2:q00}:Qs (M.q2g p0 p1 p2) 180 ⟨[.agg p0.v,.l72 p1,.p 0],[⟨46,p2.v⟩],[]⟩ (rb 59 .i64 (fun r => .ok [] [⟨46,r.v⟩] []) fun x=>[⟨46,x.v⟩]) :=
 Kf Tryz.func180 A.q2g (S.gn (fun j18=>oB [] [(0,⟨46,[.i p2.zh,.s p2.gOf,.s p2.z39,.s p2.z38,.s j18,.s p2.z22,.s p2.z1p,.s p2.z1o,.s p2.z03,.s p2.z0n,.s p2.zy,.s p2.z0a,.s p2.zx,.s p2.zm,.s p2.z00,.s p2.z0q,.s p2.zo,.s p2.z3s,.s p2.z01,.s p2.z7l,.s p2.z5v,.s p2.z0m,.s p2.z1j,.zvu p2.zt,.i p2.z2y,.i p2.z1d]⟩)]) (S.cb (S.k0 C.q1e fun a19=>S.n (S.k0 (C.trim _ _) fun a21=>S.n (S.k0 C.q1s fun a23=>(match a23 with | .pan e26=>S.n S.qb | .ok a25=>S.n S.zr)))) S.zr) fun j18=>S.gn (fun j60=>oB [] [(0,⟨46,[.i p2.zh,.s p2.gOf,.s p2.z39,.s p2.z38,.s j18,.s p2.z22,.s j60,.s p2.z1o,.s p2.z03,.s p2.z0n,.s p2.zy,.s p2.z0a,.s p2.zx,.s p2.zm,.s p2.z00,.s p2.z0q,.s p2.zo,.s p2.z3s,.s p2.z01,.s p2.z7l,.s p2.z5v,.s p2.z0m,.s p2.z1j,.zvu p2.zt,.i p2.z2y,.i p2.z1d]⟩)]) (S.k0 C.q1k fun a61=>S.n (S.ja0 39 rfl (S.cb (S.k0 C.q7c fun a65=>S.n (S.ho (fun j70=>oL [(49,.b j70)]) (fun _=>S.cb (S.k0 C.q22 fun a71=>S.n S.zr) S.zr) fun j70=>S.k0 C.q1s fun a73=>(match a73 with | .pan e76=>S.n S.qb | .ok a75=>S.n S.zr))) S.zr))) fun j60=>S.k0 C.q1k fun a77=>S.n (S.ja0 66 rfl ((by exact S.cb (S.ho (fun j83=>oL [(74,.b j83)]) (fun _=>S.cb (S.e fun c84=>S.zr) S.zr) fun j83=>S.ho (fun j87=>oL [(82,.b j87)]) (fun _=>S.cb (S.e fun c88=>S.zr) S.zr) fun j87=>S.k0 C.q1s fun a89=>(match a89 with | .pan e92=>S.n S.qb | .ok a91=>S.n (S.e fun s93=>S.k0 C.q22 fun a94=>S.n (S.ho (fun j99=>oL [(104,.b j99)]) (fun _=>S.cb (S.k0 (C.contains _ _) fun a100=>S.n S.zr) S.zr) fun j99=>S.k0 C.q1s fun a102=>(match a102 with | .pan e105=>S.n S.qb | .ok a104=>S.n S.q))))) S.q))))
def A.q2f:Ann:={ nb:=1 }
theorem C.q2f {p0:q0b} {p1:q05}:Qs (M.q2f p0 p1) 241 ⟨[.agg p0.v,.p 0],[⟨72,p1.v⟩],[]⟩ fun r => .ok [.b r] [⟨72,p1.v⟩] [] :=
 Kf Tryz.func241 A.q2f (S.q)
def A.q74:Ann:={ seq:=[(7,cu [] [0] [])],loop:=[(2,cu [0,1,7,8] [0] [])],nb:=1 }
theorem C.q74 {p0:List q0b} {p1:q05}:Qs (M.q74 p0 p1) 290 ⟨[.l179 p0,.fn 241 [] [.p 0]],[⟨72,p1.v⟩],[]⟩ fun r => .ok [.i r] [⟨72,p1.v⟩] [] :=
 Kf Tryz.func290 A.q74 (S.gn (fun _=>oL []) (S.m (S.lw (L:=M.zg p0 p1) (fun x15=>oL [(8,.i x15)]) (M.zg.partial_correctness _ _) rfl fun _ _ ih_zg x15=>S.cb (S.ixm q0b.z1i fun x19=>S.kk [0] [] [] C.q2f fun a20=>S.n (S.cb S.q (ih_zg _))) S.zr)) fun j11=>S.q)
def A.q6z:Ann:={ nb:=1 }
theorem C.q6z {p0:List q0b} {p1:q05}:Qs (M.q6z p0 p1) 240 ⟨[.l179 p0,.fn 241 [] [.p 0]],[⟨72,p1.v⟩],[]⟩ fun r => .ok [.b r] [⟨72,p1.v⟩] [] :=
 Kf Tryz.func240 A.q6z (S.kk [0] [] [] C.q74 fun a1=>S.n S.q)
def A.q2u:Ann:={ nb:=1 }
theorem C.q2u {p0:q0b} {p1:q00}:Qs (M.q2u p0 p1) 173 ⟨[.agg p0.v,.p 0],[⟨46,p1.v⟩],[]⟩ fun r => .ok [pn 0 r] [⟨46,p1.v⟩] [] :=
 Kf Tryz.func173 A.q2u (S.cb S.q (S.cb S.q S.q))
def A.q0j:Ann:={ seq:=[(15,{ L:=[4,5,6],B:=[],A:=[3002],H:=[(.slot 4 none,3002,5,1)] })],loop:=[(4,{ L:=[4,5,6,11,12,13],B:=[],A:=[3003],H:=[(.slot 4 none,3003,5,1)] })],reg:=[(15,[(3,3,{ L:=[4,49],B:=[],A:=[3004],H:=[(.slot 4 none,3004,5,1)] })])] }
theorem C.q0j {p0:Z}:Q1 (M.q0j p0) 242 [.s p0] fun r=>[.s r.1,.i r.2] :=
 Kf Tryz.func242 A.q0j (S.gn (fun j20=>⟨[(4,.ref 3002),(5,.i j20.2.1),(6,.i j20.2.2)],[],[(3002,⟨true,5,1,(j20.1.map (eI .u8))⟩)]⟩) ((by exact S.e fun _=>S.m (S.lw4 (L:=M.z10 p0) (fun x25 x26 x27 x28=>⟨[(4,.ref 3003),(5,.i x26),(6,.i x27),(13,.i x28)],[],[(3003,⟨true,5,1,(x25.map (eI .u8))⟩)]⟩) (M.z10.partial_correctness _) rfl fun _ _ ih_z10 x25 x26 x27 x28=>S.cb (S.ixf (eI .u8) fun x33=>S.k0 (C.z1b _ _) fun a34=>S.n (S.cb S.q (S.eq (by decide:chk _=some ()) (S.cb (S.e fun _=>S.z8f (eI .u8) fun l36=>S.e fun _=>ih_z10 _ _ _ _) (ih_z10 _ _ _ _))))) S.zr))) fun j20=>S.ju0 49 rfl (S.cb S.q (S.d S.q)))
def A.q2w:Ann:={ nb:=1 }
theorem C.q2w {p0:q00}:Qs (M.q2w p0) 155 ⟨[.p 0],[⟨46,p0.v⟩],[]⟩ fun r => .ok [.ptr 0 r] [⟨46,p0.v⟩] [] :=
 Kf Tryz.func155 A.q2w (S.q)
def A.q23:Ann:={ nb:=1 }
theorem C.q23 {p0:q00}:Qs (M.q23 p0) 156 ⟨[.p 0],[⟨46,p0.v⟩],[]⟩ fun r => .ok [.ptr 0 r] [⟨46,p0.v⟩] [] :=
 Kf Tryz.func156 A.q23 (S.q)
def A.q1d:Ann:={ nb:=1 }
theorem C.q1d {p0:q00}:Qs (M.q1d p0) 157 ⟨[.p 0],[⟨46,p0.v⟩],[]⟩ fun r => .ok [.ptr 0 r] [⟨46,p0.v⟩] [] :=
 Kf Tryz.func157 A.q1d (S.q)
def A.q1u:Ann:={ nb:=1 }
theorem C.q1u {p0:q00}:Qs (M.q1u p0) 158 ⟨[.p 0],[⟨46,p0.v⟩],[]⟩ fun r => .ok [.ptr 0 r] [⟨46,p0.v⟩] [] :=
 Kf Tryz.func158 A.q1u (S.q)
def A.q1f:Ann:={ nb:=1 }
theorem C.q1f {p0:q00}:Qs (M.q1f p0) 160 ⟨[.p 0],[⟨46,p0.v⟩],[]⟩ fun r => .ok [.ptr 0 r] [⟨46,p0.v⟩] [] :=
 Kf Tryz.func160 A.q1f (S.q)
def A.q12:Ann:={ nb:=1 }
theorem C.q12 {p0:q00}:Qs (M.q12 p0) 161 ⟨[.p 0],[⟨46,p0.v⟩],[]⟩ fun r => .ok [.ptr 0 r] [⟨46,p0.v⟩] [] :=
 Kf Tryz.func161 A.q12 (S.q)
def A.q2q:Ann:={ nb:=1 }
theorem C.q2q {p0:q00}:Qs (M.q2q p0) 162 ⟨[.p 0],[⟨46,p0.v⟩],[]⟩ fun r => .ok [.ptr 0 r] [⟨46,p0.v⟩] [] :=
 Kf Tryz.func162 A.q2q (S.q)
def A.q2t:Ann:={ nb:=1 }
theorem C.q2t {p0:q00}:Qs (M.q2t p0) 163 ⟨[.p 0],[⟨46,p0.v⟩],[]⟩ fun r => .ok [.ptr 0 r] [⟨46,p0.v⟩] [] :=
 Kf Tryz.func163 A.q2t (S.q)
def A.q1c:Ann:={ nb:=1 }
theorem C.q1c {p0:q00}:Qs (M.q1c p0) 152 ⟨[.p 0],[⟨46,p0.v⟩],[]⟩ fun r => .ok [.ptr 0 r] [⟨46,p0.v⟩] [] :=
 Kf Tryz.func152 A.q1c (S.q)
def A.q2b:Ann:={ nb:=1 }
theorem C.q2b {p0:q00}:Qs (M.q2b p0) 164 ⟨[.p 0],[⟨46,p0.v⟩],[]⟩ fun r => .ok [.ptr 0 r] [⟨46,p0.v⟩] [] :=
 Kf Tryz.func164 A.q2b (S.q)
def A.q2o:Ann:={ nb:=1 }
theorem C.q2o {p0:q00}:Qs (M.q2o p0) 165 ⟨[.p 0],[⟨46,p0.v⟩],[]⟩ fun r => .ok [.ptr 0 r] [⟨46,p0.v⟩] [] :=
 Kf Tryz.func165 A.q2o (S.q)
def A.q1a:Ann:={ nb:=1 }
theorem C.q1a {p0:q00}:Qs (M.q1a p0) 166 ⟨[.p 0],[⟨46,p0.v⟩],[]⟩ fun r => .ok [.ptr 0 r] [⟨46,p0.v⟩] [] :=
 Kf Tryz.func166 A.q1a (S.q)
def A.q1v:Ann:={ nb:=1 }
theorem C.q1v {p0:q00}:Qs (M.q1v p0) 167 ⟨[.p 0],[⟨46,p0.v⟩],[]⟩ fun r => .ok [.ptr 0 r] [⟨46,p0.v⟩] [] :=
 Kf Tryz.func167 A.q1v (S.q)
def A.q2y:Ann:={ nb:=1 }
theorem C.q2y {p0:q00}:Qs (M.q2y p0) 168 ⟨[.p 0],[⟨46,p0.v⟩],[]⟩ fun r => .ok [.ptr 0 r] [⟨46,p0.v⟩] [] :=
 Kf Tryz.func168 A.q2y (S.q)
def A.q0z:Ann:={ nb:=1 }
theorem C.q0z {p0:q00}:Qs (M.q0z p0) 169 ⟨[.p 0],[⟨46,p0.v⟩],[]⟩ fun r => .ok [.ptr 0 r] [⟨46,p0.v⟩] [] :=
 Kf Tryz.func169 A.q0z (S.q)
def A.q0y:Ann:={ nb:=1 }
theorem C.q0y {p0:q00}:Qs (M.q0y p0) 170 ⟨[.p 0],[⟨46,p0.v⟩],[]⟩ fun r => .ok [.ptr 0 r] [⟨46,p0.v⟩] [] :=
 Kf Tryz.func170 A.q0y (S.q)
def A.q1j:Ann:={ nb:=1 }
theorem C.q1j {p0:q00}:Qs (M.q1j p0) 171 ⟨[.p 0],[⟨46,p0.v⟩],[]⟩ fun r => .ok [.ptr 0 r] [⟨46,p0.v⟩] [] :=
 Kf Tryz.func171 A.q1j (S.q)
def A.q2p:Ann:={ nb:=1 }
theorem C.q2p {p0:q00}:Qs (M.q2p p0) 153 ⟨[.p 0],[⟨46,p0.v⟩],[]⟩ fun r => .ok [.ptr 0 r] [⟨46,p0.v⟩] [] :=
 Kf Tryz.func153 A.q2p (S.q)
theorem C.q0q {p0:Nat} {p1:q00}:Qs (M.q0q p0 p1) p0 ⟨[.p 0],[⟨46,p1.v⟩],[]⟩ fun r => .ok [.ptr 0 r] [⟨46,p1.v⟩] []:=by
 unfold M.q0q
 refine S.di (fun h => ?_) ?_
 ·subst h;exact C.q2w
 refine S.di (fun h => ?_) ?_
 ·subst h;exact C.q23
 refine S.di (fun h => ?_) ?_
 ·subst h;exact C.q1d
 refine S.di (fun h => ?_) ?_
 ·subst h;exact C.q1u
 refine S.di (fun h => ?_) ?_
 ·subst h;exact C.q1f
 refine S.di (fun h => ?_) ?_
 ·subst h;exact C.q12
 refine S.di (fun h => ?_) ?_
 ·subst h;exact C.q2q
 refine S.di (fun h => ?_) ?_
 ·subst h;exact C.q2t
 refine S.di (fun h => ?_) ?_
 ·subst h;exact C.q1c
 refine S.di (fun h => ?_) ?_
 ·subst h;exact C.q2b
 refine S.di (fun h => ?_) ?_
 ·subst h;exact C.q2o
 refine S.di (fun h => ?_) ?_
 ·subst h;exact C.q1a
 refine S.di (fun h => ?_) ?_
 ·subst h;exact C.q1v
 refine S.di (fun h => ?_) ?_
 ·subst h;exact C.q2y
 refine S.di (fun h => ?_) ?_
 ·subst h;exact C.q0z
 refine S.di (fun h => ?_) ?_
 ·subst h;exact C.q0y
 refine S.di (fun h => ?_) ?_
 ·subst h;exact C.q1j
 refine S.di (fun h => ?_) ?_
 ·subst h;exact C.q2p
 exact fun _ h=>by cases h
def A.q2e:Ann:={ seq:=[(7,cu [1,2,3] [0] [])],loop:=[(2,cu [1,2,3,18,19,20] [0] []),(8,cu [1,2,42,43,44] [0] [])],reg:=[(5,[(3,5,cu [1,2,3,18,19,20,38] [0] [])]),(19,[(2,5,cu [1,2,42,43,44,88] [0] [])])],ro:=[3],nb:=1 }
theorem C.q2e {p0:q0a} {p1:List q05} {p2:q00}:Qs (M.q2e p0 p1 p2) 181 ⟨[.agg p0.v,.l72 p1,.p 0],[⟨46,p2.v⟩],[]⟩ (rb 59 .i64 (fun r => .ok [] [⟨46,r.v⟩] []) fun x=>[⟨46,x.v⟩]) :=
 Kf Tryz.func181 A.q2e (S.gn (fun _=>oL []) (S.m (S.lw (L:=M.z2c p1 p0 p2) (fun x55=>oL [(20,.i x55)]) (M.z2c.partial_correctness _ _ _) rfl fun _ _ ih_z2c x55=>S.cb (S.ixm q05.z1i fun x69=>S.k0 C.q0m fun a70=>S.n (S.ho (fun j75=>oL [(38,.b j75)]) (fun _=>S.cb (S.kk [1007] [] [] C.q6z fun a76=>S.n S.zr) S.zr) fun j75=>S.k0 C.q1s fun a78=>(match a78 with | .pan e81=>S.n S.qb | .ok a80=>S.n (ih_z2c _)))) S.zr)) fun j41=>S.m (S.lw2 (L:=M.z0d p0 p1) (fun x117 x118=>oB [(44,.i x117)] [(0,⟨46,x118.v⟩)]) (M.z0d.partial_correctness _ _) rfl fun _ _ ih_z0d x117 x118=>S.cb (S.ixm q0b.z1i fun x154=>S.k0 C.q1k fun a155=>S.n (S.kk [0] [] [] C.q2u fun a157=>(by refine S.di (fun h => ?_) ?_;subst h;exact S.n (S.cb (S.k0 C.q1w fun a159=>S.n (S.k0 C.q1s fun a161=>(match a161 with | .pan e164=>S.n S.qb | .ok a163=>S.n (ih_z0d _ _)))) (ih_z0d _ _));exact (by refine S.di (fun h => ?_) ?_;subst h;exact S.n (S.cb (S.k0 C.q1w fun a165=>S.n (S.k0 C.q1s fun a167=>(match a167 with | .pan e170=>S.n S.qb | .ok a169=>S.n (ih_z0d _ _)))) (ih_z0d _ _));exact (by refine S.di (fun h => ?_) ?_;subst h;exact S.n (S.cb (S.ja0 88 rfl (S.k0 C.q1s fun a173=>(match a173 with | .pan e176=>S.n S.qb | .ok a175=>S.n (ih_z0d _ _)))) (S.cb (S.k0 C.q0j fun a177=>S.n (S.k0 C.q1s fun a179=>(match a179 with | .pan e182=>S.n S.qb | .ok a181=>S.n (S.kk [0] [] [] C.q0q fun a183=>S.n (S.wv (stC (q00.v x118) a183 1 [.str a177.1]) q00.v (fun _ h=>q00.zz02i h) fun x185=>ih_z0d _ _))))) (S.kk [0] [] [] C.q0q fun a186=>S.n (S.wv (stC (q00.v x118) a186 1 [.str a155.1]) q00.v (fun _ h=>q00.zz02i h) fun x188=>ih_z0d _ _))));exact S.no))))) S.q))
def A.q3n:Ann:={ nb:=1 }
theorem C.q3n {p0:q0c}:Qs (M.q3n p0) 186 ⟨[.p 0],[⟨201,[.s p0.gs]⟩],[]⟩ fun r => .ok [] [⟨201,[.s r.gs]⟩] [] :=
 Kf Tryz.func186 A.q3n (S.k0 (C.trimLeft _ _) fun a1=>S.n S.q)
theorem C.q3k {p0:Bool} {p1:Int}:Qs (M.q3k p0 p1) 188 ⟨[.b p0,.i p1],[],[]⟩ (ro 244 .i64 fun _ => .ok [] [] []) :=
 Kf Tryz.func188 {} (S.cb S.zr S.q)
def A.q3q:Ann:={ nb:=1 }
theorem C.q3q {p0:q0c} {p1:Z}:Qs (M.q3q p0 p1) 246 ⟨[.p 0,.s p1],[⟨201,[.s p0.gs]⟩],[]⟩ fun r => .ok [.b r.1] [⟨201,[.s r.2.gs]⟩] [] :=
 Kf Tryz.func246 A.q3q (S.k0 C.q7c fun a1=>S.n (S.cb (S.kk [0] [] [] C.q3n fun a3=>S.n S.q) S.q))
theorem C.q33 {p0:Int}:Q1 (M.q33 p0) 317 [.int .u8 p0] fun r=>[.int .u8 r] :=
 Kf Tryz.func317 {} (S.q)
end Go.Proofs.YtfdoofnmjehecaaGreatDoor
