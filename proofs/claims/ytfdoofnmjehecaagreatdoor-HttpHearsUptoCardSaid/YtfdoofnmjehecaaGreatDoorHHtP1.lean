import Derived.Test.YtfdoofnmjehecaaGreatDoorHHtV
set_option linter.all false
set_option maxRecDepth 1000000
set_option maxHeartbeats 4000000
namespace Go.Proofs.YtfdoofnmjehecaaGreatDoor
open _root_.List renaming map_cons → ya, map_nil → yb
open Go.Lk Go.Pe Go.Sen Go.RowKit
theorem C.q1h{a:Z}:Q1 (M.q1h a) 31 [.s a] fun r=>[.i r]:=Kf Tryz.func31 {} (S.e fun c=>S.k0 (C.z6h _ _) fun b=>S.n (S.cb S.q S.q))
theorem C.q1s{a:Bool}{c:Int}:Qs (M.q1s a c) 32 ⟨[.b a,.i c],[],[]⟩ (ro 59 .i64 fun _=>.ok [] [] []):=Kf Tryz.func32 {} (S.cb S.zr S.q)
def A.q1r:Ann:={reg:=[(1,[(3,4,c1 [0,9]),(1,4,c1 [14])])]}
theorem C.q1r{c:Z}:Q1 (M.q1r c) 54 [.s c] fun r=>[.b r]:=Kf Tryz.func54 A.q1r (S.ja0 9 rfl (S.ho (fun a=>oL [(14,.b a)]) (fun _=>S.cb (S.k0 (C.trim _ _) fun d=>S.n S.zr) S.zr) fun a=>S.q))
def A.q35:Ann:={reg:=[(1,[(6,7,c1 [17])])]}
theorem C.q35{c d:Z}:Q1 (M.q35 c d) 209 [.s c,.s d] fun r=>[.b r]:=Kf Tryz.func209 A.q35 (S.ho (fun a=>oL [(17,.b a)]) (fun _=>S.cb (S.e fun f=>S.zr) S.zr) fun a=>S.q)
theorem C.q7a{a c:Z}:Q1 (M.q7a a c) 98 [.s a,.s c] fun r=>[.b r]:=Kf Tryz.func98 {} (S.k0 C.q35 fun d=>S.n S.q)
def A.q22:Ann:={seq:=[(7,c1 [])],loop:=[(2,c1 [0,1,2,9,10])],reg:=[(4,[(6,6,c1 [0,1,2,9,10,24])])]}
theorem C.q22{d:Z}{f g:Int}:Q1 (M.q22 d f g) 99 [.s d,.int .u8 f,.int .u8 g] fun r=>[.b r]:=Kf Tryz.func99 A.q22 (S.gn (fun _=>oL []) (S.lw (L:=M.z4x d f g) (fun c=>oL [(10,.i c)]) (M.z4x.partial_correctness _ _ _) rfl fun _ _ ih_z4x c=>S.cb (S.e fun h=>S.ho (fun a=>oL [(24,.b a)]) (fun _=>S.cb S.zr (S.e fun j=>S.zr)) fun a=>S.cb S.q (ih_z4x _)) S.zr) fun k=>S.q)
def A.q78:Ann:={fin:=[(.cell 0 1,0,5,1)],nb:=1}
theorem C.q78{a:List Int}{b:Z}:Qs (M.q78 a b) 56 ⟨[.p 0,.s b],[⟨89,[.z1e 0,.ref 0]⟩],[(5,1,a.map (eI .u8))]⟩ fun r=>.ok [.i r.1,.zfr] [⟨89,[.z1e 0,.ref 0]⟩] [some (5,1,r.2.map (eI .u8))]:=Kf Tryz.func56 A.q78 (S.kk [0] [0] [5020] (C.z4n _) fun c=>S.n (S.z7e (eI .u8) fun d=>S.q))
def A.q0o:Ann:={reg:=[(4,[(10,3,c1 [25,31])])],drw:=[(3,{anc:=[0,0,2,7,0,0,32,127,255,511],E:=[3,7],qs:=[0,1,2,4,5,6],g:=.one 3 [4,5,6] [] (.one 7 [] [8,9] .fin),lin:=some []})]}
theorem C.q0o{a c:Z}:Q1 (M.q0o a c) 210 [.s a,.s c] fun r=>[.int .u8 r.1,.b r.2]:=Kf Tryz.func210 A.q0o (S.cb S.q (S.e fun c1=>S.e fun g=>S.k0 (C.z16 _ _) fun d=>S.n (S.k0 (C.z16 _ _) fun f=>S.n (S.eq (by decide:chk _=some ()) (S.eq (by decide:chk _=some ()) (S.eq (by decide:chk _=some ()) (S.ja0 31 rfl S.q)))))))
def A.q77:Ann:={fin:=[(.cell 0 1,0,5,1)],nb:=1}
theorem C.q77{a:List Int}{b:Int}:Qs (M.q77 a b) 108 ⟨[.p 0,.int .u8 b],[⟨89,[.z1e 0,.ref 0]⟩],[(5,1,a.map (eI .u8))]⟩ fun r=>.ok [.zfr] [⟨89,[.z1e 0,.ref 0]⟩] [some (5,1,r.map (eI .u8))]:=Kf Tryz.func108 A.q77 (S.kk [0] [0] [5020] (C.z4n _) fun c=>S.n (S.z7e (eI .u8) fun d=>S.q))
def A.q0l:Ann:={loop:=[(2,{L:=[0,4],B:=[1004],A:=[3003],H:=[(.cell 1004 1,3003,5,1)]})],reg:=[(7,[(3,4,{L:=[4,6,8,32],B:=[1004],A:=[3005],H:=[(.cell 1004 1,3005,5,1)]})])]}
theorem C.q0l{g:Z}:Q1 (M.q0l g) 100 [.s g] fun r=>[.s r.1,.i r.2]:=Kf Tryz.func100 A.q0l (S.lw2 (L:=M.z1f) (fun c d=>⟨[(0,.s c)],[(1004,⟨89,[.z1e 1004,.ref 3003]⟩)],[(3003,⟨true,5,1,d.map (eI .u8)⟩)]⟩) M.z1f.partial_correctness rfl fun _ _ ih_z1f c d=>S.k0 (C.cut _ _) fun h=>S.n (S.kk [1004] [3003] [5480] C.q78 fun f=>S.n (S.cb (S.kk [1004] [5480] [5520] (C.zt _) fun j=>S.n S.q) (S.k0 C.q0o fun k=>S.n (S.ho (fun a=>⟨[(32,.b a)],[(1004,⟨89,[.z1e 1004,.ref 3005]⟩)],[(3005,⟨true,5,1,f.2.map (eI .u8)⟩)]⟩) (fun _=>S.cb S.zr (S.e fun o=>S.k0 (C.containsAny _ _) fun l=>S.n S.zr)) fun a=>S.cb S.q (S.kk [1004] [3005] [5640] C.q77 fun m=>S.n (S.e fun p=>ih_z1f _ _)))))))
def A.q0k:Ann:={seq:=[(19,{L:=[5],B:=[],A:=[3006],H:=[(.slot 5 none,3006,72,2)]})],loop:=[(8,{L:=[5,29,30,31],B:=[],A:=[3007],H:=[(.slot 5 none,3007,72,2)]})],reg:=[(2,[(4,4,c1 [0,4,25])]),(15,[(3,3,{L:=[5,11,13,29,30,31,59],B:=[],A:=[3011],H:=[(.slot 5 none,3011,72,2)]})])]}
theorem C.q0k{d:Z}:Q1 (M.q0k d) 101 [.s d] fun r=>[.l72 r.1,.i r.2]:=Kf Tryz.func101 A.q0k (S.k0 (C.split _ _) fun e=>S.n (S.ju 25 (fun _=>Ex.i z1s (jbI rfl rfl)) (S.cb S.q (S.cb S.q (S.gn (fun a=>⟨[(5,.ref 3006)],[],[(3006,⟨true,72,2,a.map q05.enc⟩)]⟩) (S.m (S.lw2 (L:=M.z1m e) (fun b c=>⟨[(5,.ref 3007),(31,.i c)],[],[(3007,⟨true,72,2,b.map q05.enc⟩)]⟩) (M.z1m.partial_correctness _) rfl fun _ _ ih_z1m b c=>S.cb (by exact S.ixf eS fun l=>S.cb S.q (S.k0 (C.replaceAll _ _ _) fun f=>S.n (S.k0 (C.cut _ _) fun g=>S.n (S.k0 C.q0l fun h=>S.n (S.k0 C.q0l fun j=>S.n (S.ju0 59 rfl (S.cb S.q (S.z7e q05.enc (fun k=>ih_z1m _ _) (by first|rfl|simp only[ya,yb,q05.z14]))))))))) S.zr)) fun a=>S.q)))))
def A.q2v:Ann:={seq:=[(12,{L:=[2,4,6],B:=[1002,1004],A:=[3002],H:=[(.cell 1004 1,3002,9,1)]})],loop:=[(6,{L:=[2,4,6,58,59,60],B:=[1002,1004],A:=[3003],H:=[(.cell 1004 1,3003,9,1)]})],reg:=[(2,[(4,5,cu [2,3,24] [1002] []),(1,5,cu [2,3,30] [1002] []),(1,5,cu [2,3,36] [1002] []),(1,5,cu [2,3,42] [1002] [])]),(13,[(3,5,{L:=[2,4,12,91],B:=[1002,1004],A:=[3004],H:=[(.cell 1004 1,3004,9,1)]})])],fin:=[(.cell 1002 3,0,72,2)]}
theorem C.q2v{w:Z}:Qs (M.q2v w) 34 ⟨[.s w],[],[]⟩ (ro 59 .i64 fun r=>.ok [.agg [.s r.z0k,.l9 r.z0o,.l72 r.z1o,.ref 0,.s r.z0l]] [] [some (72,2,r.z1r.map q05.enc)]):=Kf Tryz.func34 A.q2v (S.k0 (C.split _ _) fun R=>S.n (S.m (S.ho (fun v=>oL [(24,.b v)]) (fun _=>S.cb (S.ixf eS fun U=>S.k0 C.q1r fun T=>S.n S.zr) S.zr) fun v=>S.ho (fun c=>oL [(30,.b c)]) (fun _=>S.cb (S.ixf eS fun K=>S.zr) S.zr) fun c=>S.ho (fun d=>oL [(36,.b d)]) (fun _=>S.cb (S.ixf eS fun N=>S.k0 C.q7a fun x=>S.n S.zr) S.zr) fun d=>S.ho (fun f=>oL [(42,.b f)]) (fun _=>S.cb (S.ixf eS fun O=>S.k0 C.q22 fun y=>S.n S.zr) S.zr) fun f=>S.k0 C.q1s fun l=>by exact match l with|.pan G=>S.n S.zr|.ok z=>S.n (S.ixf eS fun h=>S.ixf eS fun P=>S.k0 (C.cut _ _) fun B=>S.n (S.gn (fun g=>⟨[],[(1004,⟨25,[.s h,.ref 3002,.nil,.nil,.s []]⟩)],[(3002,⟨true,9,1,g.map eS⟩)]⟩) (by exact S.e fun J=>S.k0 (C.split _ _) fun o=>S.n (S.m (S.lw2 (L:=M.z3o o) (fun j k=>⟨[(60,.i j)],[(1004,⟨25,[.s h,.ref 3003,.nil,.nil,.s []]⟩)],[(3003,⟨true,9,1,k.map eS⟩)]⟩) (M.z3o.partial_correctness _) rfl fun _ _ ih_z3o j k=>S.cb (S.ixf eS fun Q=>S.k0 C.q0l fun D=>S.n (S.k0 C.q1s fun p=>match p with|.pan H=>S.n S.zr|.ok E=>S.n (S.z7e eS fun I=>ih_z3o _ _))) S.zr))) fun g=>S.k0 C.q0k fun F=>S.n (S.ja 91 (fun _=>Ex.i z1s (jbI rfl rfl)) (S.k0 C.q1s fun a=>match a with|.pan u=>S.n S.zr|.ok t=>S.n S.q)))))))
def A.q1t:Ann:={reg:=[(1,[(3,4,c1 [0,9]),(1,4,c1 [14])])]}
theorem C.q1t{c:Z}:Q1 (M.q1t c) 39 [.s c] fun r=>[.b r]:=Kf Tryz.func39 A.q1t (S.ja0 9 rfl (S.ho (fun a=>oL [(14,.b a)]) (fun _=>S.cb (S.k0 (C.trim _ _) fun d=>S.n S.zr) S.zr) fun a=>S.q))
def A.q2x:Ann:={reg:=[(1,[(3,5,c1 [10])])]}
theorem C.q2x{c:Z}:Q1 (M.q2x c) 40 [.s c] fun r=>[.b r]:=Kf Tryz.func40 A.q2x (S.k0 C.q22 fun d=>S.n (S.ho (fun a=>oL [(10,.b a)]) (fun _=>S.cb (S.k0 (C.trim _ _) fun e=>S.n S.zr) S.zr) fun a=>S.q))
def A.q1w:Ann:={reg:=[(2,[(4,5,c1 [0,6,13,21]),(1,3,c1 [0,6,13,25]),(1,5,c1 [13,31])])]}
theorem C.q1w{c:Z}{d:Int}:Q1 (M.q1w c d) 41 [.s c,.i d] fun r=>[.i r.1,.b r.2]:=Kf Tryz.func41 A.q1w (S.k0 (C.atoi _) fun f=>S.n (S.ja0 21 rfl (S.ja0 25 rfl (S.ho (fun a=>oL [(31,.b a)]) (fun _=>S.cb (S.k0 (C.itoa _) fun e=>S.n S.zr) S.zr) fun a=>S.q))))
def A.q0s:Ann:={seq:=[(23,{L:=[0,2,3,4,6,7],B:=[990,991,992,1037],A:=[3012],H:=[(.cell 990 3,3012,72,2)]})],loop:=[(10,{L:=[0,2,3,4,6,7,40,41,42],B:=[990,991,992,1037],A:=[3017],H:=[(.cell 990 3,3017,72,2)]})],reg:=[(3,[(3,4,cu [0,2,3,4,23] [990,991,992] [])]),(16,[(2,3,{L:=[0,2,3,4,6,7,10,13,40,41,42,66],B:=[990,991,992,1037],A:=[3021],H:=[(.cell 990 3,3021,72,2)]}),(1,4,{L:=[0,2,3,4,6,7,10,13,40,41,42,71],B:=[990,991,992,1037],A:=[3022],H:=[(.cell 990 3,3022,72,2)]}),(1,5,{L:=[0,2,3,4,6,7,10,13,40,41,42,77],B:=[990,991,992,1037],A:=[3023],H:=[(.cell 990 3,3023,72,2)]})])],drw:=[(27,{anc:=[0,0,0,6,1,31,63],E:=[4,5,6],qs:=[0,1,2,3],g:=.one 4 [1,2,3] [] (.one 5 [] [] (.one 6 [] [] .fin))})],ro:=[13]}
theorem C.zqo:zgq Tryz.prog GG 30 [(25,5),(3,1),(26,1)] 59 .i64 fun e=>[⟨25,[.s [],.nil,.nil,.nil,.s []]⟩,⟨3,[.i 0]⟩,⟨26,[.i e]⟩]:=⟨Kr Tryz.func30 {drw:=[(2,{anc:=[0,0,2,1,9,31],E:=[3,4,5],qs:=[0,1,2],g:=.one 3 [1,2] [] (.one 4 [1,2] [] (.one 5 [] [] .fin))})]} S.q,fun e=>Kr Tryz.func30 {drw:=[(2,{anc:=[0,0,2,1,9,31],E:=[3,4,5],qs:=[0,1,2],g:=.one 3 [1,2] [] (.one 4 [1,2] [] (.one 5 [] [] .fin))})],nb:=3} (S.n (S.n (S.n (S.n S.q))))⟩
theorem C.q0s{p0:Z}:Q1 (M.q0s p0) 12 [.s p0] fun r=>[.agg r.1.v,.i r.2.1,.i r.2.2]:=Ke C.zqo Tryz.func12 A.q0s (S.k0 C.q1h fun a1=>S.n (S.ju0 23 rfl (S.k0 C.q1s fun a5=>match a5 with|.pan e8=>S.n S.qd|.ok a7=>S.n (S.k0 C.q1s fun a9=>by exact match a9 with|.pan b5=>S.n S.qd|.ok b3=>S.n (S.e fun b8=>S.k0 (C.split _ _) fun b4=>S.n (S.ixf eS fun b9=>S.kk [] [] [5180] C.q2v fun J=>match J with|.pan b6=>S.n S.qd|.ok a=>S.n (S.z97 (l:=[]) (f:=fun x:Z×Bool=>D.str x.1::eB x.2) (kf:=D.str) (vf:=eB) (fun _=>rfl) z9w rfl rfl fun b7=>S.gn (fun g=>⟨[(6,.i g.1)],[(990,⟨25,[.s a.z0k,.l9 a.z0o,.l72 a.z1o,.ref 3012,.s a.z0l]⟩),(1037,⟨1000000,[.md (.cont none false (g.2.2.map fun x:Z×Bool=>D.str x.1::eB x.2))]⟩)],[(3012,⟨true,72,2,g.2.1.map q05.enc⟩)]⟩) (S.m (S.zvi eS fun I=>by exact S.m (S.lw4 (L:=M.z2a I) (fun p t d u=>⟨[(6,.i p),(42,.i t)],[(990,⟨25,[.s a.z0k,.l9 a.z0o,.l72 a.z1o,.ref 3017,.s a.z0l]⟩),(1037,⟨1000000,[.md (.cont none false (u.map fun x:Z×Bool=>D.str x.1::eB x.2))]⟩)],[(3017,⟨true,72,2,d.map q05.enc⟩)]⟩) (M.z2a.partial_correctness _) rfl fun _ _ ih_z2a p t d u=>S.cb (S.ixf eS fun b2=>S.k0 C.q1s fun w=>match w with|.pan Y=>S.n S.qd|.ok K=>S.n (S.k0 (C.cut _ _) fun N=>S.n (S.k0 (C.z6d _) fun y=>S.n (S.k0 (C.trim _ _) fun O=>S.n (by exact S.ho (fun h=>⟨[(66,.b h)],[(990,⟨25,[.s a.z0k,.l9 a.z0o,.l72 a.z1o,.ref 3021,.s a.z0l]⟩)],[(3021,⟨true,72,2,d.map q05.enc⟩)]⟩) (fun _=>S.cb (S.k0 C.q1t fun P=>S.n S.zr) S.zr) fun h=>S.ho (fun j=>⟨[(71,.b j)],[(990,⟨25,[.s a.z0k,.l9 a.z0o,.l72 a.z1o,.ref 3022,.s a.z0l]⟩)],[(3022,⟨true,72,2,d.map q05.enc⟩)]⟩) (fun _=>S.cb (S.k0 C.q2x fun Q=>S.n S.zr) S.zr) fun j=>S.ho (fun o=>⟨[(77,.b o)],[(990,⟨25,[.s a.z0k,.l9 a.z0o,.l72 a.z1o,.ref 3023,.s a.z0l]⟩)],[(3023,⟨true,72,2,d.map q05.enc⟩)]⟩) (fun _=>S.cb (S.mget (f:=fun x:Z×Bool=>D.str x.1::eB x.2) (kf:=D.str) (vf:=eB) (fun _=>rfl) z9w (k:=y) (z:=false) (c:=fun x:Bool=>[.bool x]) rfl rfl (fun _=>rfl) S.zr) S.zr) fun o=>S.k0 C.q1s fun B=>match B with|.pan a0=>S.n S.qd|.ok R=>S.n (S.z97 (f:=fun x:Z×Bool=>D.str x.1::eB x.2) (kf:=D.str) (vf:=eB) (fun _=>rfl) z9w rfl rfl fun b0=>S.cb (S.z7e q05.enc (fun a8=>ih_z2a _ _ _ _) (by first|rfl|simp only[ya,yb,q05.z14])) (S.k0 C.q1w fun T=>S.n (S.k0 C.q1s fun E=>match E with|.pan a2=>S.n S.qd|.ok U=>S.n (ih_z2a _ _ _ _))))))))) S.zr))) fun g=>S.mget (f:=fun x:Z×Bool=>D.str x.1::eB x.2) (kf:=D.str) (vf:=eB) (fun _=>rfl) z9w (k:=[104,111,115,116]) (z:=false) (c:=fun x:Bool=>[.bool x]) rfl rfl (fun _=>rfl) (S.k0 C.q1s fun F=>by exact match F with|.pan a3=>S.n S.qd|.ok V=>S.n (S.k0 C.q1s fun G=>match G with|.pan a4=>S.n S.qd|.ok W=>S.n (S.k0 C.q1s fun H=>match H with|.pan a6=>S.n S.qd|.ok X=>S.n (S.e fun b1=>S.n (S.n (S.n (S.n S.q))))))))))))))
def A.q5z:Ann:={seq:=[(6,c1 [])],loop:=[(2,c1 [0,3])],reg:=[(2,[(5,3,c1 [0,3,11])])]}
theorem C.q5z{b:Z}:Q1 (M.q5z b) 42 [.s b] fun r=>[.i r]:=Kf Tryz.func42 A.q5z (S.gn (fun _=>oL []) (S.lw (L:=M.z3w b) (fun a=>oL [(3,.i a)]) (M.z3w.partial_correctness _) rfl fun _ _ ih_z3w a=>S.ja0 11 rfl (S.cb (S.e fun d=>S.cb S.q (ih_z3w _)) S.zr)) fun c=>S.q)
def A.q5x:Ann:={seq:=[(9,{L:=[5],B:=[],A:=[3006],H:=[(.slot 5 none,3006,9,1)]})],loop:=[(4,{L:=[0,1,5,6,7],B:=[],A:=[3009],H:=[(.slot 5 none,3009,9,1)]})],reg:=[(6,[(5,6,{L:=[0,1,5,6,7,25],B:=[],A:=[3011],H:=[(.slot 5 none,3011,9,1)]})])],own:=[8]}
theorem C.q5x{h:Z}{j:Int}:Q1 (M.q5x h j) 93 [.s h,.int .u8 j] fun r=>[.l9 r]:=Kf Tryz.func93 A.q5x (S.hn (fun c=>⟨[(5,.ref 3006)],[],[(3006,⟨true,9,1,c.map eS⟩)]⟩) (fun _=>S.lw3 (L:=M.z4p h j) (fun a f g=>⟨[(5,.ref 3009),(6,.i f),(7,.i g)],[],[(3009,⟨true,9,1,a.map eS⟩)]⟩) (M.z4p.partial_correctness _ _) rfl fun _ _ ih_z4p a f g=>S.cb (S.ho (fun d=>⟨[(5,.ref 3011),(25,.b d)],[],[(3011,⟨true,9,1,a.map eS⟩)]⟩) (fun _=>S.cb S.zr (S.e fun k=>S.zr)) fun d=>S.cb (S.e fun m=>S.z7e eS fun l=>ih_z4p _ _ _) (ih_z4p _ _ _)) S.zr) fun c=>S.q)
def A.q64:Ann:={seq:=[(6,c1 [0])],loop:=[(2,c1 [0,1,7])],drw:=[(5,{anc:=[0,0,3,0,0,16,56,7,255,511],E:=[],qs:=[0,1,2,3,4,5,6,7,8,9],g:=.fin,lin:=some []})]}
theorem C.q64{c:Z}{d:Int}:Q1 (M.q64 c d) 44 [.s c,.int .u8 d] fun r=>[.s r.1,.s r.2.1,.b r.2.2]:=Kf Tryz.func44 A.q64 (S.gn (fun _=>oL []) (S.lw (L:=M.z4a c d) (fun a=>oL [(7,.i a)]) (M.z4a.partial_correctness _ _) rfl fun _ _ ih_z4a a=>S.cb (S.e fun f=>S.cb (S.e fun h=>S.e fun j=>S.q) (ih_z4a _)) S.zr) fun g=>S.q)
def A.q5w:Ann:={seq:=[(10,c1 [5])],loop:=[(5,c1 [0,5,6])],reg:=[(1,[(3,5,c1 [0,14]),(1,8,c1 [0,23])]),(7,[(5,5,c1 [0,5,6,39])])]}
theorem C.q5w{h:Z}{j:Int}:Q1 (M.q5w h j) 50 [.s h,.i j] fun r=>[.i r]:=Kf Tryz.func50 A.q5w (S.ju0 14 rfl (S.ho (fun a=>oL [(23,.b a)]) (fun _=>S.cb S.zr (S.e fun k=>S.cb S.zr S.zr)) fun a=>S.cb S.q (S.gn (fun c=>oL [(5,.i c)]) (S.lw2 (L:=M.z48 h) (fun f g=>oL [(5,.i f),(6,.i g)]) (M.z48.partial_correctness _) rfl fun _ _ ih_z48 f g=>S.cb (S.e fun l=>S.ho (fun d=>oL [(39,.b d)]) (fun _=>S.cb S.zr (S.e fun m=>S.zr)) fun d=>S.cb S.q (S.e fun n=>ih_z48 _ _)) S.zr) fun c=>S.q)))
theorem C.q1z{a:Z}{b:Nat}:Q1 (M.q1z a b) 151 [.s a,.fn b [] []] fun r=>[.agg r.v]:=Kf Tryz.func151 {} S.q
theorem C.q2z{a:Z}{b:Nat}:Q1 (M.q2z a b) 159 [.s a,.fn b [] []] fun r=>[.agg r.v]:=Kf Tryz.func159 {} S.q
theorem C.q1l{a b:Z}:Q1 (M.q1l a b) 154 [.s a,.s b] fun r=>[.agg r.v]:=Kf Tryz.func154 {} S.q
def A.q2k:Ann:={own:=[8,13]}
theorem C.q2k{a:Z}{b:List q0b}:Q1 (M.q2k a b) 150 [.s a,.l179 b] fun r=>[.l179 r]:=Kf Tryz.func150 A.q2k (S.k0 C.q1z fun c=>S.n (S.k0 C.q1z fun d=>S.n (S.cb (S.k0 C.q1l fun e=>S.n (S.z7e q0b.enc (fun f=>S.z7e q0b.enc fun g=>S.q) (by first|rfl|simp only[ya,yb,q0b.z14]))) (S.z7e q0b.enc fun l9=>S.q))))
def A.q2j:Ann:={reg:=[(2,[(40,0,c1 [1,5,8,14,15,18,19,20,23,27,36,37,41]),(50,0,c1 [0])])]}
theorem C.q2j:Q1 M.q2j 78 [] fun r=>[.l112 r]:=Kf Tryz.func78 A.q2j (S.k0 C.q1z fun R=>S.n (S.k0 C.q1z fun T=>S.n (S.k0 C.q1z fun U=>S.n (S.k0 C.q1z fun V=>S.n (by exact S.k0 C.q2z fun W=>S.n (S.k0 C.q2z fun a=>S.n (S.k0 C.q2z fun b=>S.n (S.k0 C.q2z fun c=>S.n (S.k0 C.q1z fun d=>S.n (S.k0 C.q1z fun e=>S.n (S.k0 C.q1z fun f=>by exact S.n (S.k0 C.q1l fun g=>S.n (S.k0 C.q1z fun h=>S.n (S.k0 C.q1z fun i=>S.n (S.k0 C.q1z fun j=>S.n (S.k0 C.q1l fun k=>S.n (S.k0 C.q1z fun l=>S.n (by exact S.k0 C.q1z fun m=>S.n (S.k0 C.q1z fun o=>S.n (S.k0 C.q1z fun p=>S.n (S.k0 C.q1z fun s=>S.n (S.jq (S.k0 C.q2k fun t=>S.n (S.k0 C.q1z fun u=>S.n (by exact S.k0 C.q1z fun v=>S.n (S.k0 C.q2k fun w=>S.n (S.k0 C.q1z fun x=>S.n (S.k0 C.q1z fun y=>S.n (S.k0 C.q2k fun z=>S.n (S.k0 C.q1z fun B=>S.n (S.k0 C.q1z fun D=>by exact S.n (S.k0 C.q1z fun E=>S.n (S.k0 C.q1z fun F=>S.n (S.k0 C.q2k fun G=>S.n (S.k0 C.q1z fun H=>S.n (S.k0 C.q2k fun I=>S.n (S.k0 C.q1z fun J=>S.n (by exact S.k0 C.q2k fun K=>S.n (S.k0 C.q1z fun L=>S.n (S.k0 C.q1l fun N=>S.n (S.k0 C.q1l fun O=>S.n (S.k0 C.q1z fun P=>S.n (S.k0 C.q1z fun Q=>S.n (S.jq S.q))))))))))))))))))))))))))))))))))))))))))))
def A.q2d:Ann:={seq:=[(14,cu [] [0] [])],loop:=[(5,cu [2,7,19,20,21] [0] [])],reg:=[(7,[(6,3,cu [2,7,8,9,19,20,21,35] [0] [])]),(11,[(7,6,cu [2,7,19,20,21,63] [0] [])])],ro:=[3],nb:=1}
theorem C.q2d{k:q0a}{j:List Z}{a:q00}:Qs (M.q2d k j a) 81 ⟨[.agg k.v,.l9 j,.p 0],[⟨46,a.v⟩],[]⟩ fun r=>.ok [.b r.1] [⟨46,r.2.v⟩] []:=Kf Tryz.func81 A.q2d (S.e fun y=>S.k0 (C.split _ _) fun l=>S.n (S.m (S.m (S.cb S.q (S.gn (fun c=>oB [] [(0,⟨46,[.i a.zh,.s c.1,.s a.z7l,.s a.z7k,.s a.z09,.s a.z1i,.s a.z5g,.s a.z5f,.s a.z0e,.s a.z36,.s a.z1c,.s a.zj,.s a.z1b,.s a.z0v,.s a.z1d,.s a.z13,.s c.2,.s a.z8e,.s a.z0l,.s a.zj7,.s a.zca,.s a.z34,.s a.z4w,.zvt a.z0y,.i a.z7j,.i a.z4s]⟩)]) (by exact S.m (S.lw3 (L:=M.z0z j l a) (fun f g h=>oB [(21,.i f)] [(0,⟨46,[.i a.zh,.s g,.s a.z7l,.s a.z7k,.s a.z09,.s a.z1i,.s a.z5g,.s a.z5f,.s a.z0e,.s a.z36,.s a.z1c,.s a.zj,.s a.z1b,.s a.z0v,.s a.z1d,.s a.z13,.s h,.s a.z8e,.s a.z0l,.s a.zj7,.s a.zca,.s a.z34,.s a.z4w,.zvt a.z0y,.i a.z7j,.i a.z4s]⟩)]) (M.z0z.partial_correctness _ _ _) rfl fun _ _ ih_z0z f g h=>S.cb (S.ixf eS fun o=>S.ixf eS fun t=>S.ja0 35 rfl (S.cb (ih_z0z _ _ _) (S.ixf eS fun u=>S.cb (ih_z0z _ _ _) (S.ixf eS fun w=>S.ho (fun d=>oL [(63,.b d)]) (fun _=>S.cb S.zr (S.ixf eS fun x=>S.zr)) fun d=>S.cb S.q (ih_z0z _ _ _))))) S.zr)) fun c=>S.q)))))
def A.q0m:Ann:={seq:=[(8,c1 [6,7])],loop:=[(3,c1 [0,1,6,7,8])]}
theorem C.q0m{e:List q05}{f:Z}:Q1 (M.q0m e f) 239 [.l72 e,.s f] fun r=>[.s r.1,.i r.2]:=Kf Tryz.func239 A.q0m (S.hn (fun a=>oL [(6,.s a.1),(7,.i a.2)]) (fun _=>S.m (S.lw3 (L:=M.z3b e f) (fun b c d=>oL [(6,.s b),(7,.i c),(8,.i d)]) (M.z3b.partial_correctness _ _) rfl fun _ _ ih_z3b b c d=>S.cb (S.ixm q05.z14 fun g=>S.cb (S.ixm q05.z14 fun h=>ih_z3b _ _ _) (ih_z3b _ _ _)) S.zr)) fun a=>S.q)
theorem C.q1k{a:List q05}{c:Z}:Q1 (M.q1k a c) 236 [.l72 a,.s c] fun r=>[.s r.1,.b r.2]:=Kf Tryz.func236 {} (S.k0 C.q0m fun d=>S.n S.q)
theorem C.q34{a c:Z}:Q1 (M.q34 a c) 289 [.s a,.s c] fun r=>[.s r.1,.b r.2]:=Kf Tryz.func289 {} (S.k0 C.q35 fun d=>S.n (S.cb S.q (S.e fun f=>S.q)))
theorem C.q79{a c:Z}:Q1 (M.q79 a c) 237 [.s a,.s c] fun r=>[.s r.1,.b r.2]:=Kf Tryz.func237 {} (S.k0 C.q34 fun d=>S.n S.q)
def A.q1e:Ann:={seq:=[(9,c1 [])],loop:=[(3,c1 [15,16,17])]}
theorem C.q1e{c:List q05}:Q1 (M.q1e c) 235 [.l72 c] fun r=>[.s r]:=Kf Tryz.func235 A.q1e (S.k0 C.q1k fun h=>by exact S.n (S.gn (fun _=>oL []) (S.k0 (C.split _ _) fun b=>S.n (S.m (S.lw (L:=M.z2o b) (fun a=>oL [(17,.i a)]) (M.z2o.partial_correctness _) rfl fun _ _ ih_z2o a=>S.cb (S.ixf eS fun g=>S.k0 (C.trim _ _) fun d=>S.n (S.k0 C.q79 fun e=>S.n (S.cb S.q (ih_z2o _)))) S.zr))) fun f=>S.q))
def A.q2g:Ann:={seq:=[(4,cu [1,2,3] [0] []),(9,cu [1,2,3] [0] [])],reg:=[(5,[(2,5,cu [1,2,3,6,39] [0] [])]),(7,[(2,3,cu [1,2,3,8,49] [0] [])]),(10,[(2,5,cu [2,10,66] [0] [])]),(11,[(4,4,cu [2,10,74] [0] []),(1,7,cu [2,10,82] [0] [])]),(13,[(6,7,cu [104] [0] [])])],ro:=[3],nb:=1}
theorem C.q2g{y:q0a}{z:List q05}{a:q00}:Qs (M.q2g y z a) 180 ⟨[.agg y.v,.l72 z,.p 0],[⟨46,a.v⟩],[]⟩ (rb 59 .i64 (fun r=>.ok [] [⟨46,r.v⟩] []) fun x=>[⟨46,x.v⟩]):=Kf Tryz.func180 A.q2g (S.gn (fun c=>oB [] [(0,⟨46,[.i a.zh,.s a.gOf,.s a.z7l,.s a.z7k,.s c,.s a.z1i,.s a.z5g,.s a.z5f,.s a.z0e,.s a.z36,.s a.z1c,.s a.zj,.s a.z1b,.s a.z0v,.s a.z1d,.s a.z13,.s a.z05,.s a.z8e,.s a.z0l,.s a.zj7,.s a.zca,.s a.z34,.s a.z4w,.zvt a.z0y,.i a.z7j,.i a.z4s]⟩)]) (S.cb (S.k0 C.q1e fun B=>S.n (S.k0 (C.trim _ _) fun D=>S.n (S.k0 C.q1s fun l=>match l with|.pan P=>S.n S.qb|.ok E=>S.n S.zr))) S.zr) fun c=>S.gn (fun f=>oB [] [(0,⟨46,[.i a.zh,.s a.gOf,.s a.z7l,.s a.z7k,.s c,.s a.z1i,.s f,.s a.z5f,.s a.z0e,.s a.z36,.s a.z1c,.s a.zj,.s a.z1b,.s a.z0v,.s a.z1d,.s a.z13,.s a.z05,.s a.z8e,.s a.z0l,.s a.zj7,.s a.zca,.s a.z34,.s a.z4w,.zvt a.z0y,.i a.z7j,.i a.z4s]⟩)]) (S.k0 C.q1k fun F=>S.n (S.ja0 39 rfl (S.cb (S.k0 C.q79 fun G=>S.n (S.ho (fun g=>oL [(49,.b g)]) (fun _=>S.cb (S.k0 C.q22 fun H=>S.n S.zr) S.zr) fun g=>S.k0 C.q1s fun m=>match m with|.pan Q=>S.n S.qb|.ok I=>S.n S.zr)) S.zr))) fun f=>S.k0 C.q1k fun J=>S.n (S.ja0 66 rfl (by exact S.cb (S.ho (fun h=>oL [(74,.b h)]) (fun _=>S.cb (S.e fun N=>S.zr) S.zr) fun h=>S.ho (fun j=>oL [(82,.b j)]) (fun _=>S.cb (S.e fun O=>S.zr) S.zr) fun j=>S.k0 C.q1s fun o=>match o with|.pan R=>S.n S.qb|.ok K=>S.n (S.e fun T=>S.k0 C.q22 fun L=>S.n (S.ho (fun k=>oL [(104,.b k)]) (fun _=>S.cb (S.k0 (C.contains _ _) fun t=>S.n S.zr) S.zr) fun k=>S.k0 C.q1s fun d=>match d with|.pan w=>S.n S.qb|.ok u=>S.n S.q))) S.q)))
def A.q2f:Ann:={nb:=1}
theorem C.q2f{c:q0b}{a:q05}:Qs (M.q2f c a) 241 ⟨[.agg c.v,.p 0],[⟨72,a.v⟩],[]⟩ fun r=>.ok [.b r] [⟨72,a.v⟩] []:=Kf Tryz.func241 A.q2f S.q
def A.q72:Ann:={seq:=[(7,cu [] [0] [])],loop:=[(2,cu [0,1,7,8] [0] [])],nb:=1}
theorem C.q72{c:List q0b}{b:q05}:Qs (M.q72 c b) 290 ⟨[.l179 c,.fn 241 [] [.p 0]],[⟨72,b.v⟩],[]⟩ fun r=>.ok [.i r] [⟨72,b.v⟩] []:=Kf Tryz.func290 A.q72 (S.gn (fun _=>oL []) (S.m (S.lw (L:=M.zi c b) (fun a=>oL [(8,.i a)]) (M.zi.partial_correctness _ _) rfl fun _ _ ih_zi a=>S.cb (S.ixm q0b.z14 fun f=>S.kk [0] [] [] C.q2f fun d=>S.n (S.cb S.q (ih_zi _))) S.zr)) fun e=>S.q)
def A.q6x:Ann:={nb:=1}
theorem C.q6x{c:List q0b}{a:q05}:Qs (M.q6x c a) 240 ⟨[.l179 c,.fn 241 [] [.p 0]],[⟨72,a.v⟩],[]⟩ fun r=>.ok [.b r] [⟨72,a.v⟩] []:=Kf Tryz.func240 A.q6x (S.kk [0] [] [] C.q72 fun d=>S.n S.q)
def A.q2u:Ann:={nb:=1}
theorem C.q2u{b:q0b}{a:q00}:Qs (M.q2u b a) 173 ⟨[.agg b.v,.p 0],[⟨46,a.v⟩],[]⟩ fun r=>.ok [pn 0 r] [⟨46,a.v⟩] []:=Kf Tryz.func173 A.q2u (S.cb S.q (S.cb S.q S.q))
def A.q0j:Ann:={seq:=[(15,{L:=[4,5,6],B:=[],A:=[3002],H:=[(.slot 4 none,3002,5,1)]})],loop:=[(4,{L:=[4,5,6,11,12,13],B:=[],A:=[3003],H:=[(.slot 4 none,3003,5,1)]})],reg:=[(15,[(3,3,{L:=[4,49],B:=[],A:=[3004],H:=[(.slot 4 none,3004,5,1)]})])]}
theorem C.q0j{h:Z}:Q1 (M.q0j h) 242 [.s h] fun r=>[.s r.1,.i r.2]:=Kf Tryz.func242 A.q0j (S.gn (fun a=>⟨[(4,.ref 3002),(5,.i a.2.1),(6,.i a.2.2)],[],[(3002,⟨true,5,1,a.1.map (eI .u8)⟩)]⟩) (by exact S.e fun _=>S.m (S.lw4 (L:=M.z0w h) (fun b c f g=>⟨[(4,.ref 3003),(5,.i c),(6,.i f),(13,.i g)],[],[(3003,⟨true,5,1,b.map (eI .u8)⟩)]⟩) (M.z0w.partial_correctness _) rfl fun _ _ ih_z0w b c f g=>S.cb (S.ixf (eI .u8) fun l=>S.k0 (C.z16 _ _) fun j=>S.n (S.cb S.q (S.eq (by decide:chk _=some ()) (S.cb (S.e fun _=>S.z7e (eI .u8) fun k=>S.e fun _=>ih_z0w _ _ _ _) (ih_z0w _ _ _ _))))) S.zr)) fun a=>S.ju0 49 rfl (S.cb S.q (S.d S.q)))
def A.q2w:Ann:={nb:=1}
theorem C.q2w{a:q00}:Qs (M.q2w a) 155 ⟨[.p 0],[⟨46,a.v⟩],[]⟩ fun r=>.ok [.ptr 0 r] [⟨46,a.v⟩] []:=Kf Tryz.func155 A.q2w S.q
def A.q24:Ann:={nb:=1}
theorem C.q24{a:q00}:Qs (M.q24 a) 156 ⟨[.p 0],[⟨46,a.v⟩],[]⟩ fun r=>.ok [.ptr 0 r] [⟨46,a.v⟩] []:=Kf Tryz.func156 A.q24 S.q
def A.q1d:Ann:={nb:=1}
theorem C.q1d{a:q00}:Qs (M.q1d a) 157 ⟨[.p 0],[⟨46,a.v⟩],[]⟩ fun r=>.ok [.ptr 0 r] [⟨46,a.v⟩] []:=Kf Tryz.func157 A.q1d S.q
def A.q1u:Ann:={nb:=1}
theorem C.q1u{a:q00}:Qs (M.q1u a) 158 ⟨[.p 0],[⟨46,a.v⟩],[]⟩ fun r=>.ok [.ptr 0 r] [⟨46,a.v⟩] []:=Kf Tryz.func158 A.q1u S.q
def A.q1f:Ann:={nb:=1}
theorem C.q1f{a:q00}:Qs (M.q1f a) 160 ⟨[.p 0],[⟨46,a.v⟩],[]⟩ fun r=>.ok [.ptr 0 r] [⟨46,a.v⟩] []:=Kf Tryz.func160 A.q1f S.q
def A.q12:Ann:={nb:=1}
theorem C.q12{a:q00}:Qs (M.q12 a) 161 ⟨[.p 0],[⟨46,a.v⟩],[]⟩ fun r=>.ok [.ptr 0 r] [⟨46,a.v⟩] []:=Kf Tryz.func161 A.q12 S.q
def A.q2q:Ann:={nb:=1}
theorem C.q2q{a:q00}:Qs (M.q2q a) 162 ⟨[.p 0],[⟨46,a.v⟩],[]⟩ fun r=>.ok [.ptr 0 r] [⟨46,a.v⟩] []:=Kf Tryz.func162 A.q2q S.q
def A.q2t:Ann:={nb:=1}
theorem C.q2t{a:q00}:Qs (M.q2t a) 163 ⟨[.p 0],[⟨46,a.v⟩],[]⟩ fun r=>.ok [.ptr 0 r] [⟨46,a.v⟩] []:=Kf Tryz.func163 A.q2t S.q
def A.q1c:Ann:={nb:=1}
theorem C.q1c{a:q00}:Qs (M.q1c a) 152 ⟨[.p 0],[⟨46,a.v⟩],[]⟩ fun r=>.ok [.ptr 0 r] [⟨46,a.v⟩] []:=Kf Tryz.func152 A.q1c S.q
def A.q2b:Ann:={nb:=1}
theorem C.q2b{a:q00}:Qs (M.q2b a) 164 ⟨[.p 0],[⟨46,a.v⟩],[]⟩ fun r=>.ok [.ptr 0 r] [⟨46,a.v⟩] []:=Kf Tryz.func164 A.q2b S.q
def A.q2o:Ann:={nb:=1}
theorem C.q2o{a:q00}:Qs (M.q2o a) 165 ⟨[.p 0],[⟨46,a.v⟩],[]⟩ fun r=>.ok [.ptr 0 r] [⟨46,a.v⟩] []:=Kf Tryz.func165 A.q2o S.q
def A.q1a:Ann:={nb:=1}
theorem C.q1a{a:q00}:Qs (M.q1a a) 166 ⟨[.p 0],[⟨46,a.v⟩],[]⟩ fun r=>.ok [.ptr 0 r] [⟨46,a.v⟩] []:=Kf Tryz.func166 A.q1a S.q
def A.q1v:Ann:={nb:=1}
theorem C.q1v{a:q00}:Qs (M.q1v a) 167 ⟨[.p 0],[⟨46,a.v⟩],[]⟩ fun r=>.ok [.ptr 0 r] [⟨46,a.v⟩] []:=Kf Tryz.func167 A.q1v S.q
def A.q2y:Ann:={nb:=1}
theorem C.q2y{a:q00}:Qs (M.q2y a) 168 ⟨[.p 0],[⟨46,a.v⟩],[]⟩ fun r=>.ok [.ptr 0 r] [⟨46,a.v⟩] []:=Kf Tryz.func168 A.q2y S.q
def A.q0z:Ann:={nb:=1}
theorem C.q0z{a:q00}:Qs (M.q0z a) 169 ⟨[.p 0],[⟨46,a.v⟩],[]⟩ fun r=>.ok [.ptr 0 r] [⟨46,a.v⟩] []:=Kf Tryz.func169 A.q0z S.q
def A.q0y:Ann:={nb:=1}
theorem C.q0y{a:q00}:Qs (M.q0y a) 170 ⟨[.p 0],[⟨46,a.v⟩],[]⟩ fun r=>.ok [.ptr 0 r] [⟨46,a.v⟩] []:=Kf Tryz.func170 A.q0y S.q
def A.q1j:Ann:={nb:=1}
theorem C.q1j{a:q00}:Qs (M.q1j a) 171 ⟨[.p 0],[⟨46,a.v⟩],[]⟩ fun r=>.ok [.ptr 0 r] [⟨46,a.v⟩] []:=Kf Tryz.func171 A.q1j S.q
def A.q2p:Ann:={nb:=1}
theorem C.q2p{a:q00}:Qs (M.q2p a) 153 ⟨[.p 0],[⟨46,a.v⟩],[]⟩ fun r=>.ok [.ptr 0 r] [⟨46,a.v⟩] []:=Kf Tryz.func153 A.q2p S.q
theorem C.q0q{b:Nat}{a:q00}:Qs (M.q0q b a) b ⟨[.p 0],[⟨46,a.v⟩],[]⟩ fun r=>.ok [.ptr 0 r] [⟨46,a.v⟩] []:=by
 unfold M.q0q;refine S.di (fun h=>?_) ?_;·subst h;exact C.q2w
 refine S.di (fun h=>?_) ?_;·subst h;exact C.q24
 refine S.di (fun h=>?_) ?_;·subst h;exact C.q1d
 refine S.di (fun h=>?_) ?_;·subst h;exact C.q1u
 refine S.di (fun h=>?_) ?_;·subst h;exact C.q1f
 refine S.di (fun h=>?_) ?_;·subst h;exact C.q12
 refine S.di (fun h=>?_) ?_;·subst h;exact C.q2q
 refine S.di (fun h=>?_) ?_;·subst h;exact C.q2t
 refine S.di (fun h=>?_) ?_;·subst h;exact C.q1c
 refine S.di (fun h=>?_) ?_;·subst h;exact C.q2b
 refine S.di (fun h=>?_) ?_;·subst h;exact C.q2o
 refine S.di (fun h=>?_) ?_;·subst h;exact C.q1a
 refine S.di (fun h=>?_) ?_;·subst h;exact C.q1v
 refine S.di (fun h=>?_) ?_;·subst h;exact C.q2y
 refine S.di (fun h=>?_) ?_;·subst h;exact C.q0z
 refine S.di (fun h=>?_) ?_;·subst h;exact C.q0y
 refine S.di (fun h=>?_) ?_;·subst h;exact C.q1j
 refine S.di (fun h=>?_) ?_;·subst h;exact C.q2p
 exact fun _ h=>by cases h
def A.q2e:Ann:={seq:=[(7,cu [1,2,3] [0] [])],loop:=[(2,cu [1,2,3,18,19,20] [0] []),(8,cu [1,2,42,43,44] [0] [])],reg:=[(5,[(3,5,cu [1,2,3,18,19,20,38] [0] [])]),(19,[(2,5,cu [1,2,42,43,44,88] [0] [])])],ro:=[3],nb:=1}
theorem C.q2e{u:q0a}{w:List q05}{z:q00}:Qs (M.q2e u w z) 181 ⟨[.agg u.v,.l72 w,.p 0],[⟨46,z.v⟩],[]⟩ (rb 59 .i64 (fun r=>.ok [] [⟨46,r.v⟩] []) fun x=>[⟨46,x.v⟩]):=Kf Tryz.func181 A.q2e (S.gn (fun _=>oL []) (S.m (S.lw (L:=M.z1w w u z) (fun t=>oL [(20,.i t)]) (M.z1w.partial_correctness _ _ _) rfl fun _ _ ih_z1w t=>S.cb (S.ixm q05.z14 fun Y=>S.k0 C.q0m fun T=>S.n (S.ho (fun s=>oL [(38,.b s)]) (fun _=>S.cb (S.kk [1007] [] [] C.q6x fun U=>S.n S.zr) S.zr) fun s=>S.k0 C.q1s fun y=>match y with|.pan W=>S.n S.qb|.ok V=>S.n (ih_z1w _))) S.zr)) fun X=>S.m (S.lw2 (L:=M.z0f u w) (fun c a=>oB [(44,.i c)] [(0,⟨46,a.v⟩)]) (M.z0f.partial_correctness _ _) rfl fun _ _ ih_z0f c a=>S.cb (S.ixm q0b.z14 fun P=>S.k0 C.q1k fun d=>S.n (S.kk [0] [] [] C.q2u fun B=>by refine S.di (fun h=>?_) ?_;subst h;exact S.n (S.cb (S.k0 C.q1w fun D=>S.n (S.k0 C.q1s fun e=>match e with|.pan J=>S.n S.qb|.ok E=>S.n (ih_z0f _ _))) (ih_z0f _ _));exact by refine S.di (fun h=>?_) ?_;subst h;exact S.n (S.cb (S.k0 C.q1w fun F=>S.n (S.k0 C.q1s fun f=>match f with|.pan K=>S.n S.qb|.ok G=>S.n (ih_z0f _ _))) (ih_z0f _ _));exact by refine S.di (fun h=>?_) ?_;subst h;exact S.n (S.cb (S.ja0 88 rfl (S.k0 C.q1s fun g=>match g with|.pan N=>S.n S.qb|.ok H=>S.n (ih_z0f _ _))) (S.cb (S.k0 C.q0j fun j=>S.n (S.k0 C.q1s fun k=>match k with|.pan O=>S.n S.qb|.ok I=>S.n (S.kk [0] [] [] C.q0q fun l=>S.n (S.wv (stC (q00.v a) l 1 [.str j.1]) q00.v (fun _ h=>q00.zz04z h) fun Q=>ih_z0f _ _)))) (S.kk [0] [] [] C.q0q fun o=>S.n (S.wv (stC (q00.v a) o 1 [.str d.1]) q00.v (fun _ h=>q00.zz04z h) fun R=>ih_z0f _ _))));exact S.no)) S.q))
def A.q3m:Ann:={nb:=1}
theorem C.q3m{a:q0c}:Qs (M.q3m a) 186 ⟨[.p 0],[⟨201,[.s a.gs]⟩],[]⟩ fun r=>.ok [] [⟨201,[.s r.gs]⟩] []:=Kf Tryz.func186 A.q3m (S.k0 (C.trimLeft _ _) fun b=>S.n S.q)
theorem C.q3j{a:Bool}{c:Int}:Qs (M.q3j a c) 188 ⟨[.b a,.i c],[],[]⟩ (ro 244 .i64 fun _=>.ok [] [] []):=Kf Tryz.func188 {} (S.cb S.zr S.q)
def A.q3p:Ann:={nb:=1}
theorem C.q3p{a:q0c}{c:Z}:Qs (M.q3p a c) 246 ⟨[.p 0,.s c],[⟨201,[.s a.gs]⟩],[]⟩ fun r=>.ok [.b r.1] [⟨201,[.s r.2.gs]⟩] []:=Kf Tryz.func246 A.q3p (S.k0 C.q79 fun d=>S.n (S.cb (S.kk [0] [] [] C.q3m fun e=>S.n S.q) S.q))
theorem C.q33{a:Int}:Q1 (M.q33 a) 317 [.int .u8 a] fun r=>[.int .u8 r]:=Kf Tryz.func317 {} S.q
end Go.Proofs.YtfdoofnmjehecaaGreatDoor
