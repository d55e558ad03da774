import Derived.Test.YtmmgdladipbedaaGreatDoorPaShelf2
import Derived.Test.YtmmgdladipbedaaGreatDoorPaP3
import Derived.Test.YtmmgdladipbedaaGreatDoorLkH
import Derived.Test.YtmmgdladipbedaaGreatDoorPaM
set_option linter.all false
section
set_option maxRecDepth 1000000
set_option maxHeartbeats 4000000
namespace Go.Proofs.YtmmgdladipbedaaGreatDoor
open Go.Lk Go.Pe Go.Sen Go.RowKit
variable [Lb]
theorem KfF {α:Type} {y:Option α} {f:Nat} {fn:Func} {i:CIn} {o:α→z3s} (hf:Tryz.prog.funcs[f]? = some fn) (ann:Ann) (res:List ResultVar) (hw:S y fun r=>ex TB ((999999,[])::CT) ann (Con Tryz.prog GG) (z2x fn) (entry i) (fin TB ann res (o r))) (hok:okC ann fn.ntmps (z2x fn)=true:=by kernel_rfl)
  (hb:fn.body=some (z2x fn):=by exact rfl) (ent:∀ args w,(callFunc f args).run Tryz.prog w = .ok (.enter f args) w:=by exact fun _ _=>rfl) (hres:fn.results=res.toArray:=by exact rfl) (hl:Nat.ble i.vs.length fn.ntmps=true:=by exact rfl) (hnb:ann.nb=i.B.length:=by exact rfl) (h1000:Nat.ble i.B.length 1000=true:=by exact rfl):Qs y f i o :=
 Con.oS TBG hf ann res hw hok hb ent hres hl hnb h1000
theorem C.zic {fuel:Nat} {p0:List q00} {p1:q04}:Qs (M.q0z fuel p0 p1) 23 ⟨[.l51 p0,.agg p1.v],[],[]⟩ fun r => .ok [.agg [.s r.1.gId,.s r.1.zc,.s r.1.z2c,.ref 0],.i r.2] [] [some (48,2,(r.1.za.map zfb))] :=
 KfF Tryz.func23 A.q0z [.cell 4 33,.tmp 5] (by unfold M.q0z;exact S.k0 C.q17 fun a3=>S.n (S.jp (sb [(0,.l51 p0),(3,.z09 p1.d 0),(4,.p 1004),(6,.i a3)] [(1004,⟨33,[.s ([]:List UInt8),.s ([]:List UInt8),.s ([]:List UInt8),.nil]⟩)]) (fun _=>rfl) (S.cb S.q (S.k0 C.q14 fun a7=>S.n (S.cb (S.jp (sb [(4,.p 1004),(5,.i a7)] [(1004,⟨33,[.s ([]:List UInt8),.s ([]:List UInt8),.s ([]:List UInt8),.nil]⟩)]) (fun _=>rfl) S.q) (by exact S.j (fun j21=>sb [(0,.l51 p0),(3,.z09 p1.d 0),(4,.p 1004),(8,.mp 1030)] [(1004,⟨33,[.s ([]:List UInt8),.s ([]:List UInt8),.s ([]:List UInt8),.nil]⟩),(1030,⟨1000000,[.md (.cont none false (j21.map (fun x:(List UInt8) × (List (List UInt8))=>D.str x.1::(fun l:List (List UInt8)=>[D.fsl 9 1 (l.map eS)]) x.2)))]⟩)]) (fun _=>S.m (S.jp (sb [(0,.l51 p0),(3,.z09 p1.d 0),(4,.p 1004),(8,.mp 1030),(32,.l48 p1.za),(33,.i (p1.za.length:Int)),(34,.i 0)] [(1004,⟨33,[.s ([]:List UInt8),.s ([]:List UInt8),.s ([]:List UInt8),.nil]⟩),(1030,⟨1000000,[.md (.cont none false (([]:List ((List UInt8) × (List (List UInt8)))).map (fun x:(List UInt8) × (List (List UInt8))=>D.str x.1::(fun l:List (List UInt8)=>[D.fsl 9 1 (l.map eS)]) x.2)))]⟩)]) (fun _=>rfl) (S.lw2 (L:=M.z0w p1) (fun x25 x26=>sb [(0,.l51 p0),(3,.z09 p1.d 0),(4,.p 1004),(8,.mp 1030),(32,.l48 p1.za),(33,.i (p1.za.length:Int)),(34,.i x25)] [(1004,⟨33,[.s ([]:List UInt8),.s ([]:List UInt8),.s ([]:List UInt8),.nil]⟩),(1030,⟨1000000,[.md (.cont none false (x26.map (fun x:(List UInt8) × (List (List UInt8))=>D.str x.1::(fun l:List (List UInt8)=>[D.fsl 9 1 (l.map eS)]) x.2)))]⟩)]) (M.z0w.partial_correctness _) rfl fun _ _ ih_z0w x25 x26=>S.cb (S.ixm q02.z0b fun x30=>S.n (S.kk [] [] [5320] (C.z0s _) fun a31=>S.n (S.n (S.zy0 (f:=(fun x:(List UInt8) × (List (List UInt8))=>D.str x.1::(fun l:List (List UInt8)=>[D.fsl 9 1 (l.map eS)]) x.2)) (kf:=D.str) (vf:=(fun l:List (List UInt8)=>[D.fsl 9 1 (l.map eS)])) (fun _=>rfl) z5s (k:=x30.zg) (v:=a31) rfl rfl (S.n (S.jp (sb [(0,.l51 p0),(3,.z09 p1.d 0),(4,.p 1004),(8,.mp 1030),(32,.l48 p1.za),(33,.i (p1.za.length:Int)),(34,.i (IntKind.wrap .i64 (x25+1)))] [(1004,⟨33,[.s ([]:List UInt8),.s ([]:List UInt8),.s ([]:List UInt8),.nil]⟩),(1030,⟨1000000,[.md (.cont none false ((z3b x26 x30.zg a31).map (fun x:(List UInt8) × (List (List UInt8))=>D.str x.1::(fun l:List (List UInt8)=>[D.fsl 9 1 (l.map eS)]) x.2)))]⟩)]) (fun _=>rfl) (ih_z0w _ _))))))) S.zr))) fun j21=>S.gn (fun j60=>sb [(3,.z09 p1.d 0),(4,.p 1004),(8,.mp 1030)] [(1004,⟨33,[.s ([]:List UInt8),.s ([]:List UInt8),.s ([]:List UInt8),.nil]⟩),(1030,⟨1000000,[.md (.cont none false (j60.map (fun x:(List UInt8) × (List (List UInt8))=>D.str x.1::(fun l:List (List UInt8)=>[D.fsl 9 1 (l.map eS)]) x.2)))]⟩)]) (S.m (by exact S.lw2 (L:=M.z0x p0 fuel) (fun x69 x70=>sb [(3,.z09 p1.d 0),(4,.p 1004),(8,.mp 1030),(45,.l51 p0),(46,.i (p0.length:Int)),(47,.i x69)] [(1004,⟨33,[.s ([]:List UInt8),.s ([]:List UInt8),.s ([]:List UInt8),.nil]⟩),(1030,⟨1000000,[.md (.cont none false (x70.map (fun x:(List UInt8) × (List (List UInt8))=>D.str x.1::(fun l:List (List UInt8)=>[D.fsl 9 1 (l.map eS)]) x.2)))]⟩)]) (M.z0x.partial_correctness _ _) rfl fun _ _ ih_z0x x69 x70=>S.cb (S.ixm q00.z0b fun x79=>S.zzv (f:=(fun x:(List UInt8) × (List (List UInt8))=>D.str x.1::(fun l:List (List UInt8)=>[D.fsl 9 1 (l.map eS)]) x.2)) (kf:=D.str) (vf:=(fun l:List (List UInt8)=>[D.fsl 9 1 (l.map eS)])) (fun _=>rfl) z5s (k:=x79.zg) (z:=([]:List (List UInt8))) (c:=fun x:List (List UInt8)=>[.fsl 9 1 (x.map eS)]) rfl rfl (fun _=>rfl) (S.kk [] [] [5810] C.q1m fun a80=>S.n (S.jp (⟨[(3,.z09 p1.d 0),(4,.p 1004),(8,.mp 1030),(12,.p 1012),(13,.ref 100801),(14,.i a80.2),(45,.l51 p0),(46,.i (p0.length:Int)),(47,.i x69)],[(1004,⟨33,[.s ([]:List UInt8),.s ([]:List UInt8),.s ([]:List UInt8),.nil]⟩),(1030,⟨1000000,[.md (.cont none false (x70.map (fun x:(List UInt8) × (List (List UInt8))=>D.str x.1::(fun l:List (List UInt8)=>[D.fsl 9 1 (l.map eS)]) x.2)))]⟩),(1012,⟨51,x79.v⟩)],[(100801,⟨true,9,1,(a80.1.map eS)⟩)],none⟩) (fun _=>rfl) (S.cb S.q (S.zzu (f:=(fun x:(List UInt8) × (List (List UInt8))=>D.str x.1::(fun l:List (List UInt8)=>[D.fsl 9 1 (l.map eS)]) x.2)) (kf:=D.str) (vf:=(fun l:List (List UInt8)=>[D.fsl 9 1 (l.map eS)])) (fun _=>rfl) z5s (k:=x79.zg) rfl (S.j (fun j84=>sb [(3,.z09 p1.d 0),(4,.p 1004),(8,.mp 1030),(13,.l9 j84.1),(45,.l51 p0),(46,.i (p0.length:Int)),(47,.i x69)] [(1004,⟨33,[.s ([]:List UInt8),.s ([]:List UInt8),.s ([]:List UInt8),.nil]⟩),(1030,⟨1000000,[.md (.cont none false (j84.2.map (fun x:(List UInt8) × (List (List UInt8))=>D.str x.1::(fun l:List (List UInt8)=>[D.fsl 9 1 (l.map eS)]) x.2)))]⟩)]) (fun _=>S.m (S.cb (S.zy0 (f:=(fun x:(List UInt8) × (List (List UInt8))=>D.str x.1::(fun l:List (List UInt8)=>[D.fsl 9 1 (l.map eS)]) x.2)) (kf:=D.str) (vf:=(fun l:List (List UInt8)=>[D.fsl 9 1 (l.map eS)])) (fun _=>rfl) z5s (k:=x79.zg) (v:=a80.1) rfl rfl S.zr) S.zr)) fun j84=>S.m (S.ju (fun x85=>sb [(3,.z09 p1.d 0),(4,.p 1004),(8,.mp 1030),(45,.l51 p0),(46,.i (p0.length:Int)),(47,.i x69),(81,.b x85)] [(1004,⟨33,[.s ([]:List UInt8),.s ([]:List UInt8),.s ([]:List UInt8),.nil]⟩),(1030,⟨1000000,[.md (.cont none false (j84.2.map (fun x:(List UInt8) × (List (List UInt8))=>D.str x.1::(fun l:List (List UInt8)=>[D.fsl 9 1 (l.map eS)]) x.2)))]⟩)]) (fun _=>Ex.i z1x (jbI rfl rfl)) (S.cb S.q (ih_z0x _ _))))))))) S.zr)) fun j60=>S.lm (L:=M.z05 p1) (fun x91 x90=>⟨[(4,.p 1004),(15,.p 1015),(92,.p 1092)],[(1004,⟨33,[.s ([]:List UInt8),.s ([]:List UInt8),.s ([]:List UInt8),.nil]⟩),(1015,⟨33,[.s p1.gId,.s p1.zc,.s p1.z2c,.ref 3001]⟩),(1092,⟨2000000,[.md (.it none false none (x91.map (fun x:(List UInt8) × (List (List UInt8))=>D.str x.1::(fun l:List (List UInt8)=>[D.fsl 9 1 (l.map eS)]) x.2)))]⟩)],[(3001,⟨true,48,2,(x90.map zfb)⟩)],none⟩) rfl fun I_path_Apply_k3 x91 ih_z05 x90=>S.nx (f:=(fun x:(List UInt8) × (List (List UInt8))=>D.str x.1::(fun l:List (List UInt8)=>[D.fsl 9 1 (l.map eS)]) x.2)) (c:=(fun x:(List UInt8) × (List (List UInt8))=>D.str x.1::[.fsl 9 1 (x.2.map eS)])) (L:=fun l=>M.z05 p1 l x90) (fun i x h=>Ord.z05 p1 x91 x90 i x h) (fun _=>rfl) (by show S (M.z05 p1 [] x90) _;rw [M.z05.eq_1];exact S.kk [] [3001] [5980] (C.zm1 _) fun a97=>S.n (S.jp (⟨[(4,.p 1004),(5,.i 0)],[(1004,⟨33,[.s p1.gId,.s p1.zc,.s p1.z2c,.ref 101551]⟩)],[(101551,⟨true,48,2,(a97.map zfb)⟩)],none⟩) (fun _=>rfl) S.q)) fun x95 x96 hl_x_96=>(by show S (M.z05 p1 (x95::x96) x90) _;rw [M.z05.eq_2];exact S.zc4 zfb (fun l99=>S.jp (⟨[(4,.p 1004),(15,.p 1015),(92,.p 1092)],[(1004,⟨33,[.s ([]:List UInt8),.s ([]:List UInt8),.s ([]:List UInt8),.nil]⟩),(1015,⟨33,[.s p1.gId,.s p1.zc,.s p1.z2c,.ref 101451]⟩),(1092,⟨2000000,[.md (.it none false none (x96.map (fun x:(List UInt8) × (List (List UInt8))=>D.str x.1::(fun l:List (List UInt8)=>[D.fsl 9 1 (l.map eS)]) x.2)))]⟩)],[(101451,⟨true,48,2,(l99.map zfb)⟩)],none⟩) (fun _=>rfl) (ih_z05 _ hl_x_96 _)) (by first|rfl|simp only [List.map_cons,List.map_nil,zfz]))))))))
@[reducible] def dF (x:q04):List D:=[.str x.gId,.str x.zc,.str x.z2c,.sl 48 2 (x.za.map zfb)]
theorem C.zcl {p0 p1:q04}:Qs (M.q2p p0 p1) 27 ⟨[.agg [.s p0.gId,.s p0.zc,.s p0.z2c,.sl 48 2 (p0.za.map zfb)],.agg p1.v],[],[]⟩ fun r => .ok [.b r] [] [] :=
 Kf Tryz.func27 A.q2p [.tmp 4] (by unfold M.q2p;exact S.ju0 (fun x7=>st [(2,.z09 (dF p0) 0),(3,.z09 p1.d 0),(17,.b x7)]) rfl (S.ju0 (fun x9=>st [(2,.z09 (dF p0) 0),(3,.z09 p1.d 0),(24,.b x9)]) rfl (S.ju (fun x11=>st [(2,.z09 (dF p0) 0),(3,.z09 p1.d 0),(33,.b x11)]) (fun _=>Ex.i z1x (Ex.i z1x (jbI rfl rfl))) ((by exact S.cb S.q (S.gn (fun _=>st []) (S.lw (L:=M.z0f p0 p1) (fun x63=>st [(2,.z09 (dF p0) 0),(3,.z09 p1.d 0),(5,.i x63)]) (M.z0f.partial_correctness _ _) rfl fun _ _ ih_z0f x63=>S.m (S.cb (S.ixm zfz fun x76=>S.ixm q02.z0b fun x77=>S.j (fun j83=>st [(2,.z09 (dF p0) 0),(3,.z09 p1.d 0),(5,.i x63),(69,.b j83)]) (fun _=>S.cb S.zr (S.ixm zfz fun x84=>S.ixm q02.z0b fun x85=>S.k0 C.q2i fun a86=>S.n S.zr)) fun j83=>S.cb S.q (ih_z0f _)) S.zr)) fun j50=>S.q))))))
end Go.Proofs.YtmmgdladipbedaaGreatDoor
end
section
namespace Go.Lk
open _root_.Bool renaming and_eq_true → ya
open Go.RowKit
mutual
def noF:D→Bool
 | .fsl _ _ _=>false
 | .sl _ _ l=>zcf l
 | .int _ _=>true
 | .bool _=>true
 | .str _=>true
 | .val _=>true
def zll:List D→Bool
 | []=>true
 | d::ds=>noF d&&zll ds
def zcf:List (List D)→Bool
 | []=>true
 | x::xs=>zll x&&zcf xs
end
section
variable {a b:Lb} {w:World} {O:Nat→Prop}
mutual
theorem RD.lb:∀ (d:D) (v:Value),noF d=true → @RD a w O d v → @RD b w O d v
 | .int _ _,v,_,r=>r
 | .bool _,v,_,r=>r
 | .str _,v,_,r=>r
 | .val _,v,_,r=>r
 | .fsl _ _ _,_,h,_=>by simp [noF] at h
 | .sl T n l,v,h,r=>by
  have hl:zcf l=true:=by simpa only [noF] using h
  unfold RD at r ⊢
  rcases r with r|⟨g,off,cap,cs,fr,h1,h2,h3,h4,h5,h6,h7⟩
  ·exact .inl r
  ·exact .inr ⟨g,off,cap,cs,fr,h1,h2,h3,h4,h5,h6,RDl.lb n l _ hl h7⟩
theorem RDs.lb:∀ (ds:List D) (vs:List Value),zll ds=true → @RD.RDs a w O ds vs → @RD.RDs b w O ds vs
 | [],vs,_,r=>r
 | d::ds,vs,h,r=>by
  simp only [zll,ya] at h
  obtain ⟨v,vs',h1,h2,h3⟩:=r
  exact ⟨v,vs',h1,RD.lb d v h.1 h2,RDs.lb ds vs' h.2 h3⟩
theorem RDl.lb:∀ (n:Nat) (l:List (List D)) (vs:List Value),zcf l=true → @RD.RDl a w O n l vs → @RD.RDl b w O n l vs
 | _,[],_,_,_=>trivial
 | n,x::xs,_,h,r=>by
  simp only [zcf,ya] at h
  exact ⟨RDs.lb x _ h.1 r.1,RDl.lb n xs _ h.2 r.2⟩
end
end
theorem z8j {α:Type} {f:α→List D} (h:∀ x,zll (f x)=true):∀ l:List α,zcf (l.map f)=true
 | []=>rfl
 | x::xs=>by simp only [List.map_cons,zcf,h x,z8j h xs,Bool.and_self]
theorem zk0 (l:List (List UInt8)):zcf (l.map eS)=true:=z8j (fun _=>rfl) l
section
variable [Lb] {w w':World} {O O':Nat→Prop}
end
end Go.Lk
end
section
namespace Go.Sen
open _root_.Bool renaming and_self → ya
open Go.Lk Go.Pe
mutual
theorem zqz:∀ e:q01,zll (q01.enc e)=true
 | ⟨_,_,_,l⟩=>by simp only [q01.enc,zll,noF,zbl l,ya]
theorem zbl:∀ l:List q01,zcf (q01.z4d l)=true
 | []=>rfl
 | x::xs=>by simp only [q01.z4d,zcf,zqz x,zbl xs,ya]
end
theorem zo7 (f:q02):zll (q02.enc f)=true:=by
 rw [q02.z0b]
 simp only [zll,noF,zk0,ya]
theorem zqy (x:q00):zll (q00.enc x)=true:=by
 rw [q00.z0b]
 simp only [zll,noF,zk0,zbl,ya]
end Go.Sen
end
section
set_option maxRecDepth 1000000
set_option maxHeartbeats 4000000
namespace Go.Proofs.YtmmgdladipbedaaGreatDoor
open Go.Lk Go.Pe Go.Sen Go.RowKit
variable [Lb]
def sq1:Code→Code
 | .seq a _=>a
 | c=>c
def sq2:Code→Code
 | .seq _ b=>b
 | c=>c
noncomputable def lw0:Code:=z2x Tryz.f7
def nx (P:St→Prop):z8v→St→Prop:=fun fl s=>match fl with
 | .normal=>P s
 | _=>False
def AL:Ann:={ reg:=[(1,[(4,0,cu [0,3,5] [1005] [])]),(2,[(9,0,{ L:=[0,3,5,6,7],B:=[1005,1006],A:=[100101],H:=[(.cell 1006 3,100101,48,2)] })]),(3,[(9,0,{ L:=[3,5,6,7,8,9],B:=[1005,1006,1008],A:=[100151],H:=[(.cell 1006 3,100151,48,2)] })])],drw:=[(4,{ anc:=[0,1,3,7,15,7,63,127,255,511,1023,1023,4095,8191,16383,32767,32767,131071,262143,524287],E:=[0,4,6,17],qs:=[],g:=.one 0 [] [1,2,3,5] (.one 4 [5] [] (.one 6 [] [7,8,9,10,11,12,13,14,15,16] (.one 17 [] [18,19] (.fin)))),lin:=some [(3,6,{ L:=[3,5,6,7,8,9,34],B:=[1005,1006,1008],A:=[3001],H:=[(.cell 1006 3,3001,48,2)] }),(1,4,{ L:=[3,5,6,8,39],B:=[1005,1006,1008],A:=[3002],H:=[(.cell 1006 3,3002,48,2)] }),(1,5,{ L:=[3,5,6,45],B:=[1005,1006],A:=[3003],H:=[(.cell 1006 3,3003,48,2)] })] })],ro:=[3] }
def AM:Ann:={ reg:=[(1,[(4,0,cu [0,3,5] [5] [])]),(2,[(9,0,{ L:=[0,3,5,6,7],B:=[5,1006],A:=[100101],H:=[(.cell 1006 3,100101,48,2)] })]),(3,[(9,0,{ L:=[3,5,6,7,8,9],B:=[5,1006,1008],A:=[100151],H:=[(.cell 1006 3,100151,48,2)] })])],drw:=[(4,{ anc:=[0,1,3,7,15,7,63,127,255,511,1023,1023,4095,8191,16383,32767,32767,131071,262143,524287],E:=[0,4,6,17],qs:=[],g:=.one 0 [] [1,2,3,5] (.one 4 [5] [] (.one 6 [] [7,8,9,10,11,12,13,14,15,16] (.one 17 [] [18,19] (.fin)))),lin:=some [(3,6,{ L:=[3,5,6,7,8,9,34],B:=[5,1006,1008],A:=[3001],H:=[(.cell 1006 3,3001,48,2)] }),(1,4,{ L:=[3,5,6,8,39],B:=[5,1006,1008],A:=[3002],H:=[(.cell 1006 3,3002,48,2)] }),(1,5,{ L:=[3,5,6,45],B:=[5,1006],A:=[3003],H:=[(.cell 1006 3,3003,48,2)] })] })],ro:=[3] }
abbrev ztc:=Con Tryz.prog GG
@[reducible] def _root_.Go.Sen.q04.x (t:q04) (u:Value):List PV:=[.s t.gId,.s t.zc,.s t.z2c,.slx 48 2 (t.za.map q02.enc) u]
def sl0 (p0:List q00) (p1:q04):St:=⟨[(0,.l51 p0),(1,.agg p1.v)],[],[],none⟩
def sl1 (p0:List q00) (p1:q04) (a1:q04):St:=⟨[(0,.l51 p0),(3,.z09 p1.d 0),(5,.p 1005)],[(1005,⟨33,a1.v⟩)],[],none⟩
theorem zyw {p0:List q00} {p1:q04}:S (M.q2m p1 >>= fun a1=>some a1) fun a1=>ex TB CT AL ztc (sq1 lw0) (sl0 p0 p1) (nx fun s=>ex TB CT AL ztc (sq1 (sq2 lw0)) s (nx fun s=>s=sl1 p0 p1 a1)) :=
 S.k0 C.q2m fun a1=>S.n (S.jp (sl1 p0 p1 a1) (fun _=>rfl) fun _ h=>by cases h;rfl)
@[reducible] def bxW (p1:q04) (wv:Value):Nat × Bx:=(5,⟨33,p1.x wv⟩)
@[reducible] def bxA (a:q04) (k:Nat):Nat × Bx:=(1006,⟨33,[.s a.gId,.s a.zc,.s a.z2c,.ref k]⟩)
@[reducible] def arF (a:q04) (k:Nat):Nat × Arr:=(k,⟨true,48,2,(a.za.map zfb)⟩)
def sl2 (p0:List q00) (p1:q04) (tv wv:Value):St:=⟨[(0,.l51 p0),(3,.z9k p1.d 0 tv),(5,.p 5)],[bxW p1 wv],[],none⟩
def sl3 (p1:q04) (tv wv:Value) (a:q04) (j:Bool):St:=⟨[(10,.i 0),(3,.z9k p1.d 0 tv),(5,.p 5),(6,.p 1006),(45,.b j)],[bxW p1 wv,bxA a 3003],[arF a 3003],none⟩
def lw2:Code→Code:=fun c=>sq2 (sq2 c)
def zt8 (fuel:Nat) (p0:List q00) (p1:q04):Option q04:=do
 let a3←M.q0z fuel p0 p1
 let a5←M.q2j fuel p0 p1
 let a7←M.q0y fuel
 let j14←(do
   if (!a7) then
    some true
   else
    let a15←M.q17 p1
    let a17←M.q2l p1
    some (!decide (a15=a17)):Option Bool)
 let j24←(do
   if (j14||(!decide (a3.2=a5.2))) then
    some true
   else
    let a25←M.q2p a3.1 a5.1
    some (!a25):Option Bool)
 if j24 then
  none
 else
  some a3.1
theorem zyx {fuel:Nat} {p0:List q00} {p1:q04} {tv wv:Value}:S (zt8 fuel p0 p1) fun a=>ex TB CT AM ztc (sq1 (lw2 lw0)) (sl2 p0 p1 tv wv) (nx fun s=>ex TB CT AM ztc (sq1 (sq2 (lw2 lw0))) s (nx fun s=>ex TB CT AM ztc (sq1 (lw2 (lw2 lw0))) s (nx fun s=>ex TB CT AM ztc (sq1 (sq1 (sq2 (lw2 (lw2 lw0))))) s (nx fun s=>∃ j,s=sl3 p1 tv wv a j)))):=by
 unfold zt8
 exact (S.kk [] [] [5040] C.zic fun a3=>(by exact S.n (S.jp (⟨[(0,.l51 p0),(3,.z9k p1.d 0 tv),(5,.p 5),(6,.p 1006),(7,.i a3.2)],[bxW p1 wv,bxA a3.1 100101],[arF a3.1 100101],none⟩) (fun _=>rfl) (S.k0 C.q2j fun a5=>S.n (S.jp (⟨[(3,.z9k p1.d 0 tv),(5,.p 5),(6,.p 1006),(7,.i a3.2),(8,.p 1008),(9,.i a5.2)],[bxW p1 wv,bxA a3.1 100151,(1008,⟨33,a5.1.v⟩)],[arF a3.1 100151],none⟩) (fun _=>rfl) (S.k0 C.q0y fun a7=>S.n (S.j (fun j14=>⟨[(3,.z9k p1.d 0 tv),(5,.p 5),(6,.p 1006),(7,.i a3.2),(8,.p 1008),(9,.i a5.2),(34,.b j14)],[bxW p1 wv,bxA a3.1 3001,(1008,⟨33,a5.1.v⟩)],[arF a3.1 3001],none⟩) (fun _=>by exact S.cb S.zr (S.k0 C.q17 fun a15=>S.n (S.k0 C.q2l fun a17=>S.n S.zr))) fun j14=>S.ju0 (fun x19=>⟨[(3,.z9k p1.d 0 tv),(5,.p 5),(6,.p 1006),(8,.p 1008),(39,.b x19)],[bxW p1 wv,bxA a3.1 3002,(1008,⟨33,a5.1.v⟩)],[arF a3.1 3002],none⟩) rfl (S.j (fun j24=>⟨[(3,.z9k p1.d 0 tv),(5,.p 5),(6,.p 1006),(45,.b j24)],[bxW p1 wv,bxA a3.1 3003],[arF a3.1 3003],none⟩) (fun _=>by exact S.cb S.zr (S.k0 C.zcl fun a25=>S.n S.zr)) fun j24=>S.cb (fun _ h=>by cases h) (fun _ h=>by cases h;exact ⟨j24,rfl⟩)))))))))
@[reducible] def sl4 (p1:q04):St:=⟨[(3,.z09 p1.d 0),(5,.p 1005)],[(1005,⟨33,p1.v⟩)],[],none⟩
theorem zyy {p1:q04}:S (M.q2p p1 p1 >>= fun a=>some a) fun b=>ex TB CT AL ztc (sq2 (sq2 (lw2 (lw2 lw0)))) (sl4 p1) (fin TB AL [.tmp 4] (.ok [.b b] [] [])) :=
 S.k0 C.q2p fun a=>S.n S.q
theorem zyz:z2x Tryz.f7 = .seq (sq1 lw0) (.seq (sq1 (sq2 lw0)) (.seq (sq1 (lw2 lw0)) (.seq (sq1 (sq2 (lw2 lw0))) (.seq (sq1 (lw2 (lw2 lw0))) (.seq (.seq (sq1 (sq1 (sq2 (lw2 (lw2 lw0))))) (sq2 (sq1 (sq2 (lw2 (lw2 lw0)))))) (sq2 (sq2 (lw2 (lw2 lw0)))))))) ):=rfl
end Go.Proofs.YtmmgdladipbedaaGreatDoor
end
section
set_option maxRecDepth 1000000
set_option maxHeartbeats 4000000
namespace Go.Proofs.YtmmgdladipbedaaGreatDoor
open _root_.List renaming set_eq_take_append_cons_drop → ya
open IntKind renaming wrap → yb
open Go.Lk Go.Pe Go.Sen Go.RowKit
variable [Lb]
noncomputable def blL:Code:=sq2 (sq1 (sq2 (lw2 (lw2 lw0))))
def inL:Code→Code
 | .block _ c=>c
 | .loop c=>c
 | c=>c
noncomputable def bd1:Code:=inL (inL blL)
noncomputable def bd2:Code:=inL (inL (sq2 (sq1 (inL (sq1 (sq2 bd1))))))
theorem zoy:shp Tryz.prog 31=some (false,1):=by kernel_rfl
theorem zun:shp Tryz.prog 46=some (false,1):=by kernel_rfl
theorem zrf:shp Tryz.prog 48=some (true,2):=by kernel_rfl
theorem zzg:shp Tryz.prog 9=some (false,1):=by kernel_rfl
theorem zn8:fld Tryz.prog 33 3=some (3,false,1):=by kernel_rfl
theorem zti:fld Tryz.prog 48 1=some (1,false,1):=by kernel_rfl
theorem zw5:fld Tryz.prog 48 0=some (0,false,1):=by kernel_rfl
theorem zp8:Tryz.prog.underlying 31=some (.slice 48):=by kernel_rfl
theorem zv0:Tryz.prog.underlying 46=some (.slice 9):=by kernel_rfl
def zpo (n1 B6 BA:Nat) (w:World) (v:Value) (l:Nat):Prop:=(∃ p,v = .slice p 0 0∧l=0)∨∃ b off cap U ci,v = .slice (some ⟨b,off,none⟩) l cap∧b≠BA∧b≠B6∧n1≤b∧z0r w b U ci∧off+l≤ci.length
structure LI (w3:World) (n1 B6 BA len:Nat) (sA:Value) (vs:Nat→Value) (ls:Nat→Nat) (w:World):Prop where
 ext:Ext (fun x=>n1≤x) w3 w
 box:∃ c4,z0r w B6 33 c4∧c4[3]? = some sA
 row:(∃ p,sA = .slice p 0 0∧len=0)∨∃ cap U ca,sA = .slice (some ⟨BA,0,none⟩) len cap∧z0r w BA U ca∧2*len≤ca.length∧∀ i,i<len→ca[2*i+1]? = some (vs i)
 sub:∀ i,i<len→zpo n1 B6 BA w (vs i) (ls i)
section
variable {R:Ending→World→Prop} {w3:World} {n1 B6 BA len:Nat} {sA:Value} {vs:Nat→Value} {ls:Nat→Nat} {u3 u5:Value} {hf:Tryz.prog.funcs[7]? = some Tryz.f7} {todo:List Item}
@[reducible] noncomputable def CL (R:Ending→World→Prop) (hf:Tryz.prog.funcs[7]? = some Tryz.f7):Cx:={ P:=Tryz.prog,f:=7,fn:=Tryz.f7,R:=R,hf:=hf }
structure EL (B6:Nat) (u3 u5:Value) (L:Env):Prop where
 e3:Env.get L 3=some u3
 e5:Env.get L 5=some u5
 e6:Env.get L 6=some (.pointer (some ⟨B6,0,none⟩))
theorem LI.zmr {w:World} (h:LI w3 n1 B6 BA len sA vs ls w):w.cell? ⟨B6,3,none⟩=some sA:=by
 obtain ⟨c4,h1,h2⟩:=h.box
 rw [h1.cell]
 exact h2
theorem LI.slice {w:World} (h:LI w3 n1 B6 BA len sA vs ls w):∃ p c,sA = .slice p len c:=by
 rcases h.row with ⟨p,h1,h2⟩|⟨cap,U,ca,h1,_⟩
 ·exact ⟨p,0,by rw [h1,h2]⟩
 ·exact ⟨_,_,h1⟩
theorem zpo.slice {w:World} {v:Value} {l:Nat} (h:zpo n1 B6 BA w v l):∃ p c,v = .slice p l c:=by
 rcases h with ⟨p,h1,h2⟩|⟨b,off,cap,U,ci,h1,_⟩
 ·exact ⟨p,0,by rw [h1,h2]⟩
 ·exact ⟨_,_,h1⟩
theorem r7L {L:Env} {w:World} {i:Nat} (e:EL B6 u3 u5 L) (e10:Env.get L 10=some (.int .i64 (i:Nat))) (h:LI w3 n1 B6 BA len sA vs ls w) {k:List Item}
  (hk:∀ L',EL B6 u3 u5 L'→Env.get L' 10=some (.int .i64 (i:Nat))→Env.get L' 50=some (.bool (decide ((i:Int)<(len:Int))))→TW (CL R hf) 80 [] k L' w) :
  TW (CL R hf) 80 [] (.code (sq1 (sq1 bd1))::k) L w:=by
 obtain ⟨p,c,rfl⟩:=h.slice
 refine TW.region (l:=_) ?_
 refine OW.move rfl rfl rfl rfl e10 ?_
 refine OW.fieldAddr rfl rfl rfl rfl zn8 e.e6 ?_
 refine OW.zbi rfl rfl rfl rfl zoy rfl h.zmr ?_
 refine OW.zvf rfl rfl rfl rfl zp8 rfl ?_
 refine OW.zs4 rfl rfl rfl rfl rfl rfl rfl ?_
 refine OW.done (hk _ ⟨e.e3,e.e5,e.e6⟩ e10 rfl)
theorem LI.at_ {w:World} (h:LI w3 n1 B6 BA len sA vs ls w) {i:Nat} (hi:i<len):∃ cap U ca,sA = .slice (some ⟨BA,0,none⟩) len cap∧z0r w BA U ca∧2*len≤ca.length∧∀ i,i<len→ca[2*i+1]? = some (vs i):=by
 rcases h.row with ⟨p,h1,h2⟩|h
 ·omega
 ·exact h
theorem LI.step {w w':World} (h:LI w3 n1 B6 BA len sA vs ls w) {b:Nat} {U:TypeId} {ci cs':List Value} (hb:b≠B6) (hn:n1≤b) (hx:Ext (At b) w w') (h1:z0r w b U ci) (h2:z0r w' b U cs') (hl:cs'.length=ci.length)
  (hA:b=BA→∀ j,j<len→cs'[2*j+1]? = ci[2*j+1]?) (hBA:BA≠B6):LI w3 n1 B6 BA len sA vs ls w' where
 ext:=Ext.trans h.ext (hx.mono fun x _ e=>by cases e;exact hn)
 box:=by
  obtain ⟨c4,k1,k2⟩:=h.box
  exact ⟨c4,k1.keep hx fun e=>hb e.symm,k2⟩
 row:=by
  rcases h.row with k|⟨cap,U',ca,k1,k2,k3,k4⟩
  ·exact .inl k
  ·refine .inr ?_
   by_cases e:b=BA
   ·subst e
    have e2:some (Obj.cells ca.toArray U' (0,0))=some (Obj.cells ci.toArray U (0,0)):=k2.symm.trans h1
    simp only [Option.some.injEq,Obj.cells.injEq] at e2
    have e3:ca=ci:=by
     have:=e2.1
     simpa using congrArg Array.toList this
    subst e3
    exact ⟨cap,U,cs',k1,h2,by omega,fun j hj=>by rw [hA rfl j hj];exact k4 j hj⟩
   ·exact ⟨cap,U',ca,k1,k2.keep hx fun q=>e q.symm,k3,k4⟩
 sub:=fun j hj=>by
  rcases h.sub j hj with k|⟨g,off,cap,U',cj,k1,k2,k3,k4,k5,k6⟩
  ·exact .inl k
  ·refine .inr ?_
   by_cases e:g=b
   ·subst e
    have e2:some (Obj.cells cj.toArray U' (0,0))=some (Obj.cells ci.toArray U (0,0)):=k5.symm.trans h1
    simp only [Option.some.injEq,Obj.cells.injEq] at e2
    have e3:cj=ci:=by
     have:=e2.1
     simpa using congrArg Array.toList this
    subst e3
    exact ⟨g,off,cap,U,cs',k1,k2,k3,k4,h2,by omega⟩
   ·exact ⟨g,off,cap,U',cj,k1,k2,k3,k4,k5.keep hx fun q=>e q,k6⟩
abbrev spS:Value:=.string ⟨([115,112,111,105,108,116]:List UInt8).toArray⟩
theorem wrap64 {x:Int} (h1 : -9223372036854775808≤x) (h2:x<9223372036854775808):yb .i64 x=x:=by
 have h:yb .i64 x=if x % 18446744073709551616≥9223372036854775808 then x % 18446744073709551616 - 18446744073709551616 else x % 18446744073709551616:=by
  simp [yb,IntKind.bits,IntKind.signed]
 rw [h]
 split<;>omega
theorem zxe {k:Nat} (h:k+1<9223372036854775808):yb .i64 ((k:Int)+1)=((k+1:Nat):Int):=by rw [wrap64]<;>omega
variable (hls:∀ i,ls i<9223372036854775808) (hlen:len<9223372036854775808) (hBA:BA≠B6) (hnA:n1≤BA)
include hls hBA in
theorem zwb {i:Nat} (hi:i<len) {rest:List Item} (hend:∀ L w,EL B6 u3 u5 L→Env.get L 10=some (.int .i64 (i:Nat))→LI w3 n1 B6 BA len sA vs ls w→TW (CL R hf) 80 [] rest L w) :
  ∀ (m k:Nat) (L:Env) (w:World),ls i - k=m→k≤ls i→EL B6 u3 u5 L→Env.get L 10=some (.int .i64 (i:Nat))→Env.get L 11=some (.int .i64 (k:Nat))→LI w3 n1 B6 BA len sA vs ls w→TW (CL R hf) 80 [] (.code bd2 :: .inLoop bd2 :: .inBlock 2::rest) L w:=by
 intro m
 induction m with
 | zero =>
  intro k L w h1 h2 e e10 e11 h
  obtain ⟨cap,U,ca,rfl,g1,g2,g3⟩:=h.at_ hi
  obtain ⟨p,c,hv⟩:=(h.sub i hi).slice
  refine TW.seq (TW.seq (TW.region (l:=_) ?_))
  refine OW.move rfl rfl rfl rfl e11 ?_
  refine OW.fieldAddr rfl rfl rfl rfl zn8 e.e6 ?_
  refine OW.zbi rfl rfl rfl rfl zoy rfl h.zmr ?_
  refine OW.move rfl rfl rfl rfl e10 ?_
  refine OW.indexAddr rfl rfl rfl rfl zp8 zrf rfl rfl rfl hi ?_
  refine OW.fieldAddr rfl rfl rfl rfl zti rfl ?_
  refine OW.zbi rfl rfl rfl rfl zun rfl (by rw [g1.cell,show 0+i*2+1=2*i+1 by omega];exact (g3 i hi).trans (congrArg some hv)) ?_
  refine OW.zvf rfl rfl rfl rfl zv0 rfl ?_
  refine OW.zs4 rfl rfl rfl rfl rfl rfl rfl ?_
  refine OW.done (TW.cond (b:=decide ((k:Int)<(ls i:Int))) rfl (fun q => ?_) fun _ => ?_)
  ·have:=of_decide_eq_true q;omega
  ·exact TW.exit rfl (hend _ _ ⟨e.e3,e.e5,e.e6⟩ e10 h)
 | succ m ih =>
  intro k L w h1 h2 e e10 e11 h
  obtain ⟨cap,U,ca,rfl,g1,g2,g3⟩:=h.at_ hi
  obtain ⟨p,c,hv⟩:=(h.sub i hi).slice
  refine TW.seq (TW.seq (TW.region (l:=_) ?_))
  refine OW.move rfl rfl rfl rfl e11 ?_
  refine OW.fieldAddr rfl rfl rfl rfl zn8 e.e6 ?_
  refine OW.zbi rfl rfl rfl rfl zoy rfl h.zmr ?_
  refine OW.move rfl rfl rfl rfl e10 ?_
  refine OW.indexAddr rfl rfl rfl rfl zp8 zrf rfl rfl rfl hi ?_
  refine OW.fieldAddr rfl rfl rfl rfl zti rfl ?_
  refine OW.zbi rfl rfl rfl rfl zun rfl (by rw [g1.cell,show 0+i*2+1=2*i+1 by omega];exact (g3 i hi).trans (congrArg some hv)) ?_
  refine OW.zvf rfl rfl rfl rfl zv0 rfl ?_
  refine OW.zs4 rfl rfl rfl rfl rfl rfl rfl ?_
  refine OW.done (TW.cond (b:=decide ((k:Int)<(ls i:Int))) rfl (fun _ => ?_) fun q => ?_)
  rotate_left
  ·have:=of_decide_eq_false q;omega
  refine TW.skip (TW.seq (TW.block (TW.region (l:=_) ?_)))
  rcases h.sub i hi with ⟨p',k1,k2⟩|⟨g,off,cap',U',ci,k1,k2,k3,k4,k5,k6⟩
  ·omega
  refine OW.fieldAddr rfl rfl rfl rfl zn8 e.e6 ?_
  refine OW.zbi rfl rfl rfl rfl zoy rfl h.zmr ?_
  refine OW.move rfl rfl rfl rfl e10 ?_
  refine OW.indexAddr rfl rfl rfl rfl zp8 zrf rfl rfl rfl hi ?_
  refine OW.fieldAddr rfl rfl rfl rfl zti rfl ?_
  refine OW.zbi rfl rfl rfl rfl zun rfl (by rw [g1.cell,show 0+i*2+1=2*i+1 by omega];exact (g3 i hi).trans (congrArg some k1)) ?_
  refine OW.move rfl rfl rfl rfl e11 ?_
  refine OW.indexAddr rfl rfl rfl rfl zv0 zzg rfl rfl rfl (show k<ls i by omega) ?_
  refine OW.store (u:=spS) (vs:=[spS]) (cs':=ci.set (off+k*1) spS) rfl rfl rfl zzg rfl rfl rfl rfl k5 (by simp;omega) rfl (by rw [ya,if_pos (by omega)];simp) fun w' hbx hx => ?_
  have h':=h.step k3 k4 hx k5 hbx (by simp) (fun q=>(k2 q).elim) hBA
  refine OW.done (TW.inBlock (TW.region (l:=_) ?_))
  refine OW.move rfl rfl rfl rfl e11 ?_
  refine OW.zs4 rfl rfl rfl rfl rfl rfl rfl ?_
  refine OW.assign rfl rfl rfl rfl rfl ?_
  have hb:=hls i
  refine OW.done (TW.inLoop (ih (k+1) _ w' (by omega) (by omega) ⟨e.e3,e.e5,e.e6⟩ e10 ?_ h'))
  show some (Value.int .i64 (yb .i64 ((k:Int)+1)))=_
  rw [zxe (by omega)]
include hls hlen hBA hnA in
theorem zws (hend:∀ L w,EL B6 u3 u5 L→LI w3 n1 B6 BA len sA vs ls w→TW (CL R hf) 80 [] todo L w) :
  ∀ (m i:Nat) (L:Env) (w:World),len - i=m→i≤len→EL B6 u3 u5 L→Env.get L 10=some (.int .i64 (i:Nat))→LI w3 n1 B6 BA len sA vs ls w→TW (CL R hf) 80 [] (.code bd1 :: .inLoop bd1 :: .inBlock 0::todo) L w:=by
 intro m
 induction m with
 | zero =>
  intro i L w h1 h2 e e10 h
  refine TW.seq (TW.seq (r7L e e10 h fun L' e' e10' e50 => ?_))
  refine TW.cond e50 (fun q => ?_) fun _ => ?_
  ·have:=of_decide_eq_true q;omega
  ·exact TW.exit rfl (hend _ _ e' h)
 | succ m ih =>
  intro i L w h1 h2 e e10 h
  have hi:i<len:=by omega
  refine TW.seq (TW.seq (r7L e e10 h fun L' e' e10' e50 => ?_))
  refine TW.cond e50 (fun _ => ?_) fun q => ?_
  rotate_left
  ·have:=of_decide_eq_false q;omega
  refine TW.skip (TW.seq (TW.block (TW.seq (TW.seq (TW.region (l:=_) ?_)))))
  refine OW.assign rfl rfl rfl rfl rfl ?_
  refine OW.done (TW.block (TW.loop ?_))
  refine zwb hls hBA hi (fun L w e e10 h => ?_) _ 0 _ w rfl (Nat.zero_le _) ⟨e'.e3,e'.e5,e'.e6⟩ e10' rfl h
  obtain ⟨cap,U,ca,rfl,g1,g2,g3⟩:=h.at_ hi
  refine TW.region (l:=_) ?_
  refine OW.fieldAddr rfl rfl rfl rfl zn8 e.e6 ?_
  refine OW.zbi rfl rfl rfl rfl zoy rfl h.zmr ?_
  refine OW.move rfl rfl rfl rfl e10 ?_
  refine OW.indexAddr rfl rfl rfl rfl zp8 zrf rfl rfl rfl hi ?_
  refine OW.fieldAddr rfl rfl rfl rfl zw5 rfl ?_
  refine OW.store (u:=spS) (vs:=[spS]) (cs':=ca.set (0+i*2+0) spS) rfl rfl rfl zzg rfl rfl rfl rfl g1 (by simp;omega) rfl (by rw [ya,if_pos (by omega)];simp) fun w' hbx hx => ?_
  have h':=h.step hBA hnA hx g1 hbx (by simp) (fun _ j hj=>by rw [List.getElem?_set_ne (by omega)]) hBA
  refine OW.done (TW.inBlock (TW.region (l:=_) ?_))
  refine OW.move rfl rfl rfl rfl e10 ?_
  refine OW.zs4 rfl rfl rfl rfl rfl rfl rfl ?_
  refine OW.assign rfl rfl rfl rfl rfl ?_
  refine OW.done (TW.inLoop (ih (i+1) _ w' (by omega) (by omega) ⟨e.e3,e.e5,e.e6⟩ ?_ h'))
  show some (Value.int .i64 (yb .i64 ((i:Int)+1)))=_
  rw [zxe (by omega)]
include hls hlen hBA hnA in
theorem zwg (hend:∀ L w,EL B6 u3 u5 L→LI w3 n1 B6 BA len sA vs ls w→TW (CL R hf) 80 [] todo L w) {L:Env} {w:World} (e:EL B6 u3 u5 L) (e10:Env.get L 10=some (.int .i64 0)) (h:LI w3 n1 B6 BA len sA vs ls w):TW (CL R hf) 80 [] (.code blL::todo) L w :=
 TW.block (TW.loop (zws hls hlen hBA hnA hend _ 0 L w rfl (Nat.zero_le _) e e10 h))
end
end Go.Proofs.YtmmgdladipbedaaGreatDoor
end
section
set_option maxRecDepth 1000000
set_option maxHeartbeats 4000000
namespace Go.Proofs.YtmmgdladipbedaaGreatDoor
open _root_.Option renaming getD_some → ya, map_some → yb
open _root_.List renaming getElem?_eq_getElem → yc, length_map → yd
open Go.Lk Go.Pe Go.Sen Go.RowKit
theorem FSn [Lb] {z:W0} {C:Cx} {n:Nat} {ds:List Deferred} {todo:List Item} {P:St→Prop} (h:∀ s,P s→KS z C n ds todo s):∀ fl s,nx P fl s→FS z C n ds todo fl s:=fun fl s hs=>by
 cases fl with
 | normal=>exact h s hs
 | _=>exact hs.elim
theorem zze {a:Lb} {w3:World} {O3:Nat→Prop} {v:Value} {l:List q02} {n1 B6:Nat} (ho : @Own a w3 O3 48 2 v (l.map zfb)) (hn:a.n=n1) (h6:O3 B6) (hb:∀ g,v.ownBlock=some g→n1≤g∧g≠B6) (hn6:n1≤B6) :
  ∃ (BA:Nat) (vs:Nat→Value) (ls:Nat→Nat),BA≠B6∧n1≤BA∧(∀ i,ls i<9223372036854775808)∧l.length<9223372036854775808 ∧
   ((∃ p,v = .slice p 0 0∧l.length=0)∨∃ cap U ca,v = .slice (some ⟨BA,0,none⟩) l.length cap∧z0r w3 BA U ca∧2*l.length≤ca.length∧∀ i,i<l.length→ca[2*i+1]? = some (vs i))∧∀ i,i<l.length→zpo n1 B6 BA w3 (vs i) (ls i):=by
 have hml:maxLen<9223372036854775808:=by decide
 obtain ⟨xs,h1,h2,h3,h4⟩:=id ho
 rcases h1.2 with ⟨e1,e2⟩|⟨g,cap,cur,e1,_,e2,e3,e4,e5,e6⟩
 ·have e2:l.length=0:=by simpa using e2
  exact ⟨B6+1,fun _ => .bool false,fun _=>0,by omega,by omega,fun _=>by show 0<_;omega,by omega,.inl ⟨none,e1,e2⟩,fun i hi=>by omega⟩
 ·have hlen:(l.map zfb).length=l.length:=yd ..
  rw [hlen] at e1 e3
  have hg:=hb g (by rw [e1];rfl)
  have hbx:z0r w3 g 48 cur.toList:=e2
  have hel:∀ i (hi:i<l.length),∃ u,w3.cell? ⟨g,i*2+1,none⟩=some u ∧ @RD a w3 O3 (.fsl 9 1 (l[i].zf.map eS)) u:=fun i hi=>by
   obtain ⟨us,k1,k2⟩:=Own.elem ho e1 (j:=i) (x:=zfb l[i]) (by simp [hi])
   obtain ⟨v1,us1,rfl,_,v2,us2,rfl,k3,k4⟩:=k1
   exact ⟨v2,k2 1 v2 rfl,k3⟩
  refine ⟨g,fun i=>(w3.cell? ⟨g,i*2+1,none⟩).getD (.bool false),fun i=>((l[i]?).map (·.zf.length)).getD 0,hg.2,hg.1,fun i => ?_,by omega,.inr ⟨cap,48,cur.toList,e1,hbx,by simp;omega,fun i hi => ?_⟩,fun i hi => ?_⟩
  ·by_cases hi:i<l.length
   ·obtain ⟨u,_,k⟩:=hel i hi
    simp only [hi,yc,yb,ya]
    unfold RD at k
    rcases k with ⟨_,k⟩|⟨b,off,cap',cs,fr,_,k1,k2,_⟩
    ·have:l[i].zf.length=0:=by simpa using congrArg List.length k
     omega
    ·simp only [yd] at k1
     omega
   ·simp [hi]
  ·obtain ⟨u,k1,_⟩:=hel i hi
   rw [←hbx.cell,show 2*i+1=i*2+1 by omega,k1]
   simp only [k1,ya]
  ·obtain ⟨u,k1,k⟩:=hel i hi
   simp only [k1,ya,hi,yc,yb]
   unfold RD at k
   rcases k with ⟨⟨p,k⟩,k'⟩|⟨b,off,cap',cs,fr,q1,q2,q3,q4,q5,q6,_,q7,q8⟩
   ·exact .inl ⟨p,k,by simpa using congrArg List.length k'⟩
   ·simp only [yd] at q1 q2
    refine .inr ⟨b,off,cap',fr.1,cs.toList,q1,fun e=>q4 (e▸h4 g (by rw [e1];rfl)),fun e=>q4 (e▸h6),by omega,?_,by simp;omega⟩
    show w3.heap[b]? = some (.cells cs.toList.toArray fr.1 (0,0))
    rw [q5,q8]
theorem zzj {lb:Lb} {fuel:Nat} {p0:List q00} {p1:q04} {w0:World} {O0:Nat→Prop} {φ0:Nat→Nat} {α0:Nat→Value} {hF:∀ x,FI ⟨[.l51 p0,.agg p1.v],[],[]⟩ φ0 α0 x→O0 x} {hB:Bd O0 w0} {hG:GG.p w0 O0} {V:Env} {w1:World} {O1:Nat→Prop} {φ1:Nat→Nat} {α1:Nat→Value}
  (hS:M.q2p p1 p1=some true) (h1:Rl (zm5 GG ⟨[.l51 p0,.agg p1.v],[],[]⟩ w0 O0 φ0 α0 hF hB hG) (sl1 p0 p1 p1) V w1 O1 φ1 α1) (hs:∀ x,O0 x→O1 x) {u3:Value} (e3:Env.get V 3=some u3) {hf:Tryz.prog.funcs[7]? = some Tryz.f7} {L:Env} {w4:World}
  (x:Ext (fun y=>w1.heap.size≤y) w1 w4) (g3:Env.get L 3=some u3) (g5:Env.get L 5=some (.pointer (some ⟨φ1 1005,0,none⟩))):TW (CL (zf9 ⟨[.l51 p0,.agg p1.v],[],[]⟩ w0 O0 φ0 α0 (.ok [.b true] [] [])) hf) 80 [] [.code (sq2 (sq2 (lw2 (lw2 lw0))))] L w4:=by
 have hsz:w0.heap.size≤w1.heap.size:=h1.ext.size
 have t:Tr O1 w1 O1 w4:=Tr.z2p x fun y hy hh=>by omega
 have hle:Le (lk (sl4 p1).L) (lk (sl1 p0 p1 p1).L):=fun s v e=>by
  rcases z0t e with ⟨rfl,rfl⟩|⟨_,e⟩
  ·rfl
  ·rcases z0t e with ⟨rfl,rfl⟩|⟨_,e⟩
   ·rfl
   ·cases e
 have h2:=(h1.mono (fL':=lk (sl4 p1).L) (fB':=lk (sl4 p1).B) (fA':=lk (sl4 p1).A) hle (fun _ _ e=>e) fun _ _ e=>e).move x t (fun _ hy=>hy) (fun y hy=>Nat.lt_of_lt_of_le (h1.bd y hy) x.size)
  (fun b e hb hh=>by have:=h1.bd _ (h1.box b e hb).1;omega) (fun a e ha=>by cases ha) (Ext.after h1 x fun y hy => .inr (Nat.le_trans hsz hy)) h1.only
 have h3:Rl (zm5 GG ⟨[.l51 p0,.agg p1.v],[],[]⟩ w0 O0 φ0 α0 hF hB hG) (sl4 p1) L w4 O1 φ1 α1:=⟨(fun s v e=>by
  rcases z0t e with ⟨rfl,rfl⟩|⟨_,e⟩
  ·obtain ⟨u,k1,k2⟩:=h2.env 3 _ rfl
   obtain rfl:u=u3:=by rw [e3] at k1;cases k1;rfl
   exact ⟨_,g3,k2⟩
  ·rcases z0t e with ⟨rfl,rfl⟩|⟨_,e⟩
   ·exact ⟨_,g5,rfl⟩
   ·cases e),h2.box,h2.arr,h2.bb,h2.aa,h2.ab,h2.bF,h2.aF,h2.bd,h2.ext,h2.only,h2.gl,h2.keep⟩
 refine z14 (z:=zm5 GG ⟨[.l51 p0,.agg p1.v],[],[]⟩ w0 O0 φ0 α0 hF hB hG) (ds:=[]) (G:=GG) TBG (fun _ _ _ h=>h) (fun _ _ h=>h) _ (sl4 p1) _ [] (by kernel_rfl) (.inl rfl) (zyy true (by rw [hS];rfl)) (fun fl s hs' => ?_) _ _ ⟨O1,φ1,α1,h3,hs⟩
 cases fl with
 | normal =>
  intro V w' hr
  obtain ⟨O',φ',α',k1,k2⟩:=hr
  obtain ⟨us',k3,k4⟩:=z7k (C:=CL (zf9 ⟨[.l51 p0,.agg p1.v],[],[]⟩ w0 O0 φ0 α0 (.ok [.b true] [] [])) hf) (n:=80) (hF:=hF) (hB:=hB) (hG:=hG) (g:=φ0) TBG rfl (fun b hb=>k1.keep b (by simp at hb)) k1 k2 rfl (Nat.zero_le _) hs'
  exact TW.fin k3 k4
 | ret =>
  intro k' V w' hr
  obtain ⟨O',φ',α',k1,k2⟩:=hr
  obtain ⟨us',k3,k4⟩:=z7k (C:=CL (zf9 ⟨[.l51 p0,.agg p1.v],[],[]⟩ w0 O0 φ0 α0 (.ok [.b true] [] [])) hf) (n:=80) (hF:=hF) (hB:=hB) (hG:=hG) (g:=φ0) TBG rfl (fun b hb=>k1.keep b (by simp at hb)) k1 k2 rfl (Nat.zero_le _) hs'
  exact TW.ret k3 k4
 | exit _=>exact hs'.elim
 | pan v=>cases hs'
end Go.Proofs.YtmmgdladipbedaaGreatDoor
end
section
set_option maxRecDepth 1000000
set_option maxHeartbeats 4000000
namespace Go.Proofs.YtmmgdladipbedaaGreatDoor
open Go.Lk Go.Pe Go.Sen Go.RowKit
def z2L (w1:World) (O1:Nat→Prop) (φ1:Nat→Nat) (hb:O1 (φ1 1005)) (bd:Bd O1 w1) : @W0 ⟨w1.heap.size⟩ :=
 @W0.mk ⟨w1.heap.size⟩ w1 O1 (fun x=>x=φ1 1005) (@GI.p ⟨w1.heap.size⟩ (@GG ⟨w1.heap.size⟩)) (fun x e=>by rw [e];exact hb) bd (@GI.tr ⟨w1.heap.size⟩ (@GG ⟨w1.heap.size⟩)) (ren φ1 5 (φ1 1005)) (Nat.le_refl _)
theorem zx5 [Lb] {z:W0} {p1 a:q04} {u3 wv:Value} {V3:Env} {w3:World} {j:Bool} {n1 b5:Nat} (hn:Lb.n=n1) (hz:z.w.heap.size=n1) (hk:z.φ0 5=b5) (hr:RS z (sl3 p1 u3 wv a j) V3 w3) :
  ∃ (B6 BA:Nat) (sA:Value) (vs:Nat→Value) (ls:Nat→Nat),EL B6 u3 (.pointer (some ⟨b5,0,none⟩)) V3∧Env.get V3 10=some (.int .i64 0)∧LI w3 n1 B6 BA a.za.length sA vs ls w3∧BA≠B6∧n1≤BA∧(∀ i,ls i<9223372036854775808)∧a.za.length<9223372036854775808∧n1≤B6 ∧
   z0r w3 b5 33 [.string ⟨p1.gId.toArray⟩,.string ⟨p1.zc.toArray⟩,.string ⟨p1.z2c.toArray⟩,wv]∧Ext z.F z.w w3:=by
 obtain ⟨O3,φ3,α3,h3,hs3⟩:=hr
 obtain ⟨x3,a3,rfl,_⟩:=h3.env 3 _ rfl
 obtain ⟨x5,a5,k5⟩:=h3.env 5 _ rfl
 obtain ⟨x6,a6,k6⟩:=h3.env 6 _ rfl
 obtain ⟨x10,a10,k10⟩:=h3.env 10 _ rfl
 have ek:φ3 5=b5:=(h3.keep 5 (by omega)).trans hk
 simp only [VR] at k5 k6 k10
 subst k5 k6 k10
 obtain ⟨_,us5,b5',c5⟩:=h3.box 5 _ rfl
 obtain ⟨v1,_,rfl,q1,v2,_,rfl,q2,v3,_,rfl,q3,v4,_,rfl,q4,q5⟩:=c5
 cases q5
 obtain rfl:v4=wv:=q4.1
 simp only [VR] at q1 q2 q3
 subst q1 q2 q3
 have b5':=b5'.un (by show 33<1000000;decide)
 rw [ek] at b5' a5
 obtain ⟨o6,us6,b6,c6⟩:=h3.box 1006 _ rfl
 obtain ⟨y1,_,rfl,_,y2,_,rfl,_,y3,_,rfl,_,y4,_,rfl,r4,r5⟩:=c6
 cases r5
 obtain rfl:y4=α3 3003:=r4.1
 have b6:=b6.un (by show 33<1000000;decide)
 have hn6:n1≤φ3 1006:=by
  rcases h3.bF 1006 _ rfl with ⟨q,_⟩|q
  ·omega
  ·exact hz▸q
 have ho:=(h3.arr 3003 _ rfl).un (by show 48<1000000;decide)
 obtain ⟨BA,vs,ls,m1,m2,m3,m4,m5,m6⟩:=zze (l:=a.za) (B6:=φ3 1006) ho hn o6 (fun g hg=>⟨by
  rcases h3.aF 3003 _ rfl g hg with ⟨q,_⟩|q
  ·cases q
  ·exact hz▸q,fun e=>h3.ab 3003 1006 _ _ rfl rfl (e▸hg)⟩) hn6
 exact ⟨φ3 1006,BA,α3 3003,vs,ls,⟨a3,a5,a6⟩,a10,⟨Ext.refl _ _,⟨_,b6,rfl⟩,m5,m6⟩,m1,m2,m3,m4,hn6,b5',h3.ext⟩
theorem zzi {lb:Lb} {p0:List q00} {p1 a:q04} {w0:World} {O0:Nat→Prop} {φ0:Nat→Nat} {α0:Nat→Value} {hF:∀ x,FI ⟨[.l51 p0,.agg p1.v],[],[]⟩ φ0 α0 x→O0 x} {hB:Bd O0 w0} {hG:GG.p w0 O0} {V:Env} {w1:World} {O1:Nat→Prop} {φ1:Nat→Nat} {α1:Nat→Value}
  (hS:M.q2p p1 p1=some true) (h1:Rl (zm5 GG ⟨[.l51 p0,.agg p1.v],[],[]⟩ w0 O0 φ0 α0 hF hB hG) (sl1 p0 p1 p1) V w1 O1 φ1 α1) (hs:∀ x,O0 x→O1 x) {u3 wv:Value} (e3:Env.get V 3=some u3) {hf:Tryz.prog.funcs[7]? = some Tryz.f7}
  (hb:O1 (φ1 1005)) (bd:Bd O1 w1) (hbx:z0r w1 (φ1 1005) 33 [.string ⟨p1.gId.toArray⟩,.string ⟨p1.zc.toArray⟩,.string ⟨p1.z2c.toArray⟩,wv]) {V3:Env} {w3:World} {j:Bool}
  (hr : @RS ⟨w1.heap.size⟩ (z2L w1 O1 φ1 hb bd) (sl3 p1 u3 wv a j) V3 w3) :
  TW (CL (zf9 ⟨[.l51 p0,.agg p1.v],[],[]⟩ w0 O0 φ0 α0 (.ok [.b true] [] [])) hf) 80 [] [.code blL,.code (sq2 (sq2 (lw2 (lw2 lw0))))] V3 w3:=by
 obtain ⟨B6,BA,sA,vs,ls,k1,k2,k3,k4,k5,k6,k7,k8,k9,hx⟩ := @zx5 ⟨w1.heap.size⟩ (z2L w1 O1 φ1 hb bd) p1 a u3 wv V3 w3 j w1.heap.size (φ1 1005) rfl rfl (by simp [z2L,ren]) hr
 refine zwg k6 k7 k4 k5 (fun L4 w4 e4 h4=>zzj (fuel:=0) hS h1 hs e3 ?_ e4.e3 e4.e5) k1 k2 k3
 have hx:Ext (fun x=>x=φ1 1005) w1 w3:=hx
 have hx4:=h4.ext
 refine ⟨hx4.os.trans hx.os,hx4.tape.trans hx.tape,hx4.output.trans hx.output,Nat.le_trans hx.size hx4.size,fun b hlt hnb => ?_⟩
 refine (hx4.block b (Nat.lt_of_lt_of_le hlt hx.size) hnb).trans ?_
 by_cases e:b=φ1 1005
 ·subst e
  exact k9.trans hbx.symm
 ·exact hx.block b hlt e
end Go.Proofs.YtmmgdladipbedaaGreatDoor
end
section
set_option maxRecDepth 1000000
set_option maxHeartbeats 4000000
namespace Go.Proofs.YtmmgdladipbedaaGreatDoor
open Go.Lk Go.Pe Go.Sen Go.RowKit
theorem z3m.lb {a b:Lb} {w:World} {O:Nat→Prop} {g q n:Nat} {x:List D} (hn:zll x=true) (h : @z3m a w O g q n x) : @z3m b w O g q n x:=by
 obtain ⟨cs,h1,h2,h3⟩:=h
 exact ⟨cs,h1,h2,RDs.lb x _ hn h3⟩
theorem zuo [Lb] {z:W0} {p0:List q00} {p1:q04} {V:Env} {w1:World} {O1:Nat→Prop} {φ1:Nat→Nat} {α1:Nat→Value} (h:Rl z (sl1 p0 p1 p1) V w1 O1 φ1 α1) :
  ∃ u0 u3 wv,Env.get V 0=some u0∧RD w1 O1 (.sl 51 8 (p0.map q00.enc)) u0∧Env.get V 3=some u3∧(∃ b q,u3 = .pointer (some ⟨b,q+0,none⟩)∧z3m w1 O1 b q p1.d.length p1.d)∧Env.get V 5=some (.pointer (some ⟨φ1 1005,0,none⟩))∧O1 (φ1 1005) ∧
   z0r w1 (φ1 1005) 33 [.string ⟨p1.gId.toArray⟩,.string ⟨p1.zc.toArray⟩,.string ⟨p1.z2c.toArray⟩,wv]∧RD w1 O1 (.sl 48 2 (p1.za.map q02.enc)) wv:=by
 obtain ⟨u0,a0,k0⟩:=h.env 0 _ rfl
 obtain ⟨u3,a3,k3⟩:=h.env 3 _ rfl
 obtain ⟨u5,a5,k5⟩:=h.env 5 _ rfl
 simp only [VR] at k5
 subst k5
 obtain ⟨o5,us5,b5,c5⟩:=h.box 1005 _ rfl
 obtain ⟨v1,_,rfl,q1,v2,_,rfl,q2,v3,_,rfl,q3,v4,_,rfl,q4,q5⟩:=c5
 cases q5
 simp only [VR] at q1 q2 q3
 subst q1 q2 q3
 have b5:=b5.un (by show 33<1000000;decide)
 exact ⟨u0,u3,v4,a0,k0,a3,k3,a5,o5,b5,q4⟩
theorem zx0 [Lb] {z:W0} {p0:List q00} {p1:q04} {V:Env} {w1:World} {O1:Nat→Prop} {φ:Nat→Nat} {α:Nat→Value} {u0 u3 wv:Value} {b5:Nat} (hw:z.w=w1) (hO:z.O=O1) (hF:z.F b5) (hφ:z.φ0=φ) (h5:φ 5=b5) (hg:z.G w1 O1) (hbd:Bd O1 w1)
  (e0:Env.get V 0=some u0) (k0:RD w1 O1 (.sl 51 8 (p0.map q00.enc)) u0) (e3:Env.get V 3=some u3) (k3:∃ b q,u3 = .pointer (some ⟨b,q+0,none⟩)∧z3m w1 O1 b q p1.d.length p1.d) (e5:Env.get V 5=some (.pointer (some ⟨b5,0,none⟩))) (o5:O1 b5)
  (hbx:z0r w1 b5 33 [.string ⟨p1.gId.toArray⟩,.string ⟨p1.zc.toArray⟩,.string ⟨p1.z2c.toArray⟩,wv]) (kw:RD w1 O1 (.sl 48 2 (p1.za.map q02.enc)) wv):RS z (sl2 p0 p1 u3 wv) V w1:=by
 subst hw hO hφ h5
 refine ⟨z.O,z.φ0,α,⟨fun s v e => ?_,fun b e hb => ?_,fun a e ha=>(by cases ha),fun a b e e' ha hb hn => ?_,fun a b e e' ha=>(by cases ha),fun a b e e' ha=>(by cases ha),fun b e hb => ?_,fun a e ha=>(by cases ha),hbd,Ext.refl _ _,fun x hx => .inl hx,hg,fun b _=>rfl⟩,fun x hx=>hx⟩
 ·rcases z0t e with ⟨rfl,rfl⟩|⟨_,e⟩
  ·exact ⟨_,e0,k0⟩
  ·rcases z0t e with ⟨rfl,rfl⟩|⟨_,e⟩
   ·exact ⟨_,e3,rfl,k3⟩
   ·rcases z0t e with ⟨rfl,rfl⟩|⟨_,e⟩
    ·exact ⟨_,e5,rfl⟩
    ·cases e
 ·rcases z0t hb with ⟨rfl,rfl⟩|⟨_,e⟩
  ·exact ⟨o5,_,.inl ⟨by show 33<1000000;decide,hbx⟩,_,_,rfl,rfl,_,_,rfl,rfl,_,_,rfl,rfl,_,_,rfl,⟨rfl,kw⟩,rfl⟩
  ·cases e
 ·rcases z0t ha with ⟨rfl,rfl⟩|⟨_,e⟩
  ·rcases z0t hb with ⟨rfl,rfl⟩|⟨_,e⟩
   ·exact (hn rfl).elim
   ·cases e
  ·cases e
 ·rcases z0t hb with ⟨rfl,rfl⟩|⟨_,e⟩
  ·exact .inl ⟨by omega,hF⟩
  ·cases e
noncomputable def mdL:Code:=.seq (sq1 (lw2 lw0)) (.seq (sq1 (sq2 (lw2 lw0))) (.seq (sq1 (lw2 (lw2 lw0))) (.seq (.seq (sq1 (sq1 (sq2 (lw2 (lw2 lw0))))) (sq2 (sq1 (sq2 (lw2 (lw2 lw0)))))) (sq2 (sq2 (lw2 (lw2 lw0)))))))
theorem ok2:okC AM 80 (sq1 (lw2 lw0))=true∧okC AM 80 (sq1 (sq2 (lw2 lw0)))=true∧okC AM 80 (sq1 (lw2 (lw2 lw0)))=true∧okC AM 80 (sq1 (sq1 (sq2 (lw2 (lw2 lw0)))))=true:=⟨by kernel_rfl,by kernel_rfl,by kernel_rfl,by kernel_rfl⟩
theorem mdTW [Lb] {z:W0} {R:Ending→World→Prop} {hf:Tryz.prog.funcs[7]? = some Tryz.f7} {fuel:Nat} {p0:List q00} {p1 a:q04} {u3 wv:Value} (hz:∀ w O,z.G w O→GG.p w O) (hA:zt8 fuel p0 p1=some a)
  (hk:∀ j V w,RS z (sl3 p1 u3 wv a j) V w→TW (CL R hf) 80 [] [.code blL,.code (sq2 (sq2 (lw2 (lw2 lw0))))] V w) {V:Env} {w:World} (hr:RS z (sl2 p0 p1 u3 wv) V w):TW (CL R hf) 80 [] [.code mdL] V w:=by
 have h:=zyx (tv:=u3) (wv:=wv) a hA
 refine TW.seq (z14 (C:=CL R hf) (ds:=[]) (G:=GG) TBG (fun _ _ _ h=>h) hz _ _ _ _ ok2.1 (.inl rfl) h (FSn fun s hs V w hr => ?_) V w hr)
 refine TW.seq (z14 (C:=CL R hf) (ds:=[]) (G:=GG) TBG (fun _ _ _ h=>h) hz _ _ _ _ ok2.2.1 (.inl rfl) hs (FSn fun s hs V w hr => ?_) V w hr)
 refine TW.seq (z14 (C:=CL R hf) (ds:=[]) (G:=GG) TBG (fun _ _ _ h=>h) hz _ _ _ _ ok2.2.2.1 (.inl rfl) hs (FSn fun s hs V w hr => ?_) V w hr)
 refine TW.seq (TW.seq (z14 (C:=CL R hf) (ds:=[]) (G:=GG) TBG (fun _ _ _ h=>h) hz _ _ _ _ ok2.2.2.2 (.inl rfl) hs (FSn fun s hs V w hr => ?_) V w hr))
 obtain ⟨j,rfl⟩:=hs
 exact hk j V w hr
end Go.Proofs.YtmmgdladipbedaaGreatDoor
end
