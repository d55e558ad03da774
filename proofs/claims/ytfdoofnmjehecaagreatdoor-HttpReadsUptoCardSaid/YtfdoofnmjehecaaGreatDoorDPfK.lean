import Derived.Test.YtfdoofnmjehecaaGreatDoorDPfS3
import Derived.Shelf.Strings.Builder1
set_option linter.all false
set_option linter.unusedVariables false
namespace Go.Pe
open _root_.List renaming eq_nil_of_length_eq_zero → ya
open _root_.Nat renaming add_lt_add_left → yb, add_sub_cancel_left → yc, lt_irrefl → yd, lt_of_lt_of_le → ye, not_lt_zero → yf, zero_lt_one → yg
open Go.RowKit Go.Lk Go.Proofs Go.Shelf
variable {P:Program} {ρ:Ren}
theorem VRs.str {w:World} {O:Nat→Prop} {φ:Nat→Nat} {α:Nat→Value} {a:List UInt8} {vs:List PV} {us:List Value} (h:VRs w O φ α (.str a::vs) us):∃ us',us = .string ⟨a.toArray⟩::us'∧VRs w O φ α vs us':=by
 obtain ⟨u,us',rfl,h1,h2⟩:=h
 simp only [VR] at h1
 exact ⟨us',by rw [h1],h2⟩
theorem VRs.int {w:World} {O:Nat→Prop} {φ:Nat→Nat} {α:Nat→Value} {k:IntKind} {a:Int} {vs:List PV} {us:List Value} (h:VRs w O φ α (.int k a::vs) us):∃ us',us = .int k a::us'∧VRs w O φ α vs us':=by
 obtain ⟨u,us',rfl,h1,h2⟩:=h
 simp only [VR] at h1
 exact ⟨us',by rw [h1],h2⟩
theorem VRs.nil {w:World} {O:Nat→Prop} {φ:Nat→Nat} {α:Nat→Value} {us:List Value} (h:VRs w O φ α [] us):us=[]:=h
theorem VRs.zrf {w:World} {O:Nat→Prop} {φ:Nat→Nat} {α:Nat→Value} (a:List UInt8):VRs w O φ α [.str a] [.string ⟨a.toArray⟩]:=⟨_,[],rfl,rfl,rfl⟩
theorem VRs.zwm {w:World} {O:Nat→Prop} {φ:Nat→Nat} {α:Nat→Value} (k:IntKind) (a:Int):VRs w O φ α [.int k a] [.int k a]:=⟨_,[],rfl,rfl,rfl⟩
theorem VRs.zm3 {w:World} {O:Nat→Prop} {φ:Nat→Nat} {α:Nat→Value} (a:Bool):VRs w O φ α [.bool a] [.bool a]:=⟨_,[],rfl,rfl,rfl⟩
theorem Ext.bytes (w:World) (T:TypeId) (t:ByteArray):Ext z19 w (Lib.bytesWorld w T t):=by
 refine ⟨?_,?_,?_,?_,fun b hb _=>Lib.bytesWorld_at_old w T _ b hb⟩
 ·simp only [Lib.bytesWorld,World.freeze];split<;>rfl
 ·simp only [Lib.bytesWorld,World.freeze];split<;>rfl
 ·simp only [Lib.bytesWorld,World.freeze];split<;>rfl
 ·rw [Lib.bytesWorld_size];omega
theorem Con.lib {G:GI} {f:Nat} {vs rs:List PV} (ent:∀ args w,(callFunc f args).run P w = .ok (.enter f args) w)
  (h:∀ w O φ α us,VRs w O φ α vs us→Bd O w→G.p w O→Calls P f us.toArray w fun e w'=>∃ us',e = .returned (znm us')∧(∀ O' φ' α',VRs w' O' φ' α' rs us')∧Ext z19 w w') (hnn:Nat.beq f NF=false:=by exact rfl):Con P G f ⟨vs,[],[]⟩ (.ok rs [] []):=by
 refine ⟨ent,hnn,fun w O φ α us hv hm hB hG=>(h w O φ α us hv hB hG).mono fun e w' ⟨us',h1,h2,h3⟩ => ?_⟩
 have tr:Tr O w O w':=Tr.z4c h3 fun _ _ hx=>hx.elim
 refine ⟨us',O,φ,α,h1,h2 O φ α,⟨fun b e he => ?_,fun a e he => ?_,fun a b la _ _ => ?_,fun a b e e' ha _ _ => ?_,fun a b e ha _ => ?_⟩,fun _ _=>rfl,Nat.le_refl _,fun x hx=>ye (hB x hx) h3.size,tr,fun _ hx=>hx,fun _ hx => .inl hx,h3.mono fun _ _ hx=>hx.elim,fun b h1 _ => ?_,fun a e x he _ => ?_⟩
 ·simp at he
 ·simp at he
 ·exact absurd la (yf _)
 ·simp at ha
 ·simp at ha
 ·exact absurd h1 (yf _)
 ·simp at he
theorem Ext.freeze (F:Nat→Prop) (w:World) (g n:Nat) (hF:F g):Ext F w (w.freeze ⟨g,0,none⟩ n):=by
 unfold World.freeze
 split
 ·exact Ext.refl _ _
 ·refine ⟨rfl,rfl,rfl,by simp,fun b hb hf => ?_⟩
  simp only [Array.getElem?_modify]
  rw [if_neg (fun h:g=b=>hf (h▸hF))]
set_option maxHeartbeats 2000000 in
set_option maxRecDepth 100000 in
theorem zc9 (L:Lays.n169 P ρ) (X:Builder.Extra P ρ) (b:Nat) (p v:Value) (l:List UInt8) (w:World) (hbk:w.heap[b]? = some (.cells #[p,v] (ρ.t 72) (0,0))) (hA:Lib.BuilderAtF (ρ.t 72) (ρ.t 5) 0 b p (Lib.byteCells l) w) :
  Calls P (ρ.f 169) #[.pointer (some ⟨b,0,none⟩)] w fun e w'=>e = .returned (.string ⟨l.toArray⟩)∧Lib.BuilderAtF (ρ.t 72) (ρ.t 5) 0 b p (Lib.byteCells l) w'∧Ext (fun x=>v.ownBlock=some x) w w':=by
 have hblt:b<w.heap.size:=by
  rcases Nat.lt_or_ge b w.heap.size with h'|h'
  ·exact h'
  ·simp [Array.getElem?_eq_none h'] at hbk
 obtain ⟨hB,v',hbk',hown,hne⟩:=id hA
 rw [hbk] at hbk'
 have ev:v=v':=by simpa using hbk'
 subst ev
 rw [Lib.byteCells_length] at hown
 have mixed:=L.mixed
 have t72:=L.t72;have a72:=L.a72;have z72:=L.z72;have v72:=L.v72;have u72:=run_underlying L.t72
 have t70:=L.t70;have a70:=L.a70;have z70:=L.z70;have v70:=L.v70;have u70:=run_underlying L.t70
 have t37:=L.t37;have a37:=L.a37;have z37:=L.z37;have v37:=L.v37;have u37:=run_underlying L.t37
 have t127:=L.t127;have a127:=L.a127;have z127:=L.z127;have v127:=L.v127;have u127:=run_underlying L.t127
 have t3:=L.t3;have a3:=L.a3;have z3:=L.z3;have v3:=L.v3;have u3:=run_underlying L.t3
 have t9:=L.t9;have a9:=L.a9;have z9:=L.z9;have v9:=L.v9;have u9:=run_underlying L.t9
 have t5:=X.t5;have a5:=X.a5;have z5:=X.z5;have v5:=X.v5;have u5:=run_underlying X.t5
 rcases hown.2 with ⟨rfl,hz⟩|⟨g,cap,cur,fz,rfl,hbg,hg,hfz,hnc,hcm,hcs,htake⟩
 ·obtain rfl:=ya hz
  have hUS:=Any.unsafeString_none L X
  have c1:w.drew.cell? ⟨b,1,none⟩=some (.slice none 0 0):=by
   have:w.drew.heap[b]? = some (.cells #[p,.slice none 0 0] (ρ.t 72) (0,0)):=hbk
   rw [Lib.cell_of_heap this];rfl
  have hSD:(Builtin.unsafeSliceData_ #[(ρ.t 37)] (ρ.t 127) #[.slice none 0 0]).run P w.drew = .ok (.pointer none) w.drew:=rfl
  go_enter L.f169,Body.n169_ntmps ρ
  go_wp2
  go_region_o
  all_goals (go_wp2;go_ret;exact ⟨rfl,hA.drew,Ext.drew _ _⟩)
 ·by_cases hl0:l=[]
  ·subst hl0
   by_cases hc0:cap=0
   ·subst hc0
    have hUS:=Any.unsafeString_none L X
    have c1:w.drew.cell? ⟨b,1,none⟩=some (.slice (some ⟨g,0,none⟩) 0 0):=by
     have:w.drew.heap[b]? = some (.cells #[p,.slice (some ⟨g,0,none⟩) 0 0] (ρ.t 72) (0,0)):=hbk
     rw [Lib.cell_of_heap this];rfl
    have hSD:(Builtin.unsafeSliceData_ #[(ρ.t 37)] (ρ.t 127) #[.slice (some ⟨g,0,none⟩) 0 0]).run P w.drew = .ok (.pointer (some ⟨w.drew.heap.size,0,none⟩)) (w.drew.alloc (.view ⟨g,0,none⟩ (ρ.t 5))) :=
     Lib.run_unsafeSliceData_zero w.drew _ _ (ρ.t 5) L.t127 ⟨g,0,none⟩ 0 ((ρ.t 5),cur.size) (by have hg':w.drew.heap[g]? = some (.cells cur (ρ.t 5) fz):=hg;simp [World.shape?,hg'])
    have c2:(w.drew.alloc (.view ⟨g,0,none⟩ (ρ.t 5))).cell? ⟨b,1,none⟩=some (.slice (some ⟨g,0,none⟩) 0 0):=by
     have:(w.drew.alloc (.view ⟨g,0,none⟩ (ρ.t 5))).heap[b]? = _:=(Lib.alloc_old w.drew _ b hblt).trans hbk
     rw [Lib.cell_of_heap this];rfl
    have c3:(w.alloc (.view ⟨g,0,none⟩ (ρ.t 5))).drew.cell? ⟨b,1,none⟩=some (.slice (some ⟨g,0,none⟩) 0 0):=c2
    have c0:w.cell? ⟨b,1,none⟩=some (.slice (some ⟨g,0,none⟩) 0 0):=c1
    go_enter L.f169,Body.n169_ntmps ρ
    go_wp2
    go_region_o
    all_goals (go_wp2;go_ret;exact ⟨rfl,hA.drew.alloc _,(Ext.drew _ w).trans (Ext.alloc _ _ _)⟩)
   ·have hUS:=Any.unsafeString_none L X
    have c1:w.drew.cell? ⟨b,1,none⟩=some (.slice (some ⟨g,0,none⟩) 0 cap):=by
     have:w.drew.heap[b]? = some (.cells #[p,.slice (some ⟨g,0,none⟩) 0 cap] (ρ.t 72) (0,0)):=hbk
     rw [Lib.cell_of_heap this];rfl
    have hSD:(Builtin.unsafeSliceData_ #[(ρ.t 37)] (ρ.t 127) #[.slice (some ⟨g,0,none⟩) 0 cap]).run P w.drew = .ok (.pointer (some ⟨g,0,none⟩)) w.drew :=
     Lib.run_unsafeSliceData_row _ _ _ _ _ _ hc0
    clear hc0
    go_enter L.f169,Body.n169_ntmps ρ
    go_wp2
    go_region_o
    all_goals (go_wp2;go_ret;exact ⟨rfl,hA.drew,Ext.drew _ _⟩)
  ·have hl1:l.length≠0:=fun h=>hl0 (ya h)
   have c1:w.drew.cell? ⟨b,1,none⟩=some (.slice (some ⟨g,0,none⟩) l.length cap):=by
    have:w.drew.heap[b]? = some (.cells #[p,.slice (some ⟨g,0,none⟩) l.length cap] (ρ.t 72) (0,0)):=hbk
    rw [Lib.cell_of_heap this];rfl
   have hSD:(Builtin.unsafeSliceData_ #[(ρ.t 37)] (ρ.t 127) #[.slice (some ⟨g,0,none⟩) l.length cap]).run P w.drew = .ok (.pointer (some ⟨g,0,none⟩)) w.drew :=
    Lib.run_unsafeSliceData_row _ _ _ _ _ _ (by omega)
   have hUS:(Builtin.unsafeString_ #[(ρ.t 127),(ρ.t 3)] (ρ.t 9) #[.pointer (some ⟨g,0,none⟩),.int .i64 l.length]).run P w.drew = .ok (.string ⟨l.toArray⟩) (w.drew.freeze ⟨g,0,none⟩ l.length):=by
    refine Lib.run_unsafeString_row w.drew (ρ.t 127) (ρ.t 3) (ρ.t 9) (ρ.t 5) L.t127 X.cellsByte g cur.size (by have hg':w.drew.heap[g]? = some (.cells cur (ρ.t 5) fz):=hg;simp [World.shape?,hg']) l hl0 (by omega) (by unfold maxLen at hcm;omega) ?_
    intro j x hx
    have:=hown.cells (g:=g) rfl j (.int .u8 x.toNat) (by simp [Lib.byteCells,hx])
    exact this
   have hkeep:Lib.BuilderAtF (ρ.t 72) (ρ.t 5) 0 b p (Lib.byteCells l) (w.drew.freeze ⟨g,0,none⟩ l.length):=by
    have hF:=hA.drew.froze (g:=g) (cap:=cap) (by rw [Lib.byteCells_length];exact c1)
    rw [Lib.byteCells_length] at hF
    exact hF
   have hx:Ext (fun x=>(Value.slice (some ⟨g,0,none⟩) l.length cap).ownBlock=some x) w (w.drew.freeze ⟨g,0,none⟩ l.length):=(Ext.drew _ w).trans (Ext.freeze _ _ _ _ rfl)
   go_enter L.f169,Body.n169_ntmps ρ
   go_wp2
   go_region_o
   all_goals (go_wp2;go_ret;exact ⟨rfl,hkeep,hx⟩)
theorem RDl.ints {w:World} {O:Nat→Prop} {k:IntKind}:∀ (xs:List Int) (cs:List Value),RDl w O 1 (xs.map (eI k)) cs→cs.take xs.length=xs.map (Value.int k)
 | [],cs,_=>by simp
 | x::xs,cs,h=>by
  obtain ⟨h1,h2⟩:=h
  obtain ⟨v,vs,h3,h4,h5⟩:=h1
  cases cs with
  | nil=>simp at h3
  | cons c r =>
   simp at h3
   simp only [RD] at h4
   have:=RDl.ints xs r (by simpa using h2)
   simp [this,h3.1,h4]
theorem RDl.zqo {w:World} {O:Nat→Prop} {k:IntKind}:∀ (xs:List Int),RDl w O 1 (xs.map (eI k)) (xs.map (Value.int k))
 | []=>trivial
 | x::xs=>⟨⟨_,[],rfl,rfl,rfl⟩,by simpa using RDl.zqo xs⟩
theorem z8u {xs:List Int} (h:unb (byt xs)=xs):Lib.byteCells (byt xs)=xs.map (Value.int .u8):=by
 conv=>rhs;rw [←h]
 simp [Lib.byteCells,unb]
theorem Con.string {G:GI} (L:Lays.n169 P ρ) (X:Builder.Extra P ρ) (ent:∀ args w,(callFunc (ρ.f 169) args).run P w = .ok (.enter (ρ.f 169) args) w) (h5:ρ.t 5<1000000) (h72:ρ.t 72<1000000) {T0:Nat} (hT:T0=ρ.t 5∨T0=1000000+ρ.t 5) (xs:List Int) (hx:unb (byt xs)=xs) (hnn:Nat.beq (ρ.f 169) NF=false:=by exact rfl) :
  Con P G (ρ.f 169) ⟨[.ptr 0 0],[⟨ρ.t 72,[.z0g 0,.ref 0]⟩],[(T0,1,xs.map (eI .u8))]⟩ (.ok [.str (byt xs)] [⟨ρ.t 72,[.z0g 0,.ref 0]⟩] [some (1000000+ρ.t 5,1,xs.map (eI .u8))]):=by
 refine ⟨ent,hnn,fun w O φ α us hv hm hB hG => ?_⟩
 obtain ⟨u,us',rfl,hu,hus⟩:=hv
 have hus:us'=[]:=hus
 subst hus
 simp only [VR] at hu
 subst hu
 obtain ⟨hO,us,hbx,p,us2,rfl,hp,v,us3,rfl,hv,h3⟩:=hm.box 0 _ rfl
 have h3:us3=[]:=h3
 subst h3
 simp only [VR] at hp hv
 have hbx:=hbx.un h72
 obtain ⟨rfl,hone⟩:=hv
 have hox:z6i w O T0 1 (α 0) (xs.map (eI .u8)):=hm.arr 0 _ rfl
 have hoz:ztx w O (ρ.t 5) 1 (α 0) (xs.map (eI .u8)):=by
  rcases hox with ⟨k0,cs,k1,k2⟩|⟨k1,_,k2⟩|⟨k1,_⟩
  ·rcases hT with rfl|rfl
   ·exact ⟨cs,World.ownsRowF_of k1,k2⟩
   ·exact absurd (Nat.lt_of_le_of_lt (Nat.le_add_right 1000000 (ρ.t 5)) k0) (yd _)
  ·rcases hT with rfl|rfl
   ·exact absurd (ye h5 k1) (yd _)
   ·rwa [yc] at k2
  ·rcases hT with rfl|rfl
   ·exact absurd (ye h5 (Nat.le_trans (by decide:1000000≤2000000) k1)) (yd _)
   ·exact absurd (ye (yb h5 1000000) k1) (yd _)
 obtain ⟨cs,k1,k2,k3,k4⟩:=hoz
 have ecs:cs=Lib.byteCells (byt xs):=by
  have:=RDl.ints xs cs k2
  have hl:cs.length=xs.length:=by simpa using k1.1
  rw [z8u hx,←this,List.take_of_length_le (by omega)]
 have lb:(byt xs).length=xs.length:=by
  have:=congrArg List.length hx
  simpa [unb] using this
 have hl2:(xs.map (eI .u8)).length=(Lib.byteCells (byt xs)).length:=by simp [lb,Lib.byteCells]
 have hA:Lib.BuilderAtF (ρ.t 72) (ρ.t 5) 0 (φ 0) p (Lib.byteCells (byt xs)) w:=by
  refine ⟨Nat.zero_le _,α 0,hbx,?_,hm.ab 0 0 _ rfl (yg)⟩
  rw [←hl2]
  rw [ecs] at k1
  exact k1
 refine (zc9 L X (φ 0) p (α 0) (byt xs) w hbx hA).mono fun e w' ⟨h1,h2,h3⟩ => ?_
 have hFI:∀ x,(α 0).ownBlock=some x→FI ⟨[.ptr 0 0],[⟨ρ.t 72,[.z0g 0,.ref 0]⟩],[(T0,1,xs.map (eI .u8))]⟩ φ α x:=fun x hx => .inr ⟨0,by simp,hx⟩
 have tr:Tr O w O w':=Tr.z4c h3 fun x _ hx=>k4 x hx
 have hbx':z2h w' (φ 0) (ρ.t 72) [p,α 0]:=hbx.keep h3 (hm.ab 0 0 _ rfl (yg))
 have own':z6i w' O (1000000+ρ.t 5) 1 (α 0) (xs.map (eI .u8)):=by
  refine .inr (.inl ⟨by omega,yb h5 1000000,?_⟩)
  rw [yc]
  obtain ⟨_,v',q1,q2,_⟩:=h2
  have q1':z2h w' (φ 0) (ρ.t 72) [p,v']:=q1
  have:α 0=v':=by
   unfold z2h at hbx' q1'
   rw [hbx'] at q1'
   simpa using q1'
  subst this
  refine ⟨_,by rw [hl2];exact q2,by rw [z8u hx];exact RDl.zqo xs,by simp [Lib.byteCells,Value.oneCell'],k4⟩
 refine ⟨[.string ⟨(byt xs).toArray⟩],O,φ,α,h1,⟨_,[],rfl,rfl,rfl⟩,⟨fun b e he => ?_,fun a e he => ?_,fun a b la lb' hn => ?_,fun a b e e' ha hb hn => ?_,fun a b e ha hb => ?_⟩,fun _ _=>rfl,Nat.le_refl _,fun x hx=>ye (hB x hx) h3.size,tr,fun _ hx=>hx,fun _ hx => .inl hx,h3.mono fun x _ hx=>hFI x hx,fun b h1 h2 => ?_,fun a e x he hx => ?_⟩
 ·match b,he with
  | 0,he =>
   cases he
   exact ⟨hO,_,.inl ⟨h72,hbx'⟩,p,_,rfl,hp,_,[],rfl,⟨rfl,hone⟩,rfl⟩
 ·match a,he with
  | 0,he=>cases he;exact own'
 ·simp at la lb'
  omega
 ·match a,b,ha,hb with
  | 0,0,_,_=>exact (hn rfl).elim
 ·match a,ha with
  | 0,ha =>
   have:b=0:=by simpa using hb
   subst this
   exact hm.ab 0 0 _ rfl (yg)
 ·simp at h1 h2
  omega
 ·match a,he with
  | 0,he=>exact .inl ⟨0,by simp,hx⟩
end Go.Pe
