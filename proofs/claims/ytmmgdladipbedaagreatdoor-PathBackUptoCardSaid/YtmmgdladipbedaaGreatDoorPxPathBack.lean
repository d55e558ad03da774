import Derived.Test.YtmmgdladipbedaaGreatDoorLkV
import Derived.Test.YtmmgdladipbedaaGreatDoorPaP3
set_option linter.all false
namespace Go.Proofs.YtmmgdladipbedaaGreatDoor
open Go.Lk Go.Pe Go.Sen Go.ChangeShapes Go.WideShapes Go.ChangeAt Go.RowKit
open Go.ChangeMaps (open_string shut_string)
namespace pathBack
set_option maxRecDepth 100000 in
theorem z2e (H:Type) (enc:TypeId × Value→H) (W:World) (base:Nat) (args:Array Value) (ds gs:List (DataW H)) (before:List MemPlace)
  (hval:∀ (j:Nat) t v,Tryz.f5.params[j]? = some t→args[j]? = some v→Value.okWide Tryz.prog W .any base t v)
  (hW:DataW.Whole enc Tryz.prog Tryz.f5.params.toList Rows.pathBackSpec.vars false W args.toList ds gs before) (hL:laidMetH Tryz.prog Rows.pathBackUptoRow.laid W) (hS:W.ShapedOpen Tryz.prog) (hk:Rows.uptoBulkAll (ds++gs)≤1048576) :
  Calls Tryz.prog 5 args W fun e W'=>∃ v,e = .returned v∧Rows.pathBackSpec.post enc Tryz.prog Tryz.f5 false true false false W args v W':=by
 have hW':=hW
 obtain ⟨p,q,hA0,hV,rfl,hfz,hnd⟩:=hW
 have hA:DataW.TrodAll enc Tryz.prog W 0 (fun _=>true) true Tryz.f5.params.toList args.toList ds p:=hA0
 rw [Tryz.params5] at hA hval
 obtain ⟨v0,vs0,d0,ds0,p0,q0,hargs,rfl,rfl,h0,r0⟩:=trodAll_cons hA
 obtain ⟨v1,vs1,d1,ds1,p1,q1,rfl,rfl,rfl,h1,r1⟩:=trodAll_cons r0
 obtain ⟨rfl,rfl,rfl⟩:=trodAll_nil r1
 obtain rfl:args = #[v0,v1]:=by cases args;simp_all
 obtain ⟨rfl,rfl⟩:=trodVars_none hV
 clear hA0
 have h0k:=h0
 obtain ⟨cs0,rfl⟩:=z5x Tryz.underlying24 (hval 0 24 v0 rfl rfl)
 obtain ⟨g0,h0⟩:=h0
 obtain ⟨x0,e0,z0⟩:=z9n g0 _ _ h0
 have e0:RDs W No x0.enc cs0:=e0
 have z0:x0.sz+1≤Rows.uptoBulk d0:=z0
 have hlt0:∀ x∈p0,x.block<W.heap.size:=fun x hx=>by simpa using hW'.lt x (by simp [hx])
 obtain ⟨t1,rfl,rfl,rfl,w1⟩:=open_string Tryz.underlying9 (hval 1 9 v1 rfl rfl) h1
 obtain ⟨s1,rfl⟩:∃ s:List UInt8,t1=⟨s.toArray⟩:=⟨t1.data.toList,by simp⟩
 simp only [List.append_nil,Rows.uptoBulkAll,Rows.uptoBulk] at hk
 have pure:=zi8 (e:=x0) (s:=s1) (f:=20000000) (by omega) (by omega)
 have con:=C.q14 20000000 x0 s1 true pure
 refine (con.run W No (fun _=>0) (fun _=>Go.undef) [.agg cs0.toArray,.string ⟨s1.toArray⟩] ⟨.agg cs0.toArray,_,rfl,⟨cs0,rfl,zvn e0⟩,⟨.string ⟨s1.toArray⟩,_,rfl,rfl,rfl⟩⟩ (zfa _ _ _ _) (zny W) (zyg hL hS)).mono ?_
 rintro e W' ⟨us,O',φ',α',rfl,x⟩
 obtain ⟨u,us2,rfl,h8,h9⟩:=x.res
 obtain rfl:us2=[]:=h9
 obtain rfl:u = .bool true:=h8
 have bel:=(zes x.ext).below
 refine ⟨_,rfl,_,_,_,[],p0++([]++([])),[],hW',?_,?_,?_,bel.frame _,fun h=>by cases h⟩
 ·exact trodAll_mk1 (shut_bool Tryz.underlying4 true)
 ·exact trodAll_cons_mk (Below.trod laidOut (by kernel_rfl) (of_decide_eq_true (by kernel_rfl)) h0k bel hlt0) (trodAll_cons_mk (shut_string Tryz.underlying9 w1) (trodAll_mk0))
 ·rfl
theorem reads (os:Os) {H:Type} (enc:TypeId × Value→H):∃ places,DataW.whole enc Tryz.prog ((z1r os).forCall (fun _ _=>0) ⟨#[],#[.agg #[.int .i64 0,.string ⟨#[]⟩,.string ⟨#[]⟩,.slice none 0 0],.string ⟨#[]⟩],[]⟩).memory Tryz.f5.params.toList Rows.pathBackSpec.vars false (#[.agg #[.int .i64 0,.string ⟨#[]⟩,.string ⟨#[]⟩,.slice none 0 0],.string ⟨#[]⟩]:Array Value).toList 12=some ([.agg [.lit (.int .i64 0),.lit (.string []),.lit (.string []),.nil],.lit (.string [])],[],places) :=
 ⟨[],by kernel_rfl⟩
set_option maxRecDepth 100000 in
theorem lifted (os:Os) (started:os.Started) (H:Type) (enc:TypeId × Value→H) (F:Stop.Interp) :
  ReturnsInHanded {} Tryz.checked os 5 .any ((Rows.OpenSpec.upto Rows.pathBackSpec).preRow enc Tryz.prog Tryz.f5 Rows.pathBackUptoRow.domain false Rows.pathBackUptoRow.laid) (((Rows.OpenSpec.upto Rows.pathBackSpec).at F).post enc Tryz.prog Tryz.f5 false true false false):=by
 obtain ⟨places,hx⟩:=reads os enc
 refine returnsInHanded_of_row (C:=Tryz.checked) (s:=(Rows.OpenSpec.upto Rows.pathBackSpec)) own started (by kernel_rfl) Tryz.func5
  (witness_row_at (enc:=enc) (C:=Tryz.checked) false (z1r os) #[.agg #[.int .i64 0,.string ⟨#[]⟩,.string ⟨#[]⟩,.slice none 0 0],.string ⟨#[]⟩] rfl (by kernel_rfl) (by kernel_rfl) (by kernel_rfl)
   (OpenSpec.preRow_of_cond 12 hx (by kernel_rfl) (fun k hk=>by cases hk;kernel_rfl) (by kernel_rfl) (z7s os _))) ?_
 intro W base args ds gs before hval hW _ hcond _ hL hS _
 exact z2e H enc W base args ds gs before hval hW hL hS (of_decide_eq_true (hcond _ rfl))
theorem z6t:Tryz.prog.funcNamed Rows.pathBackUptoRow.func=some 5:=by kernel_rfl
theorem unf:Tryz.prog.unfollowed 5=true:=by kernel_rfl
theorem inp:Tryz.prog.inPlace 5=Rows.pathBackUptoRow.inPlace:=by kernel_rfl
theorem nam:Tryz.prog.varsNamed 5=Rows.pathBackUptoRow.named:=by kernel_rfl
theorem zr4:Tryz.prog.recurses 5=true:=by unfold Program.recurses;rw [unf];rfl
theorem zdp:mapsRowed Tryz.prog=true:=by kernel_rfl
theorem z6u:joinedFacts Tryz.prog 5 Tryz.f5 (Rows.OpenSpec.upto Rows.pathBackSpec).bare Rows.pathBackUptoRow=true:=by
 unfold joinedFacts
 rw [unf,inp,nam,zr4,zdp,laidOut]
 kernel_rfl
theorem z6v:Tryz.f5.isInstance Tryz.prog Rows.pathBackUptoRow.origin Rows.pathBackUptoRow.targs:=of_decide_eq_true (by kernel_rfl)
theorem z6w:Tryz.f5.isWrapper Tryz.prog Rows.pathBackUptoRow.wrapper Rows.pathBackUptoRow.mainSum:=by unfold Func.isWrapper;first|(rw [if_pos (by decide +kernel)];kernel_rfl)|(rw [if_neg (by decide +kernel)];exact ⟨rfl,rfl⟩)
theorem said:Rows.PathBackUptoSaid :=
 OpenClaim.holds_of_cond 5 Tryz.f5 rfl rfl rfl rfl rfl rfl rfl ⟨rfl,rfl,rfl,rfl,rfl⟩ rfl rfl rfl rfl rfl z6t Tryz.func5 z6u z6v z6w
  (fun os started H enc _ F=>by rw [OpenClaim.pre_eq_preRow];exact lifted os started H enc F)
theorem plain (f:FuncId) (fn:Func) (hf:Tryz.pinned.checked.prog.funcNamed Rows.pathBackUptoRow.func=some f) (hfn:Tryz.pinned.checked.prog.funcs[f]? = some fn) :
  true=Tryz.pinned.checked.prog.looks []∧∀ (j:Nat) t,fn.params[j]? = some t→Tryz.pinned.checked.prog.wantsStandIn t=false:=by
 obtain rfl:f=5:=Option.some.inj ((show Tryz.prog.funcNamed Rows.pathBackUptoRow.func=some 5 by kernel_rfl).symm.trans hf) |>.symm
 obtain rfl:fn=Tryz.f5:=(Option.some.inj (Tryz.func5.symm.trans hfn)).symm
 refine ⟨by kernel_rfl,fun j t ht => ?_⟩
 rw [Tryz.params5] at ht
 have hm:=Array.mem_of_getElem? ht
 simp only [List.mem_toArray,List.mem_cons,List.not_mem_nil,or_false] at hm
 rcases hm with rfl|rfl
 ·exact (show Tryz.prog.wantsStandIn 24=false by kernel_rfl)
 ·exact (show Tryz.prog.wantsStandIn 9=false by kernel_rfl)
end pathBack
/-- THE CARD. -/
theorem pathBackupto_card:Rows.PathBackUptoCardSaid :=
 Claim7.holds_tied_plain_at .later [] _ _ _ _ pathBack.said (fun _ h=>by cases h) (by kernel_rfl) (fun _ h=>by cases h) pathBackUpto_row_tie rfl ⟨rfl,rfl⟩ (by kernel_rfl) rfl pathBack.plain (by kernel_rfl)
end Go.Proofs.YtmmgdladipbedaaGreatDoor
