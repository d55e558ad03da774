import Derived.Test.YtmmgdladipbedaaGreatDoorRSpK
import Derived.Test.YtmmgdladipbedaaGreatDoorRPaP5
set_option linter.all false
namespace Go.Proofs.YtmmgdladipbedaaGreatDoor
open Go.Lk Go.Pe Go.Sen Go.ChangeShapes Go.WideShapes Go.ChangeAt Go.RowKit
open Go.ChangeMaps (open_string shut_string)
namespace pathReads
set_option maxRecDepth 100000 in
theorem z8k (H:Type) (enc:TypeId × Value→H) (W:World) (base:Nat) (args:Array Value) (ds gs:List (DataW H)) (before:List MemPlace)
  (hval:∀ (j:Nat) t v,Tryz.f11.params[j]? = some t→args[j]? = some v→Value.okWide Tryz.prog W .any base t v)
  (hW:DataW.Whole enc Tryz.prog Tryz.f11.params.toList Rows.pathReadsSpec.vars false W args.toList ds gs before) (hL:laidMetH Tryz.prog Rows.pathReadsRow.laid W) (hS:W.ShapedOpen Tryz.prog) :
  Calls Tryz.prog 11 args W fun e W'=>∃ v,e = .returned v∧Rows.pathReadsSpec.post enc Tryz.prog Tryz.f11 false true false false W args v W':=by
 have hW':=hW
 obtain ⟨p,q,hA0,hV,rfl,hfz,hnd⟩:=hW
 have hA:DataW.TrodAll enc Tryz.prog W 0 (fun _=>true) true Tryz.f11.params.toList args.toList ds p:=hA0
 rw [Tryz.params11] at hA hval
 obtain ⟨v0,vs0,d0,ds0,p0,q0,hargs,rfl,rfl,h0,r0⟩:=trodAll_cons hA
 obtain ⟨rfl,rfl,rfl⟩:=trodAll_nil r0
 obtain rfl:args = #[v0]:=by cases args;simp_all
 obtain ⟨rfl,rfl⟩:=trodVars_none hV
 clear hA0
 obtain ⟨t0,rfl,rfl,rfl,w0⟩:=open_string Tryz.underlying9 (hval 0 9 v0 rfl rfl) h0
 obtain ⟨s0,rfl⟩:∃ s:List UInt8,t0=⟨s.toArray⟩:=⟨t0.data.toList,by simp⟩
 have pure:=zef s0 (f:=20000000) (by omega)
 have con:=C.q1b 20000000 s0 true pure
 refine (con.run W No (fun _=>0) (fun _=>Go.undef) [.string ⟨s0.toArray⟩] ⟨.string ⟨s0.toArray⟩,_,rfl,rfl,rfl⟩ (zw1 _ _ _ _) (zyl W) (tabs hL hS)).mono ?_
 rintro e W' ⟨us,O',φ',α',rfl,x⟩
 obtain ⟨u,us2,rfl,h8,h9⟩:=x.res
 obtain rfl:us2=[]:=h9
 obtain rfl:u = .bool true:=h8
 have bel:=(zvk x.ext).below
 refine ⟨_,rfl,_,_,_,[],[]++([]),[],hW',?_,?_,?_,bel.frame _,fun h=>by cases h⟩
 ·exact trodAll_mk1 (shut_bool Tryz.underlying4 true)
 ·exact trodAll_cons_mk (shut_string Tryz.underlying9 w0) (trodAll_mk0)
 ·rfl
theorem reads (os:Os) {H:Type} (enc:TypeId × Value→H):∃ places,DataW.whole enc Tryz.prog ((z8s os).forCall (fun _ _=>0) ⟨#[],#[.string ⟨#[]⟩],[]⟩).memory Tryz.f11.params.toList Rows.pathReadsSpec.vars false (#[.string ⟨#[]⟩]:Array Value).toList 12=some ([.lit (.string [])],[],places) :=
 ⟨[],by kernel_rfl⟩
set_option maxRecDepth 100000 in
theorem lifted (os:Os) (started:os.Started) (H:Type) (enc:TypeId × Value→H) (F:Stop.Interp) :
  ReturnsInHanded {} Tryz.checked os 11 .any ((OpenSpec.ofChange Rows.pathReadsSpec).preRow enc Tryz.prog Tryz.f11 Rows.pathReadsRow.domain false Rows.pathReadsRow.laid) (((OpenSpec.ofChange Rows.pathReadsSpec).at F).post enc Tryz.prog Tryz.f11 false true false false):=by
 obtain ⟨places,hx⟩:=reads os enc
 refine returnsInHanded_of_row (C:=Tryz.checked) (s:=(OpenSpec.ofChange Rows.pathReadsSpec)) own started (by kernel_rfl) Tryz.func11
  (witness_row_at (enc:=enc) (C:=Tryz.checked) false (z8s os) #[.string ⟨#[]⟩] rfl (by kernel_rfl) (by kernel_rfl) (by kernel_rfl)
   (OpenSpec.preRow_of_cond 12 hx (by kernel_rfl) (fun k hk=>by cases hk) (by kernel_rfl) (zqo os _))) ?_
 intro W base args ds gs before hval hW _ hcond _ hL hS _
 exact z8k H enc W base args ds gs before hval hW hL hS
theorem zvg:Tryz.prog.funcNamed Rows.pathReadsRow.func=some 11:=by kernel_rfl
theorem unf:Tryz.prog.unfollowed 11=true:=by kernel_rfl
theorem inp:Tryz.prog.inPlace 11=Rows.pathReadsRow.inPlace:=by kernel_rfl
theorem nam:Tryz.prog.varsNamed 11=Rows.pathReadsRow.named:=by kernel_rfl
theorem rec_:Tryz.prog.recurses 11=true:=by unfold Program.recurses;rw [unf];rfl
theorem zyt:mapsRowed Tryz.prog=true:=by kernel_rfl
theorem zvh:joinedFacts Tryz.prog 11 Tryz.f11 (OpenSpec.ofChange Rows.pathReadsSpec).bare Rows.pathReadsRow=true:=by
 unfold joinedFacts
 rw [unf,inp,nam,rec_,zyt,laidOut]
 kernel_rfl
theorem zvi:Tryz.f11.isInstance Tryz.prog Rows.pathReadsRow.origin Rows.pathReadsRow.targs:=of_decide_eq_true (by kernel_rfl)
theorem zvj:Tryz.f11.isWrapper Tryz.prog Rows.pathReadsRow.wrapper Rows.pathReadsRow.mainSum:=by unfold Func.isWrapper;first|(rw [if_pos (by decide +kernel)];kernel_rfl)|(rw [if_neg (by decide +kernel)];exact ⟨rfl,rfl⟩)
theorem said:Rows.PathReadsSaid :=
 OpenClaim.holds_of_cond 11 Tryz.f11 rfl rfl rfl rfl rfl rfl rfl ⟨rfl,rfl,rfl,rfl,rfl⟩ rfl rfl rfl rfl rfl zvg Tryz.func11 zvh zvi zvj
  (fun os started H enc _ F=>by rw [OpenClaim.pre_eq_preRow];exact lifted os started H enc F)
theorem plain (f:FuncId) (fn:Func) (hf:Tryz.pinned.checked.prog.funcNamed Rows.pathReadsRow.func=some f) (hfn:Tryz.pinned.checked.prog.funcs[f]? = some fn) :
  true=Tryz.pinned.checked.prog.looks []∧∀ (j:Nat) t,fn.params[j]? = some t→Tryz.pinned.checked.prog.wantsStandIn t=false:=by
 obtain rfl:f=11:=Option.some.inj ((show Tryz.prog.funcNamed Rows.pathReadsRow.func=some 11 by kernel_rfl).symm.trans hf) |>.symm
 obtain rfl:fn=Tryz.f11:=(Option.some.inj (Tryz.func11.symm.trans hfn)).symm
 refine ⟨by kernel_rfl,fun j t ht => ?_⟩
 rw [Tryz.params11] at ht
 have hm:=Array.mem_of_getElem? ht
 simp only [List.mem_toArray,List.mem_cons,List.not_mem_nil,or_false] at hm
 rcases hm with rfl
 ·exact (show Tryz.prog.wantsStandIn 9=false by kernel_rfl)
end pathReads
theorem pathReads_card:Rows.PathReadsCardSaid :=
 Claim7.holds_tied_plain_at .later [] _ _ _ _ pathReads.said (fun _ h=>by cases h) (by kernel_rfl) (fun _ h=>by cases h) pathReads_row_tie rfl ⟨rfl,rfl⟩ (by kernel_rfl) rfl pathReads.plain (by kernel_rfl)
end Go.Proofs.YtmmgdladipbedaaGreatDoor
