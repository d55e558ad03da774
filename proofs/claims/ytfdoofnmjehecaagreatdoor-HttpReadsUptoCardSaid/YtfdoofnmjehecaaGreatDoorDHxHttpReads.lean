import Derived.Test.YtfdoofnmjehecaaGreatDoorDSiC
import Derived.Test.YtfdoofnmjehecaaGreatDoorDHtP7
import Derived.Test.YtfdoofnmjehecaaGreatDoorDShN
set_option linter.all false
namespace Go.Proofs.YtfdoofnmjehecaaGreatDoor
open Go.Lk Go.Pe Go.Sen Go.ChangeShapes Go.WideShapes Go.ChangeAt Go.RowKit
open Go.ChangeMaps (open_string shut_string)
namespace httpReads
set_option maxRecDepth 100000 in
theorem contract (H:Type) (enc:TypeId × Value→H) (W:World) (base:Nat) (args:Array Value) (ds gs:List (DataW H)) (before:List MemPlace)
  (hval:∀ (j:Nat) t v,Tryz.f3.params[j]? = some t→args[j]? = some v→Value.okWide Tryz.prog W .any base t v)
  (hW:DataW.Whole enc Tryz.prog Tryz.f3.params.toList Rows.httpReadsSpec.vars false W args.toList ds gs before) (hL:laidMetH Tryz.prog Rows.httpReadsUptoRow.laid W) (hS:W.ShapedOpen Tryz.prog) (hk:Rows.uptoBulkAll (ds++gs)≤1048576) :
  Calls Tryz.prog 3 args W fun e W'=>∃ v,e = .returned v∧Rows.httpReadsSpec.post enc Tryz.prog Tryz.f3 false true false false W args v W':=by
 have hW':=hW
 obtain ⟨p,q,hA0,hV,rfl,hfz,hnd⟩:=hW
 have hA:DataW.TrodAll enc Tryz.prog W 0 (fun _=>true) true Tryz.f3.params.toList args.toList ds p:=hA0
 rw [Tryz.params3] at hA hval
 obtain ⟨v0,vs0,d0,ds0,p0,q0,hargs,rfl,rfl,h0,r0⟩:=trodAll_cons hA
 obtain ⟨rfl,rfl,rfl⟩:=trodAll_nil r0
 obtain rfl:args = #[v0]:=by cases args;simp_all
 obtain ⟨rfl,rfl⟩:=trodVars_none hV
 clear hA0
 obtain ⟨t0,rfl,rfl,rfl,w0⟩:=open_string Tryz.underlying9 (hval 0 9 v0 rfl rfl) h0
 obtain ⟨s0,rfl⟩:∃ s:Z,t0=⟨s.toArray⟩:=⟨t0.data.toList,by simp⟩
 simp only [List.append_nil,Rows.uptoBulkAll,Rows.uptoBulk] at hk
 have pure:=zox zoa (s:=s0) (by omega)
 have con:=C.q3t 40 s0 true pure
 refine (con.run W No (fun _=>0) (fun _=>Go.undef) [.string ⟨s0.toArray⟩] ⟨.string ⟨s0.toArray⟩,_,rfl,rfl,rfl⟩ (zus _ _ _ _) (zx0 W) (zyj hL hS)).mono ?_
 rintro e W' ⟨us,O',φ',α',rfl,x⟩
 obtain ⟨u,us2,rfl,h8,h9⟩:=x.res
 obtain rfl:us2=[]:=h9
 obtain rfl:u = .bool true:=h8
 have bel0:=zud x.ext
 have bel:Below W.heap.size W W':=⟨bel0.os,bel0.tape,bel0.output,bel0.size,fun k hk=>bel0.block k hk id⟩
 refine ⟨_,rfl,_,_,_,[],[]++([]),[],hW',?_,?_,?_,bel.frame _,fun h=>by cases h⟩
 ·exact trodAll_mk1 (shut_bool Tryz.underlying4 true)
 ·exact trodAll_cons_mk (shut_string Tryz.underlying9 w0) (trodAll_mk0)
 ·rfl
theorem reads (os:Os) {H:Type} (enc:TypeId × Value→H):∃ places,DataW.whole enc Tryz.prog ((z9b os).forCall (fun _ _=>0) ⟨#[],#[.string ⟨#[]⟩],[]⟩).memory Tryz.f3.params.toList Rows.httpReadsSpec.vars false (#[.string ⟨#[]⟩]:Array Value).toList 12=some ([.lit (.string [])],[],places) :=
 ⟨[],by kernel_rfl⟩
set_option maxRecDepth 100000 in
theorem lifted (os:Os) (started:os.Started) (H:Type) (enc:TypeId × Value→H) (F:Stop.Interp) :
  ReturnsInHanded {} Tryz.checked os 3 .any ((Rows.OpenSpec.upto Rows.httpReadsSpec).preRow enc Tryz.prog Tryz.f3 Rows.httpReadsUptoRow.domain false Rows.httpReadsUptoRow.laid) (((Rows.OpenSpec.upto Rows.httpReadsSpec).at F).post enc Tryz.prog Tryz.f3 false true false false):=by
 obtain ⟨places,hx⟩:=reads os enc
 refine returnsInHanded_of_row (C:=Tryz.checked) (s:=(Rows.OpenSpec.upto Rows.httpReadsSpec)) own started (by kernel_rfl) Tryz.func3
  (witness_row_at (enc:=enc) (C:=Tryz.checked) false (z9b os) #[.string ⟨#[]⟩] rfl (by kernel_rfl) (by kernel_rfl) (by kernel_rfl)
   (OpenSpec.preRow_of_cond 12 hx (by kernel_rfl) (fun k hk=>by cases hk;kernel_rfl) (by kernel_rfl) (zoi os _))) ?_
 intro W base args ds gs before hval hW _ hcond _ hL hS _
 exact contract H enc W base args ds gs before hval hW hL hS (of_decide_eq_true (hcond _ rfl))
theorem facts1:Tryz.prog.funcNamed Rows.httpReadsUptoRow.func=some 3:=by kernel_rfl
theorem unf:Tryz.prog.unfollowed 3=true:=by kernel_rfl
theorem inp:Tryz.prog.inPlace 3=Rows.httpReadsUptoRow.inPlace:=by kernel_rfl
theorem nam:Tryz.prog.varsNamed 3=Rows.httpReadsUptoRow.named:=by kernel_rfl
theorem rec_:Tryz.prog.recurses 3=true:=by unfold Program.recurses;rw [unf];rfl
theorem facts2:joinedFacts Tryz.prog 3 Tryz.f3 (Rows.OpenSpec.upto Rows.httpReadsSpec).bare Rows.httpReadsUptoRow=true:=by
 unfold joinedFacts
 rw [unf,inp,nam,rec_,zx5,laidOut]
 kernel_rfl
theorem facts3:Tryz.f3.isInstance Tryz.prog Rows.httpReadsUptoRow.origin Rows.httpReadsUptoRow.targs:=of_decide_eq_true (by kernel_rfl)
theorem facts4:Tryz.f3.isWrapper Tryz.prog Rows.httpReadsUptoRow.wrapper Rows.httpReadsUptoRow.mainSum:=by unfold Func.isWrapper;first|(rw [if_pos (by decide +kernel)];kernel_rfl)|(rw [if_neg (by decide +kernel)];exact ⟨rfl,rfl⟩)
theorem said:Rows.HttpReadsUptoSaid :=
 OpenClaim.holds_of_cond 3 Tryz.f3 rfl rfl rfl rfl rfl rfl rfl ⟨rfl,rfl,rfl,rfl,rfl⟩ rfl rfl rfl rfl rfl facts1 Tryz.func3 facts2 facts3 facts4
  (fun os started H enc _ F=>by rw [OpenClaim.pre_eq_preRow];exact lifted os started H enc F)
theorem plain (f:FuncId) (fn:Func) (hf:Tryz.pinned.checked.prog.funcNamed Rows.httpReadsUptoRow.func=some f) (hfn:Tryz.pinned.checked.prog.funcs[f]? = some fn) :
  true=Tryz.pinned.checked.prog.looks []∧∀ (j:Nat) t,fn.params[j]? = some t→Tryz.pinned.checked.prog.wantsStandIn t=false:=by
 obtain rfl:f=3:=Option.some.inj ((show Tryz.prog.funcNamed Rows.httpReadsUptoRow.func=some 3 by kernel_rfl).symm.trans hf) |>.symm
 obtain rfl:fn=Tryz.f3:=(Option.some.inj (Tryz.func3.symm.trans hfn)).symm
 refine ⟨zuo,fun j t ht => ?_⟩
 rw [Tryz.params3] at ht
 have hm:=Array.mem_of_getElem? ht
 simp only [List.mem_toArray,List.mem_cons,List.not_mem_nil,or_false] at hm
 rcases hm with rfl
 ·exact (show Tryz.prog.wantsStandIn 9=false by kernel_rfl)
end httpReads
theorem httpReadsupto_card:Rows.HttpReadsUptoCardSaid :=
 Claim7.holds_tied_plain_at .later [] _ _ _ _ httpReads.said (fun _ h=>by cases h) (by kernel_rfl) (fun _ h=>by cases h) httpReadsUpto_row_tie rfl ⟨rfl,rfl⟩ zwv rfl httpReads.plain (zm5 rfl)
end Go.Proofs.YtfdoofnmjehecaaGreatDoor
