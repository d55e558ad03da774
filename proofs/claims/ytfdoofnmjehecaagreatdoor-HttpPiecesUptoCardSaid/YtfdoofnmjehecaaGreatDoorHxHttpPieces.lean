import Derived.Test.YtfdoofnmjehecaaGreatDoorHtX
import Derived.Test.YtfdoofnmjehecaaGreatDoorHtP7
import Derived.Test.YtfdoofnmjehecaaGreatDoorShN
import Derived.Test.YtfdoofnmjehecaaGreatDoorShF
set_option linter.all false
namespace Go.Proofs.YtfdoofnmjehecaaGreatDoor
open Go.Lk Go.Pe Go.Sen Go.ChangeShapes Go.WideShapes Go.ChangeAt Go.RowKit
open Go.ChangeMaps (open_string shut_string)
namespace z96
set_option maxRecDepth 100000 in
theorem z88 (H:Type) (enc:TypeId × Value→H) (W:World) (base:Nat) (args:Array Value) (ds gs:List (DataW H)) (before:List MemPlace)
  (hval:∀ (j:Nat) t v,Tryz.f6.params[j]? = some t→args[j]? = some v→Value.okWide Tryz.prog W .any base t v)
  (hW:DataW.Whole enc Tryz.prog Tryz.f6.params.toList Rows.httpPiecesSpec.vars false W args.toList ds gs before) (hL:laidMetH Tryz.prog Rows.httpPiecesUptoRow.laid W) (hS:W.ShapedOpen Tryz.prog) (hk:Rows.uptoBulkAll (ds++gs)≤1048576) :
  Calls Tryz.prog 6 args W fun e W'=>∃ v,e = .returned v∧Rows.httpPiecesSpec.post enc Tryz.prog Tryz.f6 false true false false W args v W':=by
 have hW':=hW
 obtain ⟨p,q,hA0,hV,rfl,hfz,hnd⟩:=hW
 have hA:DataW.TrodAll enc Tryz.prog W 0 (fun _=>true) true Tryz.f6.params.toList args.toList ds p:=hA0
 rw [Tryz.params6] at hA hval
 obtain ⟨v0,vs0,d0,ds0,p0,q0,hargs,rfl,rfl,h0,r0⟩:=trodAll_cons hA
 obtain ⟨v1,vs1,d1,ds1,p1,q1,rfl,rfl,rfl,h1,r1⟩:=trodAll_cons r0
 obtain ⟨rfl,rfl,rfl⟩:=trodAll_nil r1
 obtain rfl:args = #[v0,v1]:=by cases args;simp_all
 obtain ⟨rfl,rfl⟩:=trodVars_none hV
 clear hA0
 obtain ⟨t0,rfl,rfl,rfl,w0⟩:=open_string Tryz.underlying9 (hval 0 9 v0 rfl rfl) h0
 obtain ⟨s0,rfl⟩:∃ s:List UInt8,t0=⟨s.toArray⟩:=⟨t0.data.toList,by simp⟩
 obtain ⟨t1,rfl,rfl,rfl,w1⟩:=open_string Tryz.underlying9 (hval 1 9 v1 rfl rfl) h1
 obtain ⟨s1,rfl⟩:∃ s:List UInt8,t1=⟨s.toArray⟩:=⟨t1.data.toList,by simp⟩
 simp only [List.append_nil,Rows.uptoBulkAll,Rows.uptoBulk] at hk
 have pure:=pieces_eq zn8 (s:=s0) (t:=s1) (by omega) (by omega)
 have con:=C.q3q 40 s0 s1 true pure
 refine (con.run W No (fun _=>0) (fun _=>Go.undef) [.string ⟨s0.toArray⟩,.string ⟨s1.toArray⟩] ⟨.string ⟨s0.toArray⟩,_,rfl,rfl,⟨.string ⟨s1.toArray⟩,_,rfl,rfl,rfl⟩⟩ (ztq _ _ _ _) (zw1 W) (zxm hL hS)).mono ?_
 rintro e W' ⟨us,O',φ',α',rfl,x⟩
 obtain ⟨u,us2,rfl,h8,h9⟩:=x.res
 obtain rfl:us2=[]:=h9
 obtain rfl:u = .bool true:=h8
 have bel:=(zt5 x.ext).below
 refine ⟨_,rfl,_,_,_,[],[]++([]++([])),[],hW',?_,?_,?_,bel.frame _,fun h=>by cases h⟩
 ·exact trodAll_mk1 (shut_bool Tryz.underlying4 true)
 ·exact trodAll_cons_mk (shut_string Tryz.underlying9 w0) (trodAll_cons_mk (shut_string Tryz.underlying9 w1) (trodAll_mk0))
 ·rfl
theorem reads (os:Os) {H:Type} (enc:TypeId × Value→H):∃ places,DataW.whole enc Tryz.prog ((z8m os).forCall (fun _ _=>0) ⟨#[],#[.string ⟨#[]⟩,.string ⟨#[]⟩],[]⟩).memory Tryz.f6.params.toList Rows.httpPiecesSpec.vars false (#[.string ⟨#[]⟩,.string ⟨#[]⟩]:Array Value).toList 12=some ([.lit (.string []),.lit (.string [])],[],places) :=
 ⟨[],by kernel_rfl⟩
set_option maxRecDepth 100000 in
theorem lifted (os:Os) (started:os.Started) (H:Type) (enc:TypeId × Value→H) (F:Stop.Interp) :
  ReturnsInHanded {} Tryz.checked os 6 .any ((Rows.OpenSpec.upto Rows.httpPiecesSpec).preRow enc Tryz.prog Tryz.f6 Rows.httpPiecesUptoRow.domain false Rows.httpPiecesUptoRow.laid) (((Rows.OpenSpec.upto Rows.httpPiecesSpec).at F).post enc Tryz.prog Tryz.f6 false true false false):=by
 obtain ⟨places,hx⟩:=reads os enc
 refine returnsInHanded_of_row (C:=Tryz.checked) (s:=(Rows.OpenSpec.upto Rows.httpPiecesSpec)) own started (by kernel_rfl) Tryz.func6
  (witness_row_at (enc:=enc) (C:=Tryz.checked) false (z8m os) #[.string ⟨#[]⟩,.string ⟨#[]⟩] rfl (by kernel_rfl) (by kernel_rfl) (by kernel_rfl)
   (OpenSpec.preRow_of_cond 12 hx (by kernel_rfl) (fun k hk=>by cases hk;kernel_rfl) (by kernel_rfl) (zne os _))) ?_
 intro W base args ds gs before hval hW _ hcond _ hL hS _
 exact z88 H enc W base args ds gs before hval hW hL hS (of_decide_eq_true (hcond _ rfl))
theorem zt1:Tryz.prog.funcNamed Rows.httpPiecesUptoRow.func=some 6:=by kernel_rfl
theorem unf:Tryz.prog.unfollowed 6=true:=by kernel_rfl
theorem inp:Tryz.prog.inPlace 6=Rows.httpPiecesUptoRow.inPlace:=by kernel_rfl
theorem nam:Tryz.prog.varsNamed 6=Rows.httpPiecesUptoRow.named:=by kernel_rfl
theorem zxf:Tryz.prog.recurses 6=true:=by unfold Program.recurses;rw [unf];rfl
theorem zt2:joinedFacts Tryz.prog 6 Tryz.f6 (Rows.OpenSpec.upto Rows.httpPiecesSpec).bare Rows.httpPiecesUptoRow=true:=by
 unfold joinedFacts
 rw [unf,inp,nam,zxf,zw5,laidOut]
 kernel_rfl
theorem zt3:Tryz.f6.isInstance Tryz.prog Rows.httpPiecesUptoRow.origin Rows.httpPiecesUptoRow.targs:=of_decide_eq_true (by kernel_rfl)
theorem zt4:Tryz.f6.isWrapper Tryz.prog Rows.httpPiecesUptoRow.wrapper Rows.httpPiecesUptoRow.mainSum:=by unfold Func.isWrapper;first|(rw [if_pos (by decide +kernel)];kernel_rfl)|(rw [if_neg (by decide +kernel)];exact ⟨rfl,rfl⟩)
theorem said:Rows.HttpPiecesUptoSaid :=
 OpenClaim.holds_of_cond 6 Tryz.f6 rfl rfl rfl rfl rfl rfl rfl ⟨rfl,rfl,rfl,rfl,rfl⟩ rfl rfl rfl rfl rfl zt1 Tryz.func6 zt2 zt3 zt4
  (fun os started H enc _ F=>by rw [OpenClaim.pre_eq_preRow];exact lifted os started H enc F)
theorem plain (f:FuncId) (fn:Func) (hf:Tryz.pinned.checked.prog.funcNamed Rows.httpPiecesUptoRow.func=some f) (hfn:Tryz.pinned.checked.prog.funcs[f]? = some fn) :
  true=Tryz.pinned.checked.prog.looks []∧∀ (j:Nat) t,fn.params[j]? = some t→Tryz.pinned.checked.prog.wantsStandIn t=false:=by
 obtain rfl:f=6:=Option.some.inj ((show Tryz.prog.funcNamed Rows.httpPiecesUptoRow.func=some 6 by kernel_rfl).symm.trans hf) |>.symm
 obtain rfl:fn=Tryz.f6:=(Option.some.inj (Tryz.func6.symm.trans hfn)).symm
 refine ⟨ztm,fun j t ht => ?_⟩
 rw [Tryz.params6] at ht
 have hm:=Array.mem_of_getElem? ht
 simp only [List.mem_toArray,List.mem_cons,List.not_mem_nil,or_false] at hm
 rcases hm with rfl|rfl
 ·exact (show Tryz.prog.wantsStandIn 9=false by kernel_rfl)
 ·exact (show Tryz.prog.wantsStandIn 9=false by kernel_rfl)
end z96
theorem httpPiecesupto_card:Rows.HttpPiecesUptoCardSaid :=
 Claim7.holds_tied_plain_at .later [] _ _ _ _ z96.said (fun _ h=>by cases h) (by kernel_rfl) (fun _ h=>by cases h) httpPiecesUpto_row_tie rfl ⟨rfl,rfl⟩ zvw rfl z96.plain (zkz rfl)
end Go.Proofs.YtfdoofnmjehecaaGreatDoor
