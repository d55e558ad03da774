import Derived.Test.YtmmgdladipbedaaGreatDoorLSpQ
import Derived.Test.YtmmgdladipbedaaGreatDoorLPaP6
set_option linter.all false
namespace Go.Proofs.YtmmgdladipbedaaGreatDoor
open Go.Lk Go.Pe Go.Sen Go.ChangeShapes Go.WideShapes Go.ChangeAt Go.RowKit
open Go.ChangeMaps (open_string shut_string)
namespace pathLogic
set_option maxRecDepth 100000 in
theorem z7e (H:Type) (enc:TypeId × Value→H) (W:World) (base:Nat) (args:Array Value) (ds gs:List (DataW H)) (before:List MemPlace)
  (hval:∀ (j:Nat) t v,Tryz.f6.params[j]? = some t→args[j]? = some v→Value.okWide Tryz.prog W .any base t v)
  (hW:DataW.Whole enc Tryz.prog Tryz.f6.params.toList Rows.pathLogicSpec.vars false W args.toList ds gs before) (hL:laidMetH Tryz.prog Rows.pathLogicUptoRow.laid W) (hS:W.ShapedOpen Tryz.prog) (hk:Rows.uptoBulkAll (ds++gs)≤1048576) :
  Calls Tryz.prog 6 args W fun e W'=>∃ v,e = .returned v∧Rows.pathLogicSpec.post enc Tryz.prog Tryz.f6 false true false false W args v W':=by
 have hW':=hW
 obtain ⟨p,q,hA0,hV,rfl,hfz,hnd⟩:=hW
 have hA:DataW.TrodAll enc Tryz.prog W 0 (fun _=>true) true Tryz.f6.params.toList args.toList ds p:=hA0
 rw [Tryz.params6] at hA hval
 obtain ⟨v0,vs0,d0,ds0,p0,q0,hargs,rfl,rfl,h0,r0⟩:=trodAll_cons hA
 obtain ⟨v1,vs1,d1,ds1,p1,q1,rfl,rfl,rfl,h1,r1⟩:=trodAll_cons r0
 obtain ⟨v2,vs2,d2,ds2,p2,q2,rfl,rfl,rfl,h2,r2⟩:=trodAll_cons r1
 obtain ⟨rfl,rfl,rfl⟩:=trodAll_nil r2
 obtain rfl:args = #[v0,v1,v2]:=by cases args;simp_all
 obtain ⟨rfl,rfl⟩:=trodVars_none hV
 clear hA0
 have h0k:=h0
 obtain ⟨cs0,rfl⟩:=zcj Tryz.underlying24 (hval 0 24 v0 rfl rfl)
 obtain ⟨g0,h0⟩:=h0
 obtain ⟨x0,e0,z0⟩:=zf9 g0 _ _ h0
 have e0:RDs W No x0.enc cs0:=e0
 have z0:x0.sz+1≤Rows.uptoBulk d0:=z0
 have hlt0:∀ x∈p0,x.block<W.heap.size:=fun x hx=>by simpa using hW'.lt x (by simp [hx])
 have h1k:=h1
 obtain ⟨cs1,rfl⟩:=zcj Tryz.underlying24 (hval 1 24 v1 rfl rfl)
 obtain ⟨g1,h1⟩:=h1
 obtain ⟨x1,e1,z1⟩:=zf9 g1 _ _ h1
 have e1:RDs W No x1.enc cs1:=e1
 have z1:x1.sz+1≤Rows.uptoBulk d1:=z1
 have hlt1:∀ x∈p1,x.block<W.heap.size:=fun x hx=>by simpa using hW'.lt x (by simp [hx])
 have h2k:=h2
 obtain ⟨cs2,rfl⟩:=zcj Tryz.underlying33 (hval 2 33 v2 rfl rfl)
 obtain ⟨g2,h2⟩:=h2
 obtain ⟨x2,e2,z2⟩:=zk2 g2 _ _ h2
 have e2:RDs W No x2.enc cs2:=e2
 have z2:x2.sz+1≤Rows.uptoBulk d2:=z2
 have hlt2:∀ x∈p2,x.block<W.heap.size:=fun x hx=>by simpa using hW'.lt x (by simp [hx])
 simp only [List.append_nil,Rows.uptoBulkAll,Rows.uptoBulk] at hk
 have pure:=zda (a:=x0) (b:=x1) (t:=x2) (f:=20000000) (by omega) (by omega) (by omega) (by omega)
 have con:=C.z0q 20000000 x0 x1 x2 true pure
 refine (con.run W No (fun _=>0) (fun _=>Go.undef) [.agg cs0.toArray,.agg cs1.toArray,.agg cs2.toArray] ⟨.agg cs0.toArray,_,rfl,⟨cs0,rfl,zsq e0⟩,⟨.agg cs1.toArray,_,rfl,⟨cs1,rfl,zsq e1⟩,⟨.agg cs2.toArray,_,rfl,⟨cs2,rfl,zv1 e2⟩,rfl⟩⟩⟩ (ztl _ _ _ _) (zvv W) (zxq hL hS)).mono ?_
 rintro e W' ⟨us,O',φ',α',rfl,x⟩
 obtain ⟨u,us2,rfl,h8,h9⟩:=x.res
 obtain rfl:us2=[]:=h9
 obtain rfl:u = .bool true:=h8
 have bel:=(zt6 x.ext).below
 refine ⟨_,rfl,_,_,_,[],p0++(p1++(p2++([]))),[],hW',?_,?_,?_,bel.frame _,fun h=>by cases h⟩
 ·exact trodAll_mk1 (shut_bool Tryz.underlying4 true)
 ·exact trodAll_cons_mk (Below.trod laidOut (by kernel_rfl) (of_decide_eq_true (by kernel_rfl)) h0k bel hlt0) (trodAll_cons_mk (Below.trod laidOut (by kernel_rfl) (of_decide_eq_true (by kernel_rfl)) h1k bel hlt1) (trodAll_cons_mk (Below.trod laidOut (by kernel_rfl) (of_decide_eq_true (by kernel_rfl)) h2k bel hlt2) (trodAll_mk0)))
 ·rfl
theorem reads (os:Os) {H:Type} (enc:TypeId × Value→H):∃ places,DataW.whole enc Tryz.prog ((z7o os).forCall (fun _ _=>0) ⟨#[],#[.agg #[.int .i64 0,.string ⟨#[]⟩,.string ⟨#[]⟩,.slice none 0 0],.agg #[.int .i64 0,.string ⟨#[]⟩,.string ⟨#[]⟩,.slice none 0 0],.agg #[.string ⟨#[]⟩,.string ⟨#[]⟩,.string ⟨#[]⟩,.slice none 0 0]],[]⟩).memory Tryz.f6.params.toList Rows.pathLogicSpec.vars false (#[.agg #[.int .i64 0,.string ⟨#[]⟩,.string ⟨#[]⟩,.slice none 0 0],.agg #[.int .i64 0,.string ⟨#[]⟩,.string ⟨#[]⟩,.slice none 0 0],.agg #[.string ⟨#[]⟩,.string ⟨#[]⟩,.string ⟨#[]⟩,.slice none 0 0]]:Array Value).toList 12=some ([.agg [.lit (.int .i64 0),.lit (.string []),.lit (.string []),.nil],.agg [.lit (.int .i64 0),.lit (.string []),.lit (.string []),.nil],.agg [.lit (.string []),.lit (.string []),.lit (.string []),.nil]],[],places) :=
 ⟨[],by kernel_rfl⟩
set_option maxRecDepth 100000 in
theorem lifted (os:Os) (started:os.Started) (H:Type) (enc:TypeId × Value→H) (F:Stop.Interp) :
  ReturnsInHanded {} Tryz.checked os 6 .any ((Rows.OpenSpec.upto Rows.pathLogicSpec).preRow enc Tryz.prog Tryz.f6 Rows.pathLogicUptoRow.domain false Rows.pathLogicUptoRow.laid) (((Rows.OpenSpec.upto Rows.pathLogicSpec).at F).post enc Tryz.prog Tryz.f6 false true false false):=by
 obtain ⟨places,hx⟩:=reads os enc
 refine returnsInHanded_of_row (C:=Tryz.checked) (s:=(Rows.OpenSpec.upto Rows.pathLogicSpec)) own started (by kernel_rfl) Tryz.func6
  (witness_row_at (enc:=enc) (C:=Tryz.checked) false (z7o os) #[.agg #[.int .i64 0,.string ⟨#[]⟩,.string ⟨#[]⟩,.slice none 0 0],.agg #[.int .i64 0,.string ⟨#[]⟩,.string ⟨#[]⟩,.slice none 0 0],.agg #[.string ⟨#[]⟩,.string ⟨#[]⟩,.string ⟨#[]⟩,.slice none 0 0]] rfl (by kernel_rfl) (by kernel_rfl) (by kernel_rfl)
   (OpenSpec.preRow_of_cond 12 hx (by kernel_rfl) (fun k hk=>by cases hk;kernel_rfl) (by kernel_rfl) (zom os _))) ?_
 intro W base args ds gs before hval hW _ hcond _ hL hS _
 exact z7e H enc W base args ds gs before hval hW hL hS (of_decide_eq_true (hcond _ rfl))
theorem zt2:Tryz.prog.funcNamed Rows.pathLogicUptoRow.func=some 6:=by kernel_rfl
theorem unf:Tryz.prog.unfollowed 6=true:=by kernel_rfl
theorem inp:Tryz.prog.inPlace 6=Rows.pathLogicUptoRow.inPlace:=by kernel_rfl
theorem nam:Tryz.prog.varsNamed 6=Rows.pathLogicUptoRow.named:=by kernel_rfl
theorem zxh:Tryz.prog.recurses 6=true:=by unfold Program.recurses;rw [unf];rfl
theorem zw2:mapsRowed Tryz.prog=true:=by kernel_rfl
theorem zt3:joinedFacts Tryz.prog 6 Tryz.f6 (Rows.OpenSpec.upto Rows.pathLogicSpec).bare Rows.pathLogicUptoRow=true:=by
 unfold joinedFacts
 rw [unf,inp,nam,zxh,zw2,laidOut]
 kernel_rfl
theorem zt4:Tryz.f6.isInstance Tryz.prog Rows.pathLogicUptoRow.origin Rows.pathLogicUptoRow.targs:=of_decide_eq_true (by kernel_rfl)
theorem zt5:Tryz.f6.isWrapper Tryz.prog Rows.pathLogicUptoRow.wrapper Rows.pathLogicUptoRow.mainSum:=by unfold Func.isWrapper;first|(rw [if_pos (by decide +kernel)];kernel_rfl)|(rw [if_neg (by decide +kernel)];exact ⟨rfl,rfl⟩)
theorem said:Rows.PathLogicUptoSaid :=
 OpenClaim.holds_of_cond 6 Tryz.f6 rfl rfl rfl rfl rfl rfl rfl ⟨rfl,rfl,rfl,rfl,rfl⟩ rfl rfl rfl rfl rfl zt2 Tryz.func6 zt3 zt4 zt5
  (fun os started H enc _ F=>by rw [OpenClaim.pre_eq_preRow];exact lifted os started H enc F)
theorem plain (f:FuncId) (fn:Func) (hf:Tryz.pinned.checked.prog.funcNamed Rows.pathLogicUptoRow.func=some f) (hfn:Tryz.pinned.checked.prog.funcs[f]? = some fn) :
  true=Tryz.pinned.checked.prog.looks []∧∀ (j:Nat) t,fn.params[j]? = some t→Tryz.pinned.checked.prog.wantsStandIn t=false:=by
 obtain rfl:f=6:=Option.some.inj ((show Tryz.prog.funcNamed Rows.pathLogicUptoRow.func=some 6 by kernel_rfl).symm.trans hf) |>.symm
 obtain rfl:fn=Tryz.f6:=(Option.some.inj (Tryz.func6.symm.trans hfn)).symm
 refine ⟨by kernel_rfl,fun j t ht => ?_⟩
 rw [Tryz.params6] at ht
 have hm:=Array.mem_of_getElem? ht
 simp only [List.mem_toArray,List.mem_cons,List.not_mem_nil,or_false] at hm
 rcases hm with rfl|rfl|rfl
 ·exact (show Tryz.prog.wantsStandIn 24=false by kernel_rfl)
 ·exact (show Tryz.prog.wantsStandIn 24=false by kernel_rfl)
 ·exact (show Tryz.prog.wantsStandIn 33=false by kernel_rfl)
end pathLogic
theorem pathLogicupto_card:Rows.PathLogicUptoCardSaid :=
 Claim7.holds_tied_plain_at .later [] _ _ _ _ pathLogic.said (fun _ h=>by cases h) (by kernel_rfl) (fun _ h=>by cases h) pathLogicUpto_row_tie rfl ⟨rfl,rfl⟩ (by kernel_rfl) rfl pathLogic.plain (by kernel_rfl)
end Go.Proofs.YtmmgdladipbedaaGreatDoor
