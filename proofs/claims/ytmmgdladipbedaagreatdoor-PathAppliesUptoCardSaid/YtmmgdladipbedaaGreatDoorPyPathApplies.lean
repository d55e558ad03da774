import Derived.Test.YtmmgdladipbedaaGreatDoorPaX
import Derived.Test.YtmmgdladipbedaaGreatDoorSpR
set_option linter.all false
namespace Go.Proofs.YtmmgdladipbedaaGreatDoor
open Go.Lk Go.Pe Go.Sen Go.ChangeShapes Go.WideShapes Go.ChangeAt Go.RowKit
open Go.ChangeMaps (open_string shut_string)
namespace pathApplies
set_option maxRecDepth 100000 in
theorem contract (H:Type) (enc:TypeId × Value→H) (W:World) (base:Nat) (args:Array Value) (ds gs:List (DataW H)) (before:List MemPlace)
  (hval:∀ (j:Nat) t v,Tryz.f7.params[j]? = some t→args[j]? = some v→Value.okWide Tryz.prog W .any base t v)
  (hW:DataW.Whole enc Tryz.prog Tryz.f7.params.toList Rows.pathAppliesSpec.vars false W args.toList ds gs before) (hL:laidMetH Tryz.prog Rows.pathAppliesUptoRow.laid W) (hS:W.ShapedOpen Tryz.prog) (hk:Rows.uptoBulkAll (ds++gs)≤1048576) :
  Calls Tryz.prog 7 args W fun e W'=>∃ v,e = .returned v∧Rows.pathAppliesSpec.post enc Tryz.prog Tryz.f7 false true false false W args v W':=by
 have hW':=hW
 obtain ⟨p,q,hA0,hV,rfl,hfz,hnd⟩:=hW
 have hA:DataW.TrodAll enc Tryz.prog W 0 (fun _=>true) true Tryz.f7.params.toList args.toList ds p:=hA0
 rw [Tryz.params7] at hA hval
 obtain ⟨v0,vs0,d0,ds0,p0,q0,hargs,rfl,rfl,h0,r0⟩:=trodAll_cons hA
 obtain ⟨v1,vs1,d1,ds1,p1,q1,rfl,rfl,rfl,h1,r1⟩:=trodAll_cons r0
 obtain ⟨rfl,rfl,rfl⟩:=trodAll_nil r1
 obtain rfl:args = #[v0,v1]:=by cases args;simp_all
 obtain ⟨rfl,rfl⟩:=trodVars_none hV
 clear hA0
 have h0k:=h0
 obtain ⟨x0,e0,z0⟩:=zln (hval 0 40 v0 rfl rfl) h0
 have hlt0:∀ x∈p0,x.block<W.heap.size:=fun x hx=>by simpa using hW'.lt x (by simp [hx])
 have h1k:=h1
 obtain ⟨cs1,rfl⟩:=zpq Tryz.underlying33 (hval 1 33 v1 rfl rfl)
 obtain ⟨g1,h1⟩:=h1
 obtain ⟨x1,e1,z1⟩:=zlp g1 _ _ h1
 have e1:RDs W No x1.enc cs1:=e1
 have z1:x1.sz+1≤Rows.uptoBulk d1:=z1
 have hlt1:∀ x∈p1,x.block<W.heap.size:=fun x hx=>by simpa using hW'.lt x (by simp [hx])
 simp only [List.append_nil,Rows.uptoBulkAll,Rows.uptoBulk] at hk
 have pure:=(⟨rfl,by omega,by omega⟩:true=true∧z6y x0≤1048576∧x1.sz≤1048576)
 have con:=C.zbb x0 x1 true pure
 refine (con.run W No (fun _=>0) (fun _=>Go.undef) [v0,.agg cs1.toArray] ⟨v0,_,rfl,e0,⟨.agg cs1.toArray,_,rfl,⟨cs1,rfl,zy9 e1⟩,rfl⟩⟩ (zwj _ _ _ _) (zz5 W) (tabs hL hS)).mono ?_
 rintro e W' ⟨us,O',φ',α',rfl,x⟩
 obtain ⟨u,us2,rfl,h8,h9⟩:=x.res
 obtain rfl:us2=[]:=h9
 obtain rfl:u = .bool true:=h8
 have bel0:=zw2 x.ext
 have bel:Below W.heap.size W W':=⟨bel0.os,bel0.tape,bel0.output,bel0.size,fun k hk=>bel0.block k hk id⟩
 refine ⟨_,rfl,_,_,_,[],p0++(p1++([])),[],hW',?_,?_,?_,bel.frame _,fun h=>by cases h⟩
 ·exact trodAll_mk1 (shut_bool Tryz.underlying4 true)
 ·exact trodAll_cons_mk (Below.trod laidOut (by kernel_rfl) (of_decide_eq_true (by kernel_rfl)) h0k bel hlt0) (trodAll_cons_mk (Below.trod laidOut (by kernel_rfl) (of_decide_eq_true (by kernel_rfl)) h1k bel hlt1) (trodAll_mk0))
 ·rfl
theorem reads (os:Os) {H:Type} (enc:TypeId × Value→H):∃ places,DataW.whole enc Tryz.prog ((z8g os).forCall (fun _ _=>0) ⟨#[],#[.slice none 0 0,.agg #[.string ⟨#[]⟩,.string ⟨#[]⟩,.string ⟨#[]⟩,.slice none 0 0]],[]⟩).memory Tryz.f7.params.toList Rows.pathAppliesSpec.vars false (#[.slice none 0 0,.agg #[.string ⟨#[]⟩,.string ⟨#[]⟩,.string ⟨#[]⟩,.slice none 0 0]]:Array Value).toList 12=some ([.nil,.agg [.lit (.string []),.lit (.string []),.lit (.string []),.nil]],[],places) :=
 ⟨[],by kernel_rfl⟩
set_option maxRecDepth 100000 in
theorem lifted (os:Os) (started:os.Started) (H:Type) (enc:TypeId × Value→H) (F:Stop.Interp) :
  ReturnsInHanded {} Tryz.checked os 7 .any ((Rows.OpenSpec.upto Rows.pathAppliesSpec).preRow enc Tryz.prog Tryz.f7 Rows.pathAppliesUptoRow.domain false Rows.pathAppliesUptoRow.laid) (((Rows.OpenSpec.upto Rows.pathAppliesSpec).at F).post enc Tryz.prog Tryz.f7 false true false false):=by
 obtain ⟨places,hx⟩:=reads os enc
 refine returnsInHanded_of_row (C:=Tryz.checked) (s:=(Rows.OpenSpec.upto Rows.pathAppliesSpec)) own started (by kernel_rfl) Tryz.func7
  (witness_row_at (enc:=enc) (C:=Tryz.checked) false (z8g os) #[.slice none 0 0,.agg #[.string ⟨#[]⟩,.string ⟨#[]⟩,.string ⟨#[]⟩,.slice none 0 0]] rfl (by kernel_rfl) (by kernel_rfl) (by kernel_rfl)
   (OpenSpec.preRow_of_cond 12 hx (by kernel_rfl) (fun k hk=>by cases hk;kernel_rfl) (by kernel_rfl) (zqs os _))) ?_
 intro W base args ds gs before hval hW _ hcond _ hL hS _
 exact contract H enc W base args ds gs before hval hW hL hS (of_decide_eq_true (hcond _ rfl))
theorem facts1:Tryz.prog.funcNamed Rows.pathAppliesUptoRow.func=some 7:=by kernel_rfl
theorem unf:Tryz.prog.unfollowed 7=true:=by kernel_rfl
theorem inp:Tryz.prog.inPlace 7=Rows.pathAppliesUptoRow.inPlace:=by kernel_rfl
theorem nam:Tryz.prog.varsNamed 7=Rows.pathAppliesUptoRow.named:=by kernel_rfl
theorem rec_:Tryz.prog.recurses 7=true:=by unfold Program.recurses;rw [unf];rfl
theorem rowed:mapsRowed Tryz.prog=true:=by kernel_rfl
theorem facts2:joinedFacts Tryz.prog 7 Tryz.f7 (Rows.OpenSpec.upto Rows.pathAppliesSpec).bare Rows.pathAppliesUptoRow=true:=by
 unfold joinedFacts
 rw [unf,inp,nam,rec_,rowed,laidOut]
 kernel_rfl
theorem facts3:Tryz.f7.isInstance Tryz.prog Rows.pathAppliesUptoRow.origin Rows.pathAppliesUptoRow.targs:=of_decide_eq_true (by kernel_rfl)
theorem facts4:Tryz.f7.isWrapper Tryz.prog Rows.pathAppliesUptoRow.wrapper Rows.pathAppliesUptoRow.mainSum:=by unfold Func.isWrapper;first|(rw [if_pos (by decide +kernel)];kernel_rfl)|(rw [if_neg (by decide +kernel)];exact ⟨rfl,rfl⟩)
theorem said:Rows.PathAppliesUptoSaid :=
 OpenClaim.holds_of_cond 7 Tryz.f7 rfl rfl rfl rfl rfl rfl rfl ⟨rfl,rfl,rfl,rfl,rfl⟩ rfl rfl rfl rfl rfl facts1 Tryz.func7 facts2 facts3 facts4
  (fun os started H enc _ F=>by rw [OpenClaim.pre_eq_preRow];exact lifted os started H enc F)
theorem plain (f:FuncId) (fn:Func) (hf:Tryz.pinned.checked.prog.funcNamed Rows.pathAppliesUptoRow.func=some f) (hfn:Tryz.pinned.checked.prog.funcs[f]? = some fn) :
  true=Tryz.pinned.checked.prog.looks []∧∀ (j:Nat) t,fn.params[j]? = some t→Tryz.pinned.checked.prog.wantsStandIn t=false:=by
 obtain rfl:f=7:=Option.some.inj ((show Tryz.prog.funcNamed Rows.pathAppliesUptoRow.func=some 7 by kernel_rfl).symm.trans hf) |>.symm
 obtain rfl:fn=Tryz.f7:=(Option.some.inj (Tryz.func7.symm.trans hfn)).symm
 refine ⟨by kernel_rfl,fun j t ht => ?_⟩
 rw [Tryz.params7] at ht
 have hm:=Array.mem_of_getElem? ht
 simp only [List.mem_toArray,List.mem_cons,List.not_mem_nil,or_false] at hm
 rcases hm with rfl|rfl
 ·exact (show Tryz.prog.wantsStandIn 40=false by kernel_rfl)
 ·exact (show Tryz.prog.wantsStandIn 33=false by kernel_rfl)
end pathApplies
end Go.Proofs.YtmmgdladipbedaaGreatDoor
