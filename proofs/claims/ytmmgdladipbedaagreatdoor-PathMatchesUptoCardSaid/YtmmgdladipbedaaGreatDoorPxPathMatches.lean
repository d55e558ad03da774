import Derived.Test.YtmmgdladipbedaaGreatDoorLkV
import Derived.Test.YtmmgdladipbedaaGreatDoorPaP3
set_option linter.all false
namespace Go.Proofs.YtmmgdladipbedaaGreatDoor
open Go.Lk Go.Pe Go.Sen Go.ChangeShapes Go.WideShapes Go.ChangeAt Go.RowKit
open Go.ChangeMaps (open_string shut_string)
namespace pathMatches
set_option maxRecDepth 100000 in
theorem z2e (H:Type) (enc:TypeId × Value→H) (W:World) (base:Nat) (args:Array Value) (ds gs:List (DataW H)) (before:List MemPlace)
  (hval:∀ (j:Nat) t v,Tryz.f4.params[j]? = some t→args[j]? = some v→Value.okWide Tryz.prog W .any base t v)
  (hW:DataW.Whole enc Tryz.prog Tryz.f4.params.toList Rows.pathMatchesSpec.vars false W args.toList ds gs before) (hL:laidMetH Tryz.prog Rows.pathMatchesUptoRow.laid W) (hS:W.ShapedOpen Tryz.prog) (hk:Rows.uptoBulkAll (ds++gs)≤1048576) :
  Calls Tryz.prog 4 args W fun e W'=>∃ v,e = .returned v∧Rows.pathMatchesSpec.post enc Tryz.prog Tryz.f4 false true false false W args v W':=by
 have hW':=hW
 obtain ⟨p,q,hA0,hV,rfl,hfz,hnd⟩:=hW
 have hA:DataW.TrodAll enc Tryz.prog W 0 (fun _=>true) true Tryz.f4.params.toList args.toList ds p:=hA0
 rw [Tryz.params4] at hA hval
 obtain ⟨v0,vs0,d0,ds0,p0,q0,hargs,rfl,rfl,h0,r0⟩:=trodAll_cons hA
 obtain ⟨v1,vs1,d1,ds1,p1,q1,rfl,rfl,rfl,h1,r1⟩:=trodAll_cons r0
 obtain ⟨rfl,rfl,rfl⟩:=trodAll_nil r1
 obtain rfl:args = #[v0,v1]:=by cases args;simp_all
 obtain ⟨rfl,rfl⟩:=trodVars_none hV
 clear hA0
 have h0k:=h0
 obtain ⟨cs0,rfl⟩:=z5x Tryz.underlying24 (hval 0 24 v0 rfl rfl)
 obtain ⟨g0,h0⟩:=h0
 obtain ⟨x0,e0,z0⟩:=z9n g0 _ _ h0
 have e0:RDs W No x0.enc cs0:=e0
 have z0:x0.sz+1≤Rows.uptoBulk d0:=z0
 have hlt0:∀ x∈p0,x.block<W.heap.size:=fun x hx=>by simpa using hW'.lt x (by simp [hx])
 have h1k:=h1
 obtain ⟨cs1,rfl⟩:=z5x Tryz.underlying33 (hval 1 33 v1 rfl rfl)
 obtain ⟨g1,h1⟩:=h1
 obtain ⟨x1,e1,z1⟩:=zan g1 _ _ h1
 have e1:RDs W No x1.enc cs1:=e1
 have z1:x1.sz+1≤Rows.uptoBulk d1:=z1
 have hlt1:∀ x∈p1,x.block<W.heap.size:=fun x hx=>by simpa using hW'.lt x (by simp [hx])
 simp only [List.append_nil,Rows.uptoBulkAll,Rows.uptoBulk] at hk
 have pure:=zd1 (e:=x0) (t:=x1) (f:=20000000) (by omega) (by omega) (by omega)
 have con:=C.q1a 20000000 x0 x1 true pure
 refine (con.run W No (fun _=>0) (fun _=>Go.undef) [.agg cs0.toArray,.agg cs1.toArray] ⟨.agg cs0.toArray,_,rfl,⟨cs0,rfl,zvn e0⟩,⟨.agg cs1.toArray,_,rfl,⟨cs1,rfl,zvo e1⟩,rfl⟩⟩ (zfa _ _ _ _) (zny W) (zyg hL hS)).mono ?_
 rintro e W' ⟨us,O',φ',α',rfl,x⟩
 obtain ⟨u,us2,rfl,h8,h9⟩:=x.res
 obtain rfl:us2=[]:=h9
 obtain rfl:u = .bool true:=h8
 have bel:=(zes x.ext).below
 refine ⟨_,rfl,_,_,_,[],p0++(p1++([])),[],hW',?_,?_,?_,bel.frame _,fun h=>by cases h⟩
 ·exact trodAll_mk1 (shut_bool Tryz.underlying4 true)
 ·exact trodAll_cons_mk (Below.trod laidOut (by kernel_rfl) (of_decide_eq_true (by kernel_rfl)) h0k bel hlt0) (trodAll_cons_mk (Below.trod laidOut (by kernel_rfl) (of_decide_eq_true (by kernel_rfl)) h1k bel hlt1) (trodAll_mk0))
 ·rfl
theorem reads (os:Os) {H:Type} (enc:TypeId × Value→H):∃ places,DataW.whole enc Tryz.prog ((z1r os).forCall (fun _ _=>0) ⟨#[],#[.agg #[.int .i64 0,.string ⟨#[]⟩,.string ⟨#[]⟩,.slice none 0 0],.agg #[.string ⟨#[]⟩,.string ⟨#[]⟩,.string ⟨#[]⟩,.slice none 0 0]],[]⟩).memory Tryz.f4.params.toList Rows.pathMatchesSpec.vars false (#[.agg #[.int .i64 0,.string ⟨#[]⟩,.string ⟨#[]⟩,.slice none 0 0],.agg #[.string ⟨#[]⟩,.string ⟨#[]⟩,.string ⟨#[]⟩,.slice none 0 0]]:Array Value).toList 12=some ([.agg [.lit (.int .i64 0),.lit (.string []),.lit (.string []),.nil],.agg [.lit (.string []),.lit (.string []),.lit (.string []),.nil]],[],places) :=
 ⟨[],by kernel_rfl⟩
set_option maxRecDepth 100000 in
theorem lifted (os:Os) (started:os.Started) (H:Type) (enc:TypeId × Value→H) (F:Stop.Interp) :
  ReturnsInHanded {} Tryz.checked os 4 .any ((Rows.OpenSpec.upto Rows.pathMatchesSpec).preRow enc Tryz.prog Tryz.f4 Rows.pathMatchesUptoRow.domain false Rows.pathMatchesUptoRow.laid) (((Rows.OpenSpec.upto Rows.pathMatchesSpec).at F).post enc Tryz.prog Tryz.f4 false true false false):=by
 obtain ⟨places,hx⟩:=reads os enc
 refine returnsInHanded_of_row (C:=Tryz.checked) (s:=(Rows.OpenSpec.upto Rows.pathMatchesSpec)) own started (by kernel_rfl) Tryz.func4
  (witness_row_at (enc:=enc) (C:=Tryz.checked) false (z1r os) #[.agg #[.int .i64 0,.string ⟨#[]⟩,.string ⟨#[]⟩,.slice none 0 0],.agg #[.string ⟨#[]⟩,.string ⟨#[]⟩,.string ⟨#[]⟩,.slice none 0 0]] rfl (by kernel_rfl) (by kernel_rfl) (by kernel_rfl)
   (OpenSpec.preRow_of_cond 12 hx (by kernel_rfl) (fun k hk=>by cases hk;kernel_rfl) (by kernel_rfl) (z7s os _))) ?_
 intro W base args ds gs before hval hW _ hcond _ hL hS _
 exact z2e H enc W base args ds gs before hval hW hL hS (of_decide_eq_true (hcond _ rfl))
theorem z6t:Tryz.prog.funcNamed Rows.pathMatchesUptoRow.func=some 4:=by kernel_rfl
theorem unf:Tryz.prog.unfollowed 4=true:=by kernel_rfl
theorem inp:Tryz.prog.inPlace 4=Rows.pathMatchesUptoRow.inPlace:=by kernel_rfl
theorem nam:Tryz.prog.varsNamed 4=Rows.pathMatchesUptoRow.named:=by kernel_rfl
theorem zr4:Tryz.prog.recurses 4=true:=by unfold Program.recurses;rw [unf];rfl
theorem zdp:mapsRowed Tryz.prog=true:=by kernel_rfl
theorem z6u:joinedFacts Tryz.prog 4 Tryz.f4 (Rows.OpenSpec.upto Rows.pathMatchesSpec).bare Rows.pathMatchesUptoRow=true:=by
 unfold joinedFacts
 rw [unf,inp,nam,zr4,zdp,laidOut]
 kernel_rfl
theorem z6v:Tryz.f4.isInstance Tryz.prog Rows.pathMatchesUptoRow.origin Rows.pathMatchesUptoRow.targs:=of_decide_eq_true (by kernel_rfl)
theorem z6w:Tryz.f4.isWrapper Tryz.prog Rows.pathMatchesUptoRow.wrapper Rows.pathMatchesUptoRow.mainSum:=by unfold Func.isWrapper;first|(rw [if_pos (by decide +kernel)];kernel_rfl)|(rw [if_neg (by decide +kernel)];exact ⟨rfl,rfl⟩)
theorem said:Rows.PathMatchesUptoSaid :=
 OpenClaim.holds_of_cond 4 Tryz.f4 rfl rfl rfl rfl rfl rfl rfl ⟨rfl,rfl,rfl,rfl,rfl⟩ rfl rfl rfl rfl rfl z6t Tryz.func4 z6u z6v z6w
  (fun os started H enc _ F=>by rw [OpenClaim.pre_eq_preRow];exact lifted os started H enc F)
theorem plain (f:FuncId) (fn:Func) (hf:Tryz.pinned.checked.prog.funcNamed Rows.pathMatchesUptoRow.func=some f) (hfn:Tryz.pinned.checked.prog.funcs[f]? = some fn) :
  true=Tryz.pinned.checked.prog.looks []∧∀ (j:Nat) t,fn.params[j]? = some t→Tryz.pinned.checked.prog.wantsStandIn t=false:=by
 obtain rfl:f=4:=Option.some.inj ((show Tryz.prog.funcNamed Rows.pathMatchesUptoRow.func=some 4 by kernel_rfl).symm.trans hf) |>.symm
 obtain rfl:fn=Tryz.f4:=(Option.some.inj (Tryz.func4.symm.trans hfn)).symm
 refine ⟨by kernel_rfl,fun j t ht => ?_⟩
 rw [Tryz.params4] at ht
 have hm:=Array.mem_of_getElem? ht
 simp only [List.mem_toArray,List.mem_cons,List.not_mem_nil,or_false] at hm
 rcases hm with rfl|rfl
 ·exact (show Tryz.prog.wantsStandIn 24=false by kernel_rfl)
 ·exact (show Tryz.prog.wantsStandIn 33=false by kernel_rfl)
end pathMatches
/-- THE CARD. -/
theorem pathMatchesupto_card:Rows.PathMatchesUptoCardSaid :=
 Claim7.holds_tied_plain_at .later [] _ _ _ _ pathMatches.said (fun _ h=>by cases h) (by kernel_rfl) (fun _ h=>by cases h) pathMatchesUpto_row_tie rfl ⟨rfl,rfl⟩ (by kernel_rfl) rfl pathMatches.plain (by kernel_rfl)
end Go.Proofs.YtmmgdladipbedaaGreatDoor
