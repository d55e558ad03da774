import Derived.Test.YtfdoofnmjehecaaGreatDoorBHtX
import Derived.Test.YtfdoofnmjehecaaGreatDoorBHtP7
import Derived.Test.YtfdoofnmjehecaaGreatDoorBShN
import Derived.Test.YtfdoofnmjehecaaGreatDoorBShP
set_option linter.all false
namespace Go.Proofs.YtfdoofnmjehecaaGreatDoor
open Go.Lk Go.Pe Go.Sen Go.ChangeShapes Go.WideShapes Go.ChangeAt Go.RowKit
open Go.ChangeMaps (open_string shut_string)
namespace httpBack
set_option maxRecDepth 100000 in
theorem contract (H:Type) (enc:TypeId × Value→H) (W:World) (base:Nat) (args:Array Value) (ds gs:List (DataW H)) (before:List MemPlace)
  (hval:∀ (j:Nat) t v,Tryz.f8.params[j]? = some t→args[j]? = some v→Value.okWide Tryz.prog W .any base t v)
  (hW:DataW.Whole enc Tryz.prog Tryz.f8.params.toList Rows.httpBackSpec.vars false W args.toList ds gs before) (hL:laidMetH Tryz.prog Rows.httpBackUptoRow.laid W) (hS:W.ShapedOpen Tryz.prog) (hk:Rows.uptoBulkAll (ds++gs)≤1048576) :
  Calls Tryz.prog 8 args W fun e W'=>∃ v,e = .returned v∧Rows.httpBackSpec.post enc Tryz.prog Tryz.f8 false true false false W args v W':=by
 have hW':=hW
 obtain ⟨p,q,hA0,hV,rfl,hfz,hnd⟩:=hW
 have hA:DataW.TrodAll enc Tryz.prog W 0 (fun _=>true) true Tryz.f8.params.toList args.toList ds p:=hA0
 rw [Tryz.params8] at hA hval
 obtain ⟨v0,vs0,d0,ds0,p0,q0,hargs,rfl,rfl,h0,r0⟩:=trodAll_cons hA
 obtain ⟨v1,vs1,d1,ds1,p1,q1,rfl,rfl,rfl,h1,r1⟩:=trodAll_cons r0
 obtain ⟨v2,vs2,d2,ds2,p2,q2,rfl,rfl,rfl,h2,r2⟩:=trodAll_cons r1
 obtain ⟨rfl,rfl,rfl⟩:=trodAll_nil r2
 obtain rfl:args = #[v0,v1,v2]:=by cases args;simp_all
 obtain ⟨rfl,rfl⟩:=trodVars_none hV
 clear hA0
 have h0k:=h0
 obtain ⟨cs0,rfl⟩:=zt7 Tryz.underlying40 (hval 0 40 v0 rfl rfl)
 obtain ⟨g0,h0⟩:=h0
 obtain ⟨x0,e0,z0,y0⟩:=zz6 g0 _ _ h0
 have e0:RDs W No x0.enc cs0:=e0
 have z0:x0.sz+1≤Rows.uptoBulk d0:=z0
 have hlt0:∀ x∈p0,x.block<W.heap.size:=fun x hx=>by simpa using hW'.lt x (by simp [hx])
 obtain ⟨t1,rfl,rfl,rfl,w1⟩:=open_string Tryz.underlying9 (hval 1 9 v1 rfl rfl) h1
 obtain ⟨s1,rfl⟩:∃ s:Z,t1=⟨s.toArray⟩:=⟨t1.data.toList,by simp⟩
 obtain ⟨n2,rfl,rfl,rfl,w2⟩:=open_int Tryz.underlying3 (hval 2 3 v2 rfl rfl) h2
 simp only [List.append_nil,Rows.uptoBulkAll,Rows.uptoBulk] at hk
 have pure:=back_eq ztv (by omega) (r:=x0) (t:=s1) (k:=n2) ⟨by omega,y0⟩ (by omega)
 have con:=C.q3p 40 x0 s1 n2 true pure
 refine (con.run W No (fun _=>0) (fun _=>Go.undef) [.agg cs0.toArray,.string ⟨s1.toArray⟩,.int .i64 n2] ⟨.agg cs0.toArray,_,rfl,⟨cs0,rfl,zz015 e0⟩,⟨.string ⟨s1.toArray⟩,_,rfl,rfl,⟨.int .i64 n2,_,rfl,rfl,rfl⟩⟩⟩ (zz028 _ _ _ _) (no_bd W) (tabs hL hS)).mono ?_
 rintro e W' ⟨us,O',φ',α',rfl,x⟩
 obtain ⟨u,us2,rfl,h8,h9⟩:=x.res
 obtain rfl:us2=[]:=h9
 obtain rfl:u = .bool true:=h8
 have bel0:=zz01l x.ext
 have bel:Below W.heap.size W W':=⟨bel0.os,bel0.tape,bel0.output,bel0.size,fun k hk=>bel0.block k hk id⟩
 refine ⟨_,rfl,_,_,_,[],p0++([]++([]++([]))),[],hW',?_,?_,?_,bel.frame _,fun h=>by cases h⟩
 ·exact trodAll_mk1 (shut_bool Tryz.underlying4 true)
 ·exact trodAll_cons_mk (Below.trod laidOut (by kernel_rfl) (of_decide_eq_true (by kernel_rfl)) h0k bel hlt0) (trodAll_cons_mk (shut_string Tryz.underlying9 w1) (trodAll_cons_mk (shut_int Tryz.underlying3 w2) (trodAll_mk0)))
 ·rfl
theorem reads (os:Os) {H:Type} (enc:TypeId × Value→H):∃ places,DataW.whole enc Tryz.prog ((zbb os).forCall (fun _ _=>0) ⟨#[],#[.agg #[.int .i64 0,.int .i64 0,.string ⟨#[]⟩,.string ⟨#[]⟩,.string ⟨#[]⟩,.string ⟨#[]⟩,.string ⟨#[]⟩,.string ⟨#[]⟩,.slice none 0 0,.int .i64 0,.int .i64 0,.int .i64 0,.bool false,.string ⟨#[]⟩,.string ⟨#[]⟩,.string ⟨#[]⟩,.string ⟨#[]⟩,.string ⟨#[]⟩,.string ⟨#[]⟩,.int .i64 0,.int .i64 0,.int .i64 0,.slice none 0 0,.slice none 0 0,.slice none 0 0],.string ⟨#[]⟩,.int .i64 0],[]⟩).memory Tryz.f8.params.toList Rows.httpBackSpec.vars false (#[.agg #[.int .i64 0,.int .i64 0,.string ⟨#[]⟩,.string ⟨#[]⟩,.string ⟨#[]⟩,.string ⟨#[]⟩,.string ⟨#[]⟩,.string ⟨#[]⟩,.slice none 0 0,.int .i64 0,.int .i64 0,.int .i64 0,.bool false,.string ⟨#[]⟩,.string ⟨#[]⟩,.string ⟨#[]⟩,.string ⟨#[]⟩,.string ⟨#[]⟩,.string ⟨#[]⟩,.int .i64 0,.int .i64 0,.int .i64 0,.slice none 0 0,.slice none 0 0,.slice none 0 0],.string ⟨#[]⟩,.int .i64 0]:Array Value).toList 12=some ([.agg [.lit (.int .i64 0),.lit (.int .i64 0),.lit (.string []),.lit (.string []),.lit (.string []),.lit (.string []),.lit (.string []),.lit (.string []),.nil,.lit (.int .i64 0),.lit (.int .i64 0),.lit (.int .i64 0),.lit (.bool false),.agg [.lit (.string []),.lit (.string []),.lit (.string []),.lit (.string []),.lit (.string []),.lit (.string []),.lit (.int .i64 0),.lit (.int .i64 0),.lit (.int .i64 0),.nil,.nil],.nil],.lit (.string []),.lit (.int .i64 0)],[],places) :=
 ⟨[],by kernel_rfl⟩
set_option maxRecDepth 100000 in
theorem lifted (os:Os) (started:os.Started) (H:Type) (enc:TypeId × Value→H) (F:Stop.Interp) :
  ReturnsInHanded {} Tryz.checked os 8 .any ((Rows.OpenSpec.upto Rows.httpBackSpec).preRow enc Tryz.prog Tryz.f8 Rows.httpBackUptoRow.domain false Rows.httpBackUptoRow.laid) (((Rows.OpenSpec.upto Rows.httpBackSpec).at F).post enc Tryz.prog Tryz.f8 false true false false):=by
 obtain ⟨places,hx⟩:=reads os enc
 refine returnsInHanded_of_row (C:=Tryz.checked) (s:=(Rows.OpenSpec.upto Rows.httpBackSpec)) own started (by kernel_rfl) Tryz.func8
  (witness_row_at (enc:=enc) (C:=Tryz.checked) false (zbb os) #[.agg #[.int .i64 0,.int .i64 0,.string ⟨#[]⟩,.string ⟨#[]⟩,.string ⟨#[]⟩,.string ⟨#[]⟩,.string ⟨#[]⟩,.string ⟨#[]⟩,.slice none 0 0,.int .i64 0,.int .i64 0,.int .i64 0,.bool false,.string ⟨#[]⟩,.string ⟨#[]⟩,.string ⟨#[]⟩,.string ⟨#[]⟩,.string ⟨#[]⟩,.string ⟨#[]⟩,.int .i64 0,.int .i64 0,.int .i64 0,.slice none 0 0,.slice none 0 0,.slice none 0 0],.string ⟨#[]⟩,.int .i64 0] rfl (by kernel_rfl) (by kernel_rfl) (by kernel_rfl)
   (OpenSpec.preRow_of_cond 12 hx (by kernel_rfl) (fun k hk=>by cases hk;kernel_rfl) (by kernel_rfl) (zui os _))) ?_
 intro W base args ds gs before hval hW _ hcond _ hL hS _
 exact contract H enc W base args ds gs before hval hW hL hS (of_decide_eq_true (hcond _ rfl))
theorem facts1:Tryz.prog.funcNamed Rows.httpBackUptoRow.func=some 8:=by kernel_rfl
theorem unf:Tryz.prog.unfollowed 8=true:=by kernel_rfl
theorem inp:Tryz.prog.inPlace 8=Rows.httpBackUptoRow.inPlace:=by kernel_rfl
theorem nam:Tryz.prog.varsNamed 8=Rows.httpBackUptoRow.named:=by kernel_rfl
theorem rec_:Tryz.prog.recurses 8=true:=by unfold Program.recurses;rw [unf];rfl
theorem facts2:joinedFacts Tryz.prog 8 Tryz.f8 (Rows.OpenSpec.upto Rows.httpBackSpec).bare Rows.httpBackUptoRow=true:=by
 unfold joinedFacts
 rw [unf,inp,nam,rec_,rowed,laidOut]
 kernel_rfl
theorem facts3:Tryz.f8.isInstance Tryz.prog Rows.httpBackUptoRow.origin Rows.httpBackUptoRow.targs:=of_decide_eq_true (by kernel_rfl)
theorem facts4:Tryz.f8.isWrapper Tryz.prog Rows.httpBackUptoRow.wrapper Rows.httpBackUptoRow.mainSum:=by unfold Func.isWrapper;first|(rw [if_pos (by decide +kernel)];kernel_rfl)|(rw [if_neg (by decide +kernel)];exact ⟨rfl,rfl⟩)
theorem said:Rows.HttpBackUptoSaid :=
 OpenClaim.holds_of_cond 8 Tryz.f8 rfl rfl rfl rfl rfl rfl rfl ⟨rfl,rfl,rfl,rfl,rfl⟩ rfl rfl rfl rfl rfl facts1 Tryz.func8 facts2 facts3 facts4
  (fun os started H enc _ F=>by rw [OpenClaim.pre_eq_preRow];exact lifted os started H enc F)
theorem plain (f:FuncId) (fn:Func) (hf:Tryz.pinned.checked.prog.funcNamed Rows.httpBackUptoRow.func=some f) (hfn:Tryz.pinned.checked.prog.funcs[f]? = some fn) :
  true=Tryz.pinned.checked.prog.looks []∧∀ (j:Nat) t,fn.params[j]? = some t→Tryz.pinned.checked.prog.wantsStandIn t=false:=by
 obtain rfl:f=8:=Option.some.inj ((show Tryz.prog.funcNamed Rows.httpBackUptoRow.func=some 8 by kernel_rfl).symm.trans hf) |>.symm
 obtain rfl:fn=Tryz.f8:=(Option.some.inj (Tryz.func8.symm.trans hfn)).symm
 refine ⟨zz023,fun j t ht => ?_⟩
 rw [Tryz.params8] at ht
 have hm:=Array.mem_of_getElem? ht
 simp only [List.mem_toArray,List.mem_cons,List.not_mem_nil,or_false] at hm
 rcases hm with rfl|rfl|rfl
 ·exact (show Tryz.prog.wantsStandIn 40=false by kernel_rfl)
 ·exact (show Tryz.prog.wantsStandIn 9=false by kernel_rfl)
 ·exact (show Tryz.prog.wantsStandIn 3=false by kernel_rfl)
end httpBack
theorem httpBackupto_card:Rows.HttpBackUptoCardSaid :=
 Claim7.holds_tied_plain_at .later [] _ _ _ _ httpBack.said (fun _ h=>by cases h) (by kernel_rfl) (fun _ h=>by cases h) httpBackUpto_row_tie rfl ⟨rfl,rfl⟩ main0 rfl httpBack.plain (zqj rfl)
end Go.Proofs.YtfdoofnmjehecaaGreatDoor
