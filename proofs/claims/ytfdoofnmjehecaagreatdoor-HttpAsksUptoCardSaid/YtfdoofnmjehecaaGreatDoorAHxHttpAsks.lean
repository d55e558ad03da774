import Derived.Test.YtfdoofnmjehecaaGreatDoorAHtY
import Derived.Test.YtfdoofnmjehecaaGreatDoorAHtP5
import Derived.Test.YtfdoofnmjehecaaGreatDoorASkN
import Derived.Test.YtfdoofnmjehecaaGreatDoorASjG
set_option linter.all false
namespace Go.Proofs.YtfdoofnmjehecaaGreatDoor
open Go.Lk Go.Pe Go.Sen Go.ChangeShapes Go.WideShapes Go.ChangeAt Go.RowKit
open Go.ChangeMaps (open_string shut_string)
namespace httpAsks
set_option maxRecDepth 100000 in
theorem contract (H:Type) (enc:TypeId × Value→H) (W:World) (base:Nat) (args:Array Value) (ds gs:List (DataW H)) (before:List MemPlace)
  (hval:∀ (j:Nat) t v,Tryz.f9.params[j]? = some t→args[j]? = some v→Value.okWide Tryz.prog W .any base t v)
  (hW:DataW.Whole enc Tryz.prog Tryz.f9.params.toList Rows.httpAsksSpec.vars false W args.toList ds gs before) (hL:laidMetH Tryz.prog Rows.httpAsksUptoRow.laid W) (hS:W.ShapedOpen Tryz.prog) (hk:Rows.uptoBulkAll (ds++gs)≤1048576) :
  Calls Tryz.prog 9 args W fun e W'=>∃ v,e = .returned v∧Rows.httpAsksSpec.post enc Tryz.prog Tryz.f9 false true false false W args v W':=by
 have hW':=hW
 obtain ⟨p,q,hA0,hV,rfl,hfz,hnd⟩:=hW
 have hA:DataW.TrodAll enc Tryz.prog W 0 (fun _=>true) true Tryz.f9.params.toList args.toList ds p:=hA0
 rw [Tryz.params9] at hA hval
 obtain ⟨v0,vs0,d0,ds0,p0,q0,hargs,rfl,rfl,h0,r0⟩:=trodAll_cons hA
 obtain ⟨rfl,rfl,rfl⟩:=trodAll_nil r0
 obtain rfl:args = #[v0]:=by cases args;simp_all
 obtain ⟨rfl,rfl⟩:=trodVars_none hV
 clear hA0
 have h0k:=h0
 obtain ⟨cs0,rfl⟩:=zyg Tryz.underlying25 (hval 0 25 v0 rfl rfl)
 obtain ⟨g0,h0⟩:=h0
 obtain ⟨x0,e0,z0⟩:=zz04v g0 _ _ h0
 have e0:RDs W No x0.enc cs0:=e0
 have z0:x0.sz+1≤Rows.uptoBulk d0:=z0
 have hlt0:∀ x∈p0,x.block<W.heap.size:=fun x hx=>by simpa using hW'.lt x (by simp [hx])
 simp only [List.append_nil,Rows.uptoBulkAll,Rows.uptoBulk] at hk
 have pure:=zz031 zz6 (by omega) (zz07e (q:=x0) (by omega))
 have con:=C.q3u 40 x0 true pure
 refine (con.run W No (fun _=>0) (fun _=>Go.undef) [.agg cs0.toArray] ⟨.agg cs0.toArray,_,rfl,⟨cs0,rfl,zz06q e0⟩,rfl⟩ (zz07x _ _ _ _) (no_bd W) (tabs hL hS)).mono ?_
 rintro e W' ⟨us,O',φ',α',rfl,x⟩
 obtain ⟨u,us2,rfl,h8,h9⟩:=x.res
 obtain rfl:us2=[]:=h9
 obtain rfl:u = .bool true:=h8
 have bel0:=zz07c x.ext
 have bel:Below W.heap.size W W':=⟨bel0.os,bel0.tape,bel0.output,bel0.size,fun k hk=>bel0.block k hk id⟩
 refine ⟨_,rfl,_,_,_,[],p0++([]),[],hW',?_,?_,?_,bel.frame _,fun h=>by cases h⟩
 ·exact trodAll_mk1 (shut_bool Tryz.underlying4 true)
 ·exact trodAll_cons_mk (Below.trod laidOut (by kernel_rfl) (of_decide_eq_true (by kernel_rfl)) h0k bel hlt0) (trodAll_mk0)
 ·rfl
theorem reads (os:Os) {H:Type} (enc:TypeId × Value→H):∃ places,DataW.whole enc Tryz.prog ((zcq os).forCall (fun _ _=>0) ⟨#[],#[.agg #[.string ⟨#[]⟩,.slice none 0 0,.slice none 0 0,.slice none 0 0,.string ⟨#[]⟩]],[]⟩).memory Tryz.f9.params.toList Rows.httpAsksSpec.vars false (#[.agg #[.string ⟨#[]⟩,.slice none 0 0,.slice none 0 0,.slice none 0 0,.string ⟨#[]⟩]]:Array Value).toList 12=some ([.agg [.lit (.string []),.nil,.nil,.nil,.lit (.string [])]],[],places) :=
 ⟨[],by kernel_rfl⟩
set_option maxRecDepth 100000 in
theorem lifted (os:Os) (started:os.Started) (H:Type) (enc:TypeId × Value→H) (F:Stop.Interp) :
  ReturnsInHanded {} Tryz.checked os 9 .any ((Rows.OpenSpec.upto Rows.httpAsksSpec).preRow enc Tryz.prog Tryz.f9 Rows.httpAsksUptoRow.domain false Rows.httpAsksUptoRow.laid) (((Rows.OpenSpec.upto Rows.httpAsksSpec).at F).post enc Tryz.prog Tryz.f9 false true false false):=by
 obtain ⟨places,hx⟩:=reads os enc
 refine returnsInHanded_of_row (C:=Tryz.checked) (s:=(Rows.OpenSpec.upto Rows.httpAsksSpec)) own started (by kernel_rfl) Tryz.func9
  (witness_row_at (enc:=enc) (C:=Tryz.checked) false (zcq os) #[.agg #[.string ⟨#[]⟩,.slice none 0 0,.slice none 0 0,.slice none 0 0,.string ⟨#[]⟩]] rfl (by kernel_rfl) (by kernel_rfl) (by kernel_rfl)
   (OpenSpec.preRow_of_cond 12 hx (by kernel_rfl) (fun k hk=>by cases hk;kernel_rfl) (by kernel_rfl) (zzv os _))) ?_
 intro W base args ds gs before hval hW _ hcond _ hL hS _
 exact contract H enc W base args ds gs before hval hW hL hS (of_decide_eq_true (hcond _ rfl))
theorem facts1:Tryz.prog.funcNamed Rows.httpAsksUptoRow.func=some 9:=by kernel_rfl
theorem unf:Tryz.prog.unfollowed 9=true:=by kernel_rfl
theorem inp:Tryz.prog.inPlace 9=Rows.httpAsksUptoRow.inPlace:=by kernel_rfl
theorem nam:Tryz.prog.varsNamed 9=Rows.httpAsksUptoRow.named:=by kernel_rfl
theorem rec_:Tryz.prog.recurses 9=true:=by unfold Program.recurses;rw [unf];rfl
theorem facts2:joinedFacts Tryz.prog 9 Tryz.f9 (Rows.OpenSpec.upto Rows.httpAsksSpec).bare Rows.httpAsksUptoRow=true:=by
 unfold joinedFacts
 rw [unf,inp,nam,rec_,rowed,laidOut]
 kernel_rfl
theorem facts3:Tryz.f9.isInstance Tryz.prog Rows.httpAsksUptoRow.origin Rows.httpAsksUptoRow.targs:=of_decide_eq_true (by kernel_rfl)
theorem facts4:Tryz.f9.isWrapper Tryz.prog Rows.httpAsksUptoRow.wrapper Rows.httpAsksUptoRow.mainSum:=by unfold Func.isWrapper;first|(rw [if_pos (by decide +kernel)];kernel_rfl)|(rw [if_neg (by decide +kernel)];exact ⟨rfl,rfl⟩)
theorem said:Rows.HttpAsksUptoSaid :=
 OpenClaim.holds_of_cond 9 Tryz.f9 rfl rfl rfl rfl rfl rfl rfl ⟨rfl,rfl,rfl,rfl,rfl⟩ rfl rfl rfl rfl rfl facts1 Tryz.func9 facts2 facts3 facts4
  (fun os started H enc _ F=>by rw [OpenClaim.pre_eq_preRow];exact lifted os started H enc F)
theorem plain (f:FuncId) (fn:Func) (hf:Tryz.pinned.checked.prog.funcNamed Rows.httpAsksUptoRow.func=some f) (hfn:Tryz.pinned.checked.prog.funcs[f]? = some fn) :
  true=Tryz.pinned.checked.prog.looks []∧∀ (j:Nat) t,fn.params[j]? = some t→Tryz.pinned.checked.prog.wantsStandIn t=false:=by
 obtain rfl:f=9:=Option.some.inj ((show Tryz.prog.funcNamed Rows.httpAsksUptoRow.func=some 9 by kernel_rfl).symm.trans hf) |>.symm
 obtain rfl:fn=Tryz.f9:=(Option.some.inj (Tryz.func9.symm.trans hfn)).symm
 refine ⟨zz07t,fun j t ht => ?_⟩
 rw [Tryz.params9] at ht
 have hm:=Array.mem_of_getElem? ht
 simp only [List.mem_toArray,List.mem_cons,List.not_mem_nil,or_false] at hm
 rcases hm with rfl
 ·exact (show Tryz.prog.wantsStandIn 25=false by kernel_rfl)
end httpAsks
theorem httpAsksupto_card:Rows.HttpAsksUptoCardSaid :=
 Claim7.holds_tied_plain_at .later [] _ _ _ _ httpAsks.said (fun _ h=>by cases h) (by kernel_rfl) (fun _ h=>by cases h) httpAsksUpto_row_tie rfl ⟨rfl,rfl⟩ main0 rfl httpAsks.plain (zve rfl)
end Go.Proofs.YtfdoofnmjehecaaGreatDoor
