import Derived.Test.YtfdoofnmjehecaaGreatDoorHHtX
import Derived.Test.YtfdoofnmjehecaaGreatDoorHHtP6
import Derived.Test.YtfdoofnmjehecaaGreatDoorHSkN
import Derived.Test.YtfdoofnmjehecaaGreatDoorHHnR
set_option linter.all false
namespace Go.Proofs.YtfdoofnmjehecaaGreatDoor
open Go.Lk Go.Pe Go.Sen Go.ChangeShapes Go.WideShapes Go.ChangeAt Go.RowKit
open Go.ChangeMaps (open_string shut_string)
namespace httpHears
set_option maxRecDepth 100000 in
theorem contract(H:Type)(enc:TypeId×Value→H)(W:World)(base:Nat)(args:Array Value)(ds gs:List (DataW H))(before:List MemPlace)(a:∀(j:Nat)t v,Tryz.f11.params[j]?=some t→args[j]?=some v→Value.okWide Tryz.prog W .any base t v)(n:DataW.Whole enc Tryz.prog Tryz.f11.params.toList Rows.httpHearsSpec.vars false W args.toList ds gs before)(B:laidMetH Tryz.prog Rows.httpHearsUptoRow.laid W)(D:W.ShapedOpen Tryz.prog)(i:Rows.uptoBulkAll (ds++gs)≤1048576):Calls Tryz.prog 11 args W fun e d=>∃v,e=.returned v∧Rows.httpHearsSpec.post enc Tryz.prog Tryz.f11 false true false false W args v d:=by
 have f:=n;obtain⟨p,q,b,E,rfl,F,G⟩:=n;have m:DataW.TrodAll enc Tryz.prog W 0 (fun _=>true) true Tryz.f11.params.toList args.toList ds p:=b;rw[Tryz.params11]at m a;obtain⟨r,J,L,w,M,N,g,rfl,rfl,y,I⟩:=trodAll_cons m;obtain⟨rfl,rfl,rfl⟩:=trodAll_nil I;obtain rfl:args=#[r]:=by cases args;simp_all
 obtain⟨rfl,rfl⟩:=trodVars_none E;clear b;obtain⟨o,rfl,rfl,rfl,K⟩:=open_string Tryz.underlying9 (a 0 9 r rfl rfl) y;obtain⟨c,rfl⟩:∃s:Z,o=⟨s.toArray⟩:=⟨o.data.toList,by simp⟩;simp only[List.append_nil,Rows.uptoBulkAll,Rows.uptoBulk]at i;have pure:=zz01x zz01k (by omega) (s:=c) (by omega);have con:=C.q3v 40 c true pure;refine(con.run W No (fun _=>0) (fun _=>Go.undef) [.string ⟨c.toArray⟩] ⟨.string ⟨c.toArray⟩,_,rfl,rfl,rfl⟩ (zz0aj _ _ _ _) (no_bd W) (tabs B D)).mono ?_;rintro e d⟨us,O',φ',α',rfl,x⟩;obtain⟨u,l,rfl,z,A⟩:=x.res;obtain rfl:l=[]:=A;obtain rfl:u=.bool true:=z;have bel0:=zz09x x.ext;have bel:Below W.heap.size W d:=⟨bel0.os,bel0.tape,bel0.output,bel0.size,fun k i=>bel0.block k i id⟩;refine⟨_,rfl,_,_,_,[],[]++[],[],f,?_,?_,?_,bel.frame _,fun h=>by cases h⟩;·exact trodAll_mk1 (shut_bool Tryz.underlying4 true)
 ·exact trodAll_cons_mk (shut_string Tryz.underlying9 K) trodAll_mk0
 ·rfl
theorem reads(os:Os){H:Type}(enc:TypeId×Value→H):∃places,DataW.whole enc Tryz.prog ((zdy os).forCall (fun _ _=>0) ⟨#[],#[.string ⟨#[]⟩],[]⟩).memory Tryz.f11.params.toList Rows.httpHearsSpec.vars false (#[.string ⟨#[]⟩]:Array Value).toList 12=some ([.lit (.string [])],[],places):=⟨[],by kernel_rfl⟩
set_option maxRecDepth 100000 in
theorem lifted(os:Os)(started:os.Started)(H:Type)(enc:TypeId×Value→H)(F:Stop.Interp):ReturnsInHanded {} Tryz.checked os 11 .any ((Rows.OpenSpec.upto Rows.httpHearsSpec).preRow enc Tryz.prog Tryz.f11 Rows.httpHearsUptoRow.domain false Rows.httpHearsUptoRow.laid) (((Rows.OpenSpec.upto Rows.httpHearsSpec).at F).post enc Tryz.prog Tryz.f11 false true false false):=by obtain⟨places,g⟩:=reads os enc;refine returnsInHanded_of_row (C:=Tryz.checked) (s:=Rows.OpenSpec.upto Rows.httpHearsSpec) own started (by kernel_rfl) Tryz.func11 (witness_row_at (enc:=enc) (C:=Tryz.checked) false (zdy os) #[.string ⟨#[]⟩] rfl (by kernel_rfl) (by kernel_rfl) (by kernel_rfl) (OpenSpec.preRow_of_cond 12 g (by kernel_rfl) fun k f=>by cases f;kernel_rfl (by kernel_rfl) (zz02d os _))) ?_;intro W base args ds gs before b e _ a _ c d _;exact contract H enc W base args ds gs before b e c d (of_decide_eq_true (a _ rfl))
theorem facts1:Tryz.prog.funcNamed Rows.httpHearsUptoRow.func=some 11:=by kernel_rfl
theorem unf:Tryz.prog.unfollowed 11=true:=by kernel_rfl
theorem inp:Tryz.prog.inPlace 11=Rows.httpHearsUptoRow.inPlace:=by kernel_rfl
theorem nam:Tryz.prog.varsNamed 11=Rows.httpHearsUptoRow.named:=by kernel_rfl
theorem rec_:Tryz.prog.recurses 11=true:=by unfold Program.recurses;rw[unf];rfl
theorem facts2:joinedFacts Tryz.prog 11 Tryz.f11 (Rows.OpenSpec.upto Rows.httpHearsSpec).bare Rows.httpHearsUptoRow=true:=by unfold joinedFacts;rw[unf,inp,nam,rec_,rowed,laidOut];kernel_rfl
theorem facts3:Tryz.f11.isInstance Tryz.prog Rows.httpHearsUptoRow.origin Rows.httpHearsUptoRow.targs:=of_decide_eq_true (by kernel_rfl)
theorem facts4:Tryz.f11.isWrapper Tryz.prog Rows.httpHearsUptoRow.wrapper Rows.httpHearsUptoRow.mainSum:=by unfold Func.isWrapper;first|(rw[if_pos (by decide+kernel)];kernel_rfl)|(rw[if_neg (by decide+kernel)];exact⟨rfl,rfl⟩)
theorem said:Rows.HttpHearsUptoSaid:=OpenClaim.holds_of_cond 11 Tryz.f11 rfl rfl rfl rfl rfl rfl rfl ⟨rfl,rfl,rfl,rfl,rfl⟩ rfl rfl rfl rfl rfl facts1 Tryz.func11 facts2 facts3 facts4 fun os started H enc _ F=>by rw[OpenClaim.pre_eq_preRow];exact lifted os started H enc F
theorem plain(f:FuncId)(fn:Func)(hf:Tryz.pinned.checked.prog.funcNamed Rows.httpHearsUptoRow.func=some f)(a:Tryz.pinned.checked.prog.funcs[f]?=some fn):true=Tryz.pinned.checked.prog.looks []∧∀(j:Nat)t,fn.params[j]?=some t→Tryz.pinned.checked.prog.wantsStandIn t=false:=by obtain rfl:f=11:=Option.some.inj ((show Tryz.prog.funcNamed Rows.httpHearsUptoRow.func=some 11 by kernel_rfl).symm.trans hf)|>.symm;obtain rfl:fn=Tryz.f11:=(Option.some.inj (Tryz.func11.symm.trans a)).symm;refine⟨zz0ae,fun j t c=>?_⟩;rw[Tryz.params11]at c;have b:=Array.mem_of_getElem? c;simp only[List.mem_toArray,List.mem_cons,List.not_mem_nil,or_false]at b;rcases b with rfl;·exact show Tryz.prog.wantsStandIn 9=false by kernel_rfl
end httpHears
theorem httpHearsupto_card:Rows.HttpHearsUptoCardSaid:=Claim7.holds_tied_plain_at .later [] _ _ _ _ httpHears.said (fun _ h=>by cases h) (by kernel_rfl) (fun _ h=>by cases h) httpHearsUpto_row_tie rfl ⟨rfl,rfl⟩ main0 rfl httpHears.plain (zx9 rfl)
end Go.Proofs.YtfdoofnmjehecaaGreatDoor
