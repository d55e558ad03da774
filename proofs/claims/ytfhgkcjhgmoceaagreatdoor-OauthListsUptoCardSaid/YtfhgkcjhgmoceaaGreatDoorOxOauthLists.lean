import Derived.Test.YtfhgkcjhgmoceaaGreatDoorOfP1
import Derived.Test.YtfhgkcjhgmoceaaGreatDoorOpA
set_option linter.all false
namespace Go.Proofs.YtfhgkcjhgmoceaaGreatDoor
open Go.Lk Go.Pe Go.Sen Go.ChangeShapes Go.WideShapes Go.ChangeAt Go.RowKit
open Go.ChangeMaps (open_string shut_string)
namespace oauthLists
set_option maxRecDepth 100000 in
theorem contract (H : Type) (enc : TypeId × Value → H) (W : World) (base : Nat) (args : Array Value) (ds gs : List (DataW H)) (before : List MemPlace)
    (hval : ∀ (j : Nat) t v, Tryz.f4.params[j]? = some t → args[j]? = some v → Value.okWide Tryz.prog W .any base t v)
    (hW : DataW.Whole enc Tryz.prog Tryz.f4.params.toList Rows.oauthListsSpec.vars false W args.toList ds gs before) (hL : laidMetH Tryz.prog Rows.oauthListsUptoRow.laid W) (hS : W.ShapedOpen Tryz.prog) (hk : Rows.uptoBulkAll (ds ++ gs) ≤ 1048576) :
    Calls Tryz.prog 4 args W fun e W' => ∃ v, e = .returned v ∧ Rows.oauthListsSpec.post enc Tryz.prog Tryz.f4 false true false false W args v W' := by
  have hW' := hW
  obtain ⟨p, q, hA0, hV, rfl, hfz, hnd⟩ := hW
  have hA : DataW.TrodAll enc Tryz.prog W 0 (fun _ => true) true Tryz.f4.params.toList args.toList ds p := hA0
  rw [Tryz.params4] at hA hval
  obtain ⟨v0, vs0, d0, ds0, p0, q0, hargs, rfl, rfl, h0, r0⟩ := trodAll_cons hA
  obtain ⟨rfl, rfl, rfl⟩ := trodAll_nil r0
  obtain rfl : args = #[v0] := by cases args; simp_all
  obtain ⟨rfl, rfl⟩ := trodVars_none hV
  clear hA0
  obtain ⟨t0, rfl, rfl, rfl, w0⟩ := open_string Tryz.underlying9 (hval 0 9 v0 rfl rfl) h0
  obtain ⟨s0, rfl⟩ : ∃ s : List UInt8, t0 = ⟨s.toArray⟩ := ⟨t0.data.toList, by simp⟩
  simp only [List.append_nil, Rows.uptoBulkAll, Rows.uptoBulk] at hk
  have pure := lists_eq (s := s0) (by omega)
  have con := C.l17_OauthLists s0 true pure
  refine (con.run W No (fun _ => 0) (fun _ => Go.undef) [.string ⟨s0.toArray⟩] ⟨.string ⟨s0.toArray⟩, _, rfl, rfl, rfl⟩ (mm_nil _ _ _ _) (no_bd W) (tabs hL hS)).mono ?_
  rintro e W' ⟨us, O', φ', α', rfl, x⟩
  obtain ⟨u, us2, rfl, h8, h9⟩ := x.res
  obtain rfl : us2 = [] := h9
  obtain rfl : u = .bool true := h8
  have bel0 := fi_nil x.ext
  have bel : Below W.heap.size W W' := ⟨bel0.os, bel0.tape, bel0.output, bel0.size, fun k hk => bel0.block k hk id⟩
  refine ⟨_, rfl, _, _, _, [], [] ++ ([]), [], hW', ?_, ?_, ?_, bel.frame _, fun h => by cases h⟩
  · exact trodAll_mk1 (shut_bool Tryz.underlying4 true)
  · exact trodAll_cons_mk (shut_string Tryz.underlying9 w0) (trodAll_mk0)
  · rfl
theorem reads (os : Os) {H : Type} (enc : TypeId × Value → H) : ∃ places, DataW.whole enc Tryz.prog ((laidWorld os).forCall (fun _ _ => 0) ⟨#[], #[.string ⟨#[]⟩], []⟩).memory Tryz.f4.params.toList Rows.oauthListsSpec.vars false (#[.string ⟨#[]⟩] : Array Value).toList 12 = some ([.lit (.string [])], [], places) :=
  ⟨[], by kernel_rfl⟩
set_option maxRecDepth 100000 in
theorem lifted (os : Os) (started : os.Started) (H : Type) (enc : TypeId × Value → H) (F : Stop.Interp) :
    ReturnsInHanded {} Tryz.checked os 4 .any ((Rows.OpenSpec.upto Rows.oauthListsSpec).preRow enc Tryz.prog Tryz.f4 Rows.oauthListsUptoRow.domain false Rows.oauthListsUptoRow.laid) (((Rows.OpenSpec.upto Rows.oauthListsSpec).at F).post enc Tryz.prog Tryz.f4 false true false false) := by
  obtain ⟨places, hx⟩ := reads os enc
  refine returnsInHanded_of_row (C := Tryz.checked) (s := (Rows.OpenSpec.upto Rows.oauthListsSpec)) own started (by kernel_rfl) Tryz.func4
    (witness_row_at (enc := enc) (C := Tryz.checked) false (laidWorld os) #[.string ⟨#[]⟩] rfl (by kernel_rfl) (by kernel_rfl) (by kernel_rfl)
      (OpenSpec.preRow_of_cond 12 hx (by kernel_rfl) (fun k hk => by cases hk; kernel_rfl) (by kernel_rfl) (laid_met os _))) ?_
  intro W base args ds gs before hval hW _ hcond _ hL hS _
  exact contract H enc W base args ds gs before hval hW hL hS (of_decide_eq_true (hcond _ rfl))
theorem facts1 : Tryz.prog.funcNamed Rows.oauthListsUptoRow.func = some 4 := by kernel_rfl
theorem unf : Tryz.prog.unfollowed 4 = true := by kernel_rfl
theorem inp : Tryz.prog.inPlace 4 = Rows.oauthListsUptoRow.inPlace := by kernel_rfl
theorem nam : Tryz.prog.varsNamed 4 = Rows.oauthListsUptoRow.named := by kernel_rfl
theorem rec_ : Tryz.prog.recurses 4 = true := by unfold Program.recurses; rw [unf]; rfl
theorem facts2 : joinedFacts Tryz.prog 4 Tryz.f4 (Rows.OpenSpec.upto Rows.oauthListsSpec).bare Rows.oauthListsUptoRow = true := by
  unfold joinedFacts
  rw [unf, inp, nam, rec_, rowed, laidOut]
  kernel_rfl
theorem facts3 : Tryz.f4.isInstance Tryz.prog Rows.oauthListsUptoRow.origin Rows.oauthListsUptoRow.targs := of_decide_eq_true (by kernel_rfl)
theorem facts4 : Tryz.f4.isWrapper Tryz.prog Rows.oauthListsUptoRow.wrapper Rows.oauthListsUptoRow.mainSum := by unfold Func.isWrapper; first | (rw [if_pos (by decide +kernel)]; kernel_rfl) | (rw [if_neg (by decide +kernel)]; exact ⟨rfl, rfl⟩)
theorem said : Rows.OauthListsUptoSaid :=
  OpenClaim.holds_of_cond 4 Tryz.f4 rfl rfl rfl rfl rfl rfl rfl ⟨rfl, rfl, rfl, rfl, rfl⟩ rfl rfl rfl rfl rfl facts1 Tryz.func4 facts2 facts3 facts4
    (fun os started H enc _ F => by rw [OpenClaim.pre_eq_preRow]; exact lifted os started H enc F)
set_option maxRecDepth 100000 in
theorem plain (f : FuncId) (fn : Func) (hf : Tryz.pinned.checked.prog.funcNamed Rows.oauthListsUptoRow.func = some f) (hfn : Tryz.pinned.checked.prog.funcs[f]? = some fn) :
    true = Tryz.pinned.checked.prog.looks [] ∧ ∀ (j : Nat) t, fn.params[j]? = some t → Tryz.pinned.checked.prog.wantsStandIn t = false := by
  obtain rfl : f = 4 := Option.some.inj ((show Tryz.prog.funcNamed Rows.oauthListsUptoRow.func = some 4 by kernel_rfl).symm.trans hf) |>.symm
  obtain rfl : fn = Tryz.f4 := (Option.some.inj (Tryz.func4.symm.trans hfn)).symm
  refine ⟨looks0, fun j t ht => ?_⟩
  rw [Tryz.params4] at ht
  have hm := Array.mem_of_getElem? ht
  simp only [List.mem_toArray, List.mem_cons, List.not_mem_nil, or_false] at hm
  rcases hm with rfl
  · exact (show Tryz.prog.wantsStandIn 9 = false by kernel_rfl)
end oauthLists
/-- THE CARD. -/
theorem oauthListsupto_card : Rows.OauthListsUptoCardSaid :=
  Claim7.holds_tied_plain_at .later [] _ _ _ _ oauthLists.said (fun _ h => by cases h) (by kernel_rfl) (fun _ h => by cases h) oauthListsUpto_row_tie rfl ⟨rfl, rfl⟩ main0 rfl oauthLists.plain (goesBy_no rfl)
end Go.Proofs.YtfhgkcjhgmoceaaGreatDoor
