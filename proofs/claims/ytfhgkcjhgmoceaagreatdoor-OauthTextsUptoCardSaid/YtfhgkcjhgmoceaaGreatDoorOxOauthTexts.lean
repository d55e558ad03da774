import Derived.Test.YtfhgkcjhgmoceaaGreatDoorOfP1
import Derived.Test.YtfhgkcjhgmoceaaGreatDoorOpA
set_option linter.all false
namespace Go.Proofs.YtfhgkcjhgmoceaaGreatDoor
open Go.Lk Go.Pe Go.Sen Go.ChangeShapes Go.WideShapes Go.ChangeAt Go.RowKit
open Go.ChangeMaps (open_string shut_string)
namespace oauthTexts
set_option maxRecDepth 100000 in
theorem contract (H : Type) (enc : TypeId × Value → H) (W : World) (base : Nat) (args : Array Value) (ds gs : List (DataW H)) (before : List MemPlace)
    (hval : ∀ (j : Nat) t v, Tryz.f3.params[j]? = some t → args[j]? = some v → Value.okWide Tryz.prog W .any base t v)
    (hW : DataW.Whole enc Tryz.prog Tryz.f3.params.toList Rows.oauthTextsSpec.vars false W args.toList ds gs before) (hL : laidMetH Tryz.prog Rows.oauthTextsUptoRow.laid W) (hS : W.ShapedOpen Tryz.prog) (hk : Rows.uptoBulkAll (ds ++ gs) ≤ 1048576) :
    Calls Tryz.prog 3 args W fun e W' => ∃ v, e = .returned v ∧ Rows.oauthTextsSpec.post enc Tryz.prog Tryz.f3 false true false false W args v W' := by
  have hW' := hW
  obtain ⟨p, q, hA0, hV, rfl, hfz, hnd⟩ := hW
  have hA : DataW.TrodAll enc Tryz.prog W 0 (fun _ => true) true Tryz.f3.params.toList args.toList ds p := hA0
  rw [Tryz.params3] at hA hval
  obtain ⟨v0, vs0, d0, ds0, p0, q0, hargs, rfl, rfl, h0, r0⟩ := trodAll_cons hA
  obtain ⟨v1, vs1, d1, ds1, p1, q1, rfl, rfl, rfl, h1, r1⟩ := trodAll_cons r0
  obtain ⟨v2, vs2, d2, ds2, p2, q2, rfl, rfl, rfl, h2, r2⟩ := trodAll_cons r1
  obtain ⟨rfl, rfl, rfl⟩ := trodAll_nil r2
  obtain rfl : args = #[v0, v1, v2] := by cases args; simp_all
  obtain ⟨rfl, rfl⟩ := trodVars_none hV
  clear hA0
  obtain ⟨t0, rfl, rfl, rfl, w0⟩ := open_string Tryz.underlying9 (hval 0 9 v0 rfl rfl) h0
  obtain ⟨s0, rfl⟩ : ∃ s : List UInt8, t0 = ⟨s.toArray⟩ := ⟨t0.data.toList, by simp⟩
  have h1k := h1
  obtain ⟨cs1, rfl⟩ := agg_open Tryz.underlying23 (hval 1 23 v1 rfl rfl)
  obtain ⟨g1, h1⟩ := h1
  obtain ⟨x1, e1, z1⟩ := open_23 g1 _ _ h1
  have e1 : RDs W No x1.enc cs1 := e1
  have z1 : x1.sz + 1 ≤ Rows.uptoBulk d1 := z1
  have hlt1 : ∀ x ∈ p1, x.block < W.heap.size := fun x hx => by simpa using hW'.lt x (by simp [hx])
  have h2k := h2
  obtain ⟨x2, e2, z2⟩ := open_Draws (hval 2 24 v2 rfl rfl) h2
  have hlt2 : ∀ x ∈ p2, x.block < W.heap.size := fun x hx => by simpa using hW'.lt x (by simp [hx])
  simp only [List.append_nil, Rows.uptoBulkAll, Rows.uptoBulk] at hk
  have pure := texts_eq (s := s0) (c := x1) (d := x2) (by omega) (by have h := z1; unfold T_api_Config.sz at h; omega) (by have h := z1; unfold T_api_Config.sz at h; omega) (by omega)
  have con := C.l17_OauthTexts s0 x1 x2 true pure
  refine (con.run W No (fun _ => 0) (fun _ => Go.undef) [.string ⟨s0.toArray⟩, .agg cs1.toArray, v2] ⟨.string ⟨s0.toArray⟩, _, rfl, rfl, ⟨.agg cs1.toArray, _, rfl, ⟨cs1, rfl, VRs_23 e1⟩, ⟨v2, _, rfl, e2, rfl⟩⟩⟩ (mm_nil _ _ _ _) (no_bd W) (tabs hL hS)).mono ?_
  rintro e W' ⟨us, O', φ', α', rfl, x⟩
  obtain ⟨u, us2, rfl, h8, h9⟩ := x.res
  obtain rfl : us2 = [] := h9
  obtain rfl : u = .bool true := h8
  have bel0 := fi_nil x.ext
  have bel : Below W.heap.size W W' := ⟨bel0.os, bel0.tape, bel0.output, bel0.size, fun k hk => bel0.block k hk id⟩
  refine ⟨_, rfl, _, _, _, [], [] ++ (p1 ++ (p2 ++ ([]))), [], hW', ?_, ?_, ?_, bel.frame _, fun h => by cases h⟩
  · exact trodAll_mk1 (shut_bool Tryz.underlying4 true)
  · exact trodAll_cons_mk (shut_string Tryz.underlying9 w0) (trodAll_cons_mk (Below.trod laidOut (by kernel_rfl) (of_decide_eq_true (by kernel_rfl)) h1k bel hlt1) (trodAll_cons_mk (Below.trod laidOut (by kernel_rfl) (of_decide_eq_true (by kernel_rfl)) h2k bel hlt2) (trodAll_mk0)))
  · rfl
theorem reads (os : Os) {H : Type} (enc : TypeId × Value → H) : ∃ places, DataW.whole enc Tryz.prog ((laidWorld os).forCall (fun _ _ => 0) ⟨#[], #[.string ⟨#[]⟩, .agg #[.string ⟨#[]⟩, .string ⟨#[]⟩, .string ⟨#[]⟩, .string ⟨#[]⟩, .int .i64 0, .int .i64 0, .int .i64 0, .int .i64 0, .int .i64 0], .slice none 0 0], []⟩).memory Tryz.f3.params.toList Rows.oauthTextsSpec.vars false (#[.string ⟨#[]⟩, .agg #[.string ⟨#[]⟩, .string ⟨#[]⟩, .string ⟨#[]⟩, .string ⟨#[]⟩, .int .i64 0, .int .i64 0, .int .i64 0, .int .i64 0, .int .i64 0], .slice none 0 0] : Array Value).toList 12 = some ([.lit (.string []), .agg [.lit (.string []), .lit (.string []), .lit (.string []), .lit (.string []), .lit (.int .i64 0), .lit (.int .i64 0), .lit (.int .i64 0), .lit (.int .i64 0), .lit (.int .i64 0)], .nil], [], places) :=
  ⟨[], by kernel_rfl⟩
set_option maxRecDepth 100000 in
theorem lifted (os : Os) (started : os.Started) (H : Type) (enc : TypeId × Value → H) (F : Stop.Interp) :
    ReturnsInHanded {} Tryz.checked os 3 .any ((Rows.OpenSpec.upto Rows.oauthTextsSpec).preRow enc Tryz.prog Tryz.f3 Rows.oauthTextsUptoRow.domain false Rows.oauthTextsUptoRow.laid) (((Rows.OpenSpec.upto Rows.oauthTextsSpec).at F).post enc Tryz.prog Tryz.f3 false true false false) := by
  obtain ⟨places, hx⟩ := reads os enc
  refine returnsInHanded_of_row (C := Tryz.checked) (s := (Rows.OpenSpec.upto Rows.oauthTextsSpec)) own started (by kernel_rfl) Tryz.func3
    (witness_row_at (enc := enc) (C := Tryz.checked) false (laidWorld os) #[.string ⟨#[]⟩, .agg #[.string ⟨#[]⟩, .string ⟨#[]⟩, .string ⟨#[]⟩, .string ⟨#[]⟩, .int .i64 0, .int .i64 0, .int .i64 0, .int .i64 0, .int .i64 0], .slice none 0 0] rfl (by kernel_rfl) (by kernel_rfl) (by kernel_rfl)
      (OpenSpec.preRow_of_cond 12 hx (by kernel_rfl) (fun k hk => by cases hk; kernel_rfl) (by kernel_rfl) (laid_met os _))) ?_
  intro W base args ds gs before hval hW _ hcond _ hL hS _
  exact contract H enc W base args ds gs before hval hW hL hS (of_decide_eq_true (hcond _ rfl))
theorem facts1 : Tryz.prog.funcNamed Rows.oauthTextsUptoRow.func = some 3 := by kernel_rfl
theorem unf : Tryz.prog.unfollowed 3 = true := by kernel_rfl
theorem inp : Tryz.prog.inPlace 3 = Rows.oauthTextsUptoRow.inPlace := by kernel_rfl
theorem nam : Tryz.prog.varsNamed 3 = Rows.oauthTextsUptoRow.named := by kernel_rfl
theorem rec_ : Tryz.prog.recurses 3 = true := by unfold Program.recurses; rw [unf]; rfl
theorem facts2 : joinedFacts Tryz.prog 3 Tryz.f3 (Rows.OpenSpec.upto Rows.oauthTextsSpec).bare Rows.oauthTextsUptoRow = true := by
  unfold joinedFacts
  rw [unf, inp, nam, rec_, rowed, laidOut]
  kernel_rfl
theorem facts3 : Tryz.f3.isInstance Tryz.prog Rows.oauthTextsUptoRow.origin Rows.oauthTextsUptoRow.targs := of_decide_eq_true (by kernel_rfl)
theorem facts4 : Tryz.f3.isWrapper Tryz.prog Rows.oauthTextsUptoRow.wrapper Rows.oauthTextsUptoRow.mainSum := by unfold Func.isWrapper; first | (rw [if_pos (by decide +kernel)]; kernel_rfl) | (rw [if_neg (by decide +kernel)]; exact ⟨rfl, rfl⟩)
theorem said : Rows.OauthTextsUptoSaid :=
  OpenClaim.holds_of_cond 3 Tryz.f3 rfl rfl rfl rfl rfl rfl rfl ⟨rfl, rfl, rfl, rfl, rfl⟩ rfl rfl rfl rfl rfl facts1 Tryz.func3 facts2 facts3 facts4
    (fun os started H enc _ F => by rw [OpenClaim.pre_eq_preRow]; exact lifted os started H enc F)
set_option maxRecDepth 100000 in
theorem plain (f : FuncId) (fn : Func) (hf : Tryz.pinned.checked.prog.funcNamed Rows.oauthTextsUptoRow.func = some f) (hfn : Tryz.pinned.checked.prog.funcs[f]? = some fn) :
    true = Tryz.pinned.checked.prog.looks [] ∧ ∀ (j : Nat) t, fn.params[j]? = some t → Tryz.pinned.checked.prog.wantsStandIn t = false := by
  obtain rfl : f = 3 := Option.some.inj ((show Tryz.prog.funcNamed Rows.oauthTextsUptoRow.func = some 3 by kernel_rfl).symm.trans hf) |>.symm
  obtain rfl : fn = Tryz.f3 := (Option.some.inj (Tryz.func3.symm.trans hfn)).symm
  refine ⟨looks0, fun j t ht => ?_⟩
  rw [Tryz.params3] at ht
  have hm := Array.mem_of_getElem? ht
  simp only [List.mem_toArray, List.mem_cons, List.not_mem_nil, or_false] at hm
  rcases hm with rfl | rfl | rfl
  · exact (show Tryz.prog.wantsStandIn 9 = false by kernel_rfl)
  · exact (show Tryz.prog.wantsStandIn 23 = false by kernel_rfl)
  · exact (show Tryz.prog.wantsStandIn 24 = false by kernel_rfl)
end oauthTexts
/-- THE CARD. -/
theorem oauthTextsupto_card : Rows.OauthTextsUptoCardSaid :=
  Claim7.holds_tied_plain_at .later [] _ _ _ _ oauthTexts.said (fun _ h => by cases h) (by kernel_rfl) (fun _ h => by cases h) oauthTextsUpto_row_tie rfl ⟨rfl, rfl⟩ main0 rfl oauthTexts.plain (goesBy_no rfl)
end Go.Proofs.YtfhgkcjhgmoceaaGreatDoor
