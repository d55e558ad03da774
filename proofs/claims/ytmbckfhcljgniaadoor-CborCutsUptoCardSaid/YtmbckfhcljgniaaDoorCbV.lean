/- Cbor: an argument opened; the tables; the witness's world. -/
import Derived.Test.YtmbckfhcljgniaaDoorCards
import Derived.Test.YtmbckfhcljgniaaDoorTie
import Derived.Test.YtmbckfhcljgniaaDoorLkP
import Derived.Test.YtmbckfhcljgniaaDoorCb12
import Derived.Test.YtmbckfhcljgniaaDoorLkV
import Derived.WalkKit
import Derived.ProofKit
import Derived.OpenShut
import Derived.Deep.DeepHandedRow
import Derived.Deep.DeepLaidRun
import Derived.Deep.DeepWitnessRowRef
import Derived.Lib.LaidU8T
import Derived.Lib.LaidIn
import Derived.PinnedBridge
namespace Go.Proofs.YtmbckfhcljgniaaDoor
open Go.Lk Go.ChangeShapes Go.WideShapes Go.ChangeAt Go.RowKit
open Go.ChangeMaps (open_string shut_string)
theorem own : ownKnob Tryd.prog.godebug = none := by kernel_rfl
theorem laidOut : laidOutB Tryd.prog = true := by kernel_rfl
theorem cellsOf24 : Tryd.prog.cellsOf 24 = 4 := by kernel_rfl
theorem cellsOf3 : Tryd.prog.cellsOf 3 = 1 := by kernel_rfl
theorem cellsOf9 : Tryd.prog.cellsOf 9 = 1 := by kernel_rfl
theorem cellsOf22 : Tryd.prog.cellsOf 22 = 1 := by kernel_rfl
theorem wf_i64 {n : Int} (h : (Lit.int .i64 n).wf = true) : -9223372036854775808 ≤ n ∧ n < 9223372036854775808 := by
  have h : (decide (IntKind.i64.min ≤ n) && decide (n ≤ IntKind.i64.max)) = true := h
  simp only [Bool.and_eq_true, decide_eq_true_eq] at h
  have e1 : IntKind.i64.min = -9223372036854775808 := by decide
  have e2 : IntKind.i64.max = 9223372036854775807 := by decide
  rw [e1, e2] at h
  omega
def QC {H : Type} (x : T_api_Cbor) (d : DataW H) : Prop := x.ok ∧ x.sz + 1 ≤ Rows.uptoBulk d
theorem QC_list {H : Type} : ∀ {l : List T_api_Cbor} {ds : List (DataW H)}, Q2 QC l ds → oks l ∧ szs l ≤ Rows.uptoBulkAll ds
  | [], [], _ => ⟨trivial, by simp [szs]⟩
  | x :: l, d :: ds, h => by
    obtain ⟨⟨h1, h3⟩, h4⟩ := h
    obtain ⟨h5, h7⟩ := QC_list h4
    exact ⟨⟨h1, h5⟩, by simp only [szs, Rows.uptoBulkAll]; omega⟩
  | [], _ :: _, h => h.elim
  | _ :: _, [], h => h.elim
theorem open_Cbor {H : Type} {enc : TypeId × Value → H} {w : World} {held : Bool} : ∀ (fuel : Nat) (cs : List Value) (y : DataW H × List MemPlace), DataW.trod enc Tryd.prog w 0 (fun _ => true) held fuel 24 cs = some y → ∃ x : T_api_Cbor, RDs w No x.enc cs ∧ QC x y.1 := by
  intro fuel
  induction fuel using Nat.strongRecOn with
  | ind fuel ih =>
    intro cs y h
    obtain ⟨xs, n, rfl, rfl, hl, hx, hf⟩ := DataW.trod_struct Tryd.underlying24 h
    rw [cellsOf24] at hl
    obtain ⟨c0, c1, c2, c3, rfl⟩ : ∃ c0 c1 c2 c3, cs = [c0, c1, c2, c3] := by
      match cs, hl with
      | [c0, c1, c2, c3], _ => exact ⟨c0, c1, c2, c3, rfl⟩
    obtain ⟨x0, x1, x2, x3, rfl⟩ : ∃ x0 x1 x2 x3, xs = [x0, x1, x2, x3] := by
      match xs, hx with
      | [x0, x1, x2, x3], _ => exact ⟨x0, x1, x2, x3, rfl⟩
    have g0 : DataW.trod enc Tryd.prog w 0 (fun _ => true) held n 3 (([c0, c1, c2, c3].drop 0).take (Tryd.prog.cellsOf 3)) = some x0 := hf 0 _ rfl
    rw [cellsOf3] at g0
    have f0 : DataW.trod enc Tryd.prog w 0 (fun _ => true) held n 3 [c0] = some x0 := g0
    have g1 : DataW.trod enc Tryd.prog w 0 (fun _ => true) held n 3 (([c0, c1, c2, c3].drop 1).take (Tryd.prog.cellsOf 3)) = some x1 := hf 1 _ rfl
    rw [cellsOf3] at g1
    have f1 : DataW.trod enc Tryd.prog w 0 (fun _ => true) held n 3 [c1] = some x1 := g1
    have g2 : DataW.trod enc Tryd.prog w 0 (fun _ => true) held n 9 (([c0, c1, c2, c3].drop 2).take (Tryd.prog.cellsOf 9)) = some x2 := hf 2 _ rfl
    rw [cellsOf9] at g2
    have f2 : DataW.trod enc Tryd.prog w 0 (fun _ => true) held n 9 [c2] = some x2 := g2
    have g3 : DataW.trod enc Tryd.prog w 0 (fun _ => true) held n 22 (([c0, c1, c2, c3].drop 3).take (Tryd.prog.cellsOf 22)) = some x3 := hf 3 _ rfl
    rw [cellsOf22] at g3
    have f3 : DataW.trod enc Tryd.prog w 0 (fun _ => true) held n 22 [c3] = some x3 := g3
    obtain ⟨k, e0, rfl, w0⟩ := DataW.trod_int Tryd.underlying3 f0
    obtain ⟨m, e1, rfl, w1⟩ := DataW.trod_int Tryd.underlying3 f1
    obtain ⟨t, e2, rfl, w2⟩ := rd_str Tryd.underlying9 f2
    obtain ⟨v, l, e3, h3, h4, h5⟩ := rd_sl Tryd.underlying22 cellsOf24 (by decide) T_api_Cbor.enc (QC (H := H)) (fun g hg cs y => ih g (by omega) cs y) f3
    simp only [List.cons.injEq, and_true] at e0 e1 e2 e3
    subst e0 e1 e2 e3
    have hb : oks l ∧ szs l + 1 ≤ Rows.uptoBulk x3.1 := by
      rcases h5 with ⟨h6, rfl⟩ | ⟨es, rest, h6, h7⟩
      · rw [h6]; exact ⟨trivial, by simp [szs, Rows.uptoBulk]⟩
      · obtain ⟨h8, h10⟩ := QC_list h7
        rw [h6]
        exact ⟨h8, by simp only [Rows.uptoBulk]; omega⟩
    refine ⟨⟨k, m, t, l⟩, T_api_Cbor.shut (x := ⟨k, m, t, l⟩) h3, ?_, ?_⟩
    · exact (T_api_Cbor.ok_eq _).2 ⟨wf_i64 w0, wf_i64 w1, hb.1⟩
    · have := hb.2
      simp only [T_api_Cbor.sz, Rows.uptoBulk, Rows.uptoBulkAll, List.map_cons, List.map_nil]
      omega
theorem u8extra : U8Extra Tryd.prog Tryd.lays196_ren := ⟨by kernel_rfl, by kernel_rfl, by kernel_rfl, by kernel_rfl, by kernel_rfl, by kernel_rfl, by kernel_rfl⟩
theorem first_eq : Rows.laid_unicode_utf8_first = Lib.firstData := Pinned.utf8First_eq
theorem accept_eq : (Rows.laid_unicode_utf8_acceptRanges : DataW Unit) = Lib.acceptData := by kernel_rfl
theorem tabs {W : World} (hL : laidMetH Tryd.prog [("unicode/utf8.acceptRanges", Rows.laid_unicode_utf8_acceptRanges), ("unicode/utf8.first", Rows.laid_unicode_utf8_first)] W) : Glob W No := by
  have h1 := Lib.laidMet.reads hL (.tail _ (.head _))
  have h2 := Lib.laidMet.reads hL (.head _)
  rw [first_eq] at h1
  rw [accept_eq] at h2
  exact ⟨utf8Tabs_of_readsT (ρ := Tryd.lays196_ren) (U8Types.of196 Tryd.lays196) u8extra h1 h2, fun h => h, fun h => h⟩
noncomputable def laidWorld (os : Os) : World :=
  let w0 := World.holding Tryd.prog os ⟨#[], #[], []⟩
  let put (h : Array Obj) (g : Nat) (cs : Array Value) : Array Obj := h.modify g fun
    | .cells _ t frozen => .cells cs t frozen
    | o => o
  let h1 := put w0.heap 0 (Lib.firstTab.map fun z => Value.int .u8 z).toArray
  let h2 := put h1 1 ((List.range 16).flatMap fun i => [Value.int .u8 (Lib.accLo i), Value.int .u8 (Lib.accHi i)]).toArray
  { w0 with heap := h2 }
theorem piece (os : Os) (args : Array Value) : LaidIn Tryd.prog ((laidWorld os).forCall (fun _ _ => 0) ⟨#[], args, []⟩).memory [("unicode/utf8.acceptRanges", Lib.acceptData), ("unicode/utf8.first", Lib.firstData)] [1, 0] :=
  LaidIn.of_run [1, 0] 8 (by kernel_rfl) (by kernel_rfl) (by kernel_rfl) (by kernel_rfl)
theorem laid_met (os : Os) (args : Array Value) : laidMet Tryd.prog [("unicode/utf8.acceptRanges", Rows.laid_unicode_utf8_acceptRanges), ("unicode/utf8.first", Rows.laid_unicode_utf8_first)] ((laidWorld os).forCall (fun _ _ => 0) ⟨#[], args, []⟩).memory := by
  have := (piece os args).met
  rw [first_eq, accept_eq]
  exact this
theorem no_bd (W : World) : Bd No W := fun _ h => h.elim
theorem agg_open {P : Program} {w : World} {r : Reach} {base : Nat} {t : TypeId} {v : Value} {fs : Array Field} (ht : P.underlying t = some (.struct fs)) (h : Value.okWide P w r base t v) : ∃ cs : List Value, v = .agg cs.toArray := by
  unfold Value.okWide at h
  rw [ht] at h
  obtain ⟨cs, h1, _⟩ := h
  exact ⟨cs.toList, by simp [h1]⟩
end Go.Proofs.YtmbckfhcljgniaaDoor
