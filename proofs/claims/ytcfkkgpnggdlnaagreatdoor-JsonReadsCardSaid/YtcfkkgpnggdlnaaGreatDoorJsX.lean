/- JSON: an argument opened; the tables; the witness's world. -/
import Derived.Test.YtcfkkgpnggdlnaaGreatDoorCards
import Derived.Test.YtcfkkgpnggdlnaaGreatDoorTie
import Derived.Test.YtcfkkgpnggdlnaaGreatDoorJsG
import Derived.Test.YtcfkkgpnggdlnaaGreatDoorSnN
import Derived.Test.YtcfkkgpnggdlnaaGreatDoorLkV
import Derived.WalkKit
import Derived.ProofKit
import Derived.OpenShut
import Derived.Deep.DeepHandedRow
import Derived.Deep.DeepLaidRun
import Derived.Deep.DeepWitnessRowRef
import Derived.Lib.LaidU8T
import Derived.Lib.LaidTab
import Derived.Lib.LaidIn
import Derived.Stop.LaidErr
import Derived.PinnedBridge
set_option linter.all false
namespace Go.Proofs.YtcfkkgpnggdlnaaGreatDoor
open Go.Lk Go.Pe Go.Sen Go.ChangeShapes Go.WideShapes Go.ChangeAt Go.RowKit
open Go.ChangeMaps (open_string shut_string)
theorem own : ownKnob Tryz.prog.godebug = none := by kernel_rfl
theorem laidOut : laidOutB Tryz.prog = true := by kernel_rfl
theorem cellsOf25 : Tryz.prog.cellsOf 25 = 4 := by kernel_rfl
theorem cellsOf3 : Tryz.prog.cellsOf 3 = 1 := by kernel_rfl
theorem cellsOf9 : Tryz.prog.cellsOf 9 = 1 := by kernel_rfl
theorem cellsOf22 : Tryz.prog.cellsOf 22 = 1 := by kernel_rfl
theorem cellsOf23 : Tryz.prog.cellsOf 23 = 1 := by kernel_rfl
theorem cellsOf5 : Tryz.prog.cellsOf 5 = 1 := by kernel_rfl
theorem cellsOf120 : Tryz.prog.cellsOf 120 = 1 := by kernel_rfl
theorem cellsOf149 : Tryz.prog.cellsOf 149 = 20 := by kernel_rfl
theorem cellsOf147 : Tryz.prog.cellsOf 147 = 1 := by kernel_rfl
def QC {H : Type} (x : J) (d : DataW H) : Prop := x.sz + 1 ≤ Rows.uptoBulk d
theorem QC_list {H : Type} : ∀ {l : List J} {ds : List (DataW H)}, Q2 QC l ds → szs l ≤ Rows.uptoBulkAll ds
  | [], [], _ => by simp [szs]
  | x :: l, d :: ds, h => by
    obtain ⟨h3, h4⟩ := h
    have h7 := QC_list h4
    unfold QC at h3
    simp only [szs, Rows.uptoBulkAll]
    omega
  | [], _ :: _, h => h.elim
  | _ :: _, [], h => h.elim
theorem QK_list {H : Type} : ∀ {l : List (List UInt8)} {ds : List (DataW H)}, Q2 (fun (s : List UInt8) d => s.length + 1 ≤ Rows.uptoBulk d) l ds → kys l ≤ Rows.uptoBulkAll ds
  | [], [], _ => by simp [kys]
  | x :: l, d :: ds, h => by
    obtain ⟨h3, h4⟩ := h
    have h7 := QK_list h4
    rw [kys_cons]
    simp only [Rows.uptoBulkAll]
    omega
  | [], _ :: _, h => h.elim
  | _ :: _, [], h => h.elim
theorem len4 {α : Type} {l : List α} (h : l.length = 4) : ∃ a b c d, l = [a, b, c, d] := by
  match l, h with
  | [a, b, c, d], _ => exact ⟨a, b, c, d, rfl⟩
theorem open_Json {H : Type} {enc : TypeId × Value → H} {w : World} {held : Bool} : ∀ (fuel : Nat) (cs : List Value) (y : DataW H × List MemPlace), DataW.trod enc Tryz.prog w 0 (fun _ => true) held fuel 25 cs = some y → ∃ x : J, RDs w No x.enc cs ∧ QC x y.1 := by
  intro fuel
  induction fuel using Nat.strongRecOn with
  | ind fuel ih =>
    intro cs y h
    obtain ⟨xs, n, rfl, rfl, hl, hx, hf⟩ := DataW.trod_struct Tryz.underlying25 h
    rw [cellsOf25] at hl
    obtain ⟨c0, c1, c2, c3, rfl⟩ := len4 hl
    obtain ⟨x0, x1, x2, x3, rfl⟩ := len4 (show xs.length = 4 from hx)
    have g0 : DataW.trod enc Tryz.prog w 0 (fun _ => true) held n 3 (([c0, c1, c2, c3].drop 0).take (Tryz.prog.cellsOf 3)) = some x0 := hf 0 _ rfl
    rw [cellsOf3] at g0
    have f0 : DataW.trod enc Tryz.prog w 0 (fun _ => true) held n 3 [c0] = some x0 := g0
    have g1 : DataW.trod enc Tryz.prog w 0 (fun _ => true) held n 9 (([c0, c1, c2, c3].drop 1).take (Tryz.prog.cellsOf 9)) = some x1 := hf 1 _ rfl
    rw [cellsOf9] at g1
    have f1 : DataW.trod enc Tryz.prog w 0 (fun _ => true) held n 9 [c1] = some x1 := g1
    have g2 : DataW.trod enc Tryz.prog w 0 (fun _ => true) held n 22 (([c0, c1, c2, c3].drop 2).take (Tryz.prog.cellsOf 22)) = some x2 := hf 2 _ rfl
    rw [cellsOf22] at g2
    have f2 : DataW.trod enc Tryz.prog w 0 (fun _ => true) held n 22 [c2] = some x2 := g2
    have g3 : DataW.trod enc Tryz.prog w 0 (fun _ => true) held n 23 (([c0, c1, c2, c3].drop 3).take (Tryz.prog.cellsOf 23)) = some x3 := hf 3 _ rfl
    rw [cellsOf23] at g3
    have f3 : DataW.trod enc Tryz.prog w 0 (fun _ => true) held n 23 [c3] = some x3 := g3
    obtain ⟨k, e0, rfl, w0⟩ := DataW.trod_int Tryz.underlying3 f0
    obtain ⟨t, e1, rfl, w1⟩ := rd_str Tryz.underlying9 f1
    obtain ⟨v, l, e2, h3, h4, h5⟩ := rd_sl Tryz.underlying22 cellsOf25 (by decide) T_api_Json.enc (QC (H := H)) (fun g hg cs y => ih g (by omega) cs y) f2
    obtain ⟨v', l', e3, h3', h4', h5'⟩ := rd_sl Tryz.underlying23 cellsOf9 (by decide) eS (fun (s : List UInt8) (d : DataW H) => s.length + 1 ≤ Rows.uptoBulk d) (fun g hg cs y hh => by
      obtain ⟨s, e, rfl, _⟩ := rd_str Tryz.underlying9 hh
      exact ⟨s, ⟨_, _, e, rfl, rfl⟩, by simp [Rows.uptoBulk]⟩) f3
    simp only [List.cons.injEq, and_true] at e0 e1 e2 e3
    subst e0 e1 e2 e3
    have hb : szs l + 1 ≤ Rows.uptoBulk x2.1 := by
      rcases h5 with ⟨h6, rfl⟩ | ⟨es, rest, h6, h7⟩
      · rw [h6]; simp [szs, Rows.uptoBulk]
      · have h8 := QC_list h7
        rw [h6]
        simp only [Rows.uptoBulk]; omega
    have hb' : kys l' + 1 ≤ Rows.uptoBulk x3.1 := by
      rcases h5' with ⟨h6, rfl⟩ | ⟨es, rest, h6, h7⟩
      · rw [h6]; simp [kys, Rows.uptoBulk]
      · have h8 := QK_list h7
        rw [h6]
        simp only [Rows.uptoBulk]; omega
    refine ⟨⟨k, t, l, l'⟩, ?_, ?_⟩
    · rw [T_api_Json.enc_c]
      simp only [T_api_Json.encs_eq]
      exact ⟨_, _, rfl, rfl, _, _, rfl, rfl, _, _, rfl, h3, _, _, rfl, h3', rfl⟩
    · show QC _ _
      unfold QC
      simp only [T_api_Json.sz, Rows.uptoBulk, Rows.uptoBulkAll, List.map_cons, List.map_nil]
      omega
/-- What reads as data is said by the data. -/
theorem VRs_of {w : World} {O : Nat → Prop} {φ : Nat → Nat} {α : Nat → Value} {x : J} {cs : List Value} (h : RDs w O x.enc cs) : VRs w O φ α [.int .i64 x.gKind, .str x.gText, .sl 25 4 (T_api_Json.encs x.gList), .sl 9 1 (x.gKeys.map eS)] cs := by
  rw [T_api_Json.enc_c] at h
  obtain ⟨v0, r0, rfl, h0, v1, r1, rfl, h1, v2, r2, rfl, h2, v3, r3, rfl, h3, rfl⟩ := h
  exact ⟨v0, _, rfl, h0, v1, _, rfl, h1, v2, _, rfl, h2, v3, _, rfl, h3, rfl⟩
theorem mm_nil (W : World) (O : Nat → Prop) (φ : Nat → Nat) (α : Nat → Value) : Mm W O φ α [] (([] : List (Nat × Nat × List (List D))).map some) :=
  ⟨fun b e h => by simp at h, fun a e h => by simp at h, fun a b h => by simp at h, fun a b e e' h => by simp at h, fun a b e h => by simp at h⟩
theorem fi_nil {vs : List PV} {φ : Nat → Nat} {α : Nat → Value} {W W' : World} (h : Ext (FI ⟨vs, [], []⟩ φ α) W W') : Ext Nowhere W W' :=
  h.mono fun x hx hf => by
    rcases hf with ⟨b, hb, _⟩ | ⟨a, ha, _⟩
    · exact absurd hb (Nat.not_lt_zero _)
    · exact absurd ha (Nat.not_lt_zero _)
theorem u8extra : U8Extra Tryz.prog Tryz.lays196_ren := ⟨by kernel_rfl, by kernel_rfl, by kernel_rfl, by kernel_rfl, by kernel_rfl, by kernel_rfl, by kernel_rfl⟩
theorem first_eq : Rows.laid_unicode_utf8_first = Lib.firstData := Pinned.utf8First_eq
theorem accept_eq : (Rows.laid_unicode_utf8_acceptRanges : DataW Unit) = Lib.acceptData := by kernel_rfl
theorem pow_eq : (Rows.laid_internal_strconv_uint64pow10 : DataW Unit) = Lib.tabData .u64 Lib.pow10Tab := by kernel_rfl
theorem star : "*" ++ "errors.errorString" = "*errors.errorString" := by decide
theorem errRow (u : TypeId) (h : Tryz.prog.typeName? 3 u = some "*errors.errorString") : u = 145 :=
  typeName_ptr_named (nm := "errors.errorString") (by rw [star]; kernel_rfl) (by kernel_rfl) (by decide) u (by rw [star]; exact h)
abbrev laidL : List (String × DataW Unit) := [("math/bits.deBruijn32tab", Rows.laid_math_bits_deBruijn32tab), ("math/bits.deBruijn64tab", Rows.laid_math_bits_deBruijn64tab), ("internal/strconv.uint64pow10", Rows.laid_internal_strconv_uint64pow10), ("unicode/utf8.acceptRanges", Rows.laid_unicode_utf8_acceptRanges), ("strconv.ErrRange", Rows.laid_strconv_ErrRange), ("strconv.ErrSyntax", Rows.laid_strconv_ErrSyntax), ("unicode/utf8.first", Rows.laid_unicode_utf8_first)]
theorem gES : Tryz.prog.globalNamed "strconv.ErrSyntax" = some 2 := by kernel_rfl
theorem gER : Tryz.prog.globalNamed "strconv.ErrRange" = some 3 := by kernel_rfl
theorem gPW : Tryz.prog.globalNamed "internal/strconv.uint64pow10" = some 4 := by kernel_rfl
theorem gEST : (Tryz.prog.globals[2]?).map (·.type) = some 60 := by kernel_rfl
theorem gERT : (Tryz.prog.globals[3]?).map (·.type) = some 60 := by kernel_rfl
theorem gPWT : (Tryz.prog.globals[4]?).map (·.type) = some 149 := by kernel_rfl
theorem tabs {W : World} (hL : laidMetH Tryz.prog laidL W) : GG.p W No := by
  have hL : laidMet Tryz.prog laidL W := hL
  have h1 := Lib.laidMet.reads hL (n := "unicode/utf8.first") (d := Rows.laid_unicode_utf8_first) (by simp [laidL])
  have h2 := Lib.laidMet.reads hL (n := "unicode/utf8.acceptRanges") (d := Rows.laid_unicode_utf8_acceptRanges) (by simp [laidL])
  have h3 := Lib.laidMet.reads hL (n := "internal/strconv.uint64pow10") (d := Rows.laid_internal_strconv_uint64pow10) (by simp [laidL])
  rw [first_eq] at h1
  rw [accept_eq] at h2
  rw [pow_eq] at h3
  obtain ⟨a0, s0, hv0, -, -, -⟩ := laid_sentinel hL.tail.tail.tail.tail gER gERT Tryz.underlying60 errRow Tryz.underlying145 Tryz.underlying147 rfl rfl Tryz.underlying9 cellsOf147 cellsOf9
  obtain ⟨a1, s1, hv1, -, -, -⟩ := laid_sentinel hL.tail.tail.tail.tail.tail gES gEST Tryz.underlying60 errRow Tryz.underlying145 Tryz.underlying147 rfl rfl Tryz.underlying9 cellsOf147 cellsOf9
  refine ⟨⟨utf8Tabs_of_readsT (ρ := Tryz.lays196_ren) (U8Types.of196 Tryz.lays196) u8extra h1 h2, ⟨_, by have h0 := World.var?_cell gES hv1 0; simpa using h0, .inr ⟨_, _, rfl⟩⟩, ⟨_, by have h0 := World.var?_cell gER hv0 0; simpa using h0, .inr ⟨_, _, rfl⟩⟩, ?_⟩, fun _ _ h => h⟩
  obtain ⟨g, t, cs, fuel, p, hg, hty, hvar, hd⟩ := h3
  obtain rfl := Option.some.inj (gPW.symm.trans hg)
  obtain rfl := Option.some.inj (gPWT.symm.trans hty)
  have hcs := Lib.cells_of_tab Tryz.underlying149 Tryz.underlying120 cellsOf120 cellsOf149 hd
  unfold World.var? at hvar
  rw [gPW] at hvar
  simp only [Option.bind_some] at hvar
  split at hvar
  · rename_i c e f hh
    cases hvar
    exact ⟨e, f, by rw [hh, ← hcs]⟩
  · cases hvar
def litV : DataW Unit → Value
  | .lit (.int k z) => .int k z
  | _ => Go.undef
def litsOf : DataW Unit → Array Value
  | .agg ds => (ds.map litV).toArray
  | _ => #[]
noncomputable def laidWorld (os : Os) : World :=
  let w0 := World.holding Tryz.prog os ⟨#[], #[], []⟩
  let n := w0.heap.size
  let put (h : Array Obj) (g : Nat) (cs : Array Value) : Array Obj := h.modify g fun
    | .cells _ t frozen => .cells cs t frozen
    | o => o
  let h1 := put w0.heap 0 (Lib.firstTab.map fun z => Value.int .u8 z).toArray
  let h2 := put h1 1 ((List.range 16).flatMap fun i => [Value.int .u8 (Lib.accLo i), Value.int .u8 (Lib.accHi i)]).toArray
  let h3 := put h2 2 #[.iface 145 (.pointer (some ⟨n, 0, none⟩))]
  let h4 := put h3 3 #[.iface 145 (.pointer (some ⟨n + 1, 0, none⟩))]
  let h5 := put h4 4 (Lib.pow10Tab.map fun z => Value.int .u64 z).toArray
  let h6 := put h5 6 (litsOf Rows.laid_math_bits_deBruijn32tab)
  let h7 := put h6 7 (litsOf Rows.laid_math_bits_deBruijn64tab)
  { w0 with heap := (h7.push (.cells #[.string ⟨#[105, 110, 118, 97, 108, 105, 100, 32, 115, 121, 110, 116, 97, 120]⟩] 147 (0, 0))).push (.cells #[.string ⟨#[118, 97, 108, 117, 101, 32, 111, 117, 116, 32, 111, 102, 32, 114, 97, 110, 103, 101]⟩] 147 (0, 0)) }
abbrev laidM : List (String × DataW Unit) := [("math/bits.deBruijn32tab", Rows.laid_math_bits_deBruijn32tab), ("math/bits.deBruijn64tab", Rows.laid_math_bits_deBruijn64tab), ("internal/strconv.uint64pow10", Rows.laid_internal_strconv_uint64pow10), ("unicode/utf8.acceptRanges", Lib.acceptData), ("strconv.ErrRange", Rows.laid_strconv_ErrRange), ("strconv.ErrSyntax", Rows.laid_strconv_ErrSyntax), ("unicode/utf8.first", Lib.firstData)]
theorem piece (os : Os) (args : Array Value) : LaidIn Tryz.prog ((laidWorld os).forCall (fun _ _ => 0) ⟨#[], args, []⟩).memory laidM (List.range 64) :=
  LaidIn.of_run (List.range 64) 8 (by kernel_rfl) (by kernel_rfl) (by kernel_rfl) (by kernel_rfl)
theorem laid_met (os : Os) (args : Array Value) : laidMet Tryz.prog laidL ((laidWorld os).forCall (fun _ _ => 0) ⟨#[], args, []⟩).memory := by
  have := (piece os args).met
  unfold laidL
  rw [first_eq, accept_eq]
  exact this
theorem no_bd (W : World) : Bd No W := fun _ h => h.elim
theorem agg_open {P : Program} {w : World} {r : Reach} {base : Nat} {t : TypeId} {v : Value} {fs : Array Field} (ht : P.underlying t = some (.struct fs)) (h : Value.okWide P w r base t v) : ∃ cs : List Value, v = .agg cs.toArray := by
  unfold Value.okWide at h
  rw [ht] at h
  obtain ⟨cs, h1, _⟩ := h
  exact ⟨cs.toList, by simp [h1]⟩
end Go.Proofs.YtcfkkgpnggdlnaaGreatDoor
