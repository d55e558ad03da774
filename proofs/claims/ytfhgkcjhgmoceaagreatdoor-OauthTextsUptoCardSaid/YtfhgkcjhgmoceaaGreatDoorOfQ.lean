import Derived.Test.YtfhgkcjhgmoceaaGreatDoorOfF
import Derived.Test.YtfhgkcjhgmoceaaGreatDoorCards
import Derived.Test.YtfhgkcjhgmoceaaGreatDoorTie
import Derived.Test.YtfhgkcjhgmoceaaGreatDoorLmV
import Derived.ProofKit
import Derived.OpenShut
import Derived.Deep.DeepHandedRow
import Derived.Deep.DeepLaidRun
import Derived.Deep.DeepWitnessRowRef
import Derived.Lib.LaidU8T
import Derived.Lib.LaidTab
import Derived.Lib.LaidIn
import Derived.Stop.LaidErr
import Derived.PinnedBridge
import Derived.Shelf.Vars
set_option linter.all false
namespace Go.Proofs.YtfhgkcjhgmoceaaGreatDoor
section
open Go.Lk Go.Pe Go.Sen Go.RowKit
@[reducible] def Qs {α : Type} (y : Option α) (f : Nat) (i : CIn) (o : α → COut) : Prop := S y fun r => Con Tryz.prog GG f i (o r)
@[reducible] def Q1 {α : Type} (y : Option α) (f : Nat) (vs : List PV) (o : α → List PV) : Prop := Qs y f ⟨vs, [], []⟩ fun r => .ok (o r) [] []
theorem Kf {α : Type} {y : Option α} {f : Nat} {fn : Func} {i : CIn} {o : α → COut} (hf : Tryz.prog.funcs[f]? = some fn) (ann : Ann) (hw : S y fun r => ex TB CT ann (Con Tryz.prog GG) (bodyOf fn) (entry i) (fin TB ann fn.results.toList (o r))) (hok : okC ann fn.ntmps (bodyOf fn) = true := by kernel_rfl)
    (hb : fn.body = some (bodyOf fn) := by exact rfl) (ent : ∀ args w, (callFunc f args).run Tryz.prog w = .ok (.enter f args) w := by exact fun _ _ => rfl) (hnn : Nat.beq f NF = false := by exact rfl) (hl : Nat.ble i.vs.length fn.ntmps = true := by exact rfl) (hnb : ann.nb = i.B.length := by exact rfl) (h1000 : Nat.ble i.B.length 1000 = true := by exact rfl) : Qs y f i o :=
  Con.oS TBG hf ann _ hw hok hb ent Array.toArray_toList.symm hnn hl hnb h1000
end
section
open Go.Lk Go.Pe Go.Sen Go.ChangeShapes Go.WideShapes Go.ChangeAt Go.RowKit
open Go.ChangeMaps (open_string shut_string)
theorem own : ownKnob Tryz.prog.godebug = none := by kernel_rfl
theorem laidOut : laidOutB Tryz.prog = true := by kernel_rfl
theorem rowed : mapsRowed Tryz.prog = true := by kernel_rfl
theorem looks0 : true = Tryz.prog.looks [] := by kernel_rfl
theorem goes0 : Tryz.prog.funcs.any Func.goes = false := by kernel_rfl
theorem main0 : Tryz.prog.mainIs = some (true, "1ca12f7cdcf8e01f7eaa2446ff3d0df7e73a17abd4be48f498f845270243f178".toList) := by kernel_rfl
theorem goes_no (f : FuncId) : Tryz.prog.goes f = false := by
  unfold Program.goes
  rw [goes0, Bool.and_false, Bool.or_false, List.any_eq_false]
  intro g _
  cases hg : Tryz.prog.funcs[g]? with
  | none => simp
  | some fn =>
    have h := Array.any_eq_false.1 goes0
    obtain ⟨hi, he⟩ := Array.getElem?_eq_some_iff.1 hg
    have := h g hi
    rw [he] at this
    simpa using this
theorem goesBy_no {c : OpenClaim} (h : c.start = .entering) : false = c.goesBy Tryz.prog := by
  unfold OpenClaim.goesBy Program.goesAt Program.goesFrom
  rw [h]
  cases Tryz.prog.funcNamed c.func with
  | none => rfl
  | some f => simp [goes_no]
theorem mm_nil (W : World) (O : Nat → Prop) (φ : Nat → Nat) (α : Nat → Value) : Mm W O φ α [] (([] : List (Nat × Nat × List (List D))).map some) :=
  ⟨fun b e h => by simp at h, fun a e h => by simp at h, fun a b h => by simp at h, fun a b e e' h => by simp at h, fun a b e h => by simp at h⟩
theorem fi_nil {vs : List PV} {φ : Nat → Nat} {α : Nat → Value} {W W' : World} (h : Ext (FI ⟨vs, [], []⟩ φ α) W W') : Ext Nowhere W W' :=
  h.mono fun x hx hf => by
    rcases hf with ⟨b, hb, _⟩ | ⟨a, ha, _⟩
    · exact absurd hb (Nat.not_lt_zero _)
    · exact absurd ha (Nat.not_lt_zero _)
theorem first_eq : Rows.laid_unicode_utf8_first = Lib.firstData := Pinned.utf8First_eq
theorem accept_eq : (Rows.laid_unicode_utf8_acceptRanges : DataW Unit) = Lib.acceptData := by kernel_rfl
abbrev laidL : List (String × DataW Unit) := [("math/bits.deBruijn32tab", Rows.laid_math_bits_deBruijn32tab), ("math/bits.deBruijn64tab", Rows.laid_math_bits_deBruijn64tab), ("internal/strconv.uint64pow10", Rows.laid_internal_strconv_uint64pow10), ("unicode/utf8.acceptRanges", Rows.laid_unicode_utf8_acceptRanges), ("strconv.ErrRange", Rows.laid_strconv_ErrRange), ("strconv.ErrSyntax", Rows.laid_strconv_ErrSyntax), ("unicode/utf8.first", Rows.laid_unicode_utf8_first)]
theorem tabs {W : World} (_ : laidMetH Tryz.prog laidL W) (hS : W.ShapedOpen Tryz.prog) : GG.p W No :=
  ⟨cell_of_shapedOpen_int (P := Tryz.prog) (g := 0) (t := 3) (zero := #[.int .i64 0]) hS (of_decide_eq_true (by kernel_rfl)) (by kernel_rfl) rfl (by kernel_rfl) (by kernel_rfl) Tryz.underlying3, id⟩
def litV : DataW Unit → Value
  | .lit (.int k z) => .int k z
  | _ => Go.undef
def litsOf : DataW Unit → Array Value
  | .agg ds => (ds.map litV).toArray
  | _ => #[]
noncomputable def laidWorld (os : Os) : World :=
  let w0 := World.holding Tryz.prog os ⟨#[], #[], []⟩
  let n := w0.heap.size
  let put (h : Array Obj) (g : Nat) (cs : Array Value) : Array Obj := h.modify g fun
    | .cells _ t frozen => .cells cs t frozen
    | o => o
  let h1 := put w0.heap 1 (Lib.firstTab.map fun z => Value.int .u8 z).toArray
  let h2 := put h1 2 ((List.range 16).flatMap fun i => [Value.int .u8 (Lib.accLo i), Value.int .u8 (Lib.accHi i)]).toArray
  let h3 := put h2 4 #[.iface 412 (.pointer (some ⟨n, 0, none⟩))]
  let h4 := put h3 5 #[.iface 412 (.pointer (some ⟨n + 1, 0, none⟩))]
  let h5 := put h4 3 (litsOf Rows.laid_internal_strconv_uint64pow10)
  let h6 := put h5 6 (litsOf Rows.laid_math_bits_deBruijn32tab)
  let h7 := put h6 7 (litsOf Rows.laid_math_bits_deBruijn64tab)
  { w0 with heap := (h7.push (.cells #[.string ⟨#[105, 110, 118, 97, 108, 105, 100, 32, 115, 121, 110, 116, 97, 120]⟩] 414 (0, 0))).push (.cells #[.string ⟨#[118, 97, 108, 117, 101, 32, 111, 117, 116, 32, 111, 102, 32, 114, 97, 110, 103, 101]⟩] 414 (0, 0)) }
abbrev laidM : List (String × DataW Unit) := [("math/bits.deBruijn32tab", Rows.laid_math_bits_deBruijn32tab), ("math/bits.deBruijn64tab", Rows.laid_math_bits_deBruijn64tab), ("internal/strconv.uint64pow10", Rows.laid_internal_strconv_uint64pow10), ("unicode/utf8.acceptRanges", Lib.acceptData), ("strconv.ErrRange", Rows.laid_strconv_ErrRange), ("strconv.ErrSyntax", Rows.laid_strconv_ErrSyntax), ("unicode/utf8.first", Lib.firstData)]
theorem piece (os : Os) (args : Array Value) : LaidIn Tryz.prog ((laidWorld os).forCall (fun _ _ => 0) ⟨#[], args, []⟩).memory laidM (List.range 64) :=
  LaidIn.of_run (List.range 64) 8 (by kernel_rfl) (by kernel_rfl) (by kernel_rfl) (by kernel_rfl)
theorem laid_met (os : Os) (args : Array Value) : laidMet Tryz.prog laidL ((laidWorld os).forCall (fun _ _ => 0) ⟨#[], args, []⟩).memory := by
  have := (piece os args).met
  unfold laidL
  rw [first_eq, accept_eq]
  exact this
theorem no_bd (W : World) : Bd No W := fun _ h => h.elim
theorem agg_open {P : Program} {w : World} {r : Reach} {base : Nat} {t : TypeId} {v : Value} {fs : Array Field} (ht : P.underlying t = some (.struct fs)) (h : Value.okWide P w r base t v) : ∃ cs : List Value, v = .agg cs.toArray := by
  unfold Value.okWide at h
  rw [ht] at h
  obtain ⟨cs, h1, _⟩ := h
  exact ⟨cs.toList, by simp [h1]⟩
end
section
open Go.Lk Go.Pe Go.Sen Go.ChangeShapes Go.WideShapes Go.ChangeAt Go.RowKit
open Go.ChangeMaps (open_string shut_string)
theorem cellsOf3 : Tryz.prog.cellsOf 3 = 1 := by kernel_rfl
theorem cellsOf9 : Tryz.prog.cellsOf 9 = 1 := by kernel_rfl
theorem cellsOf23 : Tryz.prog.cellsOf 23 = 9 := by kernel_rfl
def kys (ks : List (List UInt8)) : Nat := (ks.map fun k => k.length + 1).sum
theorem kys_cons (k : List UInt8) (ks : List (List UInt8)) : kys (k :: ks) = k.length + 1 + kys ks := by simp [kys]
theorem kys_len : ∀ l : List (List UInt8), l.length ≤ kys l
  | [] => Nat.zero_le _
  | k :: l => by rw [kys_cons, List.length_cons]; have := kys_len l; omega
def QS {H : Type} (s : List UInt8) (d : DataW H) : Prop := s.length + 1 ≤ Rows.uptoBulk d
theorem QS_list {H : Type} : ∀ {l : List (List UInt8)} {ds : List (DataW H)}, Q2 QS l ds → kys l ≤ Rows.uptoBulkAll ds
  | [], [], _ => by simp [kys]
  | x :: l, d :: ds, h => by
    obtain ⟨h3, h4⟩ := h
    have h7 := QS_list h4
    simp only [QS] at h3
    rw [kys_cons]
    simp only [Rows.uptoBulkAll]
    omega
  | [], _ :: _, h => h.elim
  | _ :: _, [], h => h.elim
abbrev TR {H : Type} (enc : TypeId × Value → H) (w : World) (held : Bool) (n t : Nat) (cs : List Value) (x : DataW H × List MemPlace) : Prop := DataW.trod enc Tryz.prog w 0 (fun _ => true) held n t cs = some x
theorem tr_of {H : Type} {enc : TypeId × Value → H} {w : World} {held : Bool} {n T k : Nat} {cs : List Value} {x : DataW H × List MemPlace} (hc : Tryz.prog.cellsOf T = k) (h : DataW.trod enc Tryz.prog w 0 (fun _ => true) held n T (cs.take (Tryz.prog.cellsOf T)) = some x) : TR enc w held n T (cs.take k) x := by
  rw [hc] at h
  exact h
theorem len_9 {α : Type} {l : List α} (h : l.length = 9) : ∃ a0 a1 a2 a3 a4 a5 a6 a7 a8, l = [a0, a1, a2, a3, a4, a5, a6, a7, a8] := by
  match l, h with
  | [a0, a1, a2, a3, a4, a5, a6, a7, a8], _ => exact ⟨a0, a1, a2, a3, a4, a5, a6, a7, a8, rfl⟩
def _root_.Go.Sen.T_api_Config.sz (c : T_api_Config) : Nat := c.gIssuer.length + c.gRoot.length + c.gRootSecret.length + c.gSeed.length
theorem open_23 {H : Type} {enc : TypeId × Value → H} {w : World} {held : Bool} (fuel : Nat) (cs : List Value) (y : DataW H × List MemPlace) (h : DataW.trod enc Tryz.prog w 0 (fun _ => true) held fuel 23 cs = some y) : ∃ x : T_api_Config, RDs w No x.enc cs ∧ x.sz + 1 ≤ Rows.uptoBulk y.1 := by
  obtain ⟨xs, n, rfl, rfl, hl, hx, hf⟩ := DataW.trod_struct Tryz.underlying23 h
  rw [cellsOf23] at hl
  obtain ⟨c0, c1, c2, c3, c4, c5, c6, c7, c8, rfl⟩ := len_9 hl
  obtain ⟨x0, x1, x2, x3, x4, x5, x6, x7, x8, rfl⟩ := len_9 (show xs.length = 9 from hx)
  have f0 : TR enc w held n 9 [c0] x0 := by have g := tr_of cellsOf9 (hf 0 _ rfl); exact g
  have f1 : TR enc w held n 9 [c1] x1 := by have g := tr_of cellsOf9 (hf 1 _ rfl); exact g
  have f2 : TR enc w held n 9 [c2] x2 := by have g := tr_of cellsOf9 (hf 2 _ rfl); exact g
  have f3 : TR enc w held n 9 [c3] x3 := by have g := tr_of cellsOf9 (hf 3 _ rfl); exact g
  have f4 : TR enc w held n 3 [c4] x4 := by have g := tr_of cellsOf3 (hf 4 _ rfl); exact g
  have f5 : TR enc w held n 3 [c5] x5 := by have g := tr_of cellsOf3 (hf 5 _ rfl); exact g
  have f6 : TR enc w held n 3 [c6] x6 := by have g := tr_of cellsOf3 (hf 6 _ rfl); exact g
  have f7 : TR enc w held n 3 [c7] x7 := by have g := tr_of cellsOf3 (hf 7 _ rfl); exact g
  have f8 : TR enc w held n 3 [c8] x8 := by have g := tr_of cellsOf3 (hf 8 _ rfl); exact g
  obtain ⟨t0, e0, rfl, w0⟩ := rd_str Tryz.underlying9 f0
  obtain ⟨t1, e1, rfl, w1⟩ := rd_str Tryz.underlying9 f1
  obtain ⟨t2, e2, rfl, w2⟩ := rd_str Tryz.underlying9 f2
  obtain ⟨t3, e3, rfl, w3⟩ := rd_str Tryz.underlying9 f3
  obtain ⟨k4, e4, rfl, w4⟩ := DataW.trod_int Tryz.underlying3 f4
  obtain ⟨k5, e5, rfl, w5⟩ := DataW.trod_int Tryz.underlying3 f5
  obtain ⟨k6, e6, rfl, w6⟩ := DataW.trod_int Tryz.underlying3 f6
  obtain ⟨k7, e7, rfl, w7⟩ := DataW.trod_int Tryz.underlying3 f7
  obtain ⟨k8, e8, rfl, w8⟩ := DataW.trod_int Tryz.underlying3 f8
  simp only [List.cons.injEq, and_true] at e0 e1 e2 e3 e4 e5 e6 e7 e8
  subst e0 e1 e2 e3 e4 e5 e6 e7 e8
  refine ⟨⟨t0, t1, t2, t3, k4, k5, k6, k7, k8⟩, ?_, ?_⟩
  · exact ⟨_, _, rfl, rfl, ⟨_, _, rfl, rfl, ⟨_, _, rfl, rfl, ⟨_, _, rfl, rfl, ⟨_, _, rfl, rfl, ⟨_, _, rfl, rfl, ⟨_, _, rfl, rfl, ⟨_, _, rfl, rfl, ⟨_, _, rfl, rfl, rfl⟩⟩⟩⟩⟩⟩⟩⟩⟩
  · simp only [T_api_Config.sz, Rows.uptoBulk, Rows.uptoBulkAll, List.map_cons, List.map_nil]
    omega
set_option maxRecDepth 100000 in
theorem open_Draws {H : Type} {enc : TypeId × Value → H} {w : World} {held : Bool} {r : Reach} {b0 : Nat} {v : Value} {d : DataW H} {ps : List MemPlace} (hval : Value.okWide Tryz.prog w r b0 24 v) (hd : DataW.Trod enc Tryz.prog w 0 (fun _ => true) held 24 v d ps) : ∃ l : List (List UInt8), RD w No (.sl 9 1 (l.map eS)) v ∧ l.length + 1 ≤ Rows.uptoBulk d := by
  obtain ⟨a, n, c, rfl⟩ := okWide_slice Tryz.underlying24 hval
  obtain ⟨fuel, hf⟩ := hd
  obtain ⟨u, l, e, h3, -, h5⟩ := rd_sl Tryz.underlying24 cellsOf9 (by decide) eS (QS (H := H)) (fun g hg cs y hh => by
    obtain ⟨s, e, rfl, _⟩ := rd_str Tryz.underlying9 hh
    exact ⟨s, ⟨_, _, e, rfl, rfl⟩, by simp [QS, Rows.uptoBulk]⟩) hf
  simp only [Value.cells, List.cons.injEq, and_true] at e
  subst e
  refine ⟨l, h3, ?_⟩
  have hkl := kys_len l
  rcases h5 with ⟨h6, rfl⟩ | ⟨es, rest, h6, h7⟩
  · simp only at h6; rw [h6]; simp [Rows.uptoBulk]
  · have h8 := QS_list h7
    simp only at h6
    rw [h6]
    simp only [Rows.uptoBulk]; omega
theorem VRs_23 {w : World} {O : Nat → Prop} {φ : Nat → Nat} {α : Nat → Value} {x : T_api_Config} {cs : List Value} (h : RDs w O x.enc cs) : VRs w O φ α x.v cs := by
  rw [T_api_Config.enc_c] at h
  exact ofDs_ok h
end
end Go.Proofs.YtfhgkcjhgmoceaaGreatDoor
