/- LkP: models and contracts of the program's functions, printed by a program of ours. -/
import Derived.Test.YtmbckfhcljgniaaDoorRows
import Derived.Test.YtmbckfhcljgniaaDoorLkM
import Derived.Shelf.Unicode.ValidAny
import Derived.Test.YtmbckfhcljgniaaDoorLkU
import Derived.Test.YtmbckfhcljgniaaDoorCC
import Derived.Test.YtmbckfhcljgniaaDoorTrydShP
import Derived.Test.YtmbckfhcljgniaaDoorLkPp0
namespace Go.Proofs.YtmbckfhcljgniaaDoor
open Go.Lk Go.RowKit
set_option maxRecDepth 1000000 in
set_option maxHeartbeats 4000000 in
theorem C.cbor_Decode_own (fuel : Nat) : ∀ (p0 : List UInt8) (r : T_api_Cbor × Int × Int), M.cbor_Decode fuel p0 = some r → ∀ (w0 : World) (O0 : Nat → Prop) (B0 : Bd O0 w0) (G0 : Glob w0 O0), Calls Tryd.prog 7 (List.toArray [Value.string ⟨List.toArray p0⟩]) w0 (fun e w' => ∃ (u0_3 : Value), e = .returned (Value.tuple (List.toArray [Value.agg (List.toArray [Value.int .i64 r.1.gKind, Value.int .i64 r.1.gNum, Value.string ⟨List.toArray r.1.gText⟩, u0_3]), Value.int .i64 r.2.1, Value.int .i64 r.2.2])) ∧ Own w' (fun x => O0 x ∨ u0_3.ownBlock = some x) 24 4 u0_3 (r.1.gList.map T_api_Cbor.enc) ∧ (∀ b, u0_3.ownBlock = some b → w0.heap.size ≤ b) ∧ Ext Nowhere w0 w') := by
  intro p0 r hm w0 O0  B0 G0 
  refine calls_ofD Tryd.func7 rfl 25 rfl rfl ?_
  unfold M.cbor_Decode at hm
  have X0 := Ext.refl Nowhere w0
  refine TW.seq (TW.region ?_)
  refine OW.alloc rfl rfl rfl rfl zer_24 (cs := [Value.int .i64 0, Value.int .i64 0, Value.string ⟨List.toArray ([] : List UInt8)⟩, Value.slice none 0 0]) rfl ?_
  intro b1 w2 hb3 x4 l5
  have t6 := Tr.of_new (O := O0) x4 (fun _ _ h => h.elim) l5
  have B8 := (B0.ext x4).ins hb3.lt
  have X7 := X0.step x4 (fun _ _ h => h.elim)
  have g9 : w0.heap.size ≤ b1 := Nat.le_trans X0.size l5
  refine OW.assign rfl rfl rfl rfl rfl ?_
  refine OW.alloc rfl rfl rfl rfl zer_25 (cs := [Value.int .i64 0]) rfl ?_
  intro b10 w11 hb12 x13 l14
  have t15 := Tr.of_new (O := (Ins O0 b1)) x13 (fun _ _ h => h.elim) l14
  have B17 := (B8.ext x13).ins hb12.lt
  have X16 := X7.step x13 (fun _ _ h => h.elim)
  have g18 : w0.heap.size ≤ b10 := Nat.le_trans X7.size l14
  have n19 : b1 ≠ b10 := by have := hb3.lt; omega
  refine OW.done (TW.seq (TW.seq (TW.region ?_)))
  refine OW.move rfl rfl rfl rfl rfl ?_
  refine OW.lenS rfl rfl rfl rfl Tryd.underlying9 rfl ?_
  refine OW.binI rfl rfl rfl rfl rfl rfl rfl ?_
  refine OW.done ?_
  refine TW.cond rfl (fun c20 => ?_) (fun c20 => ?_)
  · have hm := ite_t c20 hm
    refine TW.seq (TW.region ?_)
    have hb21 := (hb3.keep x13 (fun h => h))
    refine OW.loadN rfl rfl rfl rfl shp_24 rfl hb21 (vs := [Value.int .i64 0, Value.int .i64 0, Value.string ⟨List.toArray ([] : List UInt8)⟩, Value.slice none 0 0]) rfl rfl ?_
    refine OW.store rfl rfl rfl shp_24 rfl rfl (vs := [Value.int .i64 0, Value.int .i64 0, Value.string ⟨List.toArray ([] : List UInt8)⟩, Value.slice none 0 0]) rfl rfl hb21 rfl (one_cons rfl (one_cons rfl (one_cons rfl (one_cons rfl one_nil)))) (cs' := [Value.int .i64 0, Value.int .i64 0, Value.string ⟨List.toArray ([] : List UInt8)⟩, Value.slice none 0 0]) rfl ?_
    intro w22 hb23 x24
    have t25 := Tr.of_ext (O := (Ins (Ins O0 b1) b10)) x24 (fun _ _ h => by cases h; exact (Or.inr (Or.inl rfl)))
    have B27 := B17.ext x24
    have X26 := X16.step x24 (fun y hy h => absurd hy (by cases h; have := g9; omega))
    refine OW.assign rfl rfl rfl rfl rfl ?_
    have hb28 := (hb12.keep x24 (Ne.symm n19))
    refine OW.store rfl rfl rfl shp_25 rfl rfl (vs := [Value.int .i64 32]) rfl rfl hb28 rfl (one_cons rfl one_nil) (cs' := [Value.int .i64 32]) rfl ?_
    intro w29 hb30 x31
    have t32 := Tr.of_ext (O := (Ins (Ins O0 b1) b10)) x31 (fun _ _ h => by cases h; exact (Or.inl rfl))
    have B34 := B27.ext x31
    have X33 := X26.step x31 (fun y hy h => absurd hy (by cases h; have := g18; omega))
    refine OW.done ?_
    have hb35 := (hb23.keep x31 n19)
    cases hm
    exact TW.ret (Out.many rfl ⟨_, _, rfl, ⟨_, _, _, _, _, rfl, shp_24, hb35, rfl, rfl⟩, ⟨_, _, rfl, rfl, ⟨_, _, rfl, ⟨_, _, _, _, _, rfl, shp_25, hb30, rfl, rfl⟩, rfl⟩⟩⟩ rfl) ⟨_, rfl, (Own.nil' _ _ _ _), (fun b h => by cases h), X33⟩
  · have hm := ite_f c20 hm
    refine TW.skip (TW.seq (TW.deferR rfl rfl rfl rfl rfl ?_))
    refine TW.seq (TW.region ?_)
    refine OW.move rfl rfl rfl rfl rfl ?_
    refine OW.build rfl rfl rfl rfl rfl (cs := [Value.string ⟨List.toArray p0⟩]) rfl ?_
    have hb41 := (hb3.keep x13 (fun h => h))
    refine OW.box rfl rfl rfl rfl rfl (cs := [Value.string ⟨List.toArray p0⟩]) rfl ?_
    intro b36 w37 hb38 x39 l40
    have t42 := Tr.of_new (O := (Ins (Ins O0 b1) b10)) x39 (fun _ _ h => h.elim) l40
    have B44 := (B17.ext x39).ins hb38.lt
    have X43 := X16.step x39 (fun _ _ h => h.elim)
    have g45 : w0.heap.size ≤ b36 := Nat.le_trans X16.size l40
    have n46 : b1 ≠ b36 := by have := hb41.lt; omega
    have n47 : b10 ≠ b36 := by have := hb12.lt; omega
    refine OW.assign rfl rfl rfl rfl rfl ?_
    refine OW.done (TW.seq (TW.region ?_))
    refine OW.move rfl rfl rfl rfl rfl ?_
    have hb48 := (hb41.keep x39 (fun h => h))
    have hb49 := (hb12.keep x39 (fun h => h))
    have h50 := G0.tr (t6.trans (t15.trans t42))
    obtain ⟨y51, hy52, hm⟩ := bnd hm
    rcases y51 with a53 | pv54
    · dsimp only at hm
      refine OW.call rfl rfl rfl rfl rfl rfl Tryd.call18 ((C.cbor_reader_item_own _ _ _ _ hy52 _ (Ins (Ins (Ins O0 b1) b10) b36) _ _ B44 h50 hb38 (T_cbor_reader.shut (x := (T_cbor_reader.mk p0))) (Or.inl rfl)).mono ?_)
      rintro e w79 ⟨v73, cs76, rfl, h74, h75, hb77, h78, x80⟩
      obtain rfl := T_cbor_reader.opn h78
      refine CallK.ret ?_
      have t81 := Tr.of_own (O := (Ins (Ins (Ins O0 b1) b10) b36)) x80 (fun _ _ h => by cases h; exact (Or.inl rfl)) (fun b h => Or.inr (h75 b h))
      have X82 := X43.step x80 (fun y hy h => absurd hy (by cases h; have := g45; omega))
      have B83 : Bd (fun x => (Ins (Ins (Ins O0 b1) b10) b36) x ∨ v73.ownBlock = some x) w79 := Bd.own (B44.ext x80) h74.lt
      have gv84 : ∀ b, v73.ownBlock = some b → b < w0.heap.size → Nowhere b := fun b h hl => absurd hl (by have := X43.size; have := h75 b h; omega)
      have n85 : v73.ownBlock ≠ some b1 := fun h => by have := h75 _ h; have := hb48.lt; omega
      have n86 : v73.ownBlock ≠ some b10 := fun h => by have := h75 _ h; have := hb49.lt; omega
      have n87 : v73.ownBlock ≠ some b36 := fun h => by have := h75 _ h; have := hb38.lt; omega
      have ho88 : Own w79 (fun x => (Ins (Ins (Ins O0 b1) b10) b36) x ∨ v73.ownBlock = some x) 24 4 v73 (a53.1.gList.map T_api_Cbor.enc) := h74
      have hb94 := (hb48.keep x80 n46)
      have hb95 := (hb49.keep x80 n47)
      refine OW.alloc rfl rfl rfl rfl zer_24 (cs := [Value.int .i64 0, Value.int .i64 0, Value.string ⟨List.toArray ([] : List UInt8)⟩, Value.slice none 0 0]) rfl ?_
      intro b89 w90 hb91 x92 l93
      have t96 := Tr.of_new (O := (fun x => (Ins (Ins (Ins O0 b1) b10) b36) x ∨ v73.ownBlock = some x)) x92 (fun _ _ h => h.elim) l93
      have B98 := (B83.ext x92).ins hb91.lt
      have X97 := X82.step x92 (fun _ _ h => h.elim)
      have g99 : w0.heap.size ≤ b89 := Nat.le_trans X82.size l93
      have n100 : b1 ≠ b89 := by have := hb94.lt; omega
      have n101 : b10 ≠ b89 := by have := hb95.lt; omega
      have n102 : b36 ≠ b89 := by have := hb77.lt; omega
      have n103 : v73.ownBlock ≠ some b89 := fun h => by have := ho88.lt _ h; omega
      have hb104 := (hb94.keep x92 (fun h => h))
      have hb105 := (hb95.keep x92 (fun h => h))
      have hb106 := (hb77.keep x92 (fun h => h))
      have ho107 := (ho88.keep x92 (fun _ _ h => h) t96 (fun _ h => Or.inr h))
      refine OW.store rfl rfl rfl shp_24 rfl rfl (vs := [Value.int .i64 a53.1.gKind, Value.int .i64 a53.1.gNum, Value.string ⟨List.toArray a53.1.gText⟩, v73]) rfl rfl hb91 rfl (one_cons rfl (one_cons rfl (one_cons rfl (one_cons ho107.one one_nil)))) (cs' := [Value.int .i64 a53.1.gKind, Value.int .i64 a53.1.gNum, Value.string ⟨List.toArray a53.1.gText⟩, v73]) rfl ?_
      intro w108 hb109 x110
      have t111 := Tr.of_ext (O := (Ins (fun x => (Ins (Ins (Ins O0 b1) b10) b36) x ∨ v73.ownBlock = some x) b89)) x110 (fun _ _ h => by cases h; exact (Or.inl rfl))
      have B113 := B98.ext x110
      have X112 := X97.step x110 (fun y hy h => absurd hy (by cases h; have := g99; omega))
      refine OW.done (TW.seq ?_)
      refine TW.drawP [0, 0, 2, 0, 8, 24, 56, 120, 254, 1, 1023, 2047] [0, 1, 2, 3, 4, 5, 6, 7, 8] [(9, [1, 2, 3, 4, 5, 6, 7, 8], [10]), (11, [], [])] mix (by kernel_rfl) ?_
      intro w114 x115
      have t116 := Tr.of_ext (O := (Ins (fun x => (Ins (Ins (Ins O0 b1) b10) b36) x ∨ v73.ownBlock = some x) b89)) x115 (fun _ _ h => h.elim)
      have B118 := B113.ext x115
      have X117 := X112.step x115 (fun _ _ h => h.elim)
      have hb119 := (hb109.keep x115 (fun h => h))
      have hb120 := ((hb106.keep x110 n102).keep x115 (fun h => h))
      refine DP.put [(16, Value.agg (List.toArray [Value.int .i64 a53.1.gKind, Value.int .i64 a53.1.gNum, Value.string ⟨List.toArray a53.1.gText⟩, v73])), (17, Value.string ⟨List.toArray p0⟩), (18, Value.int .i64 (p0.length : Int)), (19, Value.pointer (some ⟨b36, 0, none⟩)), (20, Value.pointer (some ⟨b36, 0, none⟩)), (21, Value.pointer (some ⟨b36, 0 + 0, none⟩)), (22, Value.string ⟨List.toArray a53.2.gs⟩), (23, Value.int .i64 (a53.2.gs.length : Int)), (24, Value.int .i64 (IntKind.wrap .i64 ((p0.length : Int) - (a53.2.gs.length : Int))))] rfl ?_
      refine DW.next (StabE.cons rfl rfl rfl rfl (EX.loadN rfl shp_24 rfl hb119 (vs := [Value.int .i64 a53.1.gKind, Value.int .i64 a53.1.gNum, Value.string ⟨List.toArray a53.1.gText⟩, v73]) rfl rfl) (StabE.cons rfl rfl rfl rfl (EX.move rfl rfl) (StabE.cons rfl rfl rfl rfl (EX.lenS rfl Tryd.underlying9 rfl) (StabE.cons rfl rfl rfl rfl (EX.move rfl rfl) (StabE.cons rfl rfl rfl rfl (EX.nilCheck rfl rfl) (StabE.cons rfl rfl rfl rfl (EX.fieldAddr rfl fld_44_0 rfl) (StabE.cons rfl rfl rfl rfl (EX.load1 rfl shp_9 rfl hb120 rfl) (StabE.cons rfl rfl rfl rfl (EX.lenS rfl Tryd.underlying9 rfl) (StabE.cons rfl rfl rfl rfl (EX.binI rfl rfl rfl rfl) StabE.nil))))))))) rfl ?_
      have hb121 := ((hb104.keep x110 n100).keep x115 (fun h => h))
      have hb122 := ((hb105.keep x110 n101).keep x115 (fun h => h))
      have ho123 := ((ho107.keep x110 (fun b h e => n103 (e ▸ h)) t111 (fun _ h => h)).keep x115 (fun _ _ h => h) t116 (fun _ h => h))
      refine OW.store rfl rfl rfl shp_24 rfl rfl (vs := [Value.int .i64 a53.1.gKind, Value.int .i64 a53.1.gNum, Value.string ⟨List.toArray a53.1.gText⟩, v73]) rfl rfl hb121 rfl (one_cons rfl (one_cons rfl (one_cons rfl (one_cons ho123.one one_nil)))) (cs' := [Value.int .i64 a53.1.gKind, Value.int .i64 a53.1.gNum, Value.string ⟨List.toArray a53.1.gText⟩, v73]) rfl ?_
      intro w124 hb125 x126
      have t127 := Tr.of_ext (O := (Ins (fun x => (Ins (Ins (Ins O0 b1) b10) b36) x ∨ v73.ownBlock = some x) b89)) x126 (fun _ _ h => by cases h; exact (Or.inr (Or.inl (Or.inr (Or.inr (Or.inl rfl))))))
      have B129 := B118.ext x126
      have X128 := X117.step x126 (fun y hy h => absurd hy (by cases h; have := g9; omega))
      refine DP.ow ?_
      refine DP.put [(3, Value.int .i64 (IntKind.wrap .i64 ((p0.length : Int) - (a53.2.gs.length : Int))))] rfl ?_
      have hb130 := (hb120.keep x126 (Ne.symm n46))
      refine DW.next (StabE.cons rfl rfl rfl rfl (EX.move rfl rfl) (StabE.cons rfl rfl rfl rfl (EX.lenS rfl Tryd.underlying9 rfl) (StabE.cons rfl rfl rfl rfl (EX.move rfl rfl) (StabE.cons rfl rfl rfl rfl (EX.nilCheck rfl rfl) (StabE.cons rfl rfl rfl rfl (EX.fieldAddr rfl fld_44_0 rfl) (StabE.cons rfl rfl rfl rfl (EX.load1 rfl shp_9 rfl hb130 rfl) (StabE.cons rfl rfl rfl rfl (EX.lenS rfl Tryd.underlying9 rfl) (StabE.cons rfl rfl rfl rfl (EX.binI rfl rfl rfl rfl) (StabE.cons rfl rfl rfl rfl (EX.assign rfl rfl) StabE.nil))))))))) rfl ?_
      have hb131 := (hb122.keep x126 (Ne.symm n19))
      have hb132 := (hb119.keep x126 (Ne.symm n100))
      have ho133 := (ho123.keep x126 (fun b h e => n85 (e ▸ h)) t127 (fun _ h => h))
      refine OW.store rfl rfl rfl shp_25 rfl rfl (vs := [Value.int .i64 0]) rfl rfl hb131 rfl (one_cons rfl one_nil) (cs' := [Value.int .i64 0]) rfl ?_
      intro w134 hb135 x136
      have t137 := Tr.of_ext (O := (Ins (fun x => (Ins (Ins (Ins O0 b1) b10) b36) x ∨ v73.ownBlock = some x) b89)) x136 (fun _ _ h => by cases h; exact (Or.inr (Or.inl (Or.inr (Or.inl rfl)))))
      have B139 := B129.ext x136
      have X138 := X128.step x136 (fun y hy h => absurd hy (by cases h; have := g18; omega))
      refine DP.ow ?_
      refine DP.put [] rfl ?_
      refine DW.end' StabE.nil ?_
      have hb140 := (hb125.keep x136 n19)
      have hb141 := (hb130.keep x136 (Ne.symm n47))
      have hb142 := (hb132.keep x136 (Ne.symm n101))
      have ho143 := (ho133.keep x136 (fun b h e => n86 (e ▸ h)) t137 (fun _ h => h))
      refine TW.retD rfl (LV.ret2 Tryd.call17 (C.caught_ret _ _) ?_)
      intro w144 x145
      have t146 := Tr.of_ext (O := (Ins (fun x => (Ins (Ins (Ins O0 b1) b10) b36) x ∨ v73.ownBlock = some x) b89)) x145 (fun _ _ h => h.elim)
      have B148 := B139.ext x145
      have X147 := X138.step x145 (fun _ _ h => h.elim)
      have hb149 := (hb140.keep x145 (fun h => h))
      have hb150 := (hb135.keep x145 (fun h => h))
      have ho151 := (ho143.keep x145 (fun _ _ h => h) t146 (fun _ h => h))
      cases hm
      exact ⟨_, (Out.many rfl ⟨_, _, rfl, ⟨_, _, _, _, _, rfl, shp_24, hb149, rfl, rfl⟩, ⟨_, _, rfl, rfl, ⟨_, _, rfl, ⟨_, _, _, _, _, rfl, shp_25, hb150, rfl, rfl⟩, rfl⟩⟩⟩ rfl), ⟨_, rfl, (ho151.down (fun x h => h.elim (fun h => (Or.inr (Or.inl (Or.inr (Or.inr (Or.inr h)))))) (fun h => ho151.mem x h)) (fun b h => Or.inr h)), (fun b h => (Nat.lt_or_ge b w0.heap.size).elim (fun hl => (gv84 b h hl).elim) id), X147⟩⟩
    · dsimp only at hm
      obtain ⟨e55, he56, hm⟩ := bnd hm
      have hv57 := asErr_some he56
      subst hv57
      refine OW.call rfl rfl rfl rfl rfl rfl Tryd.call18 ((C.cbor_reader_item_own _ _ _ _ hy52 _ (Ins (Ins (Ins O0 b1) b10) b36) _ _ B44 h50 hb38 (T_cbor_reader.shut (x := (T_cbor_reader.mk p0))) (Or.inl rfl)).mono ?_)
      rintro e w58 ⟨rfl, x59⟩
      have t60 := Tr.of_ext (O := (Ins (Ins (Ins O0 b1) b10) b36)) x59 (fun _ _ h => by cases h; exact (Or.inl rfl))
      have B62 := B44.ext x59
      have X61 := X43.step x59 (fun y hy h => absurd hy (by cases h; have := g45; omega))
      have hb63 := (hb49.keep x59 n47)
      have h64 := h50.tr t60
      have hb65 := (hb48.keep x59 n46)
      refine CallK.panD rfl rfl (LV.pan2 _ Tryd.call17 (C.caught_pan _ _ _ _ hb63) ?_)
      rintro w66 ⟨hb67, x68⟩
      have t69 := Tr.of_ext (O := (Ins (Ins (Ins O0 b1) b10) b36)) x68 (fun _ _ h => by cases h; exact (Or.inr (Or.inl rfl)))
      have B71 := B62.ext x68
      have X70 := X61.step x68 (fun y hy h => absurd hy (by cases h; have := g18; omega))
      have hb72 := (hb65.keep x68 n19)
      cases hm
      exact ⟨_, (Out.many rfl ⟨_, _, rfl, ⟨_, _, _, _, _, rfl, shp_24, hb72, rfl, rfl⟩, ⟨_, _, rfl, rfl, ⟨_, _, rfl, ⟨_, _, _, _, _, rfl, shp_25, hb67, rfl, rfl⟩, rfl⟩⟩⟩ rfl), ⟨_, rfl, (Own.nil' _ _ _ _), (fun b h => by cases h), X70⟩⟩
set_option maxRecDepth 1000000 in
set_option maxHeartbeats 4000000 in
theorem C.r03_reader_head : ∀ (p0 : T_seneschalref03_reader) (r : Int × Int × Bool × T_seneschalref03_reader), M.r03_reader_head p0 = some r → ∀ (w0 : World) (O0 : Nat → Prop) (b0 : Nat) (cs0 : List Value) (B0 : Bd O0 w0) (G0 : Glob w0 O0) (hb0 : BoxAt w0 b0 48 cs0) (h0 : RDs w0 O0 (T_seneschalref03_reader.enc p0) cs0) (m0 : O0 b0), Calls Tryd.prog 33 (List.toArray [Value.pointer (some ⟨b0, 0, none⟩)]) w0 (fun e w' => ∃ (ds0 : List Value), e = .returned (Value.tuple (List.toArray [Value.int .i64 r.1, Value.int .i64 r.2.1, Value.bool r.2.2.1])) ∧ BoxAt w' b0 48 ds0 ∧ RDs w' O0 (T_seneschalref03_reader.enc r.2.2.2) ds0 ∧ Ext (At b0) w0 w') := by
  intro p0 r hm w0 O0 b0 cs0 B0 G0 hb0 h0 m0
  refine calls_of Tryd.func33 rfl 124 rfl rfl ?_
  unfold M.r03_reader_head at hm
  have X0 := Ext.refl (At b0) w0
  obtain rfl := T_seneschalref03_reader.opn h0
  refine TW.seq (TW.region ?_)
  refine OW.assign rfl rfl rfl rfl rfl ?_
  refine OW.assign rfl rfl rfl rfl rfl ?_
  refine OW.assign rfl rfl rfl rfl rfl ?_
  refine OW.done (TW.seq (TW.seq ?_))
  refine TW.drawP [0, 1, 3, 7, 0, 16, 48, 112, 240, 511] [0, 1, 2, 3, 4, 5, 6, 7, 8, 9] [] mix (by kernel_rfl) ?_
  intro w1 x2
  have t3 := Tr.of_ext (O := O0) x2 (fun _ _ h => h.elim)
  have B5 := B0.ext x2
  have X4 := X0.step x2 (fun _ _ h => h.elim)
  have hb6 := (hb0.keep x2 (fun h => h))
  refine DP.put [(10, Value.pointer (some ⟨b0, 0, none⟩)), (11, Value.pointer (some ⟨b0, 0, none⟩)), (12, Value.pointer (some ⟨b0, 0 + 1, none⟩)), (13, Value.int .i64 p0.gi), (14, Value.pointer (some ⟨b0, 0, none⟩)), (15, Value.pointer (some ⟨b0, 0, none⟩)), (16, Value.pointer (some ⟨b0, 0 + 0, none⟩)), (17, Value.string ⟨List.toArray p0.gs⟩), (18, Value.int .i64 (p0.gs.length : Int)), (19, Value.bool (decide ((p0.gs.length : Int) ≤ p0.gi)))] rfl ?_
  refine DW.end' (StabE.cons rfl rfl rfl rfl (EX.move rfl rfl) (StabE.cons rfl rfl rfl rfl (EX.nilCheck rfl rfl) (StabE.cons rfl rfl rfl rfl (EX.fieldAddr rfl fld_48_1 rfl) (StabE.cons rfl rfl rfl rfl (EX.load1 rfl shp_3 rfl hb6 rfl) (StabE.cons rfl rfl rfl rfl (EX.move rfl rfl) (StabE.cons rfl rfl rfl rfl (EX.nilCheck rfl rfl) (StabE.cons rfl rfl rfl rfl (EX.fieldAddr rfl fld_48_0 rfl) (StabE.cons rfl rfl rfl rfl (EX.load1 rfl shp_9 rfl hb6 rfl) (StabE.cons rfl rfl rfl rfl (EX.lenS rfl Tryd.underlying9 rfl) (StabE.cons rfl rfl rfl rfl (EX.binI rfl rfl rfl rfl) StabE.nil)))))))))) ?_
  refine TW.cond rfl (fun c7 => ?_) (fun c7 => ?_)
  · have hm := ite_t c7 hm
    refine TW.seq (TW.region ?_)
    refine OW.assign rfl rfl rfl rfl rfl ?_
    refine OW.assign rfl rfl rfl rfl rfl ?_
    refine OW.assign rfl rfl rfl rfl rfl ?_
    refine OW.done ?_
    cases hm
    exact TW.ret (Out.many rfl ⟨_, _, rfl, rfl, ⟨_, _, rfl, rfl, ⟨_, _, rfl, rfl, rfl⟩⟩⟩ rfl) ⟨_, rfl, hb6, (T_seneschalref03_reader.shut (x := p0)), X4⟩
  · have hm := ite_f c7 hm
    refine TW.skip (TW.seq ?_)
    refine TW.drawP [0, 1, 3, 7, 0, 16, 48, 112, 255, 511, 1023, 0, 2048, 6144, 14336, 0, 32768, 98304, 229376, 522240, 1046528, 2095104, 2047, 8388607] [0, 1, 2, 3, 4, 5, 6, 7, 8, 9, 10, 11, 12, 13, 14, 15, 16, 17, 18, 19, 20, 21, 22, 23] [] mix (by kernel_rfl) ?_
    intro w8 x9
    have t10 := Tr.of_ext (O := O0) x9 (fun _ _ h => h.elim)
    have B12 := B5.ext x9
    have X11 := X4.step x9 (fun _ _ h => h.elim)
    have hb13 := (hb6.keep x9 (fun h => h))
    obtain ⟨c14, h15, hm⟩ := bnd hm
    obtain ⟨j16, hj17, hc18⟩ := ix_some h15
    obtain ⟨c19, h20, hm⟩ := bnd hm
    obtain ⟨j21, hj22, hc23⟩ := ix_some h20
    refine DP.put [(20, Value.pointer (some ⟨b0, 0, none⟩)), (21, Value.pointer (some ⟨b0, 0, none⟩)), (22, Value.pointer (some ⟨b0, 0 + 0, none⟩)), (23, Value.string ⟨List.toArray p0.gs⟩), (24, Value.pointer (some ⟨b0, 0, none⟩)), (25, Value.pointer (some ⟨b0, 0, none⟩)), (26, Value.pointer (some ⟨b0, 0 + 1, none⟩)), (27, Value.int .i64 p0.gi), (28, Value.int .u8 (c14.toNat : Int)), (29, Value.int .u8 (shrI .u8 (c14.toNat : Int) 5)), (30, Value.int .i64 (IntKind.wrap .i64 (shrI .u8 (c14.toNat : Int) 5))), (31, Value.pointer (some ⟨b0, 0, none⟩)), (32, Value.pointer (some ⟨b0, 0, none⟩)), (33, Value.pointer (some ⟨b0, 0 + 0, none⟩)), (34, Value.string ⟨List.toArray p0.gs⟩), (35, Value.pointer (some ⟨b0, 0, none⟩)), (36, Value.pointer (some ⟨b0, 0, none⟩)), (37, Value.pointer (some ⟨b0, 0 + 1, none⟩)), (38, Value.int .i64 p0.gi), (39, Value.int .u8 (c19.toNat : Int)), (40, Value.int .u8 (andI .u8 (c19.toNat : Int) 31)), (41, Value.int .i64 (IntKind.wrap .i64 (andI .u8 (c19.toNat : Int) 31))), (5, Value.int .i64 (IntKind.wrap .i64 (shrI .u8 (c14.toNat : Int) 5))), (6, Value.int .i64 (IntKind.wrap .i64 (andI .u8 (c19.toNat : Int) 31)))] rfl ?_
    refine DW.end' (StabE.cons rfl rfl rfl rfl (EX.move rfl rfl) (StabE.cons rfl rfl rfl rfl (EX.nilCheck rfl rfl) (StabE.cons rfl rfl rfl rfl (EX.fieldAddr rfl fld_48_0 rfl) (StabE.cons rfl rfl rfl rfl (EX.load1 rfl shp_9 rfl hb13 rfl) (StabE.cons rfl rfl rfl rfl (EX.move rfl rfl) (StabE.cons rfl rfl rfl rfl (EX.nilCheck rfl rfl) (StabE.cons rfl rfl rfl rfl (EX.fieldAddr rfl fld_48_1 rfl) (StabE.cons rfl rfl rfl rfl (EX.load1 rfl shp_3 rfl hb13 rfl) (StabE.cons rfl rfl rfl rfl (EX.indexS rfl Tryd.underlying9 rfl rfl hj17 hc18) (StabE.cons rfl rfl rfl rfl (EX.shiftI rfl rfl rfl (by decide) rfl) (StabE.cons rfl rfl rfl rfl (EX.convI rfl Tryd.underlying5 Tryd.underlying3 rfl) (StabE.cons rfl rfl rfl rfl (EX.move rfl rfl) (StabE.cons rfl rfl rfl rfl (EX.nilCheck rfl rfl) (StabE.cons rfl rfl rfl rfl (EX.fieldAddr rfl fld_48_0 rfl) (StabE.cons rfl rfl rfl rfl (EX.load1 rfl shp_9 rfl hb13 rfl) (StabE.cons rfl rfl rfl rfl (EX.move rfl rfl) (StabE.cons rfl rfl rfl rfl (EX.nilCheck rfl rfl) (StabE.cons rfl rfl rfl rfl (EX.fieldAddr rfl fld_48_1 rfl) (StabE.cons rfl rfl rfl rfl (EX.load1 rfl shp_3 rfl hb13 rfl) (StabE.cons rfl rfl rfl rfl (EX.indexS rfl Tryd.underlying9 rfl rfl hj22 hc23) (StabE.cons rfl rfl rfl rfl (EX.binI rfl rfl rfl rfl) (StabE.cons rfl rfl rfl rfl (EX.convI rfl Tryd.underlying5 Tryd.underlying3 rfl) (StabE.cons rfl rfl rfl rfl (EX.assign rfl rfl) (StabE.cons rfl rfl rfl rfl (EX.assign rfl rfl) StabE.nil)))))))))))))))))))))))) ?_
    refine TW.seq (TW.region ?_)
    refine OW.move rfl rfl rfl rfl rfl ?_
    refine OW.nilCheck rfl rfl rfl rfl rfl ?_
    refine OW.fieldAddr rfl rfl rfl rfl fld_48_1 rfl ?_
    refine OW.load1 rfl rfl rfl rfl shp_3 rfl hb13 rfl ?_
    refine OW.binI rfl rfl rfl rfl rfl rfl rfl ?_
    refine OW.nilCheck rfl rfl rfl rfl rfl ?_
    refine OW.fieldAddr rfl rfl rfl rfl fld_48_1 rfl ?_
    refine OW.store rfl rfl rfl shp_3 rfl rfl (vs := [Value.int .i64 (IntKind.wrap .i64 (p0.gi + 1))]) rfl rfl hb13 rfl (one_cons rfl one_nil) (cs' := [Value.string ⟨List.toArray p0.gs⟩, Value.int .i64 (IntKind.wrap .i64 (p0.gi + 1))]) rfl ?_
    intro w24 hb25 x26
    have t27 := Tr.of_ext (O := O0) x26 (fun _ _ h => by cases h; exact m0)
    have B29 := B12.ext x26
    have X28 := X11.step x26 (fun y hy h => h)
    refine OW.done (TW.seq (TW.seq (TW.region ?_)))
    refine OW.move rfl rfl rfl rfl rfl ?_
    refine OW.binI rfl rfl rfl rfl rfl rfl rfl ?_
    refine OW.move rfl rfl rfl rfl rfl ?_
    refine OW.blk 3 (fun K => K [(54, Value.bool ((decide (5 < (IntKind.wrap .i64 (shrI .u8 (c14.toNat : Int) 5)))) || (decide (27 < (IntKind.wrap .i64 (andI .u8 (c19.toNat : Int) 31)))))), (0, Value.pointer (some ⟨b0, 0, none⟩)), (5, Value.int .i64 (IntKind.wrap .i64 (shrI .u8 (c14.toNat : Int) 5))), (6, Value.int .i64 (IntKind.wrap .i64 (andI .u8 (c19.toNat : Int) 31))), (49, Value.int .i64 (IntKind.wrap .i64 (shrI .u8 (c14.toNat : Int) 5))), (50, Value.bool (decide (5 < (IntKind.wrap .i64 (shrI .u8 (c14.toNat : Int) 5))))), (51, Value.bool (decide (5 < (IntKind.wrap .i64 (shrI .u8 (c14.toNat : Int) 5)))))] w24) ?_ ?_
    · show OW _ _ _ _ _ _ _ _
      refine OW.done ?_
      refine TW.cond rfl (fun c33 => ?_) (fun c33 => ?_)
      · have hm := ite_t c33 hm
        refine TW.seq (TW.region ?_)
        refine OW.assign rfl rfl rfl rfl rfl ?_
        refine OW.assign rfl rfl rfl rfl rfl ?_
        refine OW.assign rfl rfl rfl rfl rfl ?_
        refine OW.done ?_
        cases hm
        exact TW.ret (Out.many rfl ⟨_, _, rfl, rfl, ⟨_, _, rfl, rfl, ⟨_, _, rfl, rfl, rfl⟩⟩⟩ rfl) ⟨_, rfl, hb25, (T_seneschalref03_reader.shut (x := (T_seneschalref03_reader.mk p0.gs (IntKind.wrap .i64 (p0.gi + 1))))), X28⟩
      · have hm := ite_f c33 hm
        refine TW.skip (TW.seq (TW.seq (TW.region ?_)))
        refine OW.move rfl rfl rfl rfl rfl ?_
        refine OW.binI rfl rfl rfl rfl rfl rfl rfl ?_
        refine OW.done ?_
        refine TW.cond rfl (fun c34 => ?_) (fun c34 => ?_)
        · have hm := ite_t c34 hm
          refine TW.seq (TW.region ?_)
          refine OW.move rfl rfl rfl rfl rfl ?_
          refine OW.move rfl rfl rfl rfl rfl ?_
          refine OW.assign rfl rfl rfl rfl rfl ?_
          refine OW.assign rfl rfl rfl rfl rfl ?_
          refine OW.assign rfl rfl rfl rfl rfl ?_
          refine OW.done ?_
          cases hm
          exact TW.ret (Out.many rfl ⟨_, _, rfl, rfl, ⟨_, _, rfl, rfl, ⟨_, _, rfl, rfl, rfl⟩⟩⟩ rfl) ⟨_, rfl, hb25, (T_seneschalref03_reader.shut (x := (T_seneschalref03_reader.mk p0.gs (IntKind.wrap .i64 (p0.gi + 1))))), X28⟩
        · have hm := ite_f c34 hm
          refine TW.skip (TW.seq (TW.region ?_))
          refine OW.move rfl rfl rfl rfl rfl ?_
          refine OW.binI rfl rfl rfl rfl rfl rfl rfl ?_
          obtain ⟨_, h35, hm⟩ := bnd hm
          refine OW.shiftI rfl rfl rfl rfl rfl rfl (by have := chk_some h35; simpa using this) rfl ?_
          refine OW.assign rfl rfl rfl rfl rfl ?_
          refine OW.done (TW.seq (TW.seq ?_))
          refine TW.blk (fun K => ∀ (x44 : Bool), M.r03_reader_head_k1 c14 c19 p0 x44 = some r → ∀ (w36 : World) (O37 : Nat → Prop), Bd O37 w36 → Glob w36 O37 → Ext (At b0) w0 w36 → (∀ x, O0 x → O37 x) → (O37 b0) → (BoxAt w36 b0 48 [Value.string ⟨List.toArray p0.gs⟩, Value.int .i64 (IntKind.wrap .i64 (p0.gi + 1))]) →  K [(0, Value.pointer (some ⟨b0, 0, none⟩)), (5, Value.int .i64 (IntKind.wrap .i64 (shrI .u8 (c14.toNat : Int) 5))), (6, Value.int .i64 (IntKind.wrap .i64 (andI .u8 (c19.toNat : Int) 31))), (7, Value.int .i64 (shlI .i64 1 (IntKind.wrap .i64 ((IntKind.wrap .i64 (andI .u8 (c19.toNat : Int) 31)) - 24)))), (89, Value.bool x44)] w36) ?_ ?_
          · intro x44 hm w36 O37 B38 G41 X39 lf40 m42 hb43
            unfold M.r03_reader_head_k1 at hm
            refine TW.cond rfl (fun c46 => ?_) (fun c46 => ?_)
            · have hm := ite_t c46 hm
              refine TW.seq (TW.region ?_)
              refine OW.assign rfl rfl rfl rfl rfl ?_
              refine OW.assign rfl rfl rfl rfl rfl ?_
              refine OW.assign rfl rfl rfl rfl rfl ?_
              refine OW.done ?_
              cases hm
              exact TW.ret (Out.many rfl ⟨_, _, rfl, rfl, ⟨_, _, rfl, rfl, ⟨_, _, rfl, rfl, rfl⟩⟩⟩ rfl) ⟨_, rfl, hb43, (T_seneschalref03_reader.shut (x := (T_seneschalref03_reader.mk p0.gs (IntKind.wrap .i64 (p0.gi + 1))))), X39⟩
            · have hm := ite_f c46 hm
              refine TW.skip (TW.seq (TW.region ?_))
              refine OW.assign rfl rfl rfl rfl rfl ?_
              refine OW.done (TW.seq (TW.seq (TW.region ?_)))
              refine OW.assign rfl rfl rfl rfl rfl ?_
              refine OW.done (TW.block ?_)
              refine TW.lp (fun K => ∀ (x54 : List UInt8) (x55 : Int) (x57 : Int) (x58 : Int), M.r03_reader_head_k2 c14 c19 x54 x55 x57 x58 = some r → ∀ (w47 : World) (O48 : Nat → Prop), Bd O48 w47 → Glob w47 O48 → Ext (At b0) w0 w47 → (∀ x, O0 x → O48 x) → (O48 b0) → (BoxAt w47 b0 48 [Value.string ⟨List.toArray x54⟩, Value.int .i64 x55]) →  K [(0, Value.pointer (some ⟨b0, 0, none⟩)), (5, Value.int .i64 (IntKind.wrap .i64 (shrI .u8 (c14.toNat : Int) 5))), (6, Value.int .i64 (IntKind.wrap .i64 (andI .u8 (c19.toNat : Int) 31))), (7, Value.int .i64 (shlI .i64 1 (IntKind.wrap .i64 ((IntKind.wrap .i64 (andI .u8 (c19.toNat : Int) 31)) - 24)))), (8, Value.int .i64 x57), (9, Value.int .i64 x58)] w47) ?_ ?_
              · intro K hin59 hout60
                refine fun x54 x55 x57 x58 hm => M.r03_reader_head_k2.partial_correctness c14 c19 x54 (fun x55 x57 x58 r95 => r95 = r → ∀ (w47 : World) (O48 : Nat → Prop), Bd O48 w47 → Glob w47 O48 → Ext (At b0) w0 w47 → (∀ x, O0 x → O48 x) → (O48 b0) → (BoxAt w47 b0 48 [Value.string ⟨List.toArray x54⟩, Value.int .i64 x55]) →  K [(0, Value.pointer (some ⟨b0, 0, none⟩)), (5, Value.int .i64 (IntKind.wrap .i64 (shrI .u8 (c14.toNat : Int) 5))), (6, Value.int .i64 (IntKind.wrap .i64 (andI .u8 (c19.toNat : Int) 31))), (7, Value.int .i64 (shlI .i64 1 (IntKind.wrap .i64 ((IntKind.wrap .i64 (andI .u8 (c19.toNat : Int) 31)) - 24)))), (8, Value.int .i64 x57), (9, Value.int .i64 x58)] w47) ?_ x55 x57 x58 r hm rfl
                intro self ih61 x55 x57 x58 r95 hm hr96 w47 O48 B49 G52 X50 lf51 m53 hb56
                rw [hr96] at hm
                refine hin59 _ _ ?_
                refine TW.seq (TW.seq (TW.region ?_))
                refine OW.move rfl rfl rfl rfl rfl ?_
                refine OW.move rfl rfl rfl rfl rfl ?_
                refine OW.binI rfl rfl rfl rfl rfl rfl rfl ?_
                refine OW.done ?_
                refine TW.cond rfl (fun c62 => ?_) (fun c62 => ?_)
                · have hm := ite_t c62 hm
                  refine TW.skip (TW.seq (TW.block (TW.seq ?_)))
                  refine TW.drawP [0, 1, 0, 4, 12, 28, 0, 64, 192, 448, 1020, 2044, 4095, 8191] [0, 1, 2, 3, 4, 5, 6, 7, 8, 9, 10, 11, 12] [(13, [], [])] mix (by kernel_rfl) ?_
                  intro w63 x64
                  have t65 := Tr.of_ext (O := O48) x64 (fun _ _ h => h.elim)
                  have B67 := B49.ext x64
                  have X66 := X50.step x64 (fun _ _ h => h.elim)
                  have hb68 := (hb56.keep x64 (fun h => h))
                  obtain ⟨c69, h70, hm⟩ := bnd hm
                  obtain ⟨j71, hj72, hc73⟩ := ix_some h70
                  refine DP.put [(95, Value.int .i64 x57), (96, Value.int .i64 (IntKind.wrap .i64 (256 * x57))), (97, Value.pointer (some ⟨b0, 0, none⟩)), (98, Value.pointer (some ⟨b0, 0, none⟩)), (99, Value.pointer (some ⟨b0, 0 + 0, none⟩)), (100, Value.string ⟨List.toArray x54⟩), (101, Value.pointer (some ⟨b0, 0, none⟩)), (102, Value.pointer (some ⟨b0, 0, none⟩)), (103, Value.pointer (some ⟨b0, 0 + 1, none⟩)), (104, Value.int .i64 x55), (105, Value.int .u8 (c69.toNat : Int)), (106, Value.int .i64 (IntKind.wrap .i64 (c69.toNat : Int))), (107, Value.int .i64 (IntKind.wrap .i64 ((IntKind.wrap .i64 (256 * x57)) + (IntKind.wrap .i64 (c69.toNat : Int)))))] rfl ?_
                  refine DW.next (StabE.cons rfl rfl rfl rfl (EX.move rfl rfl) (StabE.cons rfl rfl rfl rfl (EX.binI rfl rfl rfl rfl) (StabE.cons rfl rfl rfl rfl (EX.move rfl rfl) (StabE.cons rfl rfl rfl rfl (EX.nilCheck rfl rfl) (StabE.cons rfl rfl rfl rfl (EX.fieldAddr rfl fld_48_0 rfl) (StabE.cons rfl rfl rfl rfl (EX.load1 rfl shp_9 rfl hb68 rfl) (StabE.cons rfl rfl rfl rfl (EX.move rfl rfl) (StabE.cons rfl rfl rfl rfl (EX.nilCheck rfl rfl) (StabE.cons rfl rfl rfl rfl (EX.fieldAddr rfl fld_48_1 rfl) (StabE.cons rfl rfl rfl rfl (EX.load1 rfl shp_3 rfl hb68 rfl) (StabE.cons rfl rfl rfl rfl (EX.indexS rfl Tryd.underlying9 rfl rfl hj72 hc73) (StabE.cons rfl rfl rfl rfl (EX.convI rfl Tryd.underlying5 Tryd.underlying3 rfl) (StabE.cons rfl rfl rfl rfl (EX.binI rfl rfl rfl rfl) StabE.nil))))))))))))) rfl ?_
                  refine OW.assign rfl rfl rfl rfl rfl ?_
                  refine DP.ow ?_
                  refine DP.put [] rfl ?_
                  refine DW.end' StabE.nil ?_
                  refine TW.region ?_
                  refine OW.move rfl rfl rfl rfl rfl ?_
                  refine OW.nilCheck rfl rfl rfl rfl rfl ?_
                  refine OW.fieldAddr rfl rfl rfl rfl fld_48_1 rfl ?_
                  refine OW.load1 rfl rfl rfl rfl shp_3 rfl hb68 rfl ?_
                  refine OW.binI rfl rfl rfl rfl rfl rfl rfl ?_
                  refine OW.nilCheck rfl rfl rfl rfl rfl ?_
                  refine OW.fieldAddr rfl rfl rfl rfl fld_48_1 rfl ?_
                  refine OW.store rfl rfl rfl shp_3 rfl rfl (vs := [Value.int .i64 (IntKind.wrap .i64 (x55 + 1))]) rfl rfl hb68 rfl (one_cons rfl one_nil) (cs' := [Value.string ⟨List.toArray x54⟩, Value.int .i64 (IntKind.wrap .i64 (x55 + 1))]) rfl ?_
                  intro w74 hb75 x76
                  have t77 := Tr.of_ext (O := O48) x76 (fun _ _ h => by cases h; exact m53)
                  have B79 := B67.ext x76
                  have X78 := X66.step x76 (fun y hy h => h)
                  refine OW.done (TW.inBlock (TW.region ?_))
                  refine OW.move rfl rfl rfl rfl rfl ?_
                  refine OW.binI rfl rfl rfl rfl rfl rfl rfl ?_
                  refine OW.assign rfl rfl rfl rfl rfl ?_
                  refine OW.done ?_
                  have h80 := G52.tr (t65.trans t77)
                  exact TW.sub (Sub.cons rfl (Sub.cons rfl (Sub.cons rfl (Sub.cons rfl (Sub.cons rfl (Sub.cons rfl Sub.nil)))))) (hout60 _ _ (ih61 (IntKind.wrap .i64 (x55 + 1)) (IntKind.wrap .i64 ((IntKind.wrap .i64 (256 * x57)) + (IntKind.wrap .i64 (c69.toNat : Int)))) (IntKind.wrap .i64 (x58 + 1)) _ hm rfl w74 O48 B79 h80 X78 (fun x h => (lf51 _ h)) m53 hb75))
                · have hm := ite_f c62 hm
                  refine TW.exit rfl (TW.seq (TW.region ?_))
                  refine OW.move rfl rfl rfl rfl rfl ?_
                  refine OW.move rfl rfl rfl rfl rfl ?_
                  refine OW.move rfl rfl rfl rfl rfl ?_
                  refine OW.move rfl rfl rfl rfl rfl ?_
                  obtain ⟨y81, hy82, hm⟩ := bnd hm
                  refine OW.call rfl rfl rfl rfl rfl rfl Tryd.call39 ((C.r03_head _ _ _ hy82 _ O48  B49 G52).mono ?_)
                  rintro e w86 ⟨v83, rfl, h84, h85, x87⟩
                  refine CallK.ret ?_
                  have t88 := Tr.of_own (O := O48) x87 (fun _ _ h => h.elim) (fun b h => Or.inr (h85 b h))
                  have X89 := X50.step x87 (fun _ _ h => h.elim)
                  have B90 : Bd (fun x => O48 x ∨ v83.ownBlock = some x) w86 := Bd.own (B49.ext x87) h84.lt
                  have gv91 : ∀ b, v83.ownBlock = some b → b < w0.heap.size → (At b0) b := fun b h hl => absurd hl (by have := X50.size; have := h85 b h; omega)
                  have n92 : v83.ownBlock ≠ some b0 := fun h => by have := h85 _ h; have := hb56.lt; omega
                  have ho93 : Own w86 (fun x => O48 x ∨ v83.ownBlock = some x) 5 1 v83 (y81.map (eI .u8)) := h84
                  refine OW.lenV rfl rfl rfl rfl Tryd.underlying70 rfl (Own.len' ho93) ?_
                  refine OW.move rfl rfl rfl rfl rfl ?_
                  refine OW.binI rfl rfl rfl rfl rfl rfl rfl ?_
                  refine OW.binI rfl rfl rfl rfl rfl rfl rfl ?_
                  refine OW.assign rfl rfl rfl rfl rfl ?_
                  refine OW.assign rfl rfl rfl rfl rfl ?_
                  refine OW.assign rfl rfl rfl rfl rfl ?_
                  refine OW.done ?_
                  have hb94 := (hb56.keep x87 (fun h => h))
                  cases hm
                  exact TW.ret (Out.many rfl ⟨_, _, rfl, rfl, ⟨_, _, rfl, rfl, ⟨_, _, rfl, rfl, rfl⟩⟩⟩ rfl) ⟨_, rfl, hb94, (T_seneschalref03_reader.shut (x := (T_seneschalref03_reader.mk x54 x55))), X89⟩
              · intro key97
                exact TW.sub (Sub.cons rfl (Sub.cons rfl (Sub.cons rfl (Sub.cons rfl (Sub.cons rfl (Sub.cons rfl Sub.nil)))))) (key97 p0.gs (IntKind.wrap .i64 (p0.gi + 1)) 0 0 hm w36 O37 B38 G41 X39 (fun x h => (lf40 _ h)) m42 hb43)
          · intro key45
            refine TW.drawP [0, 0, 2, 6, 14, 30, 0, 64, 192, 448, 1022, 2047, 4095, 8191, 16383, 32767, 65535, 131071, 262143, 524287, 65535, 1114111, 3211263, 7405567, 16777215, 33554431, 67108863, 134217727] [0, 1, 2, 3, 4, 5, 6, 7, 8, 9, 10, 11, 12, 13, 14, 15, 16, 17, 18, 19, 20, 21, 22, 23, 24, 25, 26, 27] [] mix (by kernel_rfl) ?_
            intro w98 x99
            have t100 := Tr.of_ext (O := O0) x99 (fun _ _ h => h.elim)
            have B102 := B29.ext x99
            have X101 := X28.step x99 (fun _ _ h => h.elim)
            have hb103 := (hb25.keep x99 (fun h => h))
            rcases Bool.eq_false_or_eq_true (decide ((IntKind.wrap .i64 ((p0.gs.length : Int) - (IntKind.wrap .i64 (p0.gi + 1)))) < (shlI .i64 1 (IntKind.wrap .i64 ((IntKind.wrap .i64 (andI .u8 (c19.toNat : Int) 31)) - 24))))) with hk104 | hk104
            · have hm := ite_t hk104 hm
              refine DP.put [(62, Value.int .i64 (shlI .i64 1 (IntKind.wrap .i64 ((IntKind.wrap .i64 (andI .u8 (c19.toNat : Int) 31)) - 24)))), (63, Value.pointer (some ⟨b0, 0, none⟩)), (64, Value.pointer (some ⟨b0, 0, none⟩)), (65, Value.pointer (some ⟨b0, 0 + 0, none⟩)), (66, Value.string ⟨List.toArray p0.gs⟩), (67, Value.int .i64 (p0.gs.length : Int)), (68, Value.pointer (some ⟨b0, 0, none⟩)), (69, Value.pointer (some ⟨b0, 0, none⟩)), (70, Value.pointer (some ⟨b0, 0 + 1, none⟩)), (71, Value.int .i64 (IntKind.wrap .i64 (p0.gi + 1))), (72, Value.int .i64 (IntKind.wrap .i64 ((p0.gs.length : Int) - (IntKind.wrap .i64 (p0.gi + 1))))), (73, Value.bool (decide ((IntKind.wrap .i64 ((p0.gs.length : Int) - (IntKind.wrap .i64 (p0.gi + 1)))) < (shlI .i64 1 (IntKind.wrap .i64 ((IntKind.wrap .i64 (andI .u8 (c19.toNat : Int) 31)) - 24)))))), (74, Value.bool (decide ((IntKind.wrap .i64 ((p0.gs.length : Int) - (IntKind.wrap .i64 (p0.gi + 1)))) < (shlI .i64 1 (IntKind.wrap .i64 ((IntKind.wrap .i64 (andI .u8 (c19.toNat : Int) 31)) - 24)))))), (75, undef), (76, undef), (77, undef), (78, undef), (79, undef), (80, undef), (81, undef), (82, undef), (83, undef), (84, undef), (85, undef), (86, undef), (87, undef), (88, undef), (89, Value.bool true)] rfl ?_
              refine DW.end' (StabE.cons rfl rfl rfl rfl (EX.move rfl rfl) (StabE.cons rfl rfl rfl rfl (EX.move rfl rfl) (StabE.cons rfl rfl rfl rfl (EX.nilCheck rfl rfl) (StabE.cons rfl rfl rfl rfl (EX.fieldAddr rfl fld_48_0 rfl) (StabE.cons rfl rfl rfl rfl (EX.load1 rfl shp_9 rfl hb103 rfl) (StabE.cons rfl rfl rfl rfl (EX.lenS rfl Tryd.underlying9 rfl) (StabE.cons rfl rfl rfl rfl (EX.move rfl rfl) (StabE.cons rfl rfl rfl rfl (EX.nilCheck rfl rfl) (StabE.cons rfl rfl rfl rfl (EX.fieldAddr rfl fld_48_1 rfl) (StabE.cons rfl rfl rfl rfl (EX.load1 rfl shp_3 rfl hb103 rfl) (StabE.cons rfl rfl rfl rfl (EX.binI rfl rfl rfl rfl) (StabE.cons rfl rfl rfl rfl (EX.binI rfl rfl rfl rfl) (StabE.cons rfl rfl rfl rfl (EX.move rfl rfl) (StabE.not rfl rfl rfl rfl rfl rfl (by rw [hk104]; rfl) (StabE.not rfl rfl rfl rfl rfl rfl (by rw [hk104]; rfl) (StabE.not rfl rfl rfl rfl rfl rfl (by rw [hk104]; rfl) (StabE.notU rfl rfl rfl rfl rfl rfl (StabE.notU rfl rfl rfl rfl rfl rfl (StabE.notU rfl rfl rfl rfl rfl rfl (StabE.notU rfl rfl rfl rfl rfl rfl (StabE.notU rfl rfl rfl rfl rfl rfl (StabE.notU rfl rfl rfl rfl rfl rfl (StabE.notU rfl rfl rfl rfl rfl rfl (StabE.notU rfl rfl rfl rfl rfl rfl (StabE.notU rfl rfl rfl rfl rfl rfl (StabE.notU rfl rfl rfl rfl rfl rfl (StabE.not rfl rfl rfl rfl rfl rfl (by rw [hk104]; rfl) (StabE.cons rfl rfl rfl rfl (EX.pickT rfl rfl hk104 rfl) StabE.nil)))))))))))))))))))))))))))) ?_
              have h105 := G0.tr (t3.trans (t10.trans (t27.trans t100)))
              exact TW.sub (Sub.cons rfl (Sub.cons rfl (Sub.cons rfl (Sub.cons rfl (Sub.cons rfl Sub.nil))))) (key45 true hm w98 O0 B102 h105 X101 (fun x h => h) m0 hb103)
            · have hm := ite_f hk104 hm
              rcases Bool.eq_false_or_eq_true (decide ((shlI .i64 1 (IntKind.wrap .i64 ((IntKind.wrap .i64 (andI .u8 (c19.toNat : Int) 31)) - 24))) = 8)) with hk106 | hk106
              · have hm := ite_t hk106 hm
                obtain ⟨c107, h108, hm⟩ := bnd hm
                obtain ⟨j109, hj110, hc111⟩ := ix_some h108
                refine DP.put [(62, Value.int .i64 (shlI .i64 1 (IntKind.wrap .i64 ((IntKind.wrap .i64 (andI .u8 (c19.toNat : Int) 31)) - 24)))), (63, Value.pointer (some ⟨b0, 0, none⟩)), (64, Value.pointer (some ⟨b0, 0, none⟩)), (65, Value.pointer (some ⟨b0, 0 + 0, none⟩)), (66, Value.string ⟨List.toArray p0.gs⟩), (67, Value.int .i64 (p0.gs.length : Int)), (68, Value.pointer (some ⟨b0, 0, none⟩)), (69, Value.pointer (some ⟨b0, 0, none⟩)), (70, Value.pointer (some ⟨b0, 0 + 1, none⟩)), (71, Value.int .i64 (IntKind.wrap .i64 (p0.gi + 1))), (72, Value.int .i64 (IntKind.wrap .i64 ((p0.gs.length : Int) - (IntKind.wrap .i64 (p0.gi + 1))))), (73, Value.bool (decide ((IntKind.wrap .i64 ((p0.gs.length : Int) - (IntKind.wrap .i64 (p0.gi + 1)))) < (shlI .i64 1 (IntKind.wrap .i64 ((IntKind.wrap .i64 (andI .u8 (c19.toNat : Int) 31)) - 24)))))), (74, Value.bool (decide ((IntKind.wrap .i64 ((p0.gs.length : Int) - (IntKind.wrap .i64 (p0.gi + 1)))) < (shlI .i64 1 (IntKind.wrap .i64 ((IntKind.wrap .i64 (andI .u8 (c19.toNat : Int) 31)) - 24)))))), (75, Value.int .i64 (shlI .i64 1 (IntKind.wrap .i64 ((IntKind.wrap .i64 (andI .u8 (c19.toNat : Int) 31)) - 24)))), (76, Value.bool (decide ((shlI .i64 1 (IntKind.wrap .i64 ((IntKind.wrap .i64 (andI .u8 (c19.toNat : Int) 31)) - 24))) = 8))), (77, Value.bool (decide ((shlI .i64 1 (IntKind.wrap .i64 ((IntKind.wrap .i64 (andI .u8 (c19.toNat : Int) 31)) - 24))) = 8))), (78, Value.pointer (some ⟨b0, 0, none⟩)), (79, Value.pointer (some ⟨b0, 0, none⟩)), (80, Value.pointer (some ⟨b0, 0 + 0, none⟩)), (81, Value.string ⟨List.toArray p0.gs⟩), (82, Value.pointer (some ⟨b0, 0, none⟩)), (83, Value.pointer (some ⟨b0, 0, none⟩)), (84, Value.pointer (some ⟨b0, 0 + 1, none⟩)), (85, Value.int .i64 (IntKind.wrap .i64 (p0.gi + 1))), (86, Value.int .u8 (c107.toNat : Int)), (87, Value.bool (decide (127 < (c107.toNat : Int)))), (88, Value.bool (decide (127 < (c107.toNat : Int)))), (89, Value.bool (decide (127 < (c107.toNat : Int))))] rfl ?_
                refine DW.end' (StabE.cons rfl rfl rfl rfl (EX.move rfl rfl) (StabE.cons rfl rfl rfl rfl (EX.move rfl rfl) (StabE.cons rfl rfl rfl rfl (EX.nilCheck rfl rfl) (StabE.cons rfl rfl rfl rfl (EX.fieldAddr rfl fld_48_0 rfl) (StabE.cons rfl rfl rfl rfl (EX.load1 rfl shp_9 rfl hb103 rfl) (StabE.cons rfl rfl rfl rfl (EX.lenS rfl Tryd.underlying9 rfl) (StabE.cons rfl rfl rfl rfl (EX.move rfl rfl) (StabE.cons rfl rfl rfl rfl (EX.nilCheck rfl rfl) (StabE.cons rfl rfl rfl rfl (EX.fieldAddr rfl fld_48_1 rfl) (StabE.cons rfl rfl rfl rfl (EX.load1 rfl shp_3 rfl hb103 rfl) (StabE.cons rfl rfl rfl rfl (EX.binI rfl rfl rfl rfl) (StabE.cons rfl rfl rfl rfl (EX.binI rfl rfl rfl rfl) (StabE.cons rfl rfl rfl rfl (EX.move rfl rfl) (StabE.yesH rfl rfl rfl rfl rfl rfl hk104 (EX.move rfl rfl) (StabE.yesH rfl rfl rfl rfl rfl rfl hk104 (EX.binI rfl rfl rfl rfl) (StabE.yesH rfl rfl rfl rfl rfl rfl hk104 (EX.move rfl rfl) (StabE.yesH rfl rfl rfl rfl rfl rfl hk106 (EX.move rfl rfl) (StabE.yesH rfl rfl rfl rfl rfl rfl hk106 (EX.nilCheck rfl rfl) (StabE.yesH rfl rfl rfl rfl rfl rfl hk106 (EX.fieldAddr rfl fld_48_0 rfl) (StabE.yesH rfl rfl rfl rfl rfl rfl hk106 (EX.load1 rfl shp_9 rfl hb103 rfl) (StabE.yesH rfl rfl rfl rfl rfl rfl hk106 (EX.move rfl rfl) (StabE.yesH rfl rfl rfl rfl rfl rfl hk106 (EX.nilCheck rfl rfl) (StabE.yesH rfl rfl rfl rfl rfl rfl hk106 (EX.fieldAddr rfl fld_48_1 rfl) (StabE.yesH rfl rfl rfl rfl rfl rfl hk106 (EX.load1 rfl shp_3 rfl hb103 rfl) (StabE.yesH rfl rfl rfl rfl rfl rfl hk106 (EX.indexS rfl Tryd.underlying9 rfl rfl hj110 hc111) (StabE.yesH rfl rfl rfl rfl rfl rfl hk106 (EX.binI rfl rfl rfl rfl) (StabE.yesH rfl rfl rfl rfl rfl rfl hk104 (EX.pickT rfl rfl hk106 rfl) (StabE.cons rfl rfl rfl rfl (EX.pickF rfl rfl hk104 rfl) StabE.nil)))))))))))))))))))))))))))) ?_
                have h112 := G0.tr (t3.trans (t10.trans (t27.trans t100)))
                exact TW.sub (Sub.cons rfl (Sub.cons rfl (Sub.cons rfl (Sub.cons rfl (Sub.cons rfl Sub.nil))))) (key45 (decide (127 < (c107.toNat : Int))) hm w98 O0 B102 h112 X101 (fun x h => h) m0 hb103)
              · have hm := ite_f hk106 hm
                refine DP.put [(62, Value.int .i64 (shlI .i64 1 (IntKind.wrap .i64 ((IntKind.wrap .i64 (andI .u8 (c19.toNat : Int) 31)) - 24)))), (63, Value.pointer (some ⟨b0, 0, none⟩)), (64, Value.pointer (some ⟨b0, 0, none⟩)), (65, Value.pointer (some ⟨b0, 0 + 0, none⟩)), (66, Value.string ⟨List.toArray p0.gs⟩), (67, Value.int .i64 (p0.gs.length : Int)), (68, Value.pointer (some ⟨b0, 0, none⟩)), (69, Value.pointer (some ⟨b0, 0, none⟩)), (70, Value.pointer (some ⟨b0, 0 + 1, none⟩)), (71, Value.int .i64 (IntKind.wrap .i64 (p0.gi + 1))), (72, Value.int .i64 (IntKind.wrap .i64 ((p0.gs.length : Int) - (IntKind.wrap .i64 (p0.gi + 1))))), (73, Value.bool (decide ((IntKind.wrap .i64 ((p0.gs.length : Int) - (IntKind.wrap .i64 (p0.gi + 1)))) < (shlI .i64 1 (IntKind.wrap .i64 ((IntKind.wrap .i64 (andI .u8 (c19.toNat : Int) 31)) - 24)))))), (74, Value.bool (decide ((IntKind.wrap .i64 ((p0.gs.length : Int) - (IntKind.wrap .i64 (p0.gi + 1)))) < (shlI .i64 1 (IntKind.wrap .i64 ((IntKind.wrap .i64 (andI .u8 (c19.toNat : Int) 31)) - 24)))))), (75, Value.int .i64 (shlI .i64 1 (IntKind.wrap .i64 ((IntKind.wrap .i64 (andI .u8 (c19.toNat : Int) 31)) - 24)))), (76, Value.bool (decide ((shlI .i64 1 (IntKind.wrap .i64 ((IntKind.wrap .i64 (andI .u8 (c19.toNat : Int) 31)) - 24))) = 8))), (77, Value.bool (decide ((shlI .i64 1 (IntKind.wrap .i64 ((IntKind.wrap .i64 (andI .u8 (c19.toNat : Int) 31)) - 24))) = 8))), (78, undef), (79, undef), (80, undef), (81, undef), (82, undef), (83, undef), (84, undef), (85, undef), (86, undef), (87, undef), (88, Value.bool false), (89, Value.bool false)] rfl ?_
                refine DW.end' (StabE.cons rfl rfl rfl rfl (EX.move rfl rfl) (StabE.cons rfl rfl rfl rfl (EX.move rfl rfl) (StabE.cons rfl rfl rfl rfl (EX.nilCheck rfl rfl) (StabE.cons rfl rfl rfl rfl (EX.fieldAddr rfl fld_48_0 rfl) (StabE.cons rfl rfl rfl rfl (EX.load1 rfl shp_9 rfl hb103 rfl) (StabE.cons rfl rfl rfl rfl (EX.lenS rfl Tryd.underlying9 rfl) (StabE.cons rfl rfl rfl rfl (EX.move rfl rfl) (StabE.cons rfl rfl rfl rfl (EX.nilCheck rfl rfl) (StabE.cons rfl rfl rfl rfl (EX.fieldAddr rfl fld_48_1 rfl) (StabE.cons rfl rfl rfl rfl (EX.load1 rfl shp_3 rfl hb103 rfl) (StabE.cons rfl rfl rfl rfl (EX.binI rfl rfl rfl rfl) (StabE.cons rfl rfl rfl rfl (EX.binI rfl rfl rfl rfl) (StabE.cons rfl rfl rfl rfl (EX.move rfl rfl) (StabE.yesH rfl rfl rfl rfl rfl rfl hk104 (EX.move rfl rfl) (StabE.yesH rfl rfl rfl rfl rfl rfl hk104 (EX.binI rfl rfl rfl rfl) (StabE.yesH rfl rfl rfl rfl rfl rfl hk104 (EX.move rfl rfl) (StabE.not rfl rfl rfl rfl rfl rfl (by rw [hk106]; rfl) (StabE.not rfl rfl rfl rfl rfl rfl (by rw [hk106]; rfl) (StabE.not rfl rfl rfl rfl rfl rfl (by rw [hk106]; rfl) (StabE.not rfl rfl rfl rfl rfl rfl (by rw [hk106]; rfl) (StabE.not rfl rfl rfl rfl rfl rfl (by rw [hk106]; rfl) (StabE.not rfl rfl rfl rfl rfl rfl (by rw [hk106]; rfl) (StabE.not rfl rfl rfl rfl rfl rfl (by rw [hk106]; rfl) (StabE.not rfl rfl rfl rfl rfl rfl (by rw [hk106]; rfl) (StabE.not rfl rfl rfl rfl rfl rfl (by rw [hk106]; rfl) (StabE.not rfl rfl rfl rfl rfl rfl (by rw [hk106]; rfl) (StabE.yesH rfl rfl rfl rfl rfl rfl hk104 (EX.pickF rfl rfl hk106 rfl) (StabE.cons rfl rfl rfl rfl (EX.pickF rfl rfl hk104 rfl) StabE.nil)))))))))))))))))))))))))))) ?_
                have h113 := G0.tr (t3.trans (t10.trans (t27.trans t100)))
                exact TW.sub (Sub.cons rfl (Sub.cons rfl (Sub.cons rfl (Sub.cons rfl (Sub.cons rfl Sub.nil))))) (key45 false hm w98 O0 B102 h113 X101 (fun x h => h) m0 hb103)
    · intro key32
      cases c31 : (decide (5 < (IntKind.wrap .i64 (shrI .u8 (c14.toNat : Int) 5))))
      · try simp only [c31] at key32
        refine OW.yes rfl rfl rfl ?_
        refine OW.move rfl rfl rfl rfl rfl ?_
        refine OW.yes rfl rfl rfl ?_
        refine OW.binI rfl rfl rfl rfl rfl rfl rfl ?_
        refine OW.pick_f rfl rfl rfl rfl rfl rfl ?_
        exact OW.sub (Sub.cons rfl (Sub.cons rfl (Sub.cons rfl (Sub.cons rfl (Sub.cons rfl (Sub.cons rfl (Sub.cons rfl Sub.nil))))))) key32
      · try simp only [c31] at key32
        refine OW.not rfl rfl rfl rfl rfl rfl ?_
        refine OW.not rfl rfl rfl rfl rfl rfl ?_
        refine OW.pick_t rfl rfl rfl rfl rfl rfl ?_
        exact OW.sub (Sub.cons rfl (Sub.cons rfl (Sub.cons rfl (Sub.cons rfl (Sub.cons rfl (Sub.cons rfl (Sub.cons rfl Sub.nil))))))) key32
set_option maxRecDepth 1000000 in
set_option maxHeartbeats 4000000 in
theorem C.r03_reader_item (fuel : Nat) : ∀ (p0 : T_seneschalref03_reader) (p1 : Int) (r : T_api_Cbor × Int × T_seneschalref03_reader), M.r03_reader_item fuel p0 p1 = some r → ∀ (w0 : World) (O0 : Nat → Prop) (b0 : Nat) (cs0 : List Value) (B0 : Bd O0 w0) (G0 : Glob w0 O0) (hb0 : BoxAt w0 b0 48 cs0) (h0 : RDs w0 O0 (T_seneschalref03_reader.enc p0) cs0) (m0 : O0 b0), Calls Tryd.prog 19 (List.toArray [Value.pointer (some ⟨b0, 0, none⟩), Value.int .i64 p1]) w0 (fun e w' => ∃ (us0 : List Value) (ds0 : List Value), e = .returned (Value.tuple (List.toArray [Value.agg us0.toArray, Value.int .i64 r.2.1])) ∧ RDs w' O0 (T_api_Cbor.enc r.1) us0 ∧ BoxAt w' b0 48 ds0 ∧ RDs w' O0 (T_seneschalref03_reader.enc r.2.2) ds0 ∧ Ext (At b0) w0 w') := by
  induction fuel with
  | zero => intro p0 p1 r hm w0 O0 b0 cs0 B0 G0 hb0 h0 m0; cases hm
  | succ fuel ih =>
    intro p0 p1 r hm w0 O0 b0 cs0 B0 G0 hb0 h0 m0
    refine calls_of Tryd.func19 rfl 176 rfl rfl ?_
    simp only [M.r03_reader_item] at hm
    have X0 := Ext.refl (At b0) w0
    obtain rfl := T_seneschalref03_reader.opn h0
    refine TW.seq (TW.region ?_)
    refine OW.alloc rfl rfl rfl rfl zer_24 (cs := [Value.int .i64 0, Value.int .i64 0, Value.string ⟨List.toArray ([] : List UInt8)⟩, Value.slice none 0 0]) rfl ?_
    intro b1 w2 hb3 x4 l5
    have t6 := Tr.of_new (O := O0) x4 (fun _ _ h => h.elim) l5
    have B8 := (B0.ext x4).ins hb3.lt
    have X7 := X0.step x4 (fun _ _ h => h.elim)
    have g9 : w0.heap.size ≤ b1 := Nat.le_trans X0.size l5
    have n10 : b0 ≠ b1 := by have := hb0.lt; omega
    refine OW.assign rfl rfl rfl rfl rfl ?_
    refine OW.done (TW.seq (TW.region ?_))
    refine OW.move rfl rfl rfl rfl rfl ?_
    have hb11 := (hb0.keep x4 (fun h => h))
    have h12 := G0.tr t6
    obtain ⟨y13, hy14, hm⟩ := bnd hm
    refine OW.call rfl rfl rfl rfl rfl rfl Tryd.call33 ((C.r03_reader_head _ _ hy14 _ (Ins O0 b1) _ _ B8 h12 hb11 (T_seneschalref03_reader.shut (x := p0)) (Or.inr m0)).mono ?_)
    rintro e w18 ⟨cs15, rfl, hb16, h17, x19⟩
    obtain rfl := T_seneschalref03_reader.opn h17
    refine CallK.ret ?_
    have t20 := Tr.of_ext (O := (Ins O0 b1)) x19 (fun _ _ h => by cases h; exact (Or.inr m0))
    have B22 := B8.ext x19
    have X21 := X7.step x19 (fun y hy h => h)
    refine OW.move rfl rfl rfl rfl rfl ?_
    refine OW.extract rfl rfl rfl rfl rfl rfl ?_
    refine OW.extract rfl rfl rfl rfl rfl rfl ?_
    refine OW.extract rfl rfl rfl rfl rfl rfl ?_
    refine OW.assign rfl rfl rfl rfl rfl ?_
    refine OW.assign rfl rfl rfl rfl rfl ?_
    refine OW.assign rfl rfl rfl rfl rfl ?_
    refine OW.done (TW.seq (TW.seq (TW.region ?_)))
    refine OW.move rfl rfl rfl rfl rfl ?_
    refine OW.notB rfl rfl rfl rfl rfl ?_
    refine OW.done ?_
    refine TW.cond rfl (fun c23 => ?_) (fun c23 => ?_)
    · have hm := ite_t c23 hm
      refine TW.seq (TW.region ?_)
      refine OW.build rfl rfl rfl rfl rfl (cs := [Value.int .i64 0, Value.int .i64 0, Value.string ⟨List.toArray ([] : List UInt8)⟩, Value.slice none 0 0]) rfl ?_
      have hb24 := (hb3.keep x19 (Ne.symm n10))
      refine OW.store rfl rfl rfl shp_24 rfl rfl (vs := [Value.int .i64 0, Value.int .i64 0, Value.string ⟨List.toArray ([] : List UInt8)⟩, Value.slice none 0 0]) rfl rfl hb24 rfl (one_cons rfl (one_cons rfl (one_cons rfl (one_cons rfl one_nil)))) (cs' := [Value.int .i64 0, Value.int .i64 0, Value.string ⟨List.toArray ([] : List UInt8)⟩, Value.slice none 0 0]) rfl ?_
      intro w25 hb26 x27
      have t28 := Tr.of_ext (O := (Ins O0 b1)) x27 (fun _ _ h => by cases h; exact (Or.inl rfl))
      have B30 := B22.ext x27
      have X29 := X21.step x27 (fun y hy h => absurd hy (by cases h; have := g9; omega))
      refine OW.assign rfl rfl rfl rfl rfl ?_
      refine OW.done ?_
      have hb31 := (hb16.keep x27 n10)
      cases hm
      exact TW.ret (Out.many rfl ⟨_, _, rfl, ⟨_, _, _, _, _, rfl, shp_24, hb26, rfl, rfl⟩, ⟨_, _, rfl, rfl, rfl⟩⟩ rfl) ⟨_, _, rfl, (T_api_Cbor.shut (x := (T_api_Cbor.mk 0 0 ([] : List UInt8) [])) RD.nil), hb31, (T_seneschalref03_reader.shut (x := y13.2.2.2)), X29⟩
    · have hm := ite_f c23 hm
      refine TW.skip (TW.seq (TW.seq (TW.region ?_)))
      refine OW.move rfl rfl rfl rfl rfl ?_
      refine OW.done (TW.block (TW.seq (TW.region ?_)))
      refine OW.binI rfl rfl rfl rfl rfl rfl rfl ?_
      refine OW.assign rfl rfl rfl rfl rfl ?_
      refine OW.done ?_
      refine TW.cond rfl (fun c32 => ?_) (fun c32 => ?_)
      · have hm := ite_t c32 hm
        refine TW.seq (TW.region ?_)
        refine OW.move rfl rfl rfl rfl rfl ?_
        refine OW.build rfl rfl rfl rfl rfl (cs := [Value.int .i64 0, Value.int .i64 y13.2.1, Value.string ⟨List.toArray ([] : List UInt8)⟩, Value.slice none 0 0]) rfl ?_
        have hb33 := (hb3.keep x19 (Ne.symm n10))
        refine OW.store rfl rfl rfl shp_24 rfl rfl (vs := [Value.int .i64 0, Value.int .i64 y13.2.1, Value.string ⟨List.toArray ([] : List UInt8)⟩, Value.slice none 0 0]) rfl rfl hb33 rfl (one_cons rfl (one_cons rfl (one_cons rfl (one_cons rfl one_nil)))) (cs' := [Value.int .i64 0, Value.int .i64 y13.2.1, Value.string ⟨List.toArray ([] : List UInt8)⟩, Value.slice none 0 0]) rfl ?_
        intro w34 hb35 x36
        have t37 := Tr.of_ext (O := (Ins O0 b1)) x36 (fun _ _ h => by cases h; exact (Or.inl rfl))
        have B39 := B22.ext x36
        have X38 := X21.step x36 (fun y hy h => absurd hy (by cases h; have := g9; omega))
        refine OW.assign rfl rfl rfl rfl rfl ?_
        refine OW.done ?_
        have hb40 := (hb16.keep x36 n10)
        cases hm
        exact TW.ret (Out.many rfl ⟨_, _, rfl, ⟨_, _, _, _, _, rfl, shp_24, hb35, rfl, rfl⟩, ⟨_, _, rfl, rfl, rfl⟩⟩ rfl) ⟨_, _, rfl, (T_api_Cbor.shut (x := (T_api_Cbor.mk 0 y13.2.1 ([] : List UInt8) [])) RD.nil), hb40, (T_seneschalref03_reader.shut (x := y13.2.2.2)), X38⟩
      · have hm := ite_f c32 hm
        refine TW.seq (TW.region ?_)
        refine OW.binI rfl rfl rfl rfl rfl rfl rfl ?_
        refine OW.assign rfl rfl rfl rfl rfl ?_
        refine OW.done ?_
        refine TW.cond rfl (fun c41 => ?_) (fun c41 => ?_)
        · have hm := ite_t c41 hm
          refine TW.seq (TW.region ?_)
          refine OW.move rfl rfl rfl rfl rfl ?_
          refine OW.binI rfl rfl rfl rfl rfl rfl rfl ?_
          refine OW.build rfl rfl rfl rfl rfl (cs := [Value.int .i64 0, Value.int .i64 (IntKind.wrap .i64 ((-1) - y13.2.1)), Value.string ⟨List.toArray ([] : List UInt8)⟩, Value.slice none 0 0]) rfl ?_
          have hb42 := (hb3.keep x19 (Ne.symm n10))
          refine OW.store rfl rfl rfl shp_24 rfl rfl (vs := [Value.int .i64 0, Value.int .i64 (IntKind.wrap .i64 ((-1) - y13.2.1)), Value.string ⟨List.toArray ([] : List UInt8)⟩, Value.slice none 0 0]) rfl rfl hb42 rfl (one_cons rfl (one_cons rfl (one_cons rfl (one_cons rfl one_nil)))) (cs' := [Value.int .i64 0, Value.int .i64 (IntKind.wrap .i64 ((-1) - y13.2.1)), Value.string ⟨List.toArray ([] : List UInt8)⟩, Value.slice none 0 0]) rfl ?_
          intro w43 hb44 x45
          have t46 := Tr.of_ext (O := (Ins O0 b1)) x45 (fun _ _ h => by cases h; exact (Or.inl rfl))
          have B48 := B22.ext x45
          have X47 := X21.step x45 (fun y hy h => absurd hy (by cases h; have := g9; omega))
          refine OW.assign rfl rfl rfl rfl rfl ?_
          refine OW.done ?_
          have hb49 := (hb16.keep x45 n10)
          cases hm
          exact TW.ret (Out.many rfl ⟨_, _, rfl, ⟨_, _, _, _, _, rfl, shp_24, hb44, rfl, rfl⟩, ⟨_, _, rfl, rfl, rfl⟩⟩ rfl) ⟨_, _, rfl, (T_api_Cbor.shut (x := (T_api_Cbor.mk 0 (IntKind.wrap .i64 ((-1) - y13.2.1)) ([] : List UInt8) [])) RD.nil), hb49, (T_seneschalref03_reader.shut (x := y13.2.2.2)), X47⟩
        · have hm := ite_f c41 hm
          refine TW.seq (TW.seq (TW.region ?_))
          refine OW.binI rfl rfl rfl rfl rfl rfl rfl ?_
          refine OW.assign rfl rfl rfl rfl rfl ?_
          refine OW.done ?_
          refine TW.blk (fun K => ∀ (x60 : Bool), M.r03_reader_item_k1 (fuel + 1) (M.r03_reader_item fuel) p1 y13 x60 = some r → ∀ (w50 : World) (O51 : Nat → Prop), Bd O51 w50 → Glob w50 O51 → Ext (At b0) w0 w50 → (∀ x, O0 x → O51 x) → (O51 b0) → (O51 b1) → (BoxAt w50 b0 48 [Value.string ⟨List.toArray y13.2.2.2.gs⟩, Value.int .i64 y13.2.2.2.gi]) → (BoxAt w50 b1 24 [Value.int .i64 0, Value.int .i64 0, Value.string ⟨List.toArray ([] : List UInt8)⟩, Value.slice none 0 0]) →  K [(0, Value.pointer (some ⟨b0, 0, none⟩)), (1, Value.int .i64 p1), (4, Value.pointer (some ⟨b1, 0, none⟩)), (6, Value.int .i64 y13.1), (7, Value.int .i64 y13.2.1), (37, Value.bool x60)] w50) ?_ ?_
          · intro x60 hm w50 O51 B52 G55 X53 lf54 m56 m57 hb58 hb59
            unfold M.r03_reader_item_k1 at hm
            refine TW.cond rfl (fun c62 => ?_) (fun c62 => ?_)
            · have hm := ite_t c62 hm
              refine TW.seq (TW.seq ?_)
              refine TW.drawP [0, 0, 2, 6, 14, 30, 0, 64, 192, 448, 1022, 2047] [0, 1, 2, 3, 4, 5, 6, 7, 8, 9, 10, 11] [] mix (by kernel_rfl) ?_
              intro w63 x64
              have t65 := Tr.of_ext (O := O51) x64 (fun _ _ h => h.elim)
              have B67 := B52.ext x64
              have X66 := X53.step x64 (fun _ _ h => h.elim)
              have hb68 := (hb58.keep x64 (fun h => h))
              refine DP.put [(40, Value.int .i64 y13.2.1), (41, Value.pointer (some ⟨b0, 0, none⟩)), (42, Value.pointer (some ⟨b0, 0, none⟩)), (43, Value.pointer (some ⟨b0, 0 + 0, none⟩)), (44, Value.string ⟨List.toArray y13.2.2.2.gs⟩), (45, Value.int .i64 (y13.2.2.2.gs.length : Int)), (46, Value.pointer (some ⟨b0, 0, none⟩)), (47, Value.pointer (some ⟨b0, 0, none⟩)), (48, Value.pointer (some ⟨b0, 0 + 1, none⟩)), (49, Value.int .i64 y13.2.2.2.gi), (50, Value.int .i64 (IntKind.wrap .i64 ((y13.2.2.2.gs.length : Int) - y13.2.2.2.gi))), (51, Value.bool (decide ((IntKind.wrap .i64 ((y13.2.2.2.gs.length : Int) - y13.2.2.2.gi)) < y13.2.1)))] rfl ?_
              refine DW.end' (StabE.cons rfl rfl rfl rfl (EX.move rfl rfl) (StabE.cons rfl rfl rfl rfl (EX.move rfl rfl) (StabE.cons rfl rfl rfl rfl (EX.nilCheck rfl rfl) (StabE.cons rfl rfl rfl rfl (EX.fieldAddr rfl fld_48_0 rfl) (StabE.cons rfl rfl rfl rfl (EX.load1 rfl shp_9 rfl hb68 rfl) (StabE.cons rfl rfl rfl rfl (EX.lenS rfl Tryd.underlying9 rfl) (StabE.cons rfl rfl rfl rfl (EX.move rfl rfl) (StabE.cons rfl rfl rfl rfl (EX.nilCheck rfl rfl) (StabE.cons rfl rfl rfl rfl (EX.fieldAddr rfl fld_48_1 rfl) (StabE.cons rfl rfl rfl rfl (EX.load1 rfl shp_3 rfl hb68 rfl) (StabE.cons rfl rfl rfl rfl (EX.binI rfl rfl rfl rfl) (StabE.cons rfl rfl rfl rfl (EX.binI rfl rfl rfl rfl) StabE.nil)))))))))))) ?_
              refine TW.cond rfl (fun c69 => ?_) (fun c69 => ?_)
              · have hm := ite_t c69 hm
                refine TW.seq (TW.region ?_)
                refine OW.build rfl rfl rfl rfl rfl (cs := [Value.int .i64 0, Value.int .i64 0, Value.string ⟨List.toArray ([] : List UInt8)⟩, Value.slice none 0 0]) rfl ?_
                have hb70 := (hb59.keep x64 (fun h => h))
                refine OW.store rfl rfl rfl shp_24 rfl rfl (vs := [Value.int .i64 0, Value.int .i64 0, Value.string ⟨List.toArray ([] : List UInt8)⟩, Value.slice none 0 0]) rfl rfl hb70 rfl (one_cons rfl (one_cons rfl (one_cons rfl (one_cons rfl one_nil)))) (cs' := [Value.int .i64 0, Value.int .i64 0, Value.string ⟨List.toArray ([] : List UInt8)⟩, Value.slice none 0 0]) rfl ?_
                intro w71 hb72 x73
                have t74 := Tr.of_ext (O := O51) x73 (fun _ _ h => by cases h; exact m57)
                have B76 := B67.ext x73
                have X75 := X66.step x73 (fun y hy h => absurd hy (by cases h; have := g9; omega))
                refine OW.assign rfl rfl rfl rfl rfl ?_
                refine OW.done ?_
                have hb77 := (hb68.keep x73 n10)
                cases hm
                exact TW.ret (Out.many rfl ⟨_, _, rfl, ⟨_, _, _, _, _, rfl, shp_24, hb72, rfl, rfl⟩, ⟨_, _, rfl, rfl, rfl⟩⟩ rfl) ⟨_, _, rfl, (T_api_Cbor.shut (x := (T_api_Cbor.mk 0 0 ([] : List UInt8) [])) RD.nil), hb77, (T_seneschalref03_reader.shut (x := y13.2.2.2)), X75⟩
              · have hm := ite_f c69 hm
                refine TW.skip (TW.seq ?_)
                refine TW.drawP [0, 1, 3, 7, 0, 16, 48, 112, 0, 256, 768, 1792, 0, 7936, 16383, 32767] [0, 1, 2, 3, 4, 5, 6, 7, 8, 9, 10, 11, 12, 13, 14, 15] [] mix (by kernel_rfl) ?_
                intro w78 x79
                have t80 := Tr.of_ext (O := O51) x79 (fun _ _ h => h.elim)
                have B82 := B67.ext x79
                have X81 := X66.step x79 (fun _ _ h => h.elim)
                have hb83 := (hb68.keep x79 (fun h => h))
                obtain ⟨s84, h85, hm⟩ := bnd hm
                obtain ⟨p86, q87, h88, h89, h90, h91, h92⟩ := sub_some h85
                refine DP.put [(53, Value.pointer (some ⟨b0, 0, none⟩)), (54, Value.pointer (some ⟨b0, 0, none⟩)), (55, Value.pointer (some ⟨b0, 0 + 0, none⟩)), (56, Value.string ⟨List.toArray y13.2.2.2.gs⟩), (57, Value.pointer (some ⟨b0, 0, none⟩)), (58, Value.pointer (some ⟨b0, 0, none⟩)), (59, Value.pointer (some ⟨b0, 0 + 1, none⟩)), (60, Value.int .i64 y13.2.2.2.gi), (61, Value.pointer (some ⟨b0, 0, none⟩)), (62, Value.pointer (some ⟨b0, 0, none⟩)), (63, Value.pointer (some ⟨b0, 0 + 1, none⟩)), (64, Value.int .i64 y13.2.2.2.gi), (65, Value.int .i64 y13.2.1), (66, Value.int .i64 (IntKind.wrap .i64 (y13.2.2.2.gi + y13.2.1))), (67, Value.string ⟨List.toArray s84⟩), (9, Value.string ⟨List.toArray s84⟩)] rfl ?_
                refine DW.end' (StabE.cons rfl rfl rfl rfl (EX.move rfl rfl) (StabE.cons rfl rfl rfl rfl (EX.nilCheck rfl rfl) (StabE.cons rfl rfl rfl rfl (EX.fieldAddr rfl fld_48_0 rfl) (StabE.cons rfl rfl rfl rfl (EX.load1 rfl shp_9 rfl hb83 rfl) (StabE.cons rfl rfl rfl rfl (EX.move rfl rfl) (StabE.cons rfl rfl rfl rfl (EX.nilCheck rfl rfl) (StabE.cons rfl rfl rfl rfl (EX.fieldAddr rfl fld_48_1 rfl) (StabE.cons rfl rfl rfl rfl (EX.load1 rfl shp_3 rfl hb83 rfl) (StabE.cons rfl rfl rfl rfl (EX.move rfl rfl) (StabE.cons rfl rfl rfl rfl (EX.nilCheck rfl rfl) (StabE.cons rfl rfl rfl rfl (EX.fieldAddr rfl fld_48_1 rfl) (StabE.cons rfl rfl rfl rfl (EX.load1 rfl shp_3 rfl hb83 rfl) (StabE.cons rfl rfl rfl rfl (EX.move rfl rfl) (StabE.cons rfl rfl rfl rfl (EX.binI rfl rfl rfl rfl) (StabE.cons rfl rfl rfl rfl (by rw [h92]; exact (EX.sliceS rfl Tryd.underlying9 rfl (a := p86) (b := q87) ⟨_, _, rfl, h88⟩ ⟨_, _, rfl, h89⟩ h90 h91)) (StabE.cons rfl rfl rfl rfl (EX.assign rfl rfl) StabE.nil)))))))))))))))) ?_
                refine TW.seq (TW.region ?_)
                refine OW.move rfl rfl rfl rfl rfl ?_
                refine OW.nilCheck rfl rfl rfl rfl rfl ?_
                refine OW.fieldAddr rfl rfl rfl rfl fld_48_1 rfl ?_
                refine OW.load1 rfl rfl rfl rfl shp_3 rfl hb83 rfl ?_
                refine OW.move rfl rfl rfl rfl rfl ?_
                refine OW.binI rfl rfl rfl rfl rfl rfl rfl ?_
                refine OW.nilCheck rfl rfl rfl rfl rfl ?_
                refine OW.fieldAddr rfl rfl rfl rfl fld_48_1 rfl ?_
                have hb93 := ((hb59.keep x64 (fun h => h)).keep x79 (fun h => h))
                refine OW.store rfl rfl rfl shp_3 rfl rfl (vs := [Value.int .i64 (IntKind.wrap .i64 (y13.2.2.2.gi + y13.2.1))]) rfl rfl hb83 rfl (one_cons rfl one_nil) (cs' := [Value.string ⟨List.toArray y13.2.2.2.gs⟩, Value.int .i64 (IntKind.wrap .i64 (y13.2.2.2.gi + y13.2.1))]) rfl ?_
                intro w94 hb95 x96
                have t97 := Tr.of_ext (O := O51) x96 (fun _ _ h => by cases h; exact m56)
                have B99 := B82.ext x96
                have X98 := X81.step x96 (fun y hy h => h)
                refine OW.done (TW.seq (TW.seq (TW.region ?_)))
                refine OW.move rfl rfl rfl rfl rfl ?_
                refine OW.binI rfl rfl rfl rfl rfl rfl rfl ?_
                refine OW.move rfl rfl rfl rfl rfl ?_
                obtain ⟨x111, hx112, hm⟩ := bnd hm
                refine OW.blk 4 (fun K => ∀ (w101 : World) (O102 : Nat → Prop), Bd O102 w101 → Glob w101 O102 → Ext (At b0) w0 w101 → (∀ x, O0 x → O102 x) → (O102 b1) → (O102 b0) → (BoxAt w101 b1 24 [Value.int .i64 0, Value.int .i64 0, Value.string ⟨List.toArray ([] : List UInt8)⟩, Value.slice none 0 0]) → (BoxAt w101 b0 48 [Value.string ⟨List.toArray y13.2.2.2.gs⟩, Value.int .i64 (IntKind.wrap .i64 (y13.2.2.2.gi + y13.2.1))]) →  K [(4, Value.pointer (some ⟨b1, 0, none⟩)), (6, Value.int .i64 y13.1), (7, Value.int .i64 y13.2.1), (9, Value.string ⟨List.toArray s84⟩), (76, Value.int .i64 y13.1), (77, Value.bool (decide (y13.1 = 3))), (78, Value.bool (decide (y13.1 = 3))), (82, Value.bool x111)] w101) ?_ ?_
                · intro w101 O102 B103 G106 X104 lf105 m107 m108 hb109 hb110
                  show OW _ _ _ _ _ _ _ _
                  refine OW.done ?_
                  refine TW.cond rfl (fun c129 => ?_) (fun c129 => ?_)
                  · have hm := ite_t c129 hm
                    refine TW.seq (TW.region ?_)
                    refine OW.build rfl rfl rfl rfl rfl (cs := [Value.int .i64 0, Value.int .i64 0, Value.string ⟨List.toArray ([] : List UInt8)⟩, Value.slice none 0 0]) rfl ?_
                    refine OW.store rfl rfl rfl shp_24 rfl rfl (vs := [Value.int .i64 0, Value.int .i64 0, Value.string ⟨List.toArray ([] : List UInt8)⟩, Value.slice none 0 0]) rfl rfl hb109 rfl (one_cons rfl (one_cons rfl (one_cons rfl (one_cons rfl one_nil)))) (cs' := [Value.int .i64 0, Value.int .i64 0, Value.string ⟨List.toArray ([] : List UInt8)⟩, Value.slice none 0 0]) rfl ?_
                    intro w130 hb131 x132
                    have t133 := Tr.of_ext (O := O102) x132 (fun _ _ h => by cases h; exact m107)
                    have B135 := B103.ext x132
                    have X134 := X104.step x132 (fun y hy h => absurd hy (by cases h; have := g9; omega))
                    refine OW.assign rfl rfl rfl rfl rfl ?_
                    refine OW.done ?_
                    have hb136 := (hb110.keep x132 n10)
                    cases hm
                    exact TW.ret (Out.many rfl ⟨_, _, rfl, ⟨_, _, _, _, _, rfl, shp_24, hb131, rfl, rfl⟩, ⟨_, _, rfl, rfl, rfl⟩⟩ rfl) ⟨_, _, rfl, (T_api_Cbor.shut (x := (T_api_Cbor.mk 0 0 ([] : List UInt8) [])) RD.nil), hb136, (T_seneschalref03_reader.shut (x := (T_seneschalref03_reader.mk y13.2.2.2.gs (IntKind.wrap .i64 (y13.2.2.2.gi + y13.2.1))))), X134⟩
                  · have hm := ite_f c129 hm
                    refine TW.skip (TW.seq (TW.region ?_))
                    refine OW.move rfl rfl rfl rfl rfl ?_
                    refine OW.binI rfl rfl rfl rfl rfl rfl rfl ?_
                    refine OW.move rfl rfl rfl rfl rfl ?_
                    refine OW.build rfl rfl rfl rfl rfl (cs := [Value.int .i64 (IntKind.wrap .i64 (y13.1 - 1)), Value.int .i64 0, Value.string ⟨List.toArray s84⟩, Value.slice none 0 0]) rfl ?_
                    refine OW.store rfl rfl rfl shp_24 rfl rfl (vs := [Value.int .i64 (IntKind.wrap .i64 (y13.1 - 1)), Value.int .i64 0, Value.string ⟨List.toArray s84⟩, Value.slice none 0 0]) rfl rfl hb109 rfl (one_cons rfl (one_cons rfl (one_cons rfl (one_cons rfl one_nil)))) (cs' := [Value.int .i64 (IntKind.wrap .i64 (y13.1 - 1)), Value.int .i64 0, Value.string ⟨List.toArray s84⟩, Value.slice none 0 0]) rfl ?_
                    intro w137 hb138 x139
                    have t140 := Tr.of_ext (O := O102) x139 (fun _ _ h => by cases h; exact m107)
                    have B142 := B103.ext x139
                    have X141 := X104.step x139 (fun y hy h => absurd hy (by cases h; have := g9; omega))
                    refine OW.assign rfl rfl rfl rfl rfl ?_
                    refine OW.done ?_
                    have hb143 := (hb110.keep x139 n10)
                    cases hm
                    exact TW.ret (Out.many rfl ⟨_, _, rfl, ⟨_, _, _, _, _, rfl, shp_24, hb138, rfl, rfl⟩, ⟨_, _, rfl, rfl, rfl⟩⟩ rfl) ⟨_, _, rfl, (T_api_Cbor.shut (x := (T_api_Cbor.mk (IntKind.wrap .i64 (y13.1 - 1)) 0 s84 [])) RD.nil), hb143, (T_seneschalref03_reader.shut (x := (T_seneschalref03_reader.mk y13.2.2.2.gs (IntKind.wrap .i64 (y13.2.2.2.gi + y13.2.1))))), X141⟩
                · intro key113
                  rcases c114 : (decide (y13.1 = 3)) with _ | _
                  · have hm := ite_f c114 hx112
                    try simp only [c114] at key113
                    refine OW.not rfl rfl rfl rfl rfl rfl ?_
                    refine OW.not rfl rfl rfl rfl rfl rfl ?_
                    refine OW.not rfl rfl rfl rfl rfl rfl ?_
                    refine OW.pick_f rfl rfl rfl rfl rfl rfl ?_
                    cases hm
                    have hb127 := (hb93.keep x96 (Ne.symm n10))
                    have h128 := G55.tr (t65.trans (t80.trans t97))
                    exact OW.sub (Sub.cons rfl (Sub.cons rfl (Sub.cons rfl (Sub.cons rfl (Sub.cons rfl (Sub.cons rfl (Sub.cons rfl (Sub.cons rfl Sub.nil)))))))) (key113 w94 O51 B99 h128 X98 (fun x h => (lf54 _ h)) m57 m56 hb127 hb95)
                  · have hm := ite_t c114 hx112
                    try simp only [c114] at key113
                    refine OW.yes rfl rfl rfl ?_
                    refine OW.move rfl rfl rfl rfl rfl ?_
                    refine OW.yes rfl rfl rfl ?_
                    have hb115 := (hb93.keep x96 (Ne.symm n10))
                    have h116 := G55.tr (t65.trans (t80.trans t97))
                    obtain ⟨y117, hy118, hm⟩ := bnd hm
                    refine OW.call rfl rfl rfl rfl rfl rfl Tryd.call31 ((C.validString _ _ hy118 _ O51  B99 h116).mono ?_)
                    rintro e w119 ⟨rfl, x120⟩
                    refine CallK.ret ?_
                    have t121 := Tr.of_ext (O := O51) x120 (fun _ _ h => h.elim)
                    have B123 := B99.ext x120
                    have X122 := X98.step x120 (fun _ _ h => h.elim)
                    refine OW.yes rfl rfl rfl ?_
                    refine OW.notB rfl rfl rfl rfl rfl ?_
                    refine OW.pick_t rfl rfl rfl rfl rfl rfl ?_
                    cases hm
                    have hb124 := (hb115.keep x120 (fun h => h))
                    have hb125 := (hb95.keep x120 (fun h => h))
                    have h126 := h116.tr t121
                    exact OW.sub (Sub.cons rfl (Sub.cons rfl (Sub.cons rfl (Sub.cons rfl (Sub.cons rfl (Sub.cons rfl (Sub.cons rfl (Sub.cons rfl Sub.nil)))))))) (key113 w119 O51 B123 h126 X122 (fun x h => (lf54 _ h)) m57 m56 hb124 hb125)
            · have hm := ite_f c62 hm
              refine TW.skip (TW.inBlock (TW.seq (TW.seq (TW.region ?_))))
              refine OW.move rfl rfl rfl rfl rfl ?_
              refine OW.binI rfl rfl rfl rfl rfl rfl rfl ?_
              refine OW.done ?_
              refine TW.cond rfl (fun c144 => ?_) (fun c144 => ?_)
              · have hm := ite_t c144 hm
                refine TW.seq (TW.region ?_)
                refine OW.build rfl rfl rfl rfl rfl (cs := [Value.int .i64 0, Value.int .i64 0, Value.string ⟨List.toArray ([] : List UInt8)⟩, Value.slice none 0 0]) rfl ?_
                refine OW.store rfl rfl rfl shp_24 rfl rfl (vs := [Value.int .i64 0, Value.int .i64 0, Value.string ⟨List.toArray ([] : List UInt8)⟩, Value.slice none 0 0]) rfl rfl hb59 rfl (one_cons rfl (one_cons rfl (one_cons rfl (one_cons rfl one_nil)))) (cs' := [Value.int .i64 0, Value.int .i64 0, Value.string ⟨List.toArray ([] : List UInt8)⟩, Value.slice none 0 0]) rfl ?_
                intro w145 hb146 x147
                have t148 := Tr.of_ext (O := O51) x147 (fun _ _ h => by cases h; exact m57)
                have B150 := B52.ext x147
                have X149 := X53.step x147 (fun y hy h => absurd hy (by cases h; have := g9; omega))
                refine OW.assign rfl rfl rfl rfl rfl ?_
                refine OW.done ?_
                have hb151 := (hb58.keep x147 n10)
                cases hm
                exact TW.ret (Out.many rfl ⟨_, _, rfl, ⟨_, _, _, _, _, rfl, shp_24, hb146, rfl, rfl⟩, ⟨_, _, rfl, rfl, rfl⟩⟩ rfl) ⟨_, _, rfl, (T_api_Cbor.shut (x := (T_api_Cbor.mk 0 0 ([] : List UInt8) [])) RD.nil), hb151, (T_seneschalref03_reader.shut (x := y13.2.2.2)), X149⟩
              · have hm := ite_f c144 hm
                refine TW.skip (TW.seq (TW.region ?_))
                refine OW.move rfl rfl rfl rfl rfl ?_
                refine OW.binI rfl rfl rfl rfl rfl rfl rfl ?_
                refine OW.build rfl rfl rfl rfl rfl (cs := [Value.int .i64 (IntKind.wrap .i64 (y13.1 - 1)), Value.int .i64 0, Value.string ⟨List.toArray ([] : List UInt8)⟩, Value.slice none 0 0]) rfl ?_
                refine OW.alloc rfl rfl rfl rfl zer_24 (cs := [Value.int .i64 0, Value.int .i64 0, Value.string ⟨List.toArray ([] : List UInt8)⟩, Value.slice none 0 0]) rfl ?_
                intro b152 w153 hb154 x155 l156
                have t157 := Tr.of_new (O := O51) x155 (fun _ _ h => h.elim) l156
                have B159 := (B52.ext x155).ins hb154.lt
                have X158 := X53.step x155 (fun _ _ h => h.elim)
                have g160 : w0.heap.size ≤ b152 := Nat.le_trans X53.size l156
                have n161 : b0 ≠ b152 := by have := hb58.lt; omega
                have n162 : b1 ≠ b152 := by have := hb59.lt; omega
                have hb163 := (hb58.keep x155 (fun h => h))
                have hb164 := (hb59.keep x155 (fun h => h))
                refine OW.store rfl rfl rfl shp_24 rfl rfl (vs := [Value.int .i64 (IntKind.wrap .i64 (y13.1 - 1)), Value.int .i64 0, Value.string ⟨List.toArray ([] : List UInt8)⟩, Value.slice none 0 0]) rfl rfl hb154 rfl (one_cons rfl (one_cons rfl (one_cons rfl (one_cons rfl one_nil)))) (cs' := [Value.int .i64 (IntKind.wrap .i64 (y13.1 - 1)), Value.int .i64 0, Value.string ⟨List.toArray ([] : List UInt8)⟩, Value.slice none 0 0]) rfl ?_
                intro w165 hb166 x167
                have t168 := Tr.of_ext (O := (Ins O51 b152)) x167 (fun _ _ h => by cases h; exact (Or.inl rfl))
                have B170 := B159.ext x167
                have X169 := X158.step x167 (fun y hy h => absurd hy (by cases h; have := g160; omega))
                refine OW.done (TW.seq (TW.region ?_))
                refine OW.assign rfl rfl rfl rfl rfl ?_
                refine OW.done (TW.seq (TW.seq (TW.region ?_)))
                refine OW.assign rfl rfl rfl rfl rfl ?_
                refine OW.done (TW.block ?_)
                refine TW.lp (fun K => ∀ (x180 : List UInt8) (x181 : Int) (x183 : Int) (x184 : Int) (x185 : List UInt8) (x186 : List T_api_Cbor) (x190 : Int) (x191 : Int) (x192 : List UInt8) (x193 : List T_api_Cbor) (x198 : List UInt8) (x199 : Int), M.r03_reader_item_k3 (fuel + 1) (M.r03_reader_item fuel) p1 y13 x180 x181 x183 x184 x185 x186 x190 x191 x192 x193 x198 x199 = some r → ∀ (w171 : World) (O172 : Nat → Prop) (v187 : Value) (v194 : Value), Bd O172 w171 → Glob w171 O172 → Ext (At b0) w0 w171 → (∀ x, O0 x → O172 x) → (O172 b0) → (O172 b1) → (O172 b152) → (BoxAt w171 b0 48 [Value.string ⟨List.toArray x180⟩, Value.int .i64 x181]) → (RD w171 O172 (D.sl 24 4 (x186.map T_api_Cbor.enc)) v187) → (BoxAt w171 b1 24 [Value.int .i64 x183, Value.int .i64 x184, Value.string ⟨List.toArray x185⟩, v187]) → (Own w171 O172 24 4 v194 (x193.map T_api_Cbor.enc)) → (∀ b, v194.ownBlock = some b → b < w0.heap.size → (At b0) b) → (BoxAt w171 b152 24 [Value.int .i64 x190, Value.int .i64 x191, Value.string ⟨List.toArray x192⟩, v194]) → (v194.ownBlock ≠ some b0) → (v194.ownBlock ≠ some b1) → (v194.ownBlock ≠ some b152) →  K [(0, Value.pointer (some ⟨b0, 0, none⟩)), (1, Value.int .i64 p1), (4, Value.pointer (some ⟨b1, 0, none⟩)), (6, Value.int .i64 y13.1), (7, Value.int .i64 y13.2.1), (10, Value.pointer (some ⟨b152, 0, none⟩)), (11, Value.string ⟨List.toArray x198⟩), (12, Value.int .i64 x199)] w171) ?_ ?_
                · intro K hin203 hout204
                  refine fun x180 x181 x183 x184 x185 x186 x190 x191 x192 x193 x198 x199 hm => M.r03_reader_item_k3.partial_correctness (fuel + 1) (M.r03_reader_item fuel) p1 y13 x183 x184 x185 x186 x190 x191 x192 (fun x180 x181 x193 x198 x199 r1495 => r1495 = r → ∀ (w171 : World) (O172 : Nat → Prop) (v187 : Value) (v194 : Value), Bd O172 w171 → Glob w171 O172 → Ext (At b0) w0 w171 → (∀ x, O0 x → O172 x) → (O172 b0) → (O172 b1) → (O172 b152) → (BoxAt w171 b0 48 [Value.string ⟨List.toArray x180⟩, Value.int .i64 x181]) → (RD w171 O172 (D.sl 24 4 (x186.map T_api_Cbor.enc)) v187) → (BoxAt w171 b1 24 [Value.int .i64 x183, Value.int .i64 x184, Value.string ⟨List.toArray x185⟩, v187]) → (Own w171 O172 24 4 v194 (x193.map T_api_Cbor.enc)) → (∀ b, v194.ownBlock = some b → b < w0.heap.size → (At b0) b) → (BoxAt w171 b152 24 [Value.int .i64 x190, Value.int .i64 x191, Value.string ⟨List.toArray x192⟩, v194]) → (v194.ownBlock ≠ some b0) → (v194.ownBlock ≠ some b1) → (v194.ownBlock ≠ some b152) →  K [(0, Value.pointer (some ⟨b0, 0, none⟩)), (1, Value.int .i64 p1), (4, Value.pointer (some ⟨b1, 0, none⟩)), (6, Value.int .i64 y13.1), (7, Value.int .i64 y13.2.1), (10, Value.pointer (some ⟨b152, 0, none⟩)), (11, Value.string ⟨List.toArray x198⟩), (12, Value.int .i64 x199)] w171) ?_ x180 x181 x193 x198 x199 r hm rfl
                  intro self ih205 x180 x181 x193 x198 x199 r1495 hm hr1496 w171 O172 v187 v194 B173 G176 X174 lf175 m177 m178 m179 hb182 h188 hb189 h195 gv196 hb197 n200 n201 n202
                  rw [hr1496] at hm
                  refine hin203 _ _ ?_
                  refine TW.seq (TW.seq (TW.region ?_))
                  refine OW.move rfl rfl rfl rfl rfl ?_
                  refine OW.move rfl rfl rfl rfl rfl ?_
                  refine OW.binI rfl rfl rfl rfl rfl rfl rfl ?_
                  refine OW.done ?_
                  refine TW.cond rfl (fun c206 => ?_) (fun c206 => ?_)
                  · have hm := ite_t c206 hm
                    refine TW.skip (TW.seq (TW.block (TW.seq (TW.seq (TW.region ?_)))))
                    refine OW.move rfl rfl rfl rfl rfl ?_
                    refine OW.binI rfl rfl rfl rfl rfl rfl rfl ?_
                    refine OW.done ?_
                    refine TW.cond rfl (fun c207 => ?_) (fun c207 => ?_)
                    · have hm := ite_t c207 hm
                      refine TW.seq (TW.region ?_)
                      refine OW.move rfl rfl rfl rfl rfl ?_
                      refine OW.nilCheck rfl rfl rfl rfl rfl ?_
                      refine OW.fieldAddr rfl rfl rfl rfl fld_48_1 rfl ?_
                      refine OW.load1 rfl rfl rfl rfl shp_3 rfl hb182 rfl ?_
                      refine OW.assign rfl rfl rfl rfl rfl ?_
                      refine OW.done (TW.seq (TW.region ?_))
                      refine OW.move rfl rfl rfl rfl rfl ?_
                      refine OW.move rfl rfl rfl rfl rfl ?_
                      refine OW.binI rfl rfl rfl rfl rfl rfl rfl ?_
                      obtain ⟨y208, hy209, hm⟩ := bnd hm
                      refine OW.call rfl rfl rfl rfl rfl rfl Tryd.call19 ((ih _ _ _ hy209 _ O172 _ _ B173 G176 hb182 (T_seneschalref03_reader.shut (x := (T_seneschalref03_reader.mk x180 x181))) m177).mono ?_)
                      rintro e w215 ⟨cs210, cs212, rfl, h211, hb213, h214, x216⟩
                      obtain ⟨v217, rfl, h218⟩ := T_api_Cbor.opn h211
                      obtain rfl := T_seneschalref03_reader.opn h214
                      refine CallK.ret ?_
                      have t219 := Tr.of_ext (O := O172) x216 (fun _ _ h => by cases h; exact m177)
                      have B221 := B173.ext x216
                      have X220 := X174.step x216 (fun y hy h => h)
                      refine OW.move rfl rfl rfl rfl rfl ?_
                      refine OW.extract rfl rfl rfl rfl rfl rfl ?_
                      refine OW.extract rfl rfl rfl rfl rfl rfl ?_
                      have hb227 := (hb189.keep x216 (Ne.symm n10))
                      have hb228 := (hb197.keep x216 (Ne.symm n161))
                      have ho229 := (h195.keep x216 (fun b h e => n200 (e ▸ h)) t219 (fun _ h => h))
                      refine OW.alloc rfl rfl rfl rfl zer_24 (cs := [Value.int .i64 0, Value.int .i64 0, Value.string ⟨List.toArray ([] : List UInt8)⟩, Value.slice none 0 0]) rfl ?_
                      intro b222 w223 hb224 x225 l226
                      have t230 := Tr.of_new (O := O172) x225 (fun _ _ h => h.elim) l226
                      have B232 := (B221.ext x225).ins hb224.lt
                      have X231 := X220.step x225 (fun _ _ h => h.elim)
                      have g233 : w0.heap.size ≤ b222 := Nat.le_trans X220.size l226
                      have n234 : b0 ≠ b222 := by have := hb213.lt; omega
                      have n235 : b1 ≠ b222 := by have := hb227.lt; omega
                      have n236 : b152 ≠ b222 := by have := hb228.lt; omega
                      have n237 : v194.ownBlock ≠ some b222 := fun h => by have := ho229.lt _ h; omega
                      have hb238 := (hb213.keep x225 (fun h => h))
                      have hb239 := (hb227.keep x225 (fun h => h))
                      have hb240 := (hb228.keep x225 (fun h => h))
                      have ho241 := (ho229.keep x225 (fun _ _ h => h) t230 (fun _ h => Or.inr h))
                      refine OW.store rfl rfl rfl shp_24 rfl rfl (vs := [Value.int .i64 y208.1.gKind, Value.int .i64 y208.1.gNum, Value.string ⟨List.toArray y208.1.gText⟩, v217]) rfl rfl hb224 rfl (one_cons rfl (one_cons rfl (one_cons rfl (one_cons (RD.one _ _ h218) one_nil)))) (cs' := [Value.int .i64 y208.1.gKind, Value.int .i64 y208.1.gNum, Value.string ⟨List.toArray y208.1.gText⟩, v217]) rfl ?_
                      intro w242 hb243 x244
                      have t245 := Tr.of_ext (O := (Ins O172 b222)) x244 (fun _ _ h => by cases h; exact (Or.inl rfl))
                      have B247 := B232.ext x244
                      have X246 := X231.step x244 (fun y hy h => absurd hy (by cases h; have := g233; omega))
                      refine OW.assign rfl rfl rfl rfl rfl ?_
                      refine OW.done (TW.seq (TW.seq ?_))
                      refine TW.drawP [0, 1, 3, 7, 15, 31, 63, 127, 255, 511, 1023, 2047, 4095, 8191, 16383, 32767, 4095, 4095, 135167, 397311, 921599, 2097151, 4095, 8388607, 16777215, 33554431] [0, 1, 2, 3, 4, 5, 6, 7, 8, 9, 10, 11, 12, 13, 14, 15, 16, 17, 18, 19, 20, 21, 22, 23, 24, 25] [] mix (by kernel_rfl) ?_
                      intro w248 x249
                      have t250 := Tr.of_ext (O := (Ins O172 b222)) x249 (fun _ _ h => h.elim)
                      have B252 := B247.ext x249
                      have X251 := X246.step x249 (fun _ _ h => h.elim)
                      rcases Bool.eq_false_or_eq_true (decide (y208.2.1 = 0)) with hk253 | hk253
                      · have hm := ite_t hk253 hm
                        have hb254 := (hb243.keep x249 (fun h => h))
                        rcases Bool.eq_false_or_eq_true (!decide (y208.1.gKind = 0)) with hk255 | hk255
                        · have hm := ite_t hk255 hm
                          rcases Bool.eq_false_or_eq_true (!decide (y208.1.gKind = 2)) with hk256 | hk256
                          · have hm := ite_t hk256 hm
                            refine DP.put [(112, Value.int .i64 y208.2.1), (113, Value.bool (decide (y208.2.1 = 0))), (114, Value.bool (decide (y208.2.1 = 0))), (115, Value.pointer (some ⟨b222, 0 + 0, none⟩)), (116, Value.int .i64 y208.1.gKind), (117, Value.bool (!decide (y208.1.gKind = 0))), (118, Value.bool (!decide (y208.1.gKind = 0))), (119, Value.pointer (some ⟨b222, 0 + 0, none⟩)), (120, Value.int .i64 y208.1.gKind), (121, Value.bool (!decide (y208.1.gKind = 2))), (122, Value.bool (!decide (y208.1.gKind = 2))), (123, Value.bool (!decide (y208.1.gKind = 2))), (124, undef), (125, undef), (126, undef), (127, undef), (128, undef), (129, undef), (130, undef), (131, undef), (132, undef), (133, undef), (134, undef), (135, undef), (136, Value.bool true), (137, Value.bool true)] rfl ?_
                            refine DW.end' (StabE.cons rfl rfl rfl rfl (EX.move rfl rfl) (StabE.cons rfl rfl rfl rfl (EX.binI rfl rfl rfl rfl) (StabE.cons rfl rfl rfl rfl (EX.move rfl rfl) (StabE.yesH rfl rfl rfl rfl rfl rfl hk253 (EX.fieldAddr rfl fld_24_0 rfl) (StabE.yesH rfl rfl rfl rfl rfl rfl hk253 (EX.load1 rfl shp_3 rfl hb254 rfl) (StabE.yesH rfl rfl rfl rfl rfl rfl hk253 (EX.binI rfl rfl rfl rfl) (StabE.yesH rfl rfl rfl rfl rfl rfl hk253 (EX.move rfl rfl) (StabE.yesH rfl rfl rfl rfl rfl rfl hk255 (EX.fieldAddr rfl fld_24_0 rfl) (StabE.yesH rfl rfl rfl rfl rfl rfl hk255 (EX.load1 rfl shp_3 rfl hb254 rfl) (StabE.yesH rfl rfl rfl rfl rfl rfl hk255 (EX.binI rfl rfl rfl rfl) (StabE.yesH rfl rfl rfl rfl rfl rfl hk253 (EX.pickT rfl rfl hk255 rfl) (StabE.yesH rfl rfl rfl rfl rfl rfl hk253 (EX.move rfl rfl) (StabE.not rfl rfl rfl rfl rfl rfl (by rw [hk256]; rfl) (StabE.not rfl rfl rfl rfl rfl rfl (by rw [hk256]; rfl) (StabE.not rfl rfl rfl rfl rfl rfl (by rw [hk256]; rfl) (StabE.not rfl rfl rfl rfl rfl rfl (by rw [hk256]; rfl) (StabE.not rfl rfl rfl rfl rfl rfl (by rw [hk256]; rfl) (StabE.not rfl rfl rfl rfl rfl rfl (by rw [hk256]; rfl) (StabE.not rfl rfl rfl rfl rfl rfl (by rw [hk256]; rfl) (StabE.not rfl rfl rfl rfl rfl rfl (by rw [hk256]; rfl) (StabE.not rfl rfl rfl rfl rfl rfl (by rw [hk256]; rfl) (StabE.not rfl rfl rfl rfl rfl rfl (by rw [hk256]; rfl) (StabE.not rfl rfl rfl rfl rfl rfl (by rw [hk256]; rfl) (StabE.not rfl rfl rfl rfl rfl rfl (by rw [hk256]; rfl) (StabE.yesH rfl rfl rfl rfl rfl rfl hk253 (EX.pickT rfl rfl hk256 rfl) (StabE.cons rfl rfl rfl rfl (EX.pickT rfl rfl hk253 rfl) StabE.nil)))))))))))))))))))))))))) ?_
                            refine TW.cond_t rfl (TW.region ?_)
                            refine OW.assign rfl rfl rfl rfl rfl ?_
                            refine OW.done (TW.seq (TW.seq (TW.region ?_)))
                            refine OW.move rfl rfl rfl rfl rfl ?_
                            refine OW.binI rfl rfl rfl rfl rfl rfl rfl ?_
                            refine OW.done ?_
                            refine TW.cond rfl (fun c257 => ?_) (fun c257 => ?_)
                            · have hm := ite_t c257 hm
                              refine TW.seq (TW.region ?_)
                              refine OW.build rfl rfl rfl rfl rfl (cs := [Value.int .i64 0, Value.int .i64 0, Value.string ⟨List.toArray ([] : List UInt8)⟩, Value.slice none 0 0]) rfl ?_
                              refine OW.move rfl rfl rfl rfl rfl ?_
                              have hb258 := ((hb239.keep x244 n235).keep x249 (fun h => h))
                              have hb259 := ((hb238.keep x244 n234).keep x249 (fun h => h))
                              have hb260 := ((hb240.keep x244 n236).keep x249 (fun h => h))
                              have ho261 := ((ho241.keep x244 (fun b h e => n237 (e ▸ h)) t245 (fun _ h => h)).keep x249 (fun _ _ h => h) t250 (fun _ h => h))
                              refine OW.store rfl rfl rfl shp_24 rfl rfl (vs := [Value.int .i64 0, Value.int .i64 0, Value.string ⟨List.toArray ([] : List UInt8)⟩, Value.slice none 0 0]) rfl rfl hb258 rfl (one_cons rfl (one_cons rfl (one_cons rfl (one_cons rfl one_nil)))) (cs' := [Value.int .i64 0, Value.int .i64 0, Value.string ⟨List.toArray ([] : List UInt8)⟩, Value.slice none 0 0]) rfl ?_
                              intro w262 hb263 x264
                              have t265 := Tr.of_ext (O := (Ins O172 b222)) x264 (fun _ _ h => by cases h; exact (Or.inr m178))
                              have B267 := B252.ext x264
                              have X266 := X251.step x264 (fun y hy h => absurd hy (by cases h; have := g9; omega))
                              refine OW.assign rfl rfl rfl rfl rfl ?_
                              refine OW.done ?_
                              have hb268 := (hb259.keep x264 n10)
                              cases hm
                              exact TW.ret (Out.many rfl ⟨_, _, rfl, ⟨_, _, _, _, _, rfl, shp_24, hb263, rfl, rfl⟩, ⟨_, _, rfl, rfl, rfl⟩⟩ rfl) ⟨_, _, rfl, (T_api_Cbor.shut (x := (T_api_Cbor.mk 0 0 ([] : List UInt8) [])) RD.nil), hb268, (T_seneschalref03_reader.shut (x := y208.2.2)), X266⟩
                            · have hm := ite_f c257 hm
                              refine TW.skip (TW.seq ?_)
                              refine TW.drawP [0, 1, 3, 7, 0, 0, 32, 96, 224, 511, 1023] [0, 1, 2, 3, 4, 5, 6, 7, 8, 9, 10] [] mix (by kernel_rfl) ?_
                              intro w269 x270
                              have t271 := Tr.of_ext (O := (Ins O172 b222)) x270 (fun _ _ h => h.elim)
                              have B273 := B252.ext x270
                              have X272 := X251.step x270 (fun _ _ h => h.elim)
                              have hb274 := (((hb238.keep x244 n234).keep x249 (fun h => h)).keep x270 (fun h => h))
                              obtain ⟨s275, h276, hm⟩ := bnd hm
                              obtain ⟨p277, q278, h279, h280, h281, h282, h283⟩ := sub_some h276
                              refine DP.put [(142, Value.pointer (some ⟨b0, 0, none⟩)), (143, Value.pointer (some ⟨b0, 0, none⟩)), (144, Value.pointer (some ⟨b0, 0 + 0, none⟩)), (145, Value.string ⟨List.toArray y208.2.2.gs⟩), (146, Value.int .i64 x181), (147, Value.pointer (some ⟨b0, 0, none⟩)), (148, Value.pointer (some ⟨b0, 0, none⟩)), (149, Value.pointer (some ⟨b0, 0 + 1, none⟩)), (150, Value.int .i64 y208.2.2.gi), (151, Value.string ⟨List.toArray s275⟩), (11, Value.string ⟨List.toArray s275⟩)] rfl ?_
                              refine DW.end' (StabE.cons rfl rfl rfl rfl (EX.move rfl rfl) (StabE.cons rfl rfl rfl rfl (EX.nilCheck rfl rfl) (StabE.cons rfl rfl rfl rfl (EX.fieldAddr rfl fld_48_0 rfl) (StabE.cons rfl rfl rfl rfl (EX.load1 rfl shp_9 rfl hb274 rfl) (StabE.cons rfl rfl rfl rfl (EX.move rfl rfl) (StabE.cons rfl rfl rfl rfl (EX.move rfl rfl) (StabE.cons rfl rfl rfl rfl (EX.nilCheck rfl rfl) (StabE.cons rfl rfl rfl rfl (EX.fieldAddr rfl fld_48_1 rfl) (StabE.cons rfl rfl rfl rfl (EX.load1 rfl shp_3 rfl hb274 rfl) (StabE.cons rfl rfl rfl rfl (by rw [h283]; exact (EX.sliceS rfl Tryd.underlying9 rfl (a := p277) (b := q278) ⟨_, _, rfl, h279⟩ ⟨_, _, rfl, h280⟩ h281 h282)) (StabE.cons rfl rfl rfl rfl (EX.assign rfl rfl) StabE.nil))))))))))) ?_
                              refine TW.region ?_
                              refine OW.fieldAddr rfl rfl rfl rfl fld_24_3 rfl ?_
                              have hb284 := (((hb240.keep x244 n236).keep x249 (fun h => h)).keep x270 (fun h => h))
                              refine OW.load1 rfl rfl rfl rfl shp_22 rfl hb284 rfl ?_
                              have hb285 := (hb254.keep x270 (fun h => h))
                              refine OW.loadN rfl rfl rfl rfl shp_24 rfl hb285 (vs := [Value.int .i64 y208.1.gKind, Value.int .i64 y208.1.gNum, Value.string ⟨List.toArray y208.1.gText⟩, v217]) rfl rfl ?_
                              have h286 := h218.tr (t230.trans (t245.trans (t250.trans t271)))
                              have hb287 := (((hb239.keep x244 n235).keep x249 (fun h => h)).keep x270 (fun h => h))
                              have ho288 := (((ho241.keep x244 (fun b h e => n237 (e ▸ h)) t245 (fun _ h => h)).keep x249 (fun _ _ h => h) t250 (fun _ h => h)).keep x270 (fun _ _ h => h) t271 (fun _ h => h))
                              refine OW.buildSlice rfl rfl rfl rfl Tryd.underlying22 shp_24 zer_24 rfl rfl (cs := [Value.int .i64 y208.1.gKind, Value.int .i64 y208.1.gNum, Value.string ⟨List.toArray y208.1.gText⟩, v217]) rfl rfl rfl ?_
                              intro b289 w290 hb291 x292 l293
                              have t295 := Tr.of_ext (O := (Ins O172 b222)) x292 (fun _ _ h => h.elim)
                              have B297 := B273.ext x292
                              have X296 := X272.step x292 (fun _ _ h => h.elim)
                              have h298 := h286.tr t295
                              have h294 : RD w290 (Ins O172 b222) (D.sl 24 4 ([y208.1].map T_api_Cbor.enc)) (Value.slice (some ⟨b289, 0, none⟩) 1 1) := RD.of_new hb291 B273 l293 rfl (Nat.le_of_ble_eq_true rfl) rfl ⟨(T_api_Cbor.shut (x := y208.1) h298), trivial⟩
                              have hb299 := (hb274.keep x292 (fun h => h))
                              have hb300 := (hb287.keep x292 (fun h => h))
                              have hb301 := (hb284.keep x292 (fun h => h))
                              have hb302 := (hb285.keep x292 (fun h => h))
                              have ho303 := (ho288.keep x292 (fun _ _ h => h) t295 (fun _ h => h))
                              obtain ⟨l304, h305, hm⟩ := bnd hm
                              obtain ⟨hx306, hl307⟩ := app_some h305
                              refine OW.appendL' rfl rfl rfl rfl Tryd.underlying22 inf_24 rfl rfl rfl rfl rfl ho303 B297 h294 hl307 ?_
                              intro v308 w309 O310 G311
                              rw [← hx306] at G311
                              have X312 := X296.step G311.ext (fun y hy h => gv196 y h hy)
                              have gv313 : ∀ b, v308.ownBlock = some b → b < w0.heap.size → (At b0) b := fun b h hl => (G311.at_ b h).elim (fun h => gv196 b h hl) (fun h => absurd hl (by have := X296.size; omega))
                              have n314 : v308.ownBlock ≠ some b0 := fun h => (G311.at_ _ h).elim n200 (fun h => by have := hb299.lt; omega)
                              have n315 : v308.ownBlock ≠ some b1 := fun h => (G311.at_ _ h).elim n201 (fun h => by have := hb300.lt; omega)
                              have n316 : v308.ownBlock ≠ some b152 := fun h => (G311.at_ _ h).elim n202 (fun h => by have := hb301.lt; omega)
                              have n317 : v308.ownBlock ≠ some b222 := fun h => (G311.at_ _ h).elim n237 (fun h => by have := hb302.lt; omega)
                              refine OW.fieldAddr rfl rfl rfl rfl fld_24_3 rfl ?_
                              have hb318 := (hb301.keep G311.ext (n202))
                              have hb319 := (hb299.keep G311.ext (n200))
                              have hb320 := (hb300.keep G311.ext (n201))
                              have hb321 := (hb302.keep G311.ext (n237))
                              refine OW.store rfl rfl rfl shp_22 rfl rfl (vs := [v308]) (cells_one G311.own.one) rfl hb318 rfl (one_cons G311.own.one one_nil) (cs' := [Value.int .i64 x190, Value.int .i64 x191, Value.string ⟨List.toArray x192⟩, v308]) rfl ?_
                              intro w322 hb323 x324
                              have t325 := Tr.of_ext (O := O310) x324 (fun _ _ h => by cases h; exact (G311.more _ (Or.inr m179)))
                              have B327 := G311.bd.ext x324
                              have X326 := X312.step x324 (fun y hy h => absurd hy (by cases h; have := g160; omega))
                              refine OW.done (TW.seq (TW.region ?_))
                              refine OW.move rfl rfl rfl rfl rfl ?_
                              refine OW.move rfl rfl rfl rfl rfl ?_
                              refine OW.binI rfl rfl rfl rfl rfl rfl rfl ?_
                              have hb328 := (hb319.keep x324 n161)
                              have hb329 := (hb320.keep x324 n162)
                              have hb330 := (hb321.keep x324 (Ne.symm n236))
                              have ho331 := (G311.own.keep x324 (fun b h e => n316 (e ▸ h)) t325 (fun _ h => h))
                              have h332 := G176.tr (t219.trans (t230.trans (t245.trans (t250.trans (t271.trans (t295.trans (G311.tr.trans t325)))))))
                              obtain ⟨y333, hy334, hm⟩ := bnd hm
                              refine OW.call rfl rfl rfl rfl rfl rfl Tryd.call19 ((ih _ _ _ hy334 _ O310 _ _ B327 h332 hb328 (T_seneschalref03_reader.shut (x := y208.2.2)) (G311.more _ (Or.inr m177))).mono ?_)
                              rintro e w340 ⟨cs335, cs337, rfl, h336, hb338, h339, x341⟩
                              obtain ⟨v342, rfl, h343⟩ := T_api_Cbor.opn h336
                              obtain rfl := T_seneschalref03_reader.opn h339
                              refine CallK.ret ?_
                              have t344 := Tr.of_ext (O := O310) x341 (fun _ _ h => by cases h; exact (G311.more _ (Or.inr m177)))
                              have B346 := B327.ext x341
                              have X345 := X326.step x341 (fun y hy h => h)
                              refine OW.move rfl rfl rfl rfl rfl ?_
                              refine OW.extract rfl rfl rfl rfl rfl rfl ?_
                              refine OW.extract rfl rfl rfl rfl rfl rfl ?_
                              have hb352 := (hb329.keep x341 (Ne.symm n10))
                              have hb353 := (hb323.keep x341 (Ne.symm n161))
                              have hb354 := (hb330.keep x341 (Ne.symm n234))
                              have ho355 := (ho331.keep x341 (fun b h e => n314 (e ▸ h)) t344 (fun _ h => h))
                              refine OW.alloc rfl rfl rfl rfl zer_24 (cs := [Value.int .i64 0, Value.int .i64 0, Value.string ⟨List.toArray ([] : List UInt8)⟩, Value.slice none 0 0]) rfl ?_
                              intro b347 w348 hb349 x350 l351
                              have t356 := Tr.of_new (O := O310) x350 (fun _ _ h => h.elim) l351
                              have B358 := (B346.ext x350).ins hb349.lt
                              have X357 := X345.step x350 (fun _ _ h => h.elim)
                              have g359 : w0.heap.size ≤ b347 := Nat.le_trans X345.size l351
                              have n360 : b0 ≠ b347 := by have := hb338.lt; omega
                              have n361 : b1 ≠ b347 := by have := hb352.lt; omega
                              have n362 : b152 ≠ b347 := by have := hb353.lt; omega
                              have n363 : b222 ≠ b347 := by have := hb354.lt; omega
                              have n364 : v308.ownBlock ≠ some b347 := fun h => by have := ho355.lt _ h; omega
                              have hb365 := (hb338.keep x350 (fun h => h))
                              have hb366 := (hb352.keep x350 (fun h => h))
                              have hb367 := (hb353.keep x350 (fun h => h))
                              have hb368 := (hb354.keep x350 (fun h => h))
                              have ho369 := (ho355.keep x350 (fun _ _ h => h) t356 (fun _ h => Or.inr h))
                              refine OW.store rfl rfl rfl shp_24 rfl rfl (vs := [Value.int .i64 y333.1.gKind, Value.int .i64 y333.1.gNum, Value.string ⟨List.toArray y333.1.gText⟩, v342]) rfl rfl hb349 rfl (one_cons rfl (one_cons rfl (one_cons rfl (one_cons (RD.one _ _ h343) one_nil)))) (cs' := [Value.int .i64 y333.1.gKind, Value.int .i64 y333.1.gNum, Value.string ⟨List.toArray y333.1.gText⟩, v342]) rfl ?_
                              intro w370 hb371 x372
                              have t373 := Tr.of_ext (O := (Ins O310 b347)) x372 (fun _ _ h => by cases h; exact (Or.inl rfl))
                              have B375 := B358.ext x372
                              have X374 := X357.step x372 (fun y hy h => absurd hy (by cases h; have := g359; omega))
                              refine OW.assign rfl rfl rfl rfl rfl ?_
                              refine OW.done (TW.seq (TW.seq (TW.region ?_)))
                              refine OW.move rfl rfl rfl rfl rfl ?_
                              refine OW.binI rfl rfl rfl rfl rfl rfl rfl ?_
                              refine OW.done ?_
                              refine TW.cond rfl (fun c376 => ?_) (fun c376 => ?_)
                              · have hm := ite_t c376 hm
                                refine TW.seq (TW.region ?_)
                                refine OW.build rfl rfl rfl rfl rfl (cs := [Value.int .i64 0, Value.int .i64 0, Value.string ⟨List.toArray ([] : List UInt8)⟩, Value.slice none 0 0]) rfl ?_
                                refine OW.move rfl rfl rfl rfl rfl ?_
                                have hb377 := (hb366.keep x372 n361)
                                have hb378 := (hb365.keep x372 n360)
                                have hb379 := (hb367.keep x372 n362)
                                have hb380 := (hb368.keep x372 n363)
                                have ho381 := (ho369.keep x372 (fun b h e => n364 (e ▸ h)) t373 (fun _ h => h))
                                refine OW.store rfl rfl rfl shp_24 rfl rfl (vs := [Value.int .i64 0, Value.int .i64 0, Value.string ⟨List.toArray ([] : List UInt8)⟩, Value.slice none 0 0]) rfl rfl hb377 rfl (one_cons rfl (one_cons rfl (one_cons rfl (one_cons rfl one_nil)))) (cs' := [Value.int .i64 0, Value.int .i64 0, Value.string ⟨List.toArray ([] : List UInt8)⟩, Value.slice none 0 0]) rfl ?_
                                intro w382 hb383 x384
                                have t385 := Tr.of_ext (O := (Ins O310 b347)) x384 (fun _ _ h => by cases h; exact (Or.inr (G311.more _ (Or.inr m178))))
                                have B387 := B375.ext x384
                                have X386 := X374.step x384 (fun y hy h => absurd hy (by cases h; have := g9; omega))
                                refine OW.assign rfl rfl rfl rfl rfl ?_
                                refine OW.done ?_
                                have hb388 := (hb378.keep x384 n10)
                                cases hm
                                exact TW.ret (Out.many rfl ⟨_, _, rfl, ⟨_, _, _, _, _, rfl, shp_24, hb383, rfl, rfl⟩, ⟨_, _, rfl, rfl, rfl⟩⟩ rfl) ⟨_, _, rfl, (T_api_Cbor.shut (x := (T_api_Cbor.mk 0 0 ([] : List UInt8) [])) RD.nil), hb388, (T_seneschalref03_reader.shut (x := y333.2.2)), X386⟩
                              · have hm := ite_f c376 hm
                                refine TW.skip (TW.region ?_)
                                refine OW.fieldAddr rfl rfl rfl rfl fld_24_3 rfl ?_
                                have hb389 := (hb367.keep x372 n362)
                                refine OW.load1 rfl rfl rfl rfl shp_22 rfl hb389 rfl ?_
                                refine OW.loadN rfl rfl rfl rfl shp_24 rfl hb371 (vs := [Value.int .i64 y333.1.gKind, Value.int .i64 y333.1.gNum, Value.string ⟨List.toArray y333.1.gText⟩, v342]) rfl rfl ?_
                                have h390 := h343.tr (t356.trans t373)
                                have hb391 := (hb365.keep x372 n360)
                                have hb392 := (hb366.keep x372 n361)
                                have hb393 := (hb368.keep x372 n363)
                                have ho394 := (ho369.keep x372 (fun b h e => n364 (e ▸ h)) t373 (fun _ h => h))
                                refine OW.buildSlice rfl rfl rfl rfl Tryd.underlying22 shp_24 zer_24 rfl rfl (cs := [Value.int .i64 y333.1.gKind, Value.int .i64 y333.1.gNum, Value.string ⟨List.toArray y333.1.gText⟩, v342]) rfl rfl rfl ?_
                                intro b395 w396 hb397 x398 l399
                                have t401 := Tr.of_ext (O := (Ins O310 b347)) x398 (fun _ _ h => h.elim)
                                have B403 := B375.ext x398
                                have X402 := X374.step x398 (fun _ _ h => h.elim)
                                have h404 := h390.tr t401
                                have h400 : RD w396 (Ins O310 b347) (D.sl 24 4 ([y333.1].map T_api_Cbor.enc)) (Value.slice (some ⟨b395, 0, none⟩) 1 1) := RD.of_new hb397 B375 l399 rfl (Nat.le_of_ble_eq_true rfl) rfl ⟨(T_api_Cbor.shut (x := y333.1) h404), trivial⟩
                                have hb405 := (hb391.keep x398 (fun h => h))
                                have hb406 := (hb392.keep x398 (fun h => h))
                                have hb407 := (hb389.keep x398 (fun h => h))
                                have hb408 := (hb393.keep x398 (fun h => h))
                                have hb409 := (hb371.keep x398 (fun h => h))
                                have ho410 := (ho394.keep x398 (fun _ _ h => h) t401 (fun _ h => h))
                                obtain ⟨l411, h412, hm⟩ := bnd hm
                                obtain ⟨hx413, hl414⟩ := app_some h412
                                refine OW.appendL' rfl rfl rfl rfl Tryd.underlying22 inf_24 rfl rfl rfl rfl rfl ho410 B403 h400 hl414 ?_
                                intro v415 w416 O417 G418
                                rw [← hx413] at G418
                                have X419 := X402.step G418.ext (fun y hy h => gv313 y h hy)
                                have gv420 : ∀ b, v415.ownBlock = some b → b < w0.heap.size → (At b0) b := fun b h hl => (G418.at_ b h).elim (fun h => gv313 b h hl) (fun h => absurd hl (by have := X402.size; omega))
                                have n421 : v415.ownBlock ≠ some b0 := fun h => (G418.at_ _ h).elim n314 (fun h => by have := hb405.lt; omega)
                                have n422 : v415.ownBlock ≠ some b1 := fun h => (G418.at_ _ h).elim n315 (fun h => by have := hb406.lt; omega)
                                have n423 : v415.ownBlock ≠ some b152 := fun h => (G418.at_ _ h).elim n316 (fun h => by have := hb407.lt; omega)
                                have n424 : v415.ownBlock ≠ some b222 := fun h => (G418.at_ _ h).elim n317 (fun h => by have := hb408.lt; omega)
                                have n425 : v415.ownBlock ≠ some b347 := fun h => (G418.at_ _ h).elim n364 (fun h => by have := hb409.lt; omega)
                                refine OW.fieldAddr rfl rfl rfl rfl fld_24_3 rfl ?_
                                have hb426 := (hb407.keep G418.ext (n316))
                                have hb427 := (hb405.keep G418.ext (n314))
                                have hb428 := (hb406.keep G418.ext (n315))
                                have hb429 := (hb408.keep G418.ext (n317))
                                have hb430 := (hb409.keep G418.ext (n364))
                                refine OW.store rfl rfl rfl shp_22 rfl rfl (vs := [v415]) (cells_one G418.own.one) rfl hb426 rfl (one_cons G418.own.one one_nil) (cs' := [Value.int .i64 x190, Value.int .i64 x191, Value.string ⟨List.toArray x192⟩, v415]) rfl ?_
                                intro w431 hb432 x433
                                have t434 := Tr.of_ext (O := O417) x433 (fun _ _ h => by cases h; exact (G418.more _ (Or.inr (G311.more _ (Or.inr m179)))))
                                have B436 := G418.bd.ext x433
                                have X435 := X419.step x433 (fun y hy h => absurd hy (by cases h; have := g160; omega))
                                refine OW.done (TW.inBlock (TW.region ?_))
                                refine OW.move rfl rfl rfl rfl rfl ?_
                                refine OW.binI rfl rfl rfl rfl rfl rfl rfl ?_
                                refine OW.assign rfl rfl rfl rfl rfl ?_
                                refine OW.done ?_
                                have hb437 := (hb427.keep x433 n161)
                                have h438 := h188.tr (t219.trans (t230.trans (t245.trans (t250.trans (t271.trans (t295.trans (G311.tr.trans (t325.trans (t344.trans (t356.trans (t373.trans (t401.trans (G418.tr.trans t434)))))))))))))
                                have hb439 := (hb428.keep x433 n162)
                                have ho440 := (G418.own.keep x433 (fun b h e => n423 (e ▸ h)) t434 (fun _ h => h))
                                have h441 := h332.tr (t344.trans (t356.trans (t373.trans (t401.trans (G418.tr.trans t434)))))
                                exact TW.sub (Sub.cons rfl (Sub.cons rfl (Sub.cons rfl (Sub.cons rfl (Sub.cons rfl (Sub.cons rfl (Sub.cons rfl (Sub.cons rfl Sub.nil)))))))) (hout204 _ _ (ih205 y333.2.2.gs y333.2.2.gi l411 s275 (IntKind.wrap .i64 (x199 + 1)) _ hm rfl w431 O417 v187 v415 B436 h441 X435 (fun x h => (G418.more _ (Or.inr (G311.more _ (Or.inr (lf175 _ h)))))) (G418.more _ (Or.inr (G311.more _ (Or.inr m177)))) (G418.more _ (Or.inr (G311.more _ (Or.inr m178)))) (G418.more _ (Or.inr (G311.more _ (Or.inr m179)))) hb437 h438 hb439 ho440 gv420 hb432 n421 n422 n423))
                          · have hm := ite_f hk256 hm
                            have hb442 := ((hb238.keep x244 n234).keep x249 (fun h => h))
                            obtain ⟨s443, h444, hm⟩ := bnd hm
                            obtain ⟨p445, q446, h447, h448, h449, h450, h451⟩ := sub_some h444
                            refine DP.put [(112, Value.int .i64 y208.2.1), (113, Value.bool (decide (y208.2.1 = 0))), (114, Value.bool (decide (y208.2.1 = 0))), (115, Value.pointer (some ⟨b222, 0 + 0, none⟩)), (116, Value.int .i64 y208.1.gKind), (117, Value.bool (!decide (y208.1.gKind = 0))), (118, Value.bool (!decide (y208.1.gKind = 0))), (119, Value.pointer (some ⟨b222, 0 + 0, none⟩)), (120, Value.int .i64 y208.1.gKind), (121, Value.bool (!decide (y208.1.gKind = 2))), (122, Value.bool (!decide (y208.1.gKind = 2))), (123, Value.bool (!decide (y208.1.gKind = 2))), (124, Value.pointer (some ⟨b0, 0, none⟩)), (125, Value.pointer (some ⟨b0, 0, none⟩)), (126, Value.pointer (some ⟨b0, 0 + 0, none⟩)), (127, Value.string ⟨List.toArray y208.2.2.gs⟩), (128, Value.int .i64 x181), (129, Value.pointer (some ⟨b0, 0, none⟩)), (130, Value.pointer (some ⟨b0, 0, none⟩)), (131, Value.pointer (some ⟨b0, 0 + 1, none⟩)), (132, Value.int .i64 y208.2.2.gi), (133, Value.string ⟨List.toArray s443⟩), (134, Value.string ⟨List.toArray x198⟩), (135, Value.bool (slt s443 x198 || decide (s443 = x198))), (136, Value.bool (slt s443 x198 || decide (s443 = x198))), (137, Value.bool (slt s443 x198 || decide (s443 = x198)))] rfl ?_
                            refine DW.end' (StabE.cons rfl rfl rfl rfl (EX.move rfl rfl) (StabE.cons rfl rfl rfl rfl (EX.binI rfl rfl rfl rfl) (StabE.cons rfl rfl rfl rfl (EX.move rfl rfl) (StabE.yesH rfl rfl rfl rfl rfl rfl hk253 (EX.fieldAddr rfl fld_24_0 rfl) (StabE.yesH rfl rfl rfl rfl rfl rfl hk253 (EX.load1 rfl shp_3 rfl hb254 rfl) (StabE.yesH rfl rfl rfl rfl rfl rfl hk253 (EX.binI rfl rfl rfl rfl) (StabE.yesH rfl rfl rfl rfl rfl rfl hk253 (EX.move rfl rfl) (StabE.yesH rfl rfl rfl rfl rfl rfl hk255 (EX.fieldAddr rfl fld_24_0 rfl) (StabE.yesH rfl rfl rfl rfl rfl rfl hk255 (EX.load1 rfl shp_3 rfl hb254 rfl) (StabE.yesH rfl rfl rfl rfl rfl rfl hk255 (EX.binI rfl rfl rfl rfl) (StabE.yesH rfl rfl rfl rfl rfl rfl hk253 (EX.pickT rfl rfl hk255 rfl) (StabE.yesH rfl rfl rfl rfl rfl rfl hk253 (EX.move rfl rfl) (StabE.yesH rfl rfl rfl rfl rfl rfl hk256 (EX.move rfl rfl) (StabE.yesH rfl rfl rfl rfl rfl rfl hk256 (EX.nilCheck rfl rfl) (StabE.yesH rfl rfl rfl rfl rfl rfl hk256 (EX.fieldAddr rfl fld_48_0 rfl) (StabE.yesH rfl rfl rfl rfl rfl rfl hk256 (EX.load1 rfl shp_9 rfl hb442 rfl) (StabE.yesH rfl rfl rfl rfl rfl rfl hk256 (EX.move rfl rfl) (StabE.yesH rfl rfl rfl rfl rfl rfl hk256 (EX.move rfl rfl) (StabE.yesH rfl rfl rfl rfl rfl rfl hk256 (EX.nilCheck rfl rfl) (StabE.yesH rfl rfl rfl rfl rfl rfl hk256 (EX.fieldAddr rfl fld_48_1 rfl) (StabE.yesH rfl rfl rfl rfl rfl rfl hk256 (EX.load1 rfl shp_3 rfl hb442 rfl) (StabE.yesH rfl rfl rfl rfl rfl rfl hk256 (by rw [h451]; exact (EX.sliceS rfl Tryd.underlying9 rfl (a := p445) (b := q446) ⟨_, _, rfl, h447⟩ ⟨_, _, rfl, h448⟩ h449 h450)) (StabE.yesH rfl rfl rfl rfl rfl rfl hk256 (EX.move rfl rfl) (StabE.yesH rfl rfl rfl rfl rfl rfl hk256 (EX.binS rfl rfl rfl rfl) (StabE.yesH rfl rfl rfl rfl rfl rfl hk253 (EX.pickF rfl rfl hk256 rfl) (StabE.cons rfl rfl rfl rfl (EX.pickT rfl rfl hk253 rfl) StabE.nil)))))))))))))))))))))))))) ?_
                            refine TW.cond rfl (fun c452 => ?_) (fun c452 => ?_)
                            · have hm := ite_t c452 hm
                              refine TW.region ?_
                              refine OW.assign rfl rfl rfl rfl rfl ?_
                              refine OW.done (TW.seq (TW.seq (TW.region ?_)))
                              refine OW.move rfl rfl rfl rfl rfl ?_
                              refine OW.binI rfl rfl rfl rfl rfl rfl rfl ?_
                              refine OW.done ?_
                              refine TW.cond rfl (fun c453 => ?_) (fun c453 => ?_)
                              · have hm := ite_t c453 hm
                                refine TW.seq (TW.region ?_)
                                refine OW.build rfl rfl rfl rfl rfl (cs := [Value.int .i64 0, Value.int .i64 0, Value.string ⟨List.toArray ([] : List UInt8)⟩, Value.slice none 0 0]) rfl ?_
                                refine OW.move rfl rfl rfl rfl rfl ?_
                                have hb454 := ((hb239.keep x244 n235).keep x249 (fun h => h))
                                have hb455 := ((hb240.keep x244 n236).keep x249 (fun h => h))
                                have ho456 := ((ho241.keep x244 (fun b h e => n237 (e ▸ h)) t245 (fun _ h => h)).keep x249 (fun _ _ h => h) t250 (fun _ h => h))
                                refine OW.store rfl rfl rfl shp_24 rfl rfl (vs := [Value.int .i64 0, Value.int .i64 0, Value.string ⟨List.toArray ([] : List UInt8)⟩, Value.slice none 0 0]) rfl rfl hb454 rfl (one_cons rfl (one_cons rfl (one_cons rfl (one_cons rfl one_nil)))) (cs' := [Value.int .i64 0, Value.int .i64 0, Value.string ⟨List.toArray ([] : List UInt8)⟩, Value.slice none 0 0]) rfl ?_
                                intro w457 hb458 x459
                                have t460 := Tr.of_ext (O := (Ins O172 b222)) x459 (fun _ _ h => by cases h; exact (Or.inr m178))
                                have B462 := B252.ext x459
                                have X461 := X251.step x459 (fun y hy h => absurd hy (by cases h; have := g9; omega))
                                refine OW.assign rfl rfl rfl rfl rfl ?_
                                refine OW.done ?_
                                have hb463 := (hb442.keep x459 n10)
                                cases hm
                                exact TW.ret (Out.many rfl ⟨_, _, rfl, ⟨_, _, _, _, _, rfl, shp_24, hb458, rfl, rfl⟩, ⟨_, _, rfl, rfl, rfl⟩⟩ rfl) ⟨_, _, rfl, (T_api_Cbor.shut (x := (T_api_Cbor.mk 0 0 ([] : List UInt8) [])) RD.nil), hb463, (T_seneschalref03_reader.shut (x := y208.2.2)), X461⟩
                              · have hm := ite_f c453 hm
                                refine TW.skip (TW.seq ?_)
                                refine TW.drawP [0, 1, 3, 7, 0, 0, 32, 96, 224, 511, 1023] [0, 1, 2, 3, 4, 5, 6, 7, 8, 9, 10] [] mix (by kernel_rfl) ?_
                                intro w464 x465
                                have t466 := Tr.of_ext (O := (Ins O172 b222)) x465 (fun _ _ h => h.elim)
                                have B468 := B252.ext x465
                                have X467 := X251.step x465 (fun _ _ h => h.elim)
                                have hb469 := (hb442.keep x465 (fun h => h))
                                obtain ⟨s470, h471, hm⟩ := bnd hm
                                obtain ⟨p472, q473, h474, h475, h476, h477, h478⟩ := sub_some h471
                                refine DP.put [(142, Value.pointer (some ⟨b0, 0, none⟩)), (143, Value.pointer (some ⟨b0, 0, none⟩)), (144, Value.pointer (some ⟨b0, 0 + 0, none⟩)), (145, Value.string ⟨List.toArray y208.2.2.gs⟩), (146, Value.int .i64 x181), (147, Value.pointer (some ⟨b0, 0, none⟩)), (148, Value.pointer (some ⟨b0, 0, none⟩)), (149, Value.pointer (some ⟨b0, 0 + 1, none⟩)), (150, Value.int .i64 y208.2.2.gi), (151, Value.string ⟨List.toArray s470⟩), (11, Value.string ⟨List.toArray s470⟩)] rfl ?_
                                refine DW.end' (StabE.cons rfl rfl rfl rfl (EX.move rfl rfl) (StabE.cons rfl rfl rfl rfl (EX.nilCheck rfl rfl) (StabE.cons rfl rfl rfl rfl (EX.fieldAddr rfl fld_48_0 rfl) (StabE.cons rfl rfl rfl rfl (EX.load1 rfl shp_9 rfl hb469 rfl) (StabE.cons rfl rfl rfl rfl (EX.move rfl rfl) (StabE.cons rfl rfl rfl rfl (EX.move rfl rfl) (StabE.cons rfl rfl rfl rfl (EX.nilCheck rfl rfl) (StabE.cons rfl rfl rfl rfl (EX.fieldAddr rfl fld_48_1 rfl) (StabE.cons rfl rfl rfl rfl (EX.load1 rfl shp_3 rfl hb469 rfl) (StabE.cons rfl rfl rfl rfl (by rw [h478]; exact (EX.sliceS rfl Tryd.underlying9 rfl (a := p472) (b := q473) ⟨_, _, rfl, h474⟩ ⟨_, _, rfl, h475⟩ h476 h477)) (StabE.cons rfl rfl rfl rfl (EX.assign rfl rfl) StabE.nil))))))))))) ?_
                                refine TW.region ?_
                                refine OW.fieldAddr rfl rfl rfl rfl fld_24_3 rfl ?_
                                have hb479 := (((hb240.keep x244 n236).keep x249 (fun h => h)).keep x465 (fun h => h))
                                refine OW.load1 rfl rfl rfl rfl shp_22 rfl hb479 rfl ?_
                                have hb480 := (hb254.keep x465 (fun h => h))
                                refine OW.loadN rfl rfl rfl rfl shp_24 rfl hb480 (vs := [Value.int .i64 y208.1.gKind, Value.int .i64 y208.1.gNum, Value.string ⟨List.toArray y208.1.gText⟩, v217]) rfl rfl ?_
                                have h481 := h218.tr (t230.trans (t245.trans (t250.trans t466)))
                                have hb482 := (((hb239.keep x244 n235).keep x249 (fun h => h)).keep x465 (fun h => h))
                                have ho483 := (((ho241.keep x244 (fun b h e => n237 (e ▸ h)) t245 (fun _ h => h)).keep x249 (fun _ _ h => h) t250 (fun _ h => h)).keep x465 (fun _ _ h => h) t466 (fun _ h => h))
                                refine OW.buildSlice rfl rfl rfl rfl Tryd.underlying22 shp_24 zer_24 rfl rfl (cs := [Value.int .i64 y208.1.gKind, Value.int .i64 y208.1.gNum, Value.string ⟨List.toArray y208.1.gText⟩, v217]) rfl rfl rfl ?_
                                intro b484 w485 hb486 x487 l488
                                have t490 := Tr.of_ext (O := (Ins O172 b222)) x487 (fun _ _ h => h.elim)
                                have B492 := B468.ext x487
                                have X491 := X467.step x487 (fun _ _ h => h.elim)
                                have h493 := h481.tr t490
                                have h489 : RD w485 (Ins O172 b222) (D.sl 24 4 ([y208.1].map T_api_Cbor.enc)) (Value.slice (some ⟨b484, 0, none⟩) 1 1) := RD.of_new hb486 B468 l488 rfl (Nat.le_of_ble_eq_true rfl) rfl ⟨(T_api_Cbor.shut (x := y208.1) h493), trivial⟩
                                have hb494 := (hb469.keep x487 (fun h => h))
                                have hb495 := (hb482.keep x487 (fun h => h))
                                have hb496 := (hb479.keep x487 (fun h => h))
                                have hb497 := (hb480.keep x487 (fun h => h))
                                have ho498 := (ho483.keep x487 (fun _ _ h => h) t490 (fun _ h => h))
                                obtain ⟨l499, h500, hm⟩ := bnd hm
                                obtain ⟨hx501, hl502⟩ := app_some h500
                                refine OW.appendL' rfl rfl rfl rfl Tryd.underlying22 inf_24 rfl rfl rfl rfl rfl ho498 B492 h489 hl502 ?_
                                intro v503 w504 O505 G506
                                rw [← hx501] at G506
                                have X507 := X491.step G506.ext (fun y hy h => gv196 y h hy)
                                have gv508 : ∀ b, v503.ownBlock = some b → b < w0.heap.size → (At b0) b := fun b h hl => (G506.at_ b h).elim (fun h => gv196 b h hl) (fun h => absurd hl (by have := X491.size; omega))
                                have n509 : v503.ownBlock ≠ some b0 := fun h => (G506.at_ _ h).elim n200 (fun h => by have := hb494.lt; omega)
                                have n510 : v503.ownBlock ≠ some b1 := fun h => (G506.at_ _ h).elim n201 (fun h => by have := hb495.lt; omega)
                                have n511 : v503.ownBlock ≠ some b152 := fun h => (G506.at_ _ h).elim n202 (fun h => by have := hb496.lt; omega)
                                have n512 : v503.ownBlock ≠ some b222 := fun h => (G506.at_ _ h).elim n237 (fun h => by have := hb497.lt; omega)
                                refine OW.fieldAddr rfl rfl rfl rfl fld_24_3 rfl ?_
                                have hb513 := (hb496.keep G506.ext (n202))
                                have hb514 := (hb494.keep G506.ext (n200))
                                have hb515 := (hb495.keep G506.ext (n201))
                                have hb516 := (hb497.keep G506.ext (n237))
                                refine OW.store rfl rfl rfl shp_22 rfl rfl (vs := [v503]) (cells_one G506.own.one) rfl hb513 rfl (one_cons G506.own.one one_nil) (cs' := [Value.int .i64 x190, Value.int .i64 x191, Value.string ⟨List.toArray x192⟩, v503]) rfl ?_
                                intro w517 hb518 x519
                                have t520 := Tr.of_ext (O := O505) x519 (fun _ _ h => by cases h; exact (G506.more _ (Or.inr m179)))
                                have B522 := G506.bd.ext x519
                                have X521 := X507.step x519 (fun y hy h => absurd hy (by cases h; have := g160; omega))
                                refine OW.done (TW.seq (TW.region ?_))
                                refine OW.move rfl rfl rfl rfl rfl ?_
                                refine OW.move rfl rfl rfl rfl rfl ?_
                                refine OW.binI rfl rfl rfl rfl rfl rfl rfl ?_
                                have hb523 := (hb514.keep x519 n161)
                                have hb524 := (hb515.keep x519 n162)
                                have hb525 := (hb516.keep x519 (Ne.symm n236))
                                have ho526 := (G506.own.keep x519 (fun b h e => n511 (e ▸ h)) t520 (fun _ h => h))
                                have h527 := G176.tr (t219.trans (t230.trans (t245.trans (t250.trans (t466.trans (t490.trans (G506.tr.trans t520)))))))
                                obtain ⟨y528, hy529, hm⟩ := bnd hm
                                refine OW.call rfl rfl rfl rfl rfl rfl Tryd.call19 ((ih _ _ _ hy529 _ O505 _ _ B522 h527 hb523 (T_seneschalref03_reader.shut (x := y208.2.2)) (G506.more _ (Or.inr m177))).mono ?_)
                                rintro e w535 ⟨cs530, cs532, rfl, h531, hb533, h534, x536⟩
                                obtain ⟨v537, rfl, h538⟩ := T_api_Cbor.opn h531
                                obtain rfl := T_seneschalref03_reader.opn h534
                                refine CallK.ret ?_
                                have t539 := Tr.of_ext (O := O505) x536 (fun _ _ h => by cases h; exact (G506.more _ (Or.inr m177)))
                                have B541 := B522.ext x536
                                have X540 := X521.step x536 (fun y hy h => h)
                                refine OW.move rfl rfl rfl rfl rfl ?_
                                refine OW.extract rfl rfl rfl rfl rfl rfl ?_
                                refine OW.extract rfl rfl rfl rfl rfl rfl ?_
                                have hb547 := (hb524.keep x536 (Ne.symm n10))
                                have hb548 := (hb518.keep x536 (Ne.symm n161))
                                have hb549 := (hb525.keep x536 (Ne.symm n234))
                                have ho550 := (ho526.keep x536 (fun b h e => n509 (e ▸ h)) t539 (fun _ h => h))
                                refine OW.alloc rfl rfl rfl rfl zer_24 (cs := [Value.int .i64 0, Value.int .i64 0, Value.string ⟨List.toArray ([] : List UInt8)⟩, Value.slice none 0 0]) rfl ?_
                                intro b542 w543 hb544 x545 l546
                                have t551 := Tr.of_new (O := O505) x545 (fun _ _ h => h.elim) l546
                                have B553 := (B541.ext x545).ins hb544.lt
                                have X552 := X540.step x545 (fun _ _ h => h.elim)
                                have g554 : w0.heap.size ≤ b542 := Nat.le_trans X540.size l546
                                have n555 : b0 ≠ b542 := by have := hb533.lt; omega
                                have n556 : b1 ≠ b542 := by have := hb547.lt; omega
                                have n557 : b152 ≠ b542 := by have := hb548.lt; omega
                                have n558 : b222 ≠ b542 := by have := hb549.lt; omega
                                have n559 : v503.ownBlock ≠ some b542 := fun h => by have := ho550.lt _ h; omega
                                have hb560 := (hb533.keep x545 (fun h => h))
                                have hb561 := (hb547.keep x545 (fun h => h))
                                have hb562 := (hb548.keep x545 (fun h => h))
                                have hb563 := (hb549.keep x545 (fun h => h))
                                have ho564 := (ho550.keep x545 (fun _ _ h => h) t551 (fun _ h => Or.inr h))
                                refine OW.store rfl rfl rfl shp_24 rfl rfl (vs := [Value.int .i64 y528.1.gKind, Value.int .i64 y528.1.gNum, Value.string ⟨List.toArray y528.1.gText⟩, v537]) rfl rfl hb544 rfl (one_cons rfl (one_cons rfl (one_cons rfl (one_cons (RD.one _ _ h538) one_nil)))) (cs' := [Value.int .i64 y528.1.gKind, Value.int .i64 y528.1.gNum, Value.string ⟨List.toArray y528.1.gText⟩, v537]) rfl ?_
                                intro w565 hb566 x567
                                have t568 := Tr.of_ext (O := (Ins O505 b542)) x567 (fun _ _ h => by cases h; exact (Or.inl rfl))
                                have B570 := B553.ext x567
                                have X569 := X552.step x567 (fun y hy h => absurd hy (by cases h; have := g554; omega))
                                refine OW.assign rfl rfl rfl rfl rfl ?_
                                refine OW.done (TW.seq (TW.seq (TW.region ?_)))
                                refine OW.move rfl rfl rfl rfl rfl ?_
                                refine OW.binI rfl rfl rfl rfl rfl rfl rfl ?_
                                refine OW.done ?_
                                refine TW.cond rfl (fun c571 => ?_) (fun c571 => ?_)
                                · have hm := ite_t c571 hm
                                  refine TW.seq (TW.region ?_)
                                  refine OW.build rfl rfl rfl rfl rfl (cs := [Value.int .i64 0, Value.int .i64 0, Value.string ⟨List.toArray ([] : List UInt8)⟩, Value.slice none 0 0]) rfl ?_
                                  refine OW.move rfl rfl rfl rfl rfl ?_
                                  have hb572 := (hb561.keep x567 n556)
                                  have hb573 := (hb560.keep x567 n555)
                                  have hb574 := (hb562.keep x567 n557)
                                  have hb575 := (hb563.keep x567 n558)
                                  have ho576 := (ho564.keep x567 (fun b h e => n559 (e ▸ h)) t568 (fun _ h => h))
                                  refine OW.store rfl rfl rfl shp_24 rfl rfl (vs := [Value.int .i64 0, Value.int .i64 0, Value.string ⟨List.toArray ([] : List UInt8)⟩, Value.slice none 0 0]) rfl rfl hb572 rfl (one_cons rfl (one_cons rfl (one_cons rfl (one_cons rfl one_nil)))) (cs' := [Value.int .i64 0, Value.int .i64 0, Value.string ⟨List.toArray ([] : List UInt8)⟩, Value.slice none 0 0]) rfl ?_
                                  intro w577 hb578 x579
                                  have t580 := Tr.of_ext (O := (Ins O505 b542)) x579 (fun _ _ h => by cases h; exact (Or.inr (G506.more _ (Or.inr m178))))
                                  have B582 := B570.ext x579
                                  have X581 := X569.step x579 (fun y hy h => absurd hy (by cases h; have := g9; omega))
                                  refine OW.assign rfl rfl rfl rfl rfl ?_
                                  refine OW.done ?_
                                  have hb583 := (hb573.keep x579 n10)
                                  cases hm
                                  exact TW.ret (Out.many rfl ⟨_, _, rfl, ⟨_, _, _, _, _, rfl, shp_24, hb578, rfl, rfl⟩, ⟨_, _, rfl, rfl, rfl⟩⟩ rfl) ⟨_, _, rfl, (T_api_Cbor.shut (x := (T_api_Cbor.mk 0 0 ([] : List UInt8) [])) RD.nil), hb583, (T_seneschalref03_reader.shut (x := y528.2.2)), X581⟩
                                · have hm := ite_f c571 hm
                                  refine TW.skip (TW.region ?_)
                                  refine OW.fieldAddr rfl rfl rfl rfl fld_24_3 rfl ?_
                                  have hb584 := (hb562.keep x567 n557)
                                  refine OW.load1 rfl rfl rfl rfl shp_22 rfl hb584 rfl ?_
                                  refine OW.loadN rfl rfl rfl rfl shp_24 rfl hb566 (vs := [Value.int .i64 y528.1.gKind, Value.int .i64 y528.1.gNum, Value.string ⟨List.toArray y528.1.gText⟩, v537]) rfl rfl ?_
                                  have h585 := h538.tr (t551.trans t568)
                                  have hb586 := (hb560.keep x567 n555)
                                  have hb587 := (hb561.keep x567 n556)
                                  have hb588 := (hb563.keep x567 n558)
                                  have ho589 := (ho564.keep x567 (fun b h e => n559 (e ▸ h)) t568 (fun _ h => h))
                                  refine OW.buildSlice rfl rfl rfl rfl Tryd.underlying22 shp_24 zer_24 rfl rfl (cs := [Value.int .i64 y528.1.gKind, Value.int .i64 y528.1.gNum, Value.string ⟨List.toArray y528.1.gText⟩, v537]) rfl rfl rfl ?_
                                  intro b590 w591 hb592 x593 l594
                                  have t596 := Tr.of_ext (O := (Ins O505 b542)) x593 (fun _ _ h => h.elim)
                                  have B598 := B570.ext x593
                                  have X597 := X569.step x593 (fun _ _ h => h.elim)
                                  have h599 := h585.tr t596
                                  have h595 : RD w591 (Ins O505 b542) (D.sl 24 4 ([y528.1].map T_api_Cbor.enc)) (Value.slice (some ⟨b590, 0, none⟩) 1 1) := RD.of_new hb592 B570 l594 rfl (Nat.le_of_ble_eq_true rfl) rfl ⟨(T_api_Cbor.shut (x := y528.1) h599), trivial⟩
                                  have hb600 := (hb586.keep x593 (fun h => h))
                                  have hb601 := (hb587.keep x593 (fun h => h))
                                  have hb602 := (hb584.keep x593 (fun h => h))
                                  have hb603 := (hb588.keep x593 (fun h => h))
                                  have hb604 := (hb566.keep x593 (fun h => h))
                                  have ho605 := (ho589.keep x593 (fun _ _ h => h) t596 (fun _ h => h))
                                  obtain ⟨l606, h607, hm⟩ := bnd hm
                                  obtain ⟨hx608, hl609⟩ := app_some h607
                                  refine OW.appendL' rfl rfl rfl rfl Tryd.underlying22 inf_24 rfl rfl rfl rfl rfl ho605 B598 h595 hl609 ?_
                                  intro v610 w611 O612 G613
                                  rw [← hx608] at G613
                                  have X614 := X597.step G613.ext (fun y hy h => gv508 y h hy)
                                  have gv615 : ∀ b, v610.ownBlock = some b → b < w0.heap.size → (At b0) b := fun b h hl => (G613.at_ b h).elim (fun h => gv508 b h hl) (fun h => absurd hl (by have := X597.size; omega))
                                  have n616 : v610.ownBlock ≠ some b0 := fun h => (G613.at_ _ h).elim n509 (fun h => by have := hb600.lt; omega)
                                  have n617 : v610.ownBlock ≠ some b1 := fun h => (G613.at_ _ h).elim n510 (fun h => by have := hb601.lt; omega)
                                  have n618 : v610.ownBlock ≠ some b152 := fun h => (G613.at_ _ h).elim n511 (fun h => by have := hb602.lt; omega)
                                  have n619 : v610.ownBlock ≠ some b222 := fun h => (G613.at_ _ h).elim n512 (fun h => by have := hb603.lt; omega)
                                  have n620 : v610.ownBlock ≠ some b542 := fun h => (G613.at_ _ h).elim n559 (fun h => by have := hb604.lt; omega)
                                  refine OW.fieldAddr rfl rfl rfl rfl fld_24_3 rfl ?_
                                  have hb621 := (hb602.keep G613.ext (n511))
                                  have hb622 := (hb600.keep G613.ext (n509))
                                  have hb623 := (hb601.keep G613.ext (n510))
                                  have hb624 := (hb603.keep G613.ext (n512))
                                  have hb625 := (hb604.keep G613.ext (n559))
                                  refine OW.store rfl rfl rfl shp_22 rfl rfl (vs := [v610]) (cells_one G613.own.one) rfl hb621 rfl (one_cons G613.own.one one_nil) (cs' := [Value.int .i64 x190, Value.int .i64 x191, Value.string ⟨List.toArray x192⟩, v610]) rfl ?_
                                  intro w626 hb627 x628
                                  have t629 := Tr.of_ext (O := O612) x628 (fun _ _ h => by cases h; exact (G613.more _ (Or.inr (G506.more _ (Or.inr m179)))))
                                  have B631 := G613.bd.ext x628
                                  have X630 := X614.step x628 (fun y hy h => absurd hy (by cases h; have := g160; omega))
                                  refine OW.done (TW.inBlock (TW.region ?_))
                                  refine OW.move rfl rfl rfl rfl rfl ?_
                                  refine OW.binI rfl rfl rfl rfl rfl rfl rfl ?_
                                  refine OW.assign rfl rfl rfl rfl rfl ?_
                                  refine OW.done ?_
                                  have hb632 := (hb622.keep x628 n161)
                                  have h633 := h188.tr (t219.trans (t230.trans (t245.trans (t250.trans (t466.trans (t490.trans (G506.tr.trans (t520.trans (t539.trans (t551.trans (t568.trans (t596.trans (G613.tr.trans t629)))))))))))))
                                  have hb634 := (hb623.keep x628 n162)
                                  have ho635 := (G613.own.keep x628 (fun b h e => n618 (e ▸ h)) t629 (fun _ h => h))
                                  have h636 := h527.tr (t539.trans (t551.trans (t568.trans (t596.trans (G613.tr.trans t629)))))
                                  exact TW.sub (Sub.cons rfl (Sub.cons rfl (Sub.cons rfl (Sub.cons rfl (Sub.cons rfl (Sub.cons rfl (Sub.cons rfl (Sub.cons rfl Sub.nil)))))))) (hout204 _ _ (ih205 y528.2.2.gs y528.2.2.gi l606 s470 (IntKind.wrap .i64 (x199 + 1)) _ hm rfl w626 O612 v187 v610 B631 h636 X630 (fun x h => (G613.more _ (Or.inr (G506.more _ (Or.inr (lf175 _ h)))))) (G613.more _ (Or.inr (G506.more _ (Or.inr m177)))) (G613.more _ (Or.inr (G506.more _ (Or.inr m178)))) (G613.more _ (Or.inr (G506.more _ (Or.inr m179)))) hb632 h633 hb634 ho635 gv615 hb627 n616 n617 n618))
                            · have hm := ite_f c452 hm
                              refine TW.skip (TW.seq (TW.seq (TW.region ?_)))
                              refine OW.move rfl rfl rfl rfl rfl ?_
                              refine OW.binI rfl rfl rfl rfl rfl rfl rfl ?_
                              refine OW.done ?_
                              refine TW.cond rfl (fun c637 => ?_) (fun c637 => ?_)
                              · have hm := ite_t c637 hm
                                refine TW.seq (TW.region ?_)
                                refine OW.build rfl rfl rfl rfl rfl (cs := [Value.int .i64 0, Value.int .i64 0, Value.string ⟨List.toArray ([] : List UInt8)⟩, Value.slice none 0 0]) rfl ?_
                                refine OW.move rfl rfl rfl rfl rfl ?_
                                have hb638 := ((hb239.keep x244 n235).keep x249 (fun h => h))
                                have hb639 := ((hb240.keep x244 n236).keep x249 (fun h => h))
                                have ho640 := ((ho241.keep x244 (fun b h e => n237 (e ▸ h)) t245 (fun _ h => h)).keep x249 (fun _ _ h => h) t250 (fun _ h => h))
                                refine OW.store rfl rfl rfl shp_24 rfl rfl (vs := [Value.int .i64 0, Value.int .i64 0, Value.string ⟨List.toArray ([] : List UInt8)⟩, Value.slice none 0 0]) rfl rfl hb638 rfl (one_cons rfl (one_cons rfl (one_cons rfl (one_cons rfl one_nil)))) (cs' := [Value.int .i64 0, Value.int .i64 0, Value.string ⟨List.toArray ([] : List UInt8)⟩, Value.slice none 0 0]) rfl ?_
                                intro w641 hb642 x643
                                have t644 := Tr.of_ext (O := (Ins O172 b222)) x643 (fun _ _ h => by cases h; exact (Or.inr m178))
                                have B646 := B252.ext x643
                                have X645 := X251.step x643 (fun y hy h => absurd hy (by cases h; have := g9; omega))
                                refine OW.assign rfl rfl rfl rfl rfl ?_
                                refine OW.done ?_
                                have hb647 := (hb442.keep x643 n10)
                                cases hm
                                exact TW.ret (Out.many rfl ⟨_, _, rfl, ⟨_, _, _, _, _, rfl, shp_24, hb642, rfl, rfl⟩, ⟨_, _, rfl, rfl, rfl⟩⟩ rfl) ⟨_, _, rfl, (T_api_Cbor.shut (x := (T_api_Cbor.mk 0 0 ([] : List UInt8) [])) RD.nil), hb647, (T_seneschalref03_reader.shut (x := y208.2.2)), X645⟩
                              · have hm := ite_f c637 hm
                                refine TW.skip (TW.seq ?_)
                                refine TW.drawP [0, 1, 3, 7, 0, 0, 32, 96, 224, 511, 1023] [0, 1, 2, 3, 4, 5, 6, 7, 8, 9, 10] [] mix (by kernel_rfl) ?_
                                intro w648 x649
                                have t650 := Tr.of_ext (O := (Ins O172 b222)) x649 (fun _ _ h => h.elim)
                                have B652 := B252.ext x649
                                have X651 := X251.step x649 (fun _ _ h => h.elim)
                                have hb653 := (hb442.keep x649 (fun h => h))
                                obtain ⟨s654, h655, hm⟩ := bnd hm
                                obtain ⟨p656, q657, h658, h659, h660, h661, h662⟩ := sub_some h655
                                refine DP.put [(142, Value.pointer (some ⟨b0, 0, none⟩)), (143, Value.pointer (some ⟨b0, 0, none⟩)), (144, Value.pointer (some ⟨b0, 0 + 0, none⟩)), (145, Value.string ⟨List.toArray y208.2.2.gs⟩), (146, Value.int .i64 x181), (147, Value.pointer (some ⟨b0, 0, none⟩)), (148, Value.pointer (some ⟨b0, 0, none⟩)), (149, Value.pointer (some ⟨b0, 0 + 1, none⟩)), (150, Value.int .i64 y208.2.2.gi), (151, Value.string ⟨List.toArray s654⟩), (11, Value.string ⟨List.toArray s654⟩)] rfl ?_
                                refine DW.end' (StabE.cons rfl rfl rfl rfl (EX.move rfl rfl) (StabE.cons rfl rfl rfl rfl (EX.nilCheck rfl rfl) (StabE.cons rfl rfl rfl rfl (EX.fieldAddr rfl fld_48_0 rfl) (StabE.cons rfl rfl rfl rfl (EX.load1 rfl shp_9 rfl hb653 rfl) (StabE.cons rfl rfl rfl rfl (EX.move rfl rfl) (StabE.cons rfl rfl rfl rfl (EX.move rfl rfl) (StabE.cons rfl rfl rfl rfl (EX.nilCheck rfl rfl) (StabE.cons rfl rfl rfl rfl (EX.fieldAddr rfl fld_48_1 rfl) (StabE.cons rfl rfl rfl rfl (EX.load1 rfl shp_3 rfl hb653 rfl) (StabE.cons rfl rfl rfl rfl (by rw [h662]; exact (EX.sliceS rfl Tryd.underlying9 rfl (a := p656) (b := q657) ⟨_, _, rfl, h658⟩ ⟨_, _, rfl, h659⟩ h660 h661)) (StabE.cons rfl rfl rfl rfl (EX.assign rfl rfl) StabE.nil))))))))))) ?_
                                refine TW.region ?_
                                refine OW.fieldAddr rfl rfl rfl rfl fld_24_3 rfl ?_
                                have hb663 := (((hb240.keep x244 n236).keep x249 (fun h => h)).keep x649 (fun h => h))
                                refine OW.load1 rfl rfl rfl rfl shp_22 rfl hb663 rfl ?_
                                have hb664 := (hb254.keep x649 (fun h => h))
                                refine OW.loadN rfl rfl rfl rfl shp_24 rfl hb664 (vs := [Value.int .i64 y208.1.gKind, Value.int .i64 y208.1.gNum, Value.string ⟨List.toArray y208.1.gText⟩, v217]) rfl rfl ?_
                                have h665 := h218.tr (t230.trans (t245.trans (t250.trans t650)))
                                have hb666 := (((hb239.keep x244 n235).keep x249 (fun h => h)).keep x649 (fun h => h))
                                have ho667 := (((ho241.keep x244 (fun b h e => n237 (e ▸ h)) t245 (fun _ h => h)).keep x249 (fun _ _ h => h) t250 (fun _ h => h)).keep x649 (fun _ _ h => h) t650 (fun _ h => h))
                                refine OW.buildSlice rfl rfl rfl rfl Tryd.underlying22 shp_24 zer_24 rfl rfl (cs := [Value.int .i64 y208.1.gKind, Value.int .i64 y208.1.gNum, Value.string ⟨List.toArray y208.1.gText⟩, v217]) rfl rfl rfl ?_
                                intro b668 w669 hb670 x671 l672
                                have t674 := Tr.of_ext (O := (Ins O172 b222)) x671 (fun _ _ h => h.elim)
                                have B676 := B652.ext x671
                                have X675 := X651.step x671 (fun _ _ h => h.elim)
                                have h677 := h665.tr t674
                                have h673 : RD w669 (Ins O172 b222) (D.sl 24 4 ([y208.1].map T_api_Cbor.enc)) (Value.slice (some ⟨b668, 0, none⟩) 1 1) := RD.of_new hb670 B652 l672 rfl (Nat.le_of_ble_eq_true rfl) rfl ⟨(T_api_Cbor.shut (x := y208.1) h677), trivial⟩
                                have hb678 := (hb653.keep x671 (fun h => h))
                                have hb679 := (hb666.keep x671 (fun h => h))
                                have hb680 := (hb663.keep x671 (fun h => h))
                                have hb681 := (hb664.keep x671 (fun h => h))
                                have ho682 := (ho667.keep x671 (fun _ _ h => h) t674 (fun _ h => h))
                                obtain ⟨l683, h684, hm⟩ := bnd hm
                                obtain ⟨hx685, hl686⟩ := app_some h684
                                refine OW.appendL' rfl rfl rfl rfl Tryd.underlying22 inf_24 rfl rfl rfl rfl rfl ho682 B676 h673 hl686 ?_
                                intro v687 w688 O689 G690
                                rw [← hx685] at G690
                                have X691 := X675.step G690.ext (fun y hy h => gv196 y h hy)
                                have gv692 : ∀ b, v687.ownBlock = some b → b < w0.heap.size → (At b0) b := fun b h hl => (G690.at_ b h).elim (fun h => gv196 b h hl) (fun h => absurd hl (by have := X675.size; omega))
                                have n693 : v687.ownBlock ≠ some b0 := fun h => (G690.at_ _ h).elim n200 (fun h => by have := hb678.lt; omega)
                                have n694 : v687.ownBlock ≠ some b1 := fun h => (G690.at_ _ h).elim n201 (fun h => by have := hb679.lt; omega)
                                have n695 : v687.ownBlock ≠ some b152 := fun h => (G690.at_ _ h).elim n202 (fun h => by have := hb680.lt; omega)
                                have n696 : v687.ownBlock ≠ some b222 := fun h => (G690.at_ _ h).elim n237 (fun h => by have := hb681.lt; omega)
                                refine OW.fieldAddr rfl rfl rfl rfl fld_24_3 rfl ?_
                                have hb697 := (hb680.keep G690.ext (n202))
                                have hb698 := (hb678.keep G690.ext (n200))
                                have hb699 := (hb679.keep G690.ext (n201))
                                have hb700 := (hb681.keep G690.ext (n237))
                                refine OW.store rfl rfl rfl shp_22 rfl rfl (vs := [v687]) (cells_one G690.own.one) rfl hb697 rfl (one_cons G690.own.one one_nil) (cs' := [Value.int .i64 x190, Value.int .i64 x191, Value.string ⟨List.toArray x192⟩, v687]) rfl ?_
                                intro w701 hb702 x703
                                have t704 := Tr.of_ext (O := O689) x703 (fun _ _ h => by cases h; exact (G690.more _ (Or.inr m179)))
                                have B706 := G690.bd.ext x703
                                have X705 := X691.step x703 (fun y hy h => absurd hy (by cases h; have := g160; omega))
                                refine OW.done (TW.seq (TW.region ?_))
                                refine OW.move rfl rfl rfl rfl rfl ?_
                                refine OW.move rfl rfl rfl rfl rfl ?_
                                refine OW.binI rfl rfl rfl rfl rfl rfl rfl ?_
                                have hb707 := (hb698.keep x703 n161)
                                have hb708 := (hb699.keep x703 n162)
                                have hb709 := (hb700.keep x703 (Ne.symm n236))
                                have ho710 := (G690.own.keep x703 (fun b h e => n695 (e ▸ h)) t704 (fun _ h => h))
                                have h711 := G176.tr (t219.trans (t230.trans (t245.trans (t250.trans (t650.trans (t674.trans (G690.tr.trans t704)))))))
                                obtain ⟨y712, hy713, hm⟩ := bnd hm
                                refine OW.call rfl rfl rfl rfl rfl rfl Tryd.call19 ((ih _ _ _ hy713 _ O689 _ _ B706 h711 hb707 (T_seneschalref03_reader.shut (x := y208.2.2)) (G690.more _ (Or.inr m177))).mono ?_)
                                rintro e w719 ⟨cs714, cs716, rfl, h715, hb717, h718, x720⟩
                                obtain ⟨v721, rfl, h722⟩ := T_api_Cbor.opn h715
                                obtain rfl := T_seneschalref03_reader.opn h718
                                refine CallK.ret ?_
                                have t723 := Tr.of_ext (O := O689) x720 (fun _ _ h => by cases h; exact (G690.more _ (Or.inr m177)))
                                have B725 := B706.ext x720
                                have X724 := X705.step x720 (fun y hy h => h)
                                refine OW.move rfl rfl rfl rfl rfl ?_
                                refine OW.extract rfl rfl rfl rfl rfl rfl ?_
                                refine OW.extract rfl rfl rfl rfl rfl rfl ?_
                                have hb731 := (hb708.keep x720 (Ne.symm n10))
                                have hb732 := (hb702.keep x720 (Ne.symm n161))
                                have hb733 := (hb709.keep x720 (Ne.symm n234))
                                have ho734 := (ho710.keep x720 (fun b h e => n693 (e ▸ h)) t723 (fun _ h => h))
                                refine OW.alloc rfl rfl rfl rfl zer_24 (cs := [Value.int .i64 0, Value.int .i64 0, Value.string ⟨List.toArray ([] : List UInt8)⟩, Value.slice none 0 0]) rfl ?_
                                intro b726 w727 hb728 x729 l730
                                have t735 := Tr.of_new (O := O689) x729 (fun _ _ h => h.elim) l730
                                have B737 := (B725.ext x729).ins hb728.lt
                                have X736 := X724.step x729 (fun _ _ h => h.elim)
                                have g738 : w0.heap.size ≤ b726 := Nat.le_trans X724.size l730
                                have n739 : b0 ≠ b726 := by have := hb717.lt; omega
                                have n740 : b1 ≠ b726 := by have := hb731.lt; omega
                                have n741 : b152 ≠ b726 := by have := hb732.lt; omega
                                have n742 : b222 ≠ b726 := by have := hb733.lt; omega
                                have n743 : v687.ownBlock ≠ some b726 := fun h => by have := ho734.lt _ h; omega
                                have hb744 := (hb717.keep x729 (fun h => h))
                                have hb745 := (hb731.keep x729 (fun h => h))
                                have hb746 := (hb732.keep x729 (fun h => h))
                                have hb747 := (hb733.keep x729 (fun h => h))
                                have ho748 := (ho734.keep x729 (fun _ _ h => h) t735 (fun _ h => Or.inr h))
                                refine OW.store rfl rfl rfl shp_24 rfl rfl (vs := [Value.int .i64 y712.1.gKind, Value.int .i64 y712.1.gNum, Value.string ⟨List.toArray y712.1.gText⟩, v721]) rfl rfl hb728 rfl (one_cons rfl (one_cons rfl (one_cons rfl (one_cons (RD.one _ _ h722) one_nil)))) (cs' := [Value.int .i64 y712.1.gKind, Value.int .i64 y712.1.gNum, Value.string ⟨List.toArray y712.1.gText⟩, v721]) rfl ?_
                                intro w749 hb750 x751
                                have t752 := Tr.of_ext (O := (Ins O689 b726)) x751 (fun _ _ h => by cases h; exact (Or.inl rfl))
                                have B754 := B737.ext x751
                                have X753 := X736.step x751 (fun y hy h => absurd hy (by cases h; have := g738; omega))
                                refine OW.assign rfl rfl rfl rfl rfl ?_
                                refine OW.done (TW.seq (TW.seq (TW.region ?_)))
                                refine OW.move rfl rfl rfl rfl rfl ?_
                                refine OW.binI rfl rfl rfl rfl rfl rfl rfl ?_
                                refine OW.done ?_
                                refine TW.cond rfl (fun c755 => ?_) (fun c755 => ?_)
                                · have hm := ite_t c755 hm
                                  refine TW.seq (TW.region ?_)
                                  refine OW.build rfl rfl rfl rfl rfl (cs := [Value.int .i64 0, Value.int .i64 0, Value.string ⟨List.toArray ([] : List UInt8)⟩, Value.slice none 0 0]) rfl ?_
                                  refine OW.move rfl rfl rfl rfl rfl ?_
                                  have hb756 := (hb745.keep x751 n740)
                                  have hb757 := (hb744.keep x751 n739)
                                  have hb758 := (hb746.keep x751 n741)
                                  have hb759 := (hb747.keep x751 n742)
                                  have ho760 := (ho748.keep x751 (fun b h e => n743 (e ▸ h)) t752 (fun _ h => h))
                                  refine OW.store rfl rfl rfl shp_24 rfl rfl (vs := [Value.int .i64 0, Value.int .i64 0, Value.string ⟨List.toArray ([] : List UInt8)⟩, Value.slice none 0 0]) rfl rfl hb756 rfl (one_cons rfl (one_cons rfl (one_cons rfl (one_cons rfl one_nil)))) (cs' := [Value.int .i64 0, Value.int .i64 0, Value.string ⟨List.toArray ([] : List UInt8)⟩, Value.slice none 0 0]) rfl ?_
                                  intro w761 hb762 x763
                                  have t764 := Tr.of_ext (O := (Ins O689 b726)) x763 (fun _ _ h => by cases h; exact (Or.inr (G690.more _ (Or.inr m178))))
                                  have B766 := B754.ext x763
                                  have X765 := X753.step x763 (fun y hy h => absurd hy (by cases h; have := g9; omega))
                                  refine OW.assign rfl rfl rfl rfl rfl ?_
                                  refine OW.done ?_
                                  have hb767 := (hb757.keep x763 n10)
                                  cases hm
                                  exact TW.ret (Out.many rfl ⟨_, _, rfl, ⟨_, _, _, _, _, rfl, shp_24, hb762, rfl, rfl⟩, ⟨_, _, rfl, rfl, rfl⟩⟩ rfl) ⟨_, _, rfl, (T_api_Cbor.shut (x := (T_api_Cbor.mk 0 0 ([] : List UInt8) [])) RD.nil), hb767, (T_seneschalref03_reader.shut (x := y712.2.2)), X765⟩
                                · have hm := ite_f c755 hm
                                  refine TW.skip (TW.region ?_)
                                  refine OW.fieldAddr rfl rfl rfl rfl fld_24_3 rfl ?_
                                  have hb768 := (hb746.keep x751 n741)
                                  refine OW.load1 rfl rfl rfl rfl shp_22 rfl hb768 rfl ?_
                                  refine OW.loadN rfl rfl rfl rfl shp_24 rfl hb750 (vs := [Value.int .i64 y712.1.gKind, Value.int .i64 y712.1.gNum, Value.string ⟨List.toArray y712.1.gText⟩, v721]) rfl rfl ?_
                                  have h769 := h722.tr (t735.trans t752)
                                  have hb770 := (hb744.keep x751 n739)
                                  have hb771 := (hb745.keep x751 n740)
                                  have hb772 := (hb747.keep x751 n742)
                                  have ho773 := (ho748.keep x751 (fun b h e => n743 (e ▸ h)) t752 (fun _ h => h))
                                  refine OW.buildSlice rfl rfl rfl rfl Tryd.underlying22 shp_24 zer_24 rfl rfl (cs := [Value.int .i64 y712.1.gKind, Value.int .i64 y712.1.gNum, Value.string ⟨List.toArray y712.1.gText⟩, v721]) rfl rfl rfl ?_
                                  intro b774 w775 hb776 x777 l778
                                  have t780 := Tr.of_ext (O := (Ins O689 b726)) x777 (fun _ _ h => h.elim)
                                  have B782 := B754.ext x777
                                  have X781 := X753.step x777 (fun _ _ h => h.elim)
                                  have h783 := h769.tr t780
                                  have h779 : RD w775 (Ins O689 b726) (D.sl 24 4 ([y712.1].map T_api_Cbor.enc)) (Value.slice (some ⟨b774, 0, none⟩) 1 1) := RD.of_new hb776 B754 l778 rfl (Nat.le_of_ble_eq_true rfl) rfl ⟨(T_api_Cbor.shut (x := y712.1) h783), trivial⟩
                                  have hb784 := (hb770.keep x777 (fun h => h))
                                  have hb785 := (hb771.keep x777 (fun h => h))
                                  have hb786 := (hb768.keep x777 (fun h => h))
                                  have hb787 := (hb772.keep x777 (fun h => h))
                                  have hb788 := (hb750.keep x777 (fun h => h))
                                  have ho789 := (ho773.keep x777 (fun _ _ h => h) t780 (fun _ h => h))
                                  obtain ⟨l790, h791, hm⟩ := bnd hm
                                  obtain ⟨hx792, hl793⟩ := app_some h791
                                  refine OW.appendL' rfl rfl rfl rfl Tryd.underlying22 inf_24 rfl rfl rfl rfl rfl ho789 B782 h779 hl793 ?_
                                  intro v794 w795 O796 G797
                                  rw [← hx792] at G797
                                  have X798 := X781.step G797.ext (fun y hy h => gv692 y h hy)
                                  have gv799 : ∀ b, v794.ownBlock = some b → b < w0.heap.size → (At b0) b := fun b h hl => (G797.at_ b h).elim (fun h => gv692 b h hl) (fun h => absurd hl (by have := X781.size; omega))
                                  have n800 : v794.ownBlock ≠ some b0 := fun h => (G797.at_ _ h).elim n693 (fun h => by have := hb784.lt; omega)
                                  have n801 : v794.ownBlock ≠ some b1 := fun h => (G797.at_ _ h).elim n694 (fun h => by have := hb785.lt; omega)
                                  have n802 : v794.ownBlock ≠ some b152 := fun h => (G797.at_ _ h).elim n695 (fun h => by have := hb786.lt; omega)
                                  have n803 : v794.ownBlock ≠ some b222 := fun h => (G797.at_ _ h).elim n696 (fun h => by have := hb787.lt; omega)
                                  have n804 : v794.ownBlock ≠ some b726 := fun h => (G797.at_ _ h).elim n743 (fun h => by have := hb788.lt; omega)
                                  refine OW.fieldAddr rfl rfl rfl rfl fld_24_3 rfl ?_
                                  have hb805 := (hb786.keep G797.ext (n695))
                                  have hb806 := (hb784.keep G797.ext (n693))
                                  have hb807 := (hb785.keep G797.ext (n694))
                                  have hb808 := (hb787.keep G797.ext (n696))
                                  have hb809 := (hb788.keep G797.ext (n743))
                                  refine OW.store rfl rfl rfl shp_22 rfl rfl (vs := [v794]) (cells_one G797.own.one) rfl hb805 rfl (one_cons G797.own.one one_nil) (cs' := [Value.int .i64 x190, Value.int .i64 x191, Value.string ⟨List.toArray x192⟩, v794]) rfl ?_
                                  intro w810 hb811 x812
                                  have t813 := Tr.of_ext (O := O796) x812 (fun _ _ h => by cases h; exact (G797.more _ (Or.inr (G690.more _ (Or.inr m179)))))
                                  have B815 := G797.bd.ext x812
                                  have X814 := X798.step x812 (fun y hy h => absurd hy (by cases h; have := g160; omega))
                                  refine OW.done (TW.inBlock (TW.region ?_))
                                  refine OW.move rfl rfl rfl rfl rfl ?_
                                  refine OW.binI rfl rfl rfl rfl rfl rfl rfl ?_
                                  refine OW.assign rfl rfl rfl rfl rfl ?_
                                  refine OW.done ?_
                                  have hb816 := (hb806.keep x812 n161)
                                  have h817 := h188.tr (t219.trans (t230.trans (t245.trans (t250.trans (t650.trans (t674.trans (G690.tr.trans (t704.trans (t723.trans (t735.trans (t752.trans (t780.trans (G797.tr.trans t813)))))))))))))
                                  have hb818 := (hb807.keep x812 n162)
                                  have ho819 := (G797.own.keep x812 (fun b h e => n802 (e ▸ h)) t813 (fun _ h => h))
                                  have h820 := h711.tr (t723.trans (t735.trans (t752.trans (t780.trans (G797.tr.trans t813)))))
                                  exact TW.sub (Sub.cons rfl (Sub.cons rfl (Sub.cons rfl (Sub.cons rfl (Sub.cons rfl (Sub.cons rfl (Sub.cons rfl (Sub.cons rfl Sub.nil)))))))) (hout204 _ _ (ih205 y712.2.2.gs y712.2.2.gi l790 s654 (IntKind.wrap .i64 (x199 + 1)) _ hm rfl w810 O796 v187 v794 B815 h820 X814 (fun x h => (G797.more _ (Or.inr (G690.more _ (Or.inr (lf175 _ h)))))) (G797.more _ (Or.inr (G690.more _ (Or.inr m177)))) (G797.more _ (Or.inr (G690.more _ (Or.inr m178)))) (G797.more _ (Or.inr (G690.more _ (Or.inr m179)))) hb816 h817 hb818 ho819 gv799 hb811 n800 n801 n802))
                        · have hm := ite_f hk255 hm
                          have hb821 := ((hb238.keep x244 n234).keep x249 (fun h => h))
                          obtain ⟨s822, h823, hm⟩ := bnd hm
                          obtain ⟨p824, q825, h826, h827, h828, h829, h830⟩ := sub_some h823
                          refine DP.put [(112, Value.int .i64 y208.2.1), (113, Value.bool (decide (y208.2.1 = 0))), (114, Value.bool (decide (y208.2.1 = 0))), (115, Value.pointer (some ⟨b222, 0 + 0, none⟩)), (116, Value.int .i64 y208.1.gKind), (117, Value.bool (!decide (y208.1.gKind = 0))), (118, Value.bool (!decide (y208.1.gKind = 0))), (119, undef), (120, undef), (121, undef), (122, Value.bool false), (123, Value.bool false), (124, Value.pointer (some ⟨b0, 0, none⟩)), (125, Value.pointer (some ⟨b0, 0, none⟩)), (126, Value.pointer (some ⟨b0, 0 + 0, none⟩)), (127, Value.string ⟨List.toArray y208.2.2.gs⟩), (128, Value.int .i64 x181), (129, Value.pointer (some ⟨b0, 0, none⟩)), (130, Value.pointer (some ⟨b0, 0, none⟩)), (131, Value.pointer (some ⟨b0, 0 + 1, none⟩)), (132, Value.int .i64 y208.2.2.gi), (133, Value.string ⟨List.toArray s822⟩), (134, Value.string ⟨List.toArray x198⟩), (135, Value.bool (slt s822 x198 || decide (s822 = x198))), (136, Value.bool (slt s822 x198 || decide (s822 = x198))), (137, Value.bool (slt s822 x198 || decide (s822 = x198)))] rfl ?_
                          refine DW.end' (StabE.cons rfl rfl rfl rfl (EX.move rfl rfl) (StabE.cons rfl rfl rfl rfl (EX.binI rfl rfl rfl rfl) (StabE.cons rfl rfl rfl rfl (EX.move rfl rfl) (StabE.yesH rfl rfl rfl rfl rfl rfl hk253 (EX.fieldAddr rfl fld_24_0 rfl) (StabE.yesH rfl rfl rfl rfl rfl rfl hk253 (EX.load1 rfl shp_3 rfl hb254 rfl) (StabE.yesH rfl rfl rfl rfl rfl rfl hk253 (EX.binI rfl rfl rfl rfl) (StabE.yesH rfl rfl rfl rfl rfl rfl hk253 (EX.move rfl rfl) (StabE.not rfl rfl rfl rfl rfl rfl (by rw [hk255]; rfl) (StabE.not rfl rfl rfl rfl rfl rfl (by rw [hk255]; rfl) (StabE.not rfl rfl rfl rfl rfl rfl (by rw [hk255]; rfl) (StabE.yesH rfl rfl rfl rfl rfl rfl hk253 (EX.pickF rfl rfl hk255 rfl) (StabE.yesH rfl rfl rfl rfl rfl rfl hk253 (EX.move rfl rfl) (StabE.yesH rfl rfl rfl rfl rfl rfl rfl (EX.move rfl rfl) (StabE.yesH rfl rfl rfl rfl rfl rfl rfl (EX.nilCheck rfl rfl) (StabE.yesH rfl rfl rfl rfl rfl rfl rfl (EX.fieldAddr rfl fld_48_0 rfl) (StabE.yesH rfl rfl rfl rfl rfl rfl rfl (EX.load1 rfl shp_9 rfl hb821 rfl) (StabE.yesH rfl rfl rfl rfl rfl rfl rfl (EX.move rfl rfl) (StabE.yesH rfl rfl rfl rfl rfl rfl rfl (EX.move rfl rfl) (StabE.yesH rfl rfl rfl rfl rfl rfl rfl (EX.nilCheck rfl rfl) (StabE.yesH rfl rfl rfl rfl rfl rfl rfl (EX.fieldAddr rfl fld_48_1 rfl) (StabE.yesH rfl rfl rfl rfl rfl rfl rfl (EX.load1 rfl shp_3 rfl hb821 rfl) (StabE.yesH rfl rfl rfl rfl rfl rfl rfl (by rw [h830]; exact (EX.sliceS rfl Tryd.underlying9 rfl (a := p824) (b := q825) ⟨_, _, rfl, h826⟩ ⟨_, _, rfl, h827⟩ h828 h829)) (StabE.yesH rfl rfl rfl rfl rfl rfl rfl (EX.move rfl rfl) (StabE.yesH rfl rfl rfl rfl rfl rfl rfl (EX.binS rfl rfl rfl rfl) (StabE.yesH rfl rfl rfl rfl rfl rfl hk253 (EX.pickF rfl rfl rfl rfl) (StabE.cons rfl rfl rfl rfl (EX.pickT rfl rfl hk253 rfl) StabE.nil)))))))))))))))))))))))))) ?_
                          refine TW.cond rfl (fun c831 => ?_) (fun c831 => ?_)
                          · have hm := ite_t c831 hm
                            refine TW.region ?_
                            refine OW.assign rfl rfl rfl rfl rfl ?_
                            refine OW.done (TW.seq (TW.seq (TW.region ?_)))
                            refine OW.move rfl rfl rfl rfl rfl ?_
                            refine OW.binI rfl rfl rfl rfl rfl rfl rfl ?_
                            refine OW.done ?_
                            refine TW.cond rfl (fun c832 => ?_) (fun c832 => ?_)
                            · have hm := ite_t c832 hm
                              refine TW.seq (TW.region ?_)
                              refine OW.build rfl rfl rfl rfl rfl (cs := [Value.int .i64 0, Value.int .i64 0, Value.string ⟨List.toArray ([] : List UInt8)⟩, Value.slice none 0 0]) rfl ?_
                              refine OW.move rfl rfl rfl rfl rfl ?_
                              have hb833 := ((hb239.keep x244 n235).keep x249 (fun h => h))
                              have hb834 := ((hb240.keep x244 n236).keep x249 (fun h => h))
                              have ho835 := ((ho241.keep x244 (fun b h e => n237 (e ▸ h)) t245 (fun _ h => h)).keep x249 (fun _ _ h => h) t250 (fun _ h => h))
                              refine OW.store rfl rfl rfl shp_24 rfl rfl (vs := [Value.int .i64 0, Value.int .i64 0, Value.string ⟨List.toArray ([] : List UInt8)⟩, Value.slice none 0 0]) rfl rfl hb833 rfl (one_cons rfl (one_cons rfl (one_cons rfl (one_cons rfl one_nil)))) (cs' := [Value.int .i64 0, Value.int .i64 0, Value.string ⟨List.toArray ([] : List UInt8)⟩, Value.slice none 0 0]) rfl ?_
                              intro w836 hb837 x838
                              have t839 := Tr.of_ext (O := (Ins O172 b222)) x838 (fun _ _ h => by cases h; exact (Or.inr m178))
                              have B841 := B252.ext x838
                              have X840 := X251.step x838 (fun y hy h => absurd hy (by cases h; have := g9; omega))
                              refine OW.assign rfl rfl rfl rfl rfl ?_
                              refine OW.done ?_
                              have hb842 := (hb821.keep x838 n10)
                              cases hm
                              exact TW.ret (Out.many rfl ⟨_, _, rfl, ⟨_, _, _, _, _, rfl, shp_24, hb837, rfl, rfl⟩, ⟨_, _, rfl, rfl, rfl⟩⟩ rfl) ⟨_, _, rfl, (T_api_Cbor.shut (x := (T_api_Cbor.mk 0 0 ([] : List UInt8) [])) RD.nil), hb842, (T_seneschalref03_reader.shut (x := y208.2.2)), X840⟩
                            · have hm := ite_f c832 hm
                              refine TW.skip (TW.seq ?_)
                              refine TW.drawP [0, 1, 3, 7, 0, 0, 32, 96, 224, 511, 1023] [0, 1, 2, 3, 4, 5, 6, 7, 8, 9, 10] [] mix (by kernel_rfl) ?_
                              intro w843 x844
                              have t845 := Tr.of_ext (O := (Ins O172 b222)) x844 (fun _ _ h => h.elim)
                              have B847 := B252.ext x844
                              have X846 := X251.step x844 (fun _ _ h => h.elim)
                              have hb848 := (hb821.keep x844 (fun h => h))
                              obtain ⟨s849, h850, hm⟩ := bnd hm
                              obtain ⟨p851, q852, h853, h854, h855, h856, h857⟩ := sub_some h850
                              refine DP.put [(142, Value.pointer (some ⟨b0, 0, none⟩)), (143, Value.pointer (some ⟨b0, 0, none⟩)), (144, Value.pointer (some ⟨b0, 0 + 0, none⟩)), (145, Value.string ⟨List.toArray y208.2.2.gs⟩), (146, Value.int .i64 x181), (147, Value.pointer (some ⟨b0, 0, none⟩)), (148, Value.pointer (some ⟨b0, 0, none⟩)), (149, Value.pointer (some ⟨b0, 0 + 1, none⟩)), (150, Value.int .i64 y208.2.2.gi), (151, Value.string ⟨List.toArray s849⟩), (11, Value.string ⟨List.toArray s849⟩)] rfl ?_
                              refine DW.end' (StabE.cons rfl rfl rfl rfl (EX.move rfl rfl) (StabE.cons rfl rfl rfl rfl (EX.nilCheck rfl rfl) (StabE.cons rfl rfl rfl rfl (EX.fieldAddr rfl fld_48_0 rfl) (StabE.cons rfl rfl rfl rfl (EX.load1 rfl shp_9 rfl hb848 rfl) (StabE.cons rfl rfl rfl rfl (EX.move rfl rfl) (StabE.cons rfl rfl rfl rfl (EX.move rfl rfl) (StabE.cons rfl rfl rfl rfl (EX.nilCheck rfl rfl) (StabE.cons rfl rfl rfl rfl (EX.fieldAddr rfl fld_48_1 rfl) (StabE.cons rfl rfl rfl rfl (EX.load1 rfl shp_3 rfl hb848 rfl) (StabE.cons rfl rfl rfl rfl (by rw [h857]; exact (EX.sliceS rfl Tryd.underlying9 rfl (a := p851) (b := q852) ⟨_, _, rfl, h853⟩ ⟨_, _, rfl, h854⟩ h855 h856)) (StabE.cons rfl rfl rfl rfl (EX.assign rfl rfl) StabE.nil))))))))))) ?_
                              refine TW.region ?_
                              refine OW.fieldAddr rfl rfl rfl rfl fld_24_3 rfl ?_
                              have hb858 := (((hb240.keep x244 n236).keep x249 (fun h => h)).keep x844 (fun h => h))
                              refine OW.load1 rfl rfl rfl rfl shp_22 rfl hb858 rfl ?_
                              have hb859 := (hb254.keep x844 (fun h => h))
                              refine OW.loadN rfl rfl rfl rfl shp_24 rfl hb859 (vs := [Value.int .i64 y208.1.gKind, Value.int .i64 y208.1.gNum, Value.string ⟨List.toArray y208.1.gText⟩, v217]) rfl rfl ?_
                              have h860 := h218.tr (t230.trans (t245.trans (t250.trans t845)))
                              have hb861 := (((hb239.keep x244 n235).keep x249 (fun h => h)).keep x844 (fun h => h))
                              have ho862 := (((ho241.keep x244 (fun b h e => n237 (e ▸ h)) t245 (fun _ h => h)).keep x249 (fun _ _ h => h) t250 (fun _ h => h)).keep x844 (fun _ _ h => h) t845 (fun _ h => h))
                              refine OW.buildSlice rfl rfl rfl rfl Tryd.underlying22 shp_24 zer_24 rfl rfl (cs := [Value.int .i64 y208.1.gKind, Value.int .i64 y208.1.gNum, Value.string ⟨List.toArray y208.1.gText⟩, v217]) rfl rfl rfl ?_
                              intro b863 w864 hb865 x866 l867
                              have t869 := Tr.of_ext (O := (Ins O172 b222)) x866 (fun _ _ h => h.elim)
                              have B871 := B847.ext x866
                              have X870 := X846.step x866 (fun _ _ h => h.elim)
                              have h872 := h860.tr t869
                              have h868 : RD w864 (Ins O172 b222) (D.sl 24 4 ([y208.1].map T_api_Cbor.enc)) (Value.slice (some ⟨b863, 0, none⟩) 1 1) := RD.of_new hb865 B847 l867 rfl (Nat.le_of_ble_eq_true rfl) rfl ⟨(T_api_Cbor.shut (x := y208.1) h872), trivial⟩
                              have hb873 := (hb848.keep x866 (fun h => h))
                              have hb874 := (hb861.keep x866 (fun h => h))
                              have hb875 := (hb858.keep x866 (fun h => h))
                              have hb876 := (hb859.keep x866 (fun h => h))
                              have ho877 := (ho862.keep x866 (fun _ _ h => h) t869 (fun _ h => h))
                              obtain ⟨l878, h879, hm⟩ := bnd hm
                              obtain ⟨hx880, hl881⟩ := app_some h879
                              refine OW.appendL' rfl rfl rfl rfl Tryd.underlying22 inf_24 rfl rfl rfl rfl rfl ho877 B871 h868 hl881 ?_
                              intro v882 w883 O884 G885
                              rw [← hx880] at G885
                              have X886 := X870.step G885.ext (fun y hy h => gv196 y h hy)
                              have gv887 : ∀ b, v882.ownBlock = some b → b < w0.heap.size → (At b0) b := fun b h hl => (G885.at_ b h).elim (fun h => gv196 b h hl) (fun h => absurd hl (by have := X870.size; omega))
                              have n888 : v882.ownBlock ≠ some b0 := fun h => (G885.at_ _ h).elim n200 (fun h => by have := hb873.lt; omega)
                              have n889 : v882.ownBlock ≠ some b1 := fun h => (G885.at_ _ h).elim n201 (fun h => by have := hb874.lt; omega)
                              have n890 : v882.ownBlock ≠ some b152 := fun h => (G885.at_ _ h).elim n202 (fun h => by have := hb875.lt; omega)
                              have n891 : v882.ownBlock ≠ some b222 := fun h => (G885.at_ _ h).elim n237 (fun h => by have := hb876.lt; omega)
                              refine OW.fieldAddr rfl rfl rfl rfl fld_24_3 rfl ?_
                              have hb892 := (hb875.keep G885.ext (n202))
                              have hb893 := (hb873.keep G885.ext (n200))
                              have hb894 := (hb874.keep G885.ext (n201))
                              have hb895 := (hb876.keep G885.ext (n237))
                              refine OW.store rfl rfl rfl shp_22 rfl rfl (vs := [v882]) (cells_one G885.own.one) rfl hb892 rfl (one_cons G885.own.one one_nil) (cs' := [Value.int .i64 x190, Value.int .i64 x191, Value.string ⟨List.toArray x192⟩, v882]) rfl ?_
                              intro w896 hb897 x898
                              have t899 := Tr.of_ext (O := O884) x898 (fun _ _ h => by cases h; exact (G885.more _ (Or.inr m179)))
                              have B901 := G885.bd.ext x898
                              have X900 := X886.step x898 (fun y hy h => absurd hy (by cases h; have := g160; omega))
                              refine OW.done (TW.seq (TW.region ?_))
                              refine OW.move rfl rfl rfl rfl rfl ?_
                              refine OW.move rfl rfl rfl rfl rfl ?_
                              refine OW.binI rfl rfl rfl rfl rfl rfl rfl ?_
                              have hb902 := (hb893.keep x898 n161)
                              have hb903 := (hb894.keep x898 n162)
                              have hb904 := (hb895.keep x898 (Ne.symm n236))
                              have ho905 := (G885.own.keep x898 (fun b h e => n890 (e ▸ h)) t899 (fun _ h => h))
                              have h906 := G176.tr (t219.trans (t230.trans (t245.trans (t250.trans (t845.trans (t869.trans (G885.tr.trans t899)))))))
                              obtain ⟨y907, hy908, hm⟩ := bnd hm
                              refine OW.call rfl rfl rfl rfl rfl rfl Tryd.call19 ((ih _ _ _ hy908 _ O884 _ _ B901 h906 hb902 (T_seneschalref03_reader.shut (x := y208.2.2)) (G885.more _ (Or.inr m177))).mono ?_)
                              rintro e w914 ⟨cs909, cs911, rfl, h910, hb912, h913, x915⟩
                              obtain ⟨v916, rfl, h917⟩ := T_api_Cbor.opn h910
                              obtain rfl := T_seneschalref03_reader.opn h913
                              refine CallK.ret ?_
                              have t918 := Tr.of_ext (O := O884) x915 (fun _ _ h => by cases h; exact (G885.more _ (Or.inr m177)))
                              have B920 := B901.ext x915
                              have X919 := X900.step x915 (fun y hy h => h)
                              refine OW.move rfl rfl rfl rfl rfl ?_
                              refine OW.extract rfl rfl rfl rfl rfl rfl ?_
                              refine OW.extract rfl rfl rfl rfl rfl rfl ?_
                              have hb926 := (hb903.keep x915 (Ne.symm n10))
                              have hb927 := (hb897.keep x915 (Ne.symm n161))
                              have hb928 := (hb904.keep x915 (Ne.symm n234))
                              have ho929 := (ho905.keep x915 (fun b h e => n888 (e ▸ h)) t918 (fun _ h => h))
                              refine OW.alloc rfl rfl rfl rfl zer_24 (cs := [Value.int .i64 0, Value.int .i64 0, Value.string ⟨List.toArray ([] : List UInt8)⟩, Value.slice none 0 0]) rfl ?_
                              intro b921 w922 hb923 x924 l925
                              have t930 := Tr.of_new (O := O884) x924 (fun _ _ h => h.elim) l925
                              have B932 := (B920.ext x924).ins hb923.lt
                              have X931 := X919.step x924 (fun _ _ h => h.elim)
                              have g933 : w0.heap.size ≤ b921 := Nat.le_trans X919.size l925
                              have n934 : b0 ≠ b921 := by have := hb912.lt; omega
                              have n935 : b1 ≠ b921 := by have := hb926.lt; omega
                              have n936 : b152 ≠ b921 := by have := hb927.lt; omega
                              have n937 : b222 ≠ b921 := by have := hb928.lt; omega
                              have n938 : v882.ownBlock ≠ some b921 := fun h => by have := ho929.lt _ h; omega
                              have hb939 := (hb912.keep x924 (fun h => h))
                              have hb940 := (hb926.keep x924 (fun h => h))
                              have hb941 := (hb927.keep x924 (fun h => h))
                              have hb942 := (hb928.keep x924 (fun h => h))
                              have ho943 := (ho929.keep x924 (fun _ _ h => h) t930 (fun _ h => Or.inr h))
                              refine OW.store rfl rfl rfl shp_24 rfl rfl (vs := [Value.int .i64 y907.1.gKind, Value.int .i64 y907.1.gNum, Value.string ⟨List.toArray y907.1.gText⟩, v916]) rfl rfl hb923 rfl (one_cons rfl (one_cons rfl (one_cons rfl (one_cons (RD.one _ _ h917) one_nil)))) (cs' := [Value.int .i64 y907.1.gKind, Value.int .i64 y907.1.gNum, Value.string ⟨List.toArray y907.1.gText⟩, v916]) rfl ?_
                              intro w944 hb945 x946
                              have t947 := Tr.of_ext (O := (Ins O884 b921)) x946 (fun _ _ h => by cases h; exact (Or.inl rfl))
                              have B949 := B932.ext x946
                              have X948 := X931.step x946 (fun y hy h => absurd hy (by cases h; have := g933; omega))
                              refine OW.assign rfl rfl rfl rfl rfl ?_
                              refine OW.done (TW.seq (TW.seq (TW.region ?_)))
                              refine OW.move rfl rfl rfl rfl rfl ?_
                              refine OW.binI rfl rfl rfl rfl rfl rfl rfl ?_
                              refine OW.done ?_
                              refine TW.cond rfl (fun c950 => ?_) (fun c950 => ?_)
                              · have hm := ite_t c950 hm
                                refine TW.seq (TW.region ?_)
                                refine OW.build rfl rfl rfl rfl rfl (cs := [Value.int .i64 0, Value.int .i64 0, Value.string ⟨List.toArray ([] : List UInt8)⟩, Value.slice none 0 0]) rfl ?_
                                refine OW.move rfl rfl rfl rfl rfl ?_
                                have hb951 := (hb940.keep x946 n935)
                                have hb952 := (hb939.keep x946 n934)
                                have hb953 := (hb941.keep x946 n936)
                                have hb954 := (hb942.keep x946 n937)
                                have ho955 := (ho943.keep x946 (fun b h e => n938 (e ▸ h)) t947 (fun _ h => h))
                                refine OW.store rfl rfl rfl shp_24 rfl rfl (vs := [Value.int .i64 0, Value.int .i64 0, Value.string ⟨List.toArray ([] : List UInt8)⟩, Value.slice none 0 0]) rfl rfl hb951 rfl (one_cons rfl (one_cons rfl (one_cons rfl (one_cons rfl one_nil)))) (cs' := [Value.int .i64 0, Value.int .i64 0, Value.string ⟨List.toArray ([] : List UInt8)⟩, Value.slice none 0 0]) rfl ?_
                                intro w956 hb957 x958
                                have t959 := Tr.of_ext (O := (Ins O884 b921)) x958 (fun _ _ h => by cases h; exact (Or.inr (G885.more _ (Or.inr m178))))
                                have B961 := B949.ext x958
                                have X960 := X948.step x958 (fun y hy h => absurd hy (by cases h; have := g9; omega))
                                refine OW.assign rfl rfl rfl rfl rfl ?_
                                refine OW.done ?_
                                have hb962 := (hb952.keep x958 n10)
                                cases hm
                                exact TW.ret (Out.many rfl ⟨_, _, rfl, ⟨_, _, _, _, _, rfl, shp_24, hb957, rfl, rfl⟩, ⟨_, _, rfl, rfl, rfl⟩⟩ rfl) ⟨_, _, rfl, (T_api_Cbor.shut (x := (T_api_Cbor.mk 0 0 ([] : List UInt8) [])) RD.nil), hb962, (T_seneschalref03_reader.shut (x := y907.2.2)), X960⟩
                              · have hm := ite_f c950 hm
                                refine TW.skip (TW.region ?_)
                                refine OW.fieldAddr rfl rfl rfl rfl fld_24_3 rfl ?_
                                have hb963 := (hb941.keep x946 n936)
                                refine OW.load1 rfl rfl rfl rfl shp_22 rfl hb963 rfl ?_
                                refine OW.loadN rfl rfl rfl rfl shp_24 rfl hb945 (vs := [Value.int .i64 y907.1.gKind, Value.int .i64 y907.1.gNum, Value.string ⟨List.toArray y907.1.gText⟩, v916]) rfl rfl ?_
                                have h964 := h917.tr (t930.trans t947)
                                have hb965 := (hb939.keep x946 n934)
                                have hb966 := (hb940.keep x946 n935)
                                have hb967 := (hb942.keep x946 n937)
                                have ho968 := (ho943.keep x946 (fun b h e => n938 (e ▸ h)) t947 (fun _ h => h))
                                refine OW.buildSlice rfl rfl rfl rfl Tryd.underlying22 shp_24 zer_24 rfl rfl (cs := [Value.int .i64 y907.1.gKind, Value.int .i64 y907.1.gNum, Value.string ⟨List.toArray y907.1.gText⟩, v916]) rfl rfl rfl ?_
                                intro b969 w970 hb971 x972 l973
                                have t975 := Tr.of_ext (O := (Ins O884 b921)) x972 (fun _ _ h => h.elim)
                                have B977 := B949.ext x972
                                have X976 := X948.step x972 (fun _ _ h => h.elim)
                                have h978 := h964.tr t975
                                have h974 : RD w970 (Ins O884 b921) (D.sl 24 4 ([y907.1].map T_api_Cbor.enc)) (Value.slice (some ⟨b969, 0, none⟩) 1 1) := RD.of_new hb971 B949 l973 rfl (Nat.le_of_ble_eq_true rfl) rfl ⟨(T_api_Cbor.shut (x := y907.1) h978), trivial⟩
                                have hb979 := (hb965.keep x972 (fun h => h))
                                have hb980 := (hb966.keep x972 (fun h => h))
                                have hb981 := (hb963.keep x972 (fun h => h))
                                have hb982 := (hb967.keep x972 (fun h => h))
                                have hb983 := (hb945.keep x972 (fun h => h))
                                have ho984 := (ho968.keep x972 (fun _ _ h => h) t975 (fun _ h => h))
                                obtain ⟨l985, h986, hm⟩ := bnd hm
                                obtain ⟨hx987, hl988⟩ := app_some h986
                                refine OW.appendL' rfl rfl rfl rfl Tryd.underlying22 inf_24 rfl rfl rfl rfl rfl ho984 B977 h974 hl988 ?_
                                intro v989 w990 O991 G992
                                rw [← hx987] at G992
                                have X993 := X976.step G992.ext (fun y hy h => gv887 y h hy)
                                have gv994 : ∀ b, v989.ownBlock = some b → b < w0.heap.size → (At b0) b := fun b h hl => (G992.at_ b h).elim (fun h => gv887 b h hl) (fun h => absurd hl (by have := X976.size; omega))
                                have n995 : v989.ownBlock ≠ some b0 := fun h => (G992.at_ _ h).elim n888 (fun h => by have := hb979.lt; omega)
                                have n996 : v989.ownBlock ≠ some b1 := fun h => (G992.at_ _ h).elim n889 (fun h => by have := hb980.lt; omega)
                                have n997 : v989.ownBlock ≠ some b152 := fun h => (G992.at_ _ h).elim n890 (fun h => by have := hb981.lt; omega)
                                have n998 : v989.ownBlock ≠ some b222 := fun h => (G992.at_ _ h).elim n891 (fun h => by have := hb982.lt; omega)
                                have n999 : v989.ownBlock ≠ some b921 := fun h => (G992.at_ _ h).elim n938 (fun h => by have := hb983.lt; omega)
                                refine OW.fieldAddr rfl rfl rfl rfl fld_24_3 rfl ?_
                                have hb1000 := (hb981.keep G992.ext (n890))
                                have hb1001 := (hb979.keep G992.ext (n888))
                                have hb1002 := (hb980.keep G992.ext (n889))
                                have hb1003 := (hb982.keep G992.ext (n891))
                                have hb1004 := (hb983.keep G992.ext (n938))
                                refine OW.store rfl rfl rfl shp_22 rfl rfl (vs := [v989]) (cells_one G992.own.one) rfl hb1000 rfl (one_cons G992.own.one one_nil) (cs' := [Value.int .i64 x190, Value.int .i64 x191, Value.string ⟨List.toArray x192⟩, v989]) rfl ?_
                                intro w1005 hb1006 x1007
                                have t1008 := Tr.of_ext (O := O991) x1007 (fun _ _ h => by cases h; exact (G992.more _ (Or.inr (G885.more _ (Or.inr m179)))))
                                have B1010 := G992.bd.ext x1007
                                have X1009 := X993.step x1007 (fun y hy h => absurd hy (by cases h; have := g160; omega))
                                refine OW.done (TW.inBlock (TW.region ?_))
                                refine OW.move rfl rfl rfl rfl rfl ?_
                                refine OW.binI rfl rfl rfl rfl rfl rfl rfl ?_
                                refine OW.assign rfl rfl rfl rfl rfl ?_
                                refine OW.done ?_
                                have hb1011 := (hb1001.keep x1007 n161)
                                have h1012 := h188.tr (t219.trans (t230.trans (t245.trans (t250.trans (t845.trans (t869.trans (G885.tr.trans (t899.trans (t918.trans (t930.trans (t947.trans (t975.trans (G992.tr.trans t1008)))))))))))))
                                have hb1013 := (hb1002.keep x1007 n162)
                                have ho1014 := (G992.own.keep x1007 (fun b h e => n997 (e ▸ h)) t1008 (fun _ h => h))
                                have h1015 := h906.tr (t918.trans (t930.trans (t947.trans (t975.trans (G992.tr.trans t1008)))))
                                exact TW.sub (Sub.cons rfl (Sub.cons rfl (Sub.cons rfl (Sub.cons rfl (Sub.cons rfl (Sub.cons rfl (Sub.cons rfl (Sub.cons rfl Sub.nil)))))))) (hout204 _ _ (ih205 y907.2.2.gs y907.2.2.gi l985 s849 (IntKind.wrap .i64 (x199 + 1)) _ hm rfl w1005 O991 v187 v989 B1010 h1015 X1009 (fun x h => (G992.more _ (Or.inr (G885.more _ (Or.inr (lf175 _ h)))))) (G992.more _ (Or.inr (G885.more _ (Or.inr m177)))) (G992.more _ (Or.inr (G885.more _ (Or.inr m178)))) (G992.more _ (Or.inr (G885.more _ (Or.inr m179)))) hb1011 h1012 hb1013 ho1014 gv994 hb1006 n995 n996 n997))
                          · have hm := ite_f c831 hm
                            refine TW.skip (TW.seq (TW.seq (TW.region ?_)))
                            refine OW.move rfl rfl rfl rfl rfl ?_
                            refine OW.binI rfl rfl rfl rfl rfl rfl rfl ?_
                            refine OW.done ?_
                            refine TW.cond rfl (fun c1016 => ?_) (fun c1016 => ?_)
                            · have hm := ite_t c1016 hm
                              refine TW.seq (TW.region ?_)
                              refine OW.build rfl rfl rfl rfl rfl (cs := [Value.int .i64 0, Value.int .i64 0, Value.string ⟨List.toArray ([] : List UInt8)⟩, Value.slice none 0 0]) rfl ?_
                              refine OW.move rfl rfl rfl rfl rfl ?_
                              have hb1017 := ((hb239.keep x244 n235).keep x249 (fun h => h))
                              have hb1018 := ((hb240.keep x244 n236).keep x249 (fun h => h))
                              have ho1019 := ((ho241.keep x244 (fun b h e => n237 (e ▸ h)) t245 (fun _ h => h)).keep x249 (fun _ _ h => h) t250 (fun _ h => h))
                              refine OW.store rfl rfl rfl shp_24 rfl rfl (vs := [Value.int .i64 0, Value.int .i64 0, Value.string ⟨List.toArray ([] : List UInt8)⟩, Value.slice none 0 0]) rfl rfl hb1017 rfl (one_cons rfl (one_cons rfl (one_cons rfl (one_cons rfl one_nil)))) (cs' := [Value.int .i64 0, Value.int .i64 0, Value.string ⟨List.toArray ([] : List UInt8)⟩, Value.slice none 0 0]) rfl ?_
                              intro w1020 hb1021 x1022
                              have t1023 := Tr.of_ext (O := (Ins O172 b222)) x1022 (fun _ _ h => by cases h; exact (Or.inr m178))
                              have B1025 := B252.ext x1022
                              have X1024 := X251.step x1022 (fun y hy h => absurd hy (by cases h; have := g9; omega))
                              refine OW.assign rfl rfl rfl rfl rfl ?_
                              refine OW.done ?_
                              have hb1026 := (hb821.keep x1022 n10)
                              cases hm
                              exact TW.ret (Out.many rfl ⟨_, _, rfl, ⟨_, _, _, _, _, rfl, shp_24, hb1021, rfl, rfl⟩, ⟨_, _, rfl, rfl, rfl⟩⟩ rfl) ⟨_, _, rfl, (T_api_Cbor.shut (x := (T_api_Cbor.mk 0 0 ([] : List UInt8) [])) RD.nil), hb1026, (T_seneschalref03_reader.shut (x := y208.2.2)), X1024⟩
                            · have hm := ite_f c1016 hm
                              refine TW.skip (TW.seq ?_)
                              refine TW.drawP [0, 1, 3, 7, 0, 0, 32, 96, 224, 511, 1023] [0, 1, 2, 3, 4, 5, 6, 7, 8, 9, 10] [] mix (by kernel_rfl) ?_
                              intro w1027 x1028
                              have t1029 := Tr.of_ext (O := (Ins O172 b222)) x1028 (fun _ _ h => h.elim)
                              have B1031 := B252.ext x1028
                              have X1030 := X251.step x1028 (fun _ _ h => h.elim)
                              have hb1032 := (hb821.keep x1028 (fun h => h))
                              obtain ⟨s1033, h1034, hm⟩ := bnd hm
                              obtain ⟨p1035, q1036, h1037, h1038, h1039, h1040, h1041⟩ := sub_some h1034
                              refine DP.put [(142, Value.pointer (some ⟨b0, 0, none⟩)), (143, Value.pointer (some ⟨b0, 0, none⟩)), (144, Value.pointer (some ⟨b0, 0 + 0, none⟩)), (145, Value.string ⟨List.toArray y208.2.2.gs⟩), (146, Value.int .i64 x181), (147, Value.pointer (some ⟨b0, 0, none⟩)), (148, Value.pointer (some ⟨b0, 0, none⟩)), (149, Value.pointer (some ⟨b0, 0 + 1, none⟩)), (150, Value.int .i64 y208.2.2.gi), (151, Value.string ⟨List.toArray s1033⟩), (11, Value.string ⟨List.toArray s1033⟩)] rfl ?_
                              refine DW.end' (StabE.cons rfl rfl rfl rfl (EX.move rfl rfl) (StabE.cons rfl rfl rfl rfl (EX.nilCheck rfl rfl) (StabE.cons rfl rfl rfl rfl (EX.fieldAddr rfl fld_48_0 rfl) (StabE.cons rfl rfl rfl rfl (EX.load1 rfl shp_9 rfl hb1032 rfl) (StabE.cons rfl rfl rfl rfl (EX.move rfl rfl) (StabE.cons rfl rfl rfl rfl (EX.move rfl rfl) (StabE.cons rfl rfl rfl rfl (EX.nilCheck rfl rfl) (StabE.cons rfl rfl rfl rfl (EX.fieldAddr rfl fld_48_1 rfl) (StabE.cons rfl rfl rfl rfl (EX.load1 rfl shp_3 rfl hb1032 rfl) (StabE.cons rfl rfl rfl rfl (by rw [h1041]; exact (EX.sliceS rfl Tryd.underlying9 rfl (a := p1035) (b := q1036) ⟨_, _, rfl, h1037⟩ ⟨_, _, rfl, h1038⟩ h1039 h1040)) (StabE.cons rfl rfl rfl rfl (EX.assign rfl rfl) StabE.nil))))))))))) ?_
                              refine TW.region ?_
                              refine OW.fieldAddr rfl rfl rfl rfl fld_24_3 rfl ?_
                              have hb1042 := (((hb240.keep x244 n236).keep x249 (fun h => h)).keep x1028 (fun h => h))
                              refine OW.load1 rfl rfl rfl rfl shp_22 rfl hb1042 rfl ?_
                              have hb1043 := (hb254.keep x1028 (fun h => h))
                              refine OW.loadN rfl rfl rfl rfl shp_24 rfl hb1043 (vs := [Value.int .i64 y208.1.gKind, Value.int .i64 y208.1.gNum, Value.string ⟨List.toArray y208.1.gText⟩, v217]) rfl rfl ?_
                              have h1044 := h218.tr (t230.trans (t245.trans (t250.trans t1029)))
                              have hb1045 := (((hb239.keep x244 n235).keep x249 (fun h => h)).keep x1028 (fun h => h))
                              have ho1046 := (((ho241.keep x244 (fun b h e => n237 (e ▸ h)) t245 (fun _ h => h)).keep x249 (fun _ _ h => h) t250 (fun _ h => h)).keep x1028 (fun _ _ h => h) t1029 (fun _ h => h))
                              refine OW.buildSlice rfl rfl rfl rfl Tryd.underlying22 shp_24 zer_24 rfl rfl (cs := [Value.int .i64 y208.1.gKind, Value.int .i64 y208.1.gNum, Value.string ⟨List.toArray y208.1.gText⟩, v217]) rfl rfl rfl ?_
                              intro b1047 w1048 hb1049 x1050 l1051
                              have t1053 := Tr.of_ext (O := (Ins O172 b222)) x1050 (fun _ _ h => h.elim)
                              have B1055 := B1031.ext x1050
                              have X1054 := X1030.step x1050 (fun _ _ h => h.elim)
                              have h1056 := h1044.tr t1053
                              have h1052 : RD w1048 (Ins O172 b222) (D.sl 24 4 ([y208.1].map T_api_Cbor.enc)) (Value.slice (some ⟨b1047, 0, none⟩) 1 1) := RD.of_new hb1049 B1031 l1051 rfl (Nat.le_of_ble_eq_true rfl) rfl ⟨(T_api_Cbor.shut (x := y208.1) h1056), trivial⟩
                              have hb1057 := (hb1032.keep x1050 (fun h => h))
                              have hb1058 := (hb1045.keep x1050 (fun h => h))
                              have hb1059 := (hb1042.keep x1050 (fun h => h))
                              have hb1060 := (hb1043.keep x1050 (fun h => h))
                              have ho1061 := (ho1046.keep x1050 (fun _ _ h => h) t1053 (fun _ h => h))
                              obtain ⟨l1062, h1063, hm⟩ := bnd hm
                              obtain ⟨hx1064, hl1065⟩ := app_some h1063
                              refine OW.appendL' rfl rfl rfl rfl Tryd.underlying22 inf_24 rfl rfl rfl rfl rfl ho1061 B1055 h1052 hl1065 ?_
                              intro v1066 w1067 O1068 G1069
                              rw [← hx1064] at G1069
                              have X1070 := X1054.step G1069.ext (fun y hy h => gv196 y h hy)
                              have gv1071 : ∀ b, v1066.ownBlock = some b → b < w0.heap.size → (At b0) b := fun b h hl => (G1069.at_ b h).elim (fun h => gv196 b h hl) (fun h => absurd hl (by have := X1054.size; omega))
                              have n1072 : v1066.ownBlock ≠ some b0 := fun h => (G1069.at_ _ h).elim n200 (fun h => by have := hb1057.lt; omega)
                              have n1073 : v1066.ownBlock ≠ some b1 := fun h => (G1069.at_ _ h).elim n201 (fun h => by have := hb1058.lt; omega)
                              have n1074 : v1066.ownBlock ≠ some b152 := fun h => (G1069.at_ _ h).elim n202 (fun h => by have := hb1059.lt; omega)
                              have n1075 : v1066.ownBlock ≠ some b222 := fun h => (G1069.at_ _ h).elim n237 (fun h => by have := hb1060.lt; omega)
                              refine OW.fieldAddr rfl rfl rfl rfl fld_24_3 rfl ?_
                              have hb1076 := (hb1059.keep G1069.ext (n202))
                              have hb1077 := (hb1057.keep G1069.ext (n200))
                              have hb1078 := (hb1058.keep G1069.ext (n201))
                              have hb1079 := (hb1060.keep G1069.ext (n237))
                              refine OW.store rfl rfl rfl shp_22 rfl rfl (vs := [v1066]) (cells_one G1069.own.one) rfl hb1076 rfl (one_cons G1069.own.one one_nil) (cs' := [Value.int .i64 x190, Value.int .i64 x191, Value.string ⟨List.toArray x192⟩, v1066]) rfl ?_
                              intro w1080 hb1081 x1082
                              have t1083 := Tr.of_ext (O := O1068) x1082 (fun _ _ h => by cases h; exact (G1069.more _ (Or.inr m179)))
                              have B1085 := G1069.bd.ext x1082
                              have X1084 := X1070.step x1082 (fun y hy h => absurd hy (by cases h; have := g160; omega))
                              refine OW.done (TW.seq (TW.region ?_))
                              refine OW.move rfl rfl rfl rfl rfl ?_
                              refine OW.move rfl rfl rfl rfl rfl ?_
                              refine OW.binI rfl rfl rfl rfl rfl rfl rfl ?_
                              have hb1086 := (hb1077.keep x1082 n161)
                              have hb1087 := (hb1078.keep x1082 n162)
                              have hb1088 := (hb1079.keep x1082 (Ne.symm n236))
                              have ho1089 := (G1069.own.keep x1082 (fun b h e => n1074 (e ▸ h)) t1083 (fun _ h => h))
                              have h1090 := G176.tr (t219.trans (t230.trans (t245.trans (t250.trans (t1029.trans (t1053.trans (G1069.tr.trans t1083)))))))
                              obtain ⟨y1091, hy1092, hm⟩ := bnd hm
                              refine OW.call rfl rfl rfl rfl rfl rfl Tryd.call19 ((ih _ _ _ hy1092 _ O1068 _ _ B1085 h1090 hb1086 (T_seneschalref03_reader.shut (x := y208.2.2)) (G1069.more _ (Or.inr m177))).mono ?_)
                              rintro e w1098 ⟨cs1093, cs1095, rfl, h1094, hb1096, h1097, x1099⟩
                              obtain ⟨v1100, rfl, h1101⟩ := T_api_Cbor.opn h1094
                              obtain rfl := T_seneschalref03_reader.opn h1097
                              refine CallK.ret ?_
                              have t1102 := Tr.of_ext (O := O1068) x1099 (fun _ _ h => by cases h; exact (G1069.more _ (Or.inr m177)))
                              have B1104 := B1085.ext x1099
                              have X1103 := X1084.step x1099 (fun y hy h => h)
                              refine OW.move rfl rfl rfl rfl rfl ?_
                              refine OW.extract rfl rfl rfl rfl rfl rfl ?_
                              refine OW.extract rfl rfl rfl rfl rfl rfl ?_
                              have hb1110 := (hb1087.keep x1099 (Ne.symm n10))
                              have hb1111 := (hb1081.keep x1099 (Ne.symm n161))
                              have hb1112 := (hb1088.keep x1099 (Ne.symm n234))
                              have ho1113 := (ho1089.keep x1099 (fun b h e => n1072 (e ▸ h)) t1102 (fun _ h => h))
                              refine OW.alloc rfl rfl rfl rfl zer_24 (cs := [Value.int .i64 0, Value.int .i64 0, Value.string ⟨List.toArray ([] : List UInt8)⟩, Value.slice none 0 0]) rfl ?_
                              intro b1105 w1106 hb1107 x1108 l1109
                              have t1114 := Tr.of_new (O := O1068) x1108 (fun _ _ h => h.elim) l1109
                              have B1116 := (B1104.ext x1108).ins hb1107.lt
                              have X1115 := X1103.step x1108 (fun _ _ h => h.elim)
                              have g1117 : w0.heap.size ≤ b1105 := Nat.le_trans X1103.size l1109
                              have n1118 : b0 ≠ b1105 := by have := hb1096.lt; omega
                              have n1119 : b1 ≠ b1105 := by have := hb1110.lt; omega
                              have n1120 : b152 ≠ b1105 := by have := hb1111.lt; omega
                              have n1121 : b222 ≠ b1105 := by have := hb1112.lt; omega
                              have n1122 : v1066.ownBlock ≠ some b1105 := fun h => by have := ho1113.lt _ h; omega
                              have hb1123 := (hb1096.keep x1108 (fun h => h))
                              have hb1124 := (hb1110.keep x1108 (fun h => h))
                              have hb1125 := (hb1111.keep x1108 (fun h => h))
                              have hb1126 := (hb1112.keep x1108 (fun h => h))
                              have ho1127 := (ho1113.keep x1108 (fun _ _ h => h) t1114 (fun _ h => Or.inr h))
                              refine OW.store rfl rfl rfl shp_24 rfl rfl (vs := [Value.int .i64 y1091.1.gKind, Value.int .i64 y1091.1.gNum, Value.string ⟨List.toArray y1091.1.gText⟩, v1100]) rfl rfl hb1107 rfl (one_cons rfl (one_cons rfl (one_cons rfl (one_cons (RD.one _ _ h1101) one_nil)))) (cs' := [Value.int .i64 y1091.1.gKind, Value.int .i64 y1091.1.gNum, Value.string ⟨List.toArray y1091.1.gText⟩, v1100]) rfl ?_
                              intro w1128 hb1129 x1130
                              have t1131 := Tr.of_ext (O := (Ins O1068 b1105)) x1130 (fun _ _ h => by cases h; exact (Or.inl rfl))
                              have B1133 := B1116.ext x1130
                              have X1132 := X1115.step x1130 (fun y hy h => absurd hy (by cases h; have := g1117; omega))
                              refine OW.assign rfl rfl rfl rfl rfl ?_
                              refine OW.done (TW.seq (TW.seq (TW.region ?_)))
                              refine OW.move rfl rfl rfl rfl rfl ?_
                              refine OW.binI rfl rfl rfl rfl rfl rfl rfl ?_
                              refine OW.done ?_
                              refine TW.cond rfl (fun c1134 => ?_) (fun c1134 => ?_)
                              · have hm := ite_t c1134 hm
                                refine TW.seq (TW.region ?_)
                                refine OW.build rfl rfl rfl rfl rfl (cs := [Value.int .i64 0, Value.int .i64 0, Value.string ⟨List.toArray ([] : List UInt8)⟩, Value.slice none 0 0]) rfl ?_
                                refine OW.move rfl rfl rfl rfl rfl ?_
                                have hb1135 := (hb1124.keep x1130 n1119)
                                have hb1136 := (hb1123.keep x1130 n1118)
                                have hb1137 := (hb1125.keep x1130 n1120)
                                have hb1138 := (hb1126.keep x1130 n1121)
                                have ho1139 := (ho1127.keep x1130 (fun b h e => n1122 (e ▸ h)) t1131 (fun _ h => h))
                                refine OW.store rfl rfl rfl shp_24 rfl rfl (vs := [Value.int .i64 0, Value.int .i64 0, Value.string ⟨List.toArray ([] : List UInt8)⟩, Value.slice none 0 0]) rfl rfl hb1135 rfl (one_cons rfl (one_cons rfl (one_cons rfl (one_cons rfl one_nil)))) (cs' := [Value.int .i64 0, Value.int .i64 0, Value.string ⟨List.toArray ([] : List UInt8)⟩, Value.slice none 0 0]) rfl ?_
                                intro w1140 hb1141 x1142
                                have t1143 := Tr.of_ext (O := (Ins O1068 b1105)) x1142 (fun _ _ h => by cases h; exact (Or.inr (G1069.more _ (Or.inr m178))))
                                have B1145 := B1133.ext x1142
                                have X1144 := X1132.step x1142 (fun y hy h => absurd hy (by cases h; have := g9; omega))
                                refine OW.assign rfl rfl rfl rfl rfl ?_
                                refine OW.done ?_
                                have hb1146 := (hb1136.keep x1142 n10)
                                cases hm
                                exact TW.ret (Out.many rfl ⟨_, _, rfl, ⟨_, _, _, _, _, rfl, shp_24, hb1141, rfl, rfl⟩, ⟨_, _, rfl, rfl, rfl⟩⟩ rfl) ⟨_, _, rfl, (T_api_Cbor.shut (x := (T_api_Cbor.mk 0 0 ([] : List UInt8) [])) RD.nil), hb1146, (T_seneschalref03_reader.shut (x := y1091.2.2)), X1144⟩
                              · have hm := ite_f c1134 hm
                                refine TW.skip (TW.region ?_)
                                refine OW.fieldAddr rfl rfl rfl rfl fld_24_3 rfl ?_
                                have hb1147 := (hb1125.keep x1130 n1120)
                                refine OW.load1 rfl rfl rfl rfl shp_22 rfl hb1147 rfl ?_
                                refine OW.loadN rfl rfl rfl rfl shp_24 rfl hb1129 (vs := [Value.int .i64 y1091.1.gKind, Value.int .i64 y1091.1.gNum, Value.string ⟨List.toArray y1091.1.gText⟩, v1100]) rfl rfl ?_
                                have h1148 := h1101.tr (t1114.trans t1131)
                                have hb1149 := (hb1123.keep x1130 n1118)
                                have hb1150 := (hb1124.keep x1130 n1119)
                                have hb1151 := (hb1126.keep x1130 n1121)
                                have ho1152 := (ho1127.keep x1130 (fun b h e => n1122 (e ▸ h)) t1131 (fun _ h => h))
                                refine OW.buildSlice rfl rfl rfl rfl Tryd.underlying22 shp_24 zer_24 rfl rfl (cs := [Value.int .i64 y1091.1.gKind, Value.int .i64 y1091.1.gNum, Value.string ⟨List.toArray y1091.1.gText⟩, v1100]) rfl rfl rfl ?_
                                intro b1153 w1154 hb1155 x1156 l1157
                                have t1159 := Tr.of_ext (O := (Ins O1068 b1105)) x1156 (fun _ _ h => h.elim)
                                have B1161 := B1133.ext x1156
                                have X1160 := X1132.step x1156 (fun _ _ h => h.elim)
                                have h1162 := h1148.tr t1159
                                have h1158 : RD w1154 (Ins O1068 b1105) (D.sl 24 4 ([y1091.1].map T_api_Cbor.enc)) (Value.slice (some ⟨b1153, 0, none⟩) 1 1) := RD.of_new hb1155 B1133 l1157 rfl (Nat.le_of_ble_eq_true rfl) rfl ⟨(T_api_Cbor.shut (x := y1091.1) h1162), trivial⟩
                                have hb1163 := (hb1149.keep x1156 (fun h => h))
                                have hb1164 := (hb1150.keep x1156 (fun h => h))
                                have hb1165 := (hb1147.keep x1156 (fun h => h))
                                have hb1166 := (hb1151.keep x1156 (fun h => h))
                                have hb1167 := (hb1129.keep x1156 (fun h => h))
                                have ho1168 := (ho1152.keep x1156 (fun _ _ h => h) t1159 (fun _ h => h))
                                obtain ⟨l1169, h1170, hm⟩ := bnd hm
                                obtain ⟨hx1171, hl1172⟩ := app_some h1170
                                refine OW.appendL' rfl rfl rfl rfl Tryd.underlying22 inf_24 rfl rfl rfl rfl rfl ho1168 B1161 h1158 hl1172 ?_
                                intro v1173 w1174 O1175 G1176
                                rw [← hx1171] at G1176
                                have X1177 := X1160.step G1176.ext (fun y hy h => gv1071 y h hy)
                                have gv1178 : ∀ b, v1173.ownBlock = some b → b < w0.heap.size → (At b0) b := fun b h hl => (G1176.at_ b h).elim (fun h => gv1071 b h hl) (fun h => absurd hl (by have := X1160.size; omega))
                                have n1179 : v1173.ownBlock ≠ some b0 := fun h => (G1176.at_ _ h).elim n1072 (fun h => by have := hb1163.lt; omega)
                                have n1180 : v1173.ownBlock ≠ some b1 := fun h => (G1176.at_ _ h).elim n1073 (fun h => by have := hb1164.lt; omega)
                                have n1181 : v1173.ownBlock ≠ some b152 := fun h => (G1176.at_ _ h).elim n1074 (fun h => by have := hb1165.lt; omega)
                                have n1182 : v1173.ownBlock ≠ some b222 := fun h => (G1176.at_ _ h).elim n1075 (fun h => by have := hb1166.lt; omega)
                                have n1183 : v1173.ownBlock ≠ some b1105 := fun h => (G1176.at_ _ h).elim n1122 (fun h => by have := hb1167.lt; omega)
                                refine OW.fieldAddr rfl rfl rfl rfl fld_24_3 rfl ?_
                                have hb1184 := (hb1165.keep G1176.ext (n1074))
                                have hb1185 := (hb1163.keep G1176.ext (n1072))
                                have hb1186 := (hb1164.keep G1176.ext (n1073))
                                have hb1187 := (hb1166.keep G1176.ext (n1075))
                                have hb1188 := (hb1167.keep G1176.ext (n1122))
                                refine OW.store rfl rfl rfl shp_22 rfl rfl (vs := [v1173]) (cells_one G1176.own.one) rfl hb1184 rfl (one_cons G1176.own.one one_nil) (cs' := [Value.int .i64 x190, Value.int .i64 x191, Value.string ⟨List.toArray x192⟩, v1173]) rfl ?_
                                intro w1189 hb1190 x1191
                                have t1192 := Tr.of_ext (O := O1175) x1191 (fun _ _ h => by cases h; exact (G1176.more _ (Or.inr (G1069.more _ (Or.inr m179)))))
                                have B1194 := G1176.bd.ext x1191
                                have X1193 := X1177.step x1191 (fun y hy h => absurd hy (by cases h; have := g160; omega))
                                refine OW.done (TW.inBlock (TW.region ?_))
                                refine OW.move rfl rfl rfl rfl rfl ?_
                                refine OW.binI rfl rfl rfl rfl rfl rfl rfl ?_
                                refine OW.assign rfl rfl rfl rfl rfl ?_
                                refine OW.done ?_
                                have hb1195 := (hb1185.keep x1191 n161)
                                have h1196 := h188.tr (t219.trans (t230.trans (t245.trans (t250.trans (t1029.trans (t1053.trans (G1069.tr.trans (t1083.trans (t1102.trans (t1114.trans (t1131.trans (t1159.trans (G1176.tr.trans t1192)))))))))))))
                                have hb1197 := (hb1186.keep x1191 n162)
                                have ho1198 := (G1176.own.keep x1191 (fun b h e => n1181 (e ▸ h)) t1192 (fun _ h => h))
                                have h1199 := h1090.tr (t1102.trans (t1114.trans (t1131.trans (t1159.trans (G1176.tr.trans t1192)))))
                                exact TW.sub (Sub.cons rfl (Sub.cons rfl (Sub.cons rfl (Sub.cons rfl (Sub.cons rfl (Sub.cons rfl (Sub.cons rfl (Sub.cons rfl Sub.nil)))))))) (hout204 _ _ (ih205 y1091.2.2.gs y1091.2.2.gi l1169 s1033 (IntKind.wrap .i64 (x199 + 1)) _ hm rfl w1189 O1175 v187 v1173 B1194 h1199 X1193 (fun x h => (G1176.more _ (Or.inr (G1069.more _ (Or.inr (lf175 _ h)))))) (G1176.more _ (Or.inr (G1069.more _ (Or.inr m177)))) (G1176.more _ (Or.inr (G1069.more _ (Or.inr m178)))) (G1176.more _ (Or.inr (G1069.more _ (Or.inr m179)))) hb1195 h1196 hb1197 ho1198 gv1178 hb1190 n1179 n1180 n1181))
                      · have hm := ite_f hk253 hm
                        refine DP.put [(112, Value.int .i64 y208.2.1), (113, Value.bool (decide (y208.2.1 = 0))), (114, Value.bool (decide (y208.2.1 = 0))), (115, undef), (116, undef), (117, undef), (118, undef), (119, undef), (120, undef), (121, undef), (122, undef), (123, undef), (124, undef), (125, undef), (126, undef), (127, undef), (128, undef), (129, undef), (130, undef), (131, undef), (132, undef), (133, undef), (134, undef), (135, undef), (136, undef), (137, Value.bool false)] rfl ?_
                        refine DW.end' (StabE.cons rfl rfl rfl rfl (EX.move rfl rfl) (StabE.cons rfl rfl rfl rfl (EX.binI rfl rfl rfl rfl) (StabE.cons rfl rfl rfl rfl (EX.move rfl rfl) (StabE.not rfl rfl rfl rfl rfl rfl (by rw [hk253]; rfl) (StabE.not rfl rfl rfl rfl rfl rfl (by rw [hk253]; rfl) (StabE.not rfl rfl rfl rfl rfl rfl (by rw [hk253]; rfl) (StabE.not rfl rfl rfl rfl rfl rfl (by rw [hk253]; rfl) (StabE.notU rfl rfl rfl rfl rfl rfl (StabE.notU rfl rfl rfl rfl rfl rfl (StabE.notU rfl rfl rfl rfl rfl rfl (StabE.not rfl rfl rfl rfl rfl rfl (by rw [hk253]; rfl) (StabE.not rfl rfl rfl rfl rfl rfl (by rw [hk253]; rfl) (StabE.notU rfl rfl rfl rfl rfl rfl (StabE.notU rfl rfl rfl rfl rfl rfl (StabE.notU rfl rfl rfl rfl rfl rfl (StabE.notU rfl rfl rfl rfl rfl rfl (StabE.notU rfl rfl rfl rfl rfl rfl (StabE.notU rfl rfl rfl rfl rfl rfl (StabE.notU rfl rfl rfl rfl rfl rfl (StabE.notU rfl rfl rfl rfl rfl rfl (StabE.notU rfl rfl rfl rfl rfl rfl (StabE.notU rfl rfl rfl rfl rfl rfl (StabE.notU rfl rfl rfl rfl rfl rfl (StabE.notU rfl rfl rfl rfl rfl rfl (StabE.not rfl rfl rfl rfl rfl rfl (by rw [hk253]; rfl) (StabE.cons rfl rfl rfl rfl (EX.pickF rfl rfl hk253 rfl) StabE.nil)))))))))))))))))))))))))) ?_
                        refine TW.cond_f rfl (TW.skip (TW.seq (TW.seq (TW.region ?_))))
                        refine OW.move rfl rfl rfl rfl rfl ?_
                        refine OW.binI rfl rfl rfl rfl rfl rfl rfl ?_
                        refine OW.done ?_
                        refine TW.cond rfl (fun c1200 => ?_) (fun c1200 => ?_)
                        · have hm := ite_t c1200 hm
                          refine TW.seq (TW.region ?_)
                          refine OW.build rfl rfl rfl rfl rfl (cs := [Value.int .i64 0, Value.int .i64 0, Value.string ⟨List.toArray ([] : List UInt8)⟩, Value.slice none 0 0]) rfl ?_
                          refine OW.move rfl rfl rfl rfl rfl ?_
                          have hb1201 := ((hb239.keep x244 n235).keep x249 (fun h => h))
                          have hb1202 := ((hb238.keep x244 n234).keep x249 (fun h => h))
                          have hb1203 := ((hb240.keep x244 n236).keep x249 (fun h => h))
                          have hb1204 := (hb243.keep x249 (fun h => h))
                          have ho1205 := ((ho241.keep x244 (fun b h e => n237 (e ▸ h)) t245 (fun _ h => h)).keep x249 (fun _ _ h => h) t250 (fun _ h => h))
                          refine OW.store rfl rfl rfl shp_24 rfl rfl (vs := [Value.int .i64 0, Value.int .i64 0, Value.string ⟨List.toArray ([] : List UInt8)⟩, Value.slice none 0 0]) rfl rfl hb1201 rfl (one_cons rfl (one_cons rfl (one_cons rfl (one_cons rfl one_nil)))) (cs' := [Value.int .i64 0, Value.int .i64 0, Value.string ⟨List.toArray ([] : List UInt8)⟩, Value.slice none 0 0]) rfl ?_
                          intro w1206 hb1207 x1208
                          have t1209 := Tr.of_ext (O := (Ins O172 b222)) x1208 (fun _ _ h => by cases h; exact (Or.inr m178))
                          have B1211 := B252.ext x1208
                          have X1210 := X251.step x1208 (fun y hy h => absurd hy (by cases h; have := g9; omega))
                          refine OW.assign rfl rfl rfl rfl rfl ?_
                          refine OW.done ?_
                          have hb1212 := (hb1202.keep x1208 n10)
                          cases hm
                          exact TW.ret (Out.many rfl ⟨_, _, rfl, ⟨_, _, _, _, _, rfl, shp_24, hb1207, rfl, rfl⟩, ⟨_, _, rfl, rfl, rfl⟩⟩ rfl) ⟨_, _, rfl, (T_api_Cbor.shut (x := (T_api_Cbor.mk 0 0 ([] : List UInt8) [])) RD.nil), hb1212, (T_seneschalref03_reader.shut (x := y208.2.2)), X1210⟩
                        · have hm := ite_f c1200 hm
                          refine TW.skip (TW.seq ?_)
                          refine TW.drawP [0, 1, 3, 7, 0, 0, 32, 96, 224, 511, 1023] [0, 1, 2, 3, 4, 5, 6, 7, 8, 9, 10] [] mix (by kernel_rfl) ?_
                          intro w1213 x1214
                          have t1215 := Tr.of_ext (O := (Ins O172 b222)) x1214 (fun _ _ h => h.elim)
                          have B1217 := B252.ext x1214
                          have X1216 := X251.step x1214 (fun _ _ h => h.elim)
                          have hb1218 := (((hb238.keep x244 n234).keep x249 (fun h => h)).keep x1214 (fun h => h))
                          obtain ⟨s1219, h1220, hm⟩ := bnd hm
                          obtain ⟨p1221, q1222, h1223, h1224, h1225, h1226, h1227⟩ := sub_some h1220
                          refine DP.put [(142, Value.pointer (some ⟨b0, 0, none⟩)), (143, Value.pointer (some ⟨b0, 0, none⟩)), (144, Value.pointer (some ⟨b0, 0 + 0, none⟩)), (145, Value.string ⟨List.toArray y208.2.2.gs⟩), (146, Value.int .i64 x181), (147, Value.pointer (some ⟨b0, 0, none⟩)), (148, Value.pointer (some ⟨b0, 0, none⟩)), (149, Value.pointer (some ⟨b0, 0 + 1, none⟩)), (150, Value.int .i64 y208.2.2.gi), (151, Value.string ⟨List.toArray s1219⟩), (11, Value.string ⟨List.toArray s1219⟩)] rfl ?_
                          refine DW.end' (StabE.cons rfl rfl rfl rfl (EX.move rfl rfl) (StabE.cons rfl rfl rfl rfl (EX.nilCheck rfl rfl) (StabE.cons rfl rfl rfl rfl (EX.fieldAddr rfl fld_48_0 rfl) (StabE.cons rfl rfl rfl rfl (EX.load1 rfl shp_9 rfl hb1218 rfl) (StabE.cons rfl rfl rfl rfl (EX.move rfl rfl) (StabE.cons rfl rfl rfl rfl (EX.move rfl rfl) (StabE.cons rfl rfl rfl rfl (EX.nilCheck rfl rfl) (StabE.cons rfl rfl rfl rfl (EX.fieldAddr rfl fld_48_1 rfl) (StabE.cons rfl rfl rfl rfl (EX.load1 rfl shp_3 rfl hb1218 rfl) (StabE.cons rfl rfl rfl rfl (by rw [h1227]; exact (EX.sliceS rfl Tryd.underlying9 rfl (a := p1221) (b := q1222) ⟨_, _, rfl, h1223⟩ ⟨_, _, rfl, h1224⟩ h1225 h1226)) (StabE.cons rfl rfl rfl rfl (EX.assign rfl rfl) StabE.nil))))))))))) ?_
                          refine TW.region ?_
                          refine OW.fieldAddr rfl rfl rfl rfl fld_24_3 rfl ?_
                          have hb1228 := (((hb240.keep x244 n236).keep x249 (fun h => h)).keep x1214 (fun h => h))
                          refine OW.load1 rfl rfl rfl rfl shp_22 rfl hb1228 rfl ?_
                          have hb1229 := ((hb243.keep x249 (fun h => h)).keep x1214 (fun h => h))
                          refine OW.loadN rfl rfl rfl rfl shp_24 rfl hb1229 (vs := [Value.int .i64 y208.1.gKind, Value.int .i64 y208.1.gNum, Value.string ⟨List.toArray y208.1.gText⟩, v217]) rfl rfl ?_
                          have h1230 := h218.tr (t230.trans (t245.trans (t250.trans t1215)))
                          have hb1231 := (((hb239.keep x244 n235).keep x249 (fun h => h)).keep x1214 (fun h => h))
                          have ho1232 := (((ho241.keep x244 (fun b h e => n237 (e ▸ h)) t245 (fun _ h => h)).keep x249 (fun _ _ h => h) t250 (fun _ h => h)).keep x1214 (fun _ _ h => h) t1215 (fun _ h => h))
                          refine OW.buildSlice rfl rfl rfl rfl Tryd.underlying22 shp_24 zer_24 rfl rfl (cs := [Value.int .i64 y208.1.gKind, Value.int .i64 y208.1.gNum, Value.string ⟨List.toArray y208.1.gText⟩, v217]) rfl rfl rfl ?_
                          intro b1233 w1234 hb1235 x1236 l1237
                          have t1239 := Tr.of_ext (O := (Ins O172 b222)) x1236 (fun _ _ h => h.elim)
                          have B1241 := B1217.ext x1236
                          have X1240 := X1216.step x1236 (fun _ _ h => h.elim)
                          have h1242 := h1230.tr t1239
                          have h1238 : RD w1234 (Ins O172 b222) (D.sl 24 4 ([y208.1].map T_api_Cbor.enc)) (Value.slice (some ⟨b1233, 0, none⟩) 1 1) := RD.of_new hb1235 B1217 l1237 rfl (Nat.le_of_ble_eq_true rfl) rfl ⟨(T_api_Cbor.shut (x := y208.1) h1242), trivial⟩
                          have hb1243 := (hb1218.keep x1236 (fun h => h))
                          have hb1244 := (hb1231.keep x1236 (fun h => h))
                          have hb1245 := (hb1228.keep x1236 (fun h => h))
                          have hb1246 := (hb1229.keep x1236 (fun h => h))
                          have ho1247 := (ho1232.keep x1236 (fun _ _ h => h) t1239 (fun _ h => h))
                          obtain ⟨l1248, h1249, hm⟩ := bnd hm
                          obtain ⟨hx1250, hl1251⟩ := app_some h1249
                          refine OW.appendL' rfl rfl rfl rfl Tryd.underlying22 inf_24 rfl rfl rfl rfl rfl ho1247 B1241 h1238 hl1251 ?_
                          intro v1252 w1253 O1254 G1255
                          rw [← hx1250] at G1255
                          have X1256 := X1240.step G1255.ext (fun y hy h => gv196 y h hy)
                          have gv1257 : ∀ b, v1252.ownBlock = some b → b < w0.heap.size → (At b0) b := fun b h hl => (G1255.at_ b h).elim (fun h => gv196 b h hl) (fun h => absurd hl (by have := X1240.size; omega))
                          have n1258 : v1252.ownBlock ≠ some b0 := fun h => (G1255.at_ _ h).elim n200 (fun h => by have := hb1243.lt; omega)
                          have n1259 : v1252.ownBlock ≠ some b1 := fun h => (G1255.at_ _ h).elim n201 (fun h => by have := hb1244.lt; omega)
                          have n1260 : v1252.ownBlock ≠ some b152 := fun h => (G1255.at_ _ h).elim n202 (fun h => by have := hb1245.lt; omega)
                          have n1261 : v1252.ownBlock ≠ some b222 := fun h => (G1255.at_ _ h).elim n237 (fun h => by have := hb1246.lt; omega)
                          refine OW.fieldAddr rfl rfl rfl rfl fld_24_3 rfl ?_
                          have hb1262 := (hb1245.keep G1255.ext (n202))
                          have hb1263 := (hb1243.keep G1255.ext (n200))
                          have hb1264 := (hb1244.keep G1255.ext (n201))
                          have hb1265 := (hb1246.keep G1255.ext (n237))
                          refine OW.store rfl rfl rfl shp_22 rfl rfl (vs := [v1252]) (cells_one G1255.own.one) rfl hb1262 rfl (one_cons G1255.own.one one_nil) (cs' := [Value.int .i64 x190, Value.int .i64 x191, Value.string ⟨List.toArray x192⟩, v1252]) rfl ?_
                          intro w1266 hb1267 x1268
                          have t1269 := Tr.of_ext (O := O1254) x1268 (fun _ _ h => by cases h; exact (G1255.more _ (Or.inr m179)))
                          have B1271 := G1255.bd.ext x1268
                          have X1270 := X1256.step x1268 (fun y hy h => absurd hy (by cases h; have := g160; omega))
                          refine OW.done (TW.seq (TW.region ?_))
                          refine OW.move rfl rfl rfl rfl rfl ?_
                          refine OW.move rfl rfl rfl rfl rfl ?_
                          refine OW.binI rfl rfl rfl rfl rfl rfl rfl ?_
                          have hb1272 := (hb1263.keep x1268 n161)
                          have hb1273 := (hb1264.keep x1268 n162)
                          have hb1274 := (hb1265.keep x1268 (Ne.symm n236))
                          have ho1275 := (G1255.own.keep x1268 (fun b h e => n1260 (e ▸ h)) t1269 (fun _ h => h))
                          have h1276 := G176.tr (t219.trans (t230.trans (t245.trans (t250.trans (t1215.trans (t1239.trans (G1255.tr.trans t1269)))))))
                          obtain ⟨y1277, hy1278, hm⟩ := bnd hm
                          refine OW.call rfl rfl rfl rfl rfl rfl Tryd.call19 ((ih _ _ _ hy1278 _ O1254 _ _ B1271 h1276 hb1272 (T_seneschalref03_reader.shut (x := y208.2.2)) (G1255.more _ (Or.inr m177))).mono ?_)
                          rintro e w1284 ⟨cs1279, cs1281, rfl, h1280, hb1282, h1283, x1285⟩
                          obtain ⟨v1286, rfl, h1287⟩ := T_api_Cbor.opn h1280
                          obtain rfl := T_seneschalref03_reader.opn h1283
                          refine CallK.ret ?_
                          have t1288 := Tr.of_ext (O := O1254) x1285 (fun _ _ h => by cases h; exact (G1255.more _ (Or.inr m177)))
                          have B1290 := B1271.ext x1285
                          have X1289 := X1270.step x1285 (fun y hy h => h)
                          refine OW.move rfl rfl rfl rfl rfl ?_
                          refine OW.extract rfl rfl rfl rfl rfl rfl ?_
                          refine OW.extract rfl rfl rfl rfl rfl rfl ?_
                          have hb1296 := (hb1273.keep x1285 (Ne.symm n10))
                          have hb1297 := (hb1267.keep x1285 (Ne.symm n161))
                          have hb1298 := (hb1274.keep x1285 (Ne.symm n234))
                          have ho1299 := (ho1275.keep x1285 (fun b h e => n1258 (e ▸ h)) t1288 (fun _ h => h))
                          refine OW.alloc rfl rfl rfl rfl zer_24 (cs := [Value.int .i64 0, Value.int .i64 0, Value.string ⟨List.toArray ([] : List UInt8)⟩, Value.slice none 0 0]) rfl ?_
                          intro b1291 w1292 hb1293 x1294 l1295
                          have t1300 := Tr.of_new (O := O1254) x1294 (fun _ _ h => h.elim) l1295
                          have B1302 := (B1290.ext x1294).ins hb1293.lt
                          have X1301 := X1289.step x1294 (fun _ _ h => h.elim)
                          have g1303 : w0.heap.size ≤ b1291 := Nat.le_trans X1289.size l1295
                          have n1304 : b0 ≠ b1291 := by have := hb1282.lt; omega
                          have n1305 : b1 ≠ b1291 := by have := hb1296.lt; omega
                          have n1306 : b152 ≠ b1291 := by have := hb1297.lt; omega
                          have n1307 : b222 ≠ b1291 := by have := hb1298.lt; omega
                          have n1308 : v1252.ownBlock ≠ some b1291 := fun h => by have := ho1299.lt _ h; omega
                          have hb1309 := (hb1282.keep x1294 (fun h => h))
                          have hb1310 := (hb1296.keep x1294 (fun h => h))
                          have hb1311 := (hb1297.keep x1294 (fun h => h))
                          have hb1312 := (hb1298.keep x1294 (fun h => h))
                          have ho1313 := (ho1299.keep x1294 (fun _ _ h => h) t1300 (fun _ h => Or.inr h))
                          refine OW.store rfl rfl rfl shp_24 rfl rfl (vs := [Value.int .i64 y1277.1.gKind, Value.int .i64 y1277.1.gNum, Value.string ⟨List.toArray y1277.1.gText⟩, v1286]) rfl rfl hb1293 rfl (one_cons rfl (one_cons rfl (one_cons rfl (one_cons (RD.one _ _ h1287) one_nil)))) (cs' := [Value.int .i64 y1277.1.gKind, Value.int .i64 y1277.1.gNum, Value.string ⟨List.toArray y1277.1.gText⟩, v1286]) rfl ?_
                          intro w1314 hb1315 x1316
                          have t1317 := Tr.of_ext (O := (Ins O1254 b1291)) x1316 (fun _ _ h => by cases h; exact (Or.inl rfl))
                          have B1319 := B1302.ext x1316
                          have X1318 := X1301.step x1316 (fun y hy h => absurd hy (by cases h; have := g1303; omega))
                          refine OW.assign rfl rfl rfl rfl rfl ?_
                          refine OW.done (TW.seq (TW.seq (TW.region ?_)))
                          refine OW.move rfl rfl rfl rfl rfl ?_
                          refine OW.binI rfl rfl rfl rfl rfl rfl rfl ?_
                          refine OW.done ?_
                          refine TW.cond rfl (fun c1320 => ?_) (fun c1320 => ?_)
                          · have hm := ite_t c1320 hm
                            refine TW.seq (TW.region ?_)
                            refine OW.build rfl rfl rfl rfl rfl (cs := [Value.int .i64 0, Value.int .i64 0, Value.string ⟨List.toArray ([] : List UInt8)⟩, Value.slice none 0 0]) rfl ?_
                            refine OW.move rfl rfl rfl rfl rfl ?_
                            have hb1321 := (hb1310.keep x1316 n1305)
                            have hb1322 := (hb1309.keep x1316 n1304)
                            have hb1323 := (hb1311.keep x1316 n1306)
                            have hb1324 := (hb1312.keep x1316 n1307)
                            have ho1325 := (ho1313.keep x1316 (fun b h e => n1308 (e ▸ h)) t1317 (fun _ h => h))
                            refine OW.store rfl rfl rfl shp_24 rfl rfl (vs := [Value.int .i64 0, Value.int .i64 0, Value.string ⟨List.toArray ([] : List UInt8)⟩, Value.slice none 0 0]) rfl rfl hb1321 rfl (one_cons rfl (one_cons rfl (one_cons rfl (one_cons rfl one_nil)))) (cs' := [Value.int .i64 0, Value.int .i64 0, Value.string ⟨List.toArray ([] : List UInt8)⟩, Value.slice none 0 0]) rfl ?_
                            intro w1326 hb1327 x1328
                            have t1329 := Tr.of_ext (O := (Ins O1254 b1291)) x1328 (fun _ _ h => by cases h; exact (Or.inr (G1255.more _ (Or.inr m178))))
                            have B1331 := B1319.ext x1328
                            have X1330 := X1318.step x1328 (fun y hy h => absurd hy (by cases h; have := g9; omega))
                            refine OW.assign rfl rfl rfl rfl rfl ?_
                            refine OW.done ?_
                            have hb1332 := (hb1322.keep x1328 n10)
                            cases hm
                            exact TW.ret (Out.many rfl ⟨_, _, rfl, ⟨_, _, _, _, _, rfl, shp_24, hb1327, rfl, rfl⟩, ⟨_, _, rfl, rfl, rfl⟩⟩ rfl) ⟨_, _, rfl, (T_api_Cbor.shut (x := (T_api_Cbor.mk 0 0 ([] : List UInt8) [])) RD.nil), hb1332, (T_seneschalref03_reader.shut (x := y1277.2.2)), X1330⟩
                          · have hm := ite_f c1320 hm
                            refine TW.skip (TW.region ?_)
                            refine OW.fieldAddr rfl rfl rfl rfl fld_24_3 rfl ?_
                            have hb1333 := (hb1311.keep x1316 n1306)
                            refine OW.load1 rfl rfl rfl rfl shp_22 rfl hb1333 rfl ?_
                            refine OW.loadN rfl rfl rfl rfl shp_24 rfl hb1315 (vs := [Value.int .i64 y1277.1.gKind, Value.int .i64 y1277.1.gNum, Value.string ⟨List.toArray y1277.1.gText⟩, v1286]) rfl rfl ?_
                            have h1334 := h1287.tr (t1300.trans t1317)
                            have hb1335 := (hb1309.keep x1316 n1304)
                            have hb1336 := (hb1310.keep x1316 n1305)
                            have hb1337 := (hb1312.keep x1316 n1307)
                            have ho1338 := (ho1313.keep x1316 (fun b h e => n1308 (e ▸ h)) t1317 (fun _ h => h))
                            refine OW.buildSlice rfl rfl rfl rfl Tryd.underlying22 shp_24 zer_24 rfl rfl (cs := [Value.int .i64 y1277.1.gKind, Value.int .i64 y1277.1.gNum, Value.string ⟨List.toArray y1277.1.gText⟩, v1286]) rfl rfl rfl ?_
                            intro b1339 w1340 hb1341 x1342 l1343
                            have t1345 := Tr.of_ext (O := (Ins O1254 b1291)) x1342 (fun _ _ h => h.elim)
                            have B1347 := B1319.ext x1342
                            have X1346 := X1318.step x1342 (fun _ _ h => h.elim)
                            have h1348 := h1334.tr t1345
                            have h1344 : RD w1340 (Ins O1254 b1291) (D.sl 24 4 ([y1277.1].map T_api_Cbor.enc)) (Value.slice (some ⟨b1339, 0, none⟩) 1 1) := RD.of_new hb1341 B1319 l1343 rfl (Nat.le_of_ble_eq_true rfl) rfl ⟨(T_api_Cbor.shut (x := y1277.1) h1348), trivial⟩
                            have hb1349 := (hb1335.keep x1342 (fun h => h))
                            have hb1350 := (hb1336.keep x1342 (fun h => h))
                            have hb1351 := (hb1333.keep x1342 (fun h => h))
                            have hb1352 := (hb1337.keep x1342 (fun h => h))
                            have hb1353 := (hb1315.keep x1342 (fun h => h))
                            have ho1354 := (ho1338.keep x1342 (fun _ _ h => h) t1345 (fun _ h => h))
                            obtain ⟨l1355, h1356, hm⟩ := bnd hm
                            obtain ⟨hx1357, hl1358⟩ := app_some h1356
                            refine OW.appendL' rfl rfl rfl rfl Tryd.underlying22 inf_24 rfl rfl rfl rfl rfl ho1354 B1347 h1344 hl1358 ?_
                            intro v1359 w1360 O1361 G1362
                            rw [← hx1357] at G1362
                            have X1363 := X1346.step G1362.ext (fun y hy h => gv1257 y h hy)
                            have gv1364 : ∀ b, v1359.ownBlock = some b → b < w0.heap.size → (At b0) b := fun b h hl => (G1362.at_ b h).elim (fun h => gv1257 b h hl) (fun h => absurd hl (by have := X1346.size; omega))
                            have n1365 : v1359.ownBlock ≠ some b0 := fun h => (G1362.at_ _ h).elim n1258 (fun h => by have := hb1349.lt; omega)
                            have n1366 : v1359.ownBlock ≠ some b1 := fun h => (G1362.at_ _ h).elim n1259 (fun h => by have := hb1350.lt; omega)
                            have n1367 : v1359.ownBlock ≠ some b152 := fun h => (G1362.at_ _ h).elim n1260 (fun h => by have := hb1351.lt; omega)
                            have n1368 : v1359.ownBlock ≠ some b222 := fun h => (G1362.at_ _ h).elim n1261 (fun h => by have := hb1352.lt; omega)
                            have n1369 : v1359.ownBlock ≠ some b1291 := fun h => (G1362.at_ _ h).elim n1308 (fun h => by have := hb1353.lt; omega)
                            refine OW.fieldAddr rfl rfl rfl rfl fld_24_3 rfl ?_
                            have hb1370 := (hb1351.keep G1362.ext (n1260))
                            have hb1371 := (hb1349.keep G1362.ext (n1258))
                            have hb1372 := (hb1350.keep G1362.ext (n1259))
                            have hb1373 := (hb1352.keep G1362.ext (n1261))
                            have hb1374 := (hb1353.keep G1362.ext (n1308))
                            refine OW.store rfl rfl rfl shp_22 rfl rfl (vs := [v1359]) (cells_one G1362.own.one) rfl hb1370 rfl (one_cons G1362.own.one one_nil) (cs' := [Value.int .i64 x190, Value.int .i64 x191, Value.string ⟨List.toArray x192⟩, v1359]) rfl ?_
                            intro w1375 hb1376 x1377
                            have t1378 := Tr.of_ext (O := O1361) x1377 (fun _ _ h => by cases h; exact (G1362.more _ (Or.inr (G1255.more _ (Or.inr m179)))))
                            have B1380 := G1362.bd.ext x1377
                            have X1379 := X1363.step x1377 (fun y hy h => absurd hy (by cases h; have := g160; omega))
                            refine OW.done (TW.inBlock (TW.region ?_))
                            refine OW.move rfl rfl rfl rfl rfl ?_
                            refine OW.binI rfl rfl rfl rfl rfl rfl rfl ?_
                            refine OW.assign rfl rfl rfl rfl rfl ?_
                            refine OW.done ?_
                            have hb1381 := (hb1371.keep x1377 n161)
                            have h1382 := h188.tr (t219.trans (t230.trans (t245.trans (t250.trans (t1215.trans (t1239.trans (G1255.tr.trans (t1269.trans (t1288.trans (t1300.trans (t1317.trans (t1345.trans (G1362.tr.trans t1378)))))))))))))
                            have hb1383 := (hb1372.keep x1377 n162)
                            have ho1384 := (G1362.own.keep x1377 (fun b h e => n1367 (e ▸ h)) t1378 (fun _ h => h))
                            have h1385 := h1276.tr (t1288.trans (t1300.trans (t1317.trans (t1345.trans (G1362.tr.trans t1378)))))
                            exact TW.sub (Sub.cons rfl (Sub.cons rfl (Sub.cons rfl (Sub.cons rfl (Sub.cons rfl (Sub.cons rfl (Sub.cons rfl (Sub.cons rfl Sub.nil)))))))) (hout204 _ _ (ih205 y1277.2.2.gs y1277.2.2.gi l1355 s1219 (IntKind.wrap .i64 (x199 + 1)) _ hm rfl w1375 O1361 v187 v1359 B1380 h1385 X1379 (fun x h => (G1362.more _ (Or.inr (G1255.more _ (Or.inr (lf175 _ h)))))) (G1362.more _ (Or.inr (G1255.more _ (Or.inr m177)))) (G1362.more _ (Or.inr (G1255.more _ (Or.inr m178)))) (G1362.more _ (Or.inr (G1255.more _ (Or.inr m179)))) hb1381 h1382 hb1383 ho1384 gv1364 hb1376 n1365 n1366 n1367))
                    · have hm := ite_f c207 hm
                      refine TW.skip (TW.seq (TW.region ?_))
                      refine OW.move rfl rfl rfl rfl rfl ?_
                      refine OW.move rfl rfl rfl rfl rfl ?_
                      refine OW.binI rfl rfl rfl rfl rfl rfl rfl ?_
                      obtain ⟨y1386, hy1387, hm⟩ := bnd hm
                      refine OW.call rfl rfl rfl rfl rfl rfl Tryd.call19 ((ih _ _ _ hy1387 _ O172 _ _ B173 G176 hb182 (T_seneschalref03_reader.shut (x := (T_seneschalref03_reader.mk x180 x181))) m177).mono ?_)
                      rintro e w1393 ⟨cs1388, cs1390, rfl, h1389, hb1391, h1392, x1394⟩
                      obtain ⟨v1395, rfl, h1396⟩ := T_api_Cbor.opn h1389
                      obtain rfl := T_seneschalref03_reader.opn h1392
                      refine CallK.ret ?_
                      have t1397 := Tr.of_ext (O := O172) x1394 (fun _ _ h => by cases h; exact m177)
                      have B1399 := B173.ext x1394
                      have X1398 := X174.step x1394 (fun y hy h => h)
                      refine OW.move rfl rfl rfl rfl rfl ?_
                      refine OW.extract rfl rfl rfl rfl rfl rfl ?_
                      refine OW.extract rfl rfl rfl rfl rfl rfl ?_
                      have hb1405 := (hb189.keep x1394 (Ne.symm n10))
                      have hb1406 := (hb197.keep x1394 (Ne.symm n161))
                      have ho1407 := (h195.keep x1394 (fun b h e => n200 (e ▸ h)) t1397 (fun _ h => h))
                      refine OW.alloc rfl rfl rfl rfl zer_24 (cs := [Value.int .i64 0, Value.int .i64 0, Value.string ⟨List.toArray ([] : List UInt8)⟩, Value.slice none 0 0]) rfl ?_
                      intro b1400 w1401 hb1402 x1403 l1404
                      have t1408 := Tr.of_new (O := O172) x1403 (fun _ _ h => h.elim) l1404
                      have B1410 := (B1399.ext x1403).ins hb1402.lt
                      have X1409 := X1398.step x1403 (fun _ _ h => h.elim)
                      have g1411 : w0.heap.size ≤ b1400 := Nat.le_trans X1398.size l1404
                      have n1412 : b0 ≠ b1400 := by have := hb1391.lt; omega
                      have n1413 : b1 ≠ b1400 := by have := hb1405.lt; omega
                      have n1414 : b152 ≠ b1400 := by have := hb1406.lt; omega
                      have n1415 : v194.ownBlock ≠ some b1400 := fun h => by have := ho1407.lt _ h; omega
                      have hb1416 := (hb1391.keep x1403 (fun h => h))
                      have hb1417 := (hb1405.keep x1403 (fun h => h))
                      have hb1418 := (hb1406.keep x1403 (fun h => h))
                      have ho1419 := (ho1407.keep x1403 (fun _ _ h => h) t1408 (fun _ h => Or.inr h))
                      refine OW.store rfl rfl rfl shp_24 rfl rfl (vs := [Value.int .i64 y1386.1.gKind, Value.int .i64 y1386.1.gNum, Value.string ⟨List.toArray y1386.1.gText⟩, v1395]) rfl rfl hb1402 rfl (one_cons rfl (one_cons rfl (one_cons rfl (one_cons (RD.one _ _ h1396) one_nil)))) (cs' := [Value.int .i64 y1386.1.gKind, Value.int .i64 y1386.1.gNum, Value.string ⟨List.toArray y1386.1.gText⟩, v1395]) rfl ?_
                      intro w1420 hb1421 x1422
                      have t1423 := Tr.of_ext (O := (Ins O172 b1400)) x1422 (fun _ _ h => by cases h; exact (Or.inl rfl))
                      have B1425 := B1410.ext x1422
                      have X1424 := X1409.step x1422 (fun y hy h => absurd hy (by cases h; have := g1411; omega))
                      refine OW.assign rfl rfl rfl rfl rfl ?_
                      refine OW.done (TW.seq (TW.seq (TW.region ?_)))
                      refine OW.move rfl rfl rfl rfl rfl ?_
                      refine OW.binI rfl rfl rfl rfl rfl rfl rfl ?_
                      refine OW.done ?_
                      refine TW.cond rfl (fun c1426 => ?_) (fun c1426 => ?_)
                      · have hm := ite_t c1426 hm
                        refine TW.seq (TW.region ?_)
                        refine OW.build rfl rfl rfl rfl rfl (cs := [Value.int .i64 0, Value.int .i64 0, Value.string ⟨List.toArray ([] : List UInt8)⟩, Value.slice none 0 0]) rfl ?_
                        refine OW.move rfl rfl rfl rfl rfl ?_
                        have hb1427 := (hb1417.keep x1422 n1413)
                        have hb1428 := (hb1416.keep x1422 n1412)
                        have hb1429 := (hb1418.keep x1422 n1414)
                        have ho1430 := (ho1419.keep x1422 (fun b h e => n1415 (e ▸ h)) t1423 (fun _ h => h))
                        refine OW.store rfl rfl rfl shp_24 rfl rfl (vs := [Value.int .i64 0, Value.int .i64 0, Value.string ⟨List.toArray ([] : List UInt8)⟩, Value.slice none 0 0]) rfl rfl hb1427 rfl (one_cons rfl (one_cons rfl (one_cons rfl (one_cons rfl one_nil)))) (cs' := [Value.int .i64 0, Value.int .i64 0, Value.string ⟨List.toArray ([] : List UInt8)⟩, Value.slice none 0 0]) rfl ?_
                        intro w1431 hb1432 x1433
                        have t1434 := Tr.of_ext (O := (Ins O172 b1400)) x1433 (fun _ _ h => by cases h; exact (Or.inr m178))
                        have B1436 := B1425.ext x1433
                        have X1435 := X1424.step x1433 (fun y hy h => absurd hy (by cases h; have := g9; omega))
                        refine OW.assign rfl rfl rfl rfl rfl ?_
                        refine OW.done ?_
                        have hb1437 := (hb1428.keep x1433 n10)
                        cases hm
                        exact TW.ret (Out.many rfl ⟨_, _, rfl, ⟨_, _, _, _, _, rfl, shp_24, hb1432, rfl, rfl⟩, ⟨_, _, rfl, rfl, rfl⟩⟩ rfl) ⟨_, _, rfl, (T_api_Cbor.shut (x := (T_api_Cbor.mk 0 0 ([] : List UInt8) [])) RD.nil), hb1437, (T_seneschalref03_reader.shut (x := y1386.2.2)), X1435⟩
                      · have hm := ite_f c1426 hm
                        refine TW.skip (TW.region ?_)
                        refine OW.fieldAddr rfl rfl rfl rfl fld_24_3 rfl ?_
                        have hb1438 := (hb1418.keep x1422 n1414)
                        refine OW.load1 rfl rfl rfl rfl shp_22 rfl hb1438 rfl ?_
                        refine OW.loadN rfl rfl rfl rfl shp_24 rfl hb1421 (vs := [Value.int .i64 y1386.1.gKind, Value.int .i64 y1386.1.gNum, Value.string ⟨List.toArray y1386.1.gText⟩, v1395]) rfl rfl ?_
                        have h1439 := h1396.tr (t1408.trans t1423)
                        have hb1440 := (hb1416.keep x1422 n1412)
                        have hb1441 := (hb1417.keep x1422 n1413)
                        have ho1442 := (ho1419.keep x1422 (fun b h e => n1415 (e ▸ h)) t1423 (fun _ h => h))
                        refine OW.buildSlice rfl rfl rfl rfl Tryd.underlying22 shp_24 zer_24 rfl rfl (cs := [Value.int .i64 y1386.1.gKind, Value.int .i64 y1386.1.gNum, Value.string ⟨List.toArray y1386.1.gText⟩, v1395]) rfl rfl rfl ?_
                        intro b1443 w1444 hb1445 x1446 l1447
                        have t1449 := Tr.of_ext (O := (Ins O172 b1400)) x1446 (fun _ _ h => h.elim)
                        have B1451 := B1425.ext x1446
                        have X1450 := X1424.step x1446 (fun _ _ h => h.elim)
                        have h1452 := h1439.tr t1449
                        have h1448 : RD w1444 (Ins O172 b1400) (D.sl 24 4 ([y1386.1].map T_api_Cbor.enc)) (Value.slice (some ⟨b1443, 0, none⟩) 1 1) := RD.of_new hb1445 B1425 l1447 rfl (Nat.le_of_ble_eq_true rfl) rfl ⟨(T_api_Cbor.shut (x := y1386.1) h1452), trivial⟩
                        have hb1453 := (hb1440.keep x1446 (fun h => h))
                        have hb1454 := (hb1441.keep x1446 (fun h => h))
                        have hb1455 := (hb1438.keep x1446 (fun h => h))
                        have hb1456 := (hb1421.keep x1446 (fun h => h))
                        have ho1457 := (ho1442.keep x1446 (fun _ _ h => h) t1449 (fun _ h => h))
                        obtain ⟨l1458, h1459, hm⟩ := bnd hm
                        obtain ⟨hx1460, hl1461⟩ := app_some h1459
                        refine OW.appendL' rfl rfl rfl rfl Tryd.underlying22 inf_24 rfl rfl rfl rfl rfl ho1457 B1451 h1448 hl1461 ?_
                        intro v1462 w1463 O1464 G1465
                        rw [← hx1460] at G1465
                        have X1466 := X1450.step G1465.ext (fun y hy h => gv196 y h hy)
                        have gv1467 : ∀ b, v1462.ownBlock = some b → b < w0.heap.size → (At b0) b := fun b h hl => (G1465.at_ b h).elim (fun h => gv196 b h hl) (fun h => absurd hl (by have := X1450.size; omega))
                        have n1468 : v1462.ownBlock ≠ some b0 := fun h => (G1465.at_ _ h).elim n200 (fun h => by have := hb1453.lt; omega)
                        have n1469 : v1462.ownBlock ≠ some b1 := fun h => (G1465.at_ _ h).elim n201 (fun h => by have := hb1454.lt; omega)
                        have n1470 : v1462.ownBlock ≠ some b152 := fun h => (G1465.at_ _ h).elim n202 (fun h => by have := hb1455.lt; omega)
                        have n1471 : v1462.ownBlock ≠ some b1400 := fun h => (G1465.at_ _ h).elim n1415 (fun h => by have := hb1456.lt; omega)
                        refine OW.fieldAddr rfl rfl rfl rfl fld_24_3 rfl ?_
                        have hb1472 := (hb1455.keep G1465.ext (n202))
                        have hb1473 := (hb1453.keep G1465.ext (n200))
                        have hb1474 := (hb1454.keep G1465.ext (n201))
                        have hb1475 := (hb1456.keep G1465.ext (n1415))
                        refine OW.store rfl rfl rfl shp_22 rfl rfl (vs := [v1462]) (cells_one G1465.own.one) rfl hb1472 rfl (one_cons G1465.own.one one_nil) (cs' := [Value.int .i64 x190, Value.int .i64 x191, Value.string ⟨List.toArray x192⟩, v1462]) rfl ?_
                        intro w1476 hb1477 x1478
                        have t1479 := Tr.of_ext (O := O1464) x1478 (fun _ _ h => by cases h; exact (G1465.more _ (Or.inr m179)))
                        have B1481 := G1465.bd.ext x1478
                        have X1480 := X1466.step x1478 (fun y hy h => absurd hy (by cases h; have := g160; omega))
                        refine OW.done (TW.inBlock (TW.region ?_))
                        refine OW.move rfl rfl rfl rfl rfl ?_
                        refine OW.binI rfl rfl rfl rfl rfl rfl rfl ?_
                        refine OW.assign rfl rfl rfl rfl rfl ?_
                        refine OW.done ?_
                        have hb1482 := (hb1473.keep x1478 n161)
                        have h1483 := h188.tr (t1397.trans (t1408.trans (t1423.trans (t1449.trans (G1465.tr.trans t1479)))))
                        have hb1484 := (hb1474.keep x1478 n162)
                        have ho1485 := (G1465.own.keep x1478 (fun b h e => n1470 (e ▸ h)) t1479 (fun _ h => h))
                        have h1486 := G176.tr (t1397.trans (t1408.trans (t1423.trans (t1449.trans (G1465.tr.trans t1479)))))
                        exact TW.sub (Sub.cons rfl (Sub.cons rfl (Sub.cons rfl (Sub.cons rfl (Sub.cons rfl (Sub.cons rfl (Sub.cons rfl (Sub.cons rfl Sub.nil)))))))) (hout204 _ _ (ih205 y1386.2.2.gs y1386.2.2.gi l1458 x198 (IntKind.wrap .i64 (x199 + 1)) _ hm rfl w1476 O1464 v187 v1462 B1481 h1486 X1480 (fun x h => (G1465.more _ (Or.inr (lf175 _ h)))) (G1465.more _ (Or.inr m177)) (G1465.more _ (Or.inr m178)) (G1465.more _ (Or.inr m179)) hb1482 h1483 hb1484 ho1485 gv1467 hb1477 n1468 n1469 n1470))
                  · have hm := ite_f c206 hm
                    refine TW.exit rfl (TW.seq (TW.region ?_))
                    refine OW.loadN rfl rfl rfl rfl shp_24 rfl hb197 (vs := [Value.int .i64 x190, Value.int .i64 x191, Value.string ⟨List.toArray x192⟩, v194]) rfl rfl ?_
                    refine OW.store rfl rfl rfl shp_24 rfl rfl (vs := [Value.int .i64 x190, Value.int .i64 x191, Value.string ⟨List.toArray x192⟩, v194]) rfl rfl hb189 rfl (one_cons rfl (one_cons rfl (one_cons rfl (one_cons h195.one one_nil)))) (cs' := [Value.int .i64 x190, Value.int .i64 x191, Value.string ⟨List.toArray x192⟩, v194]) rfl ?_
                    intro w1487 hb1488 x1489
                    have t1490 := Tr.of_ext (O := O172) x1489 (fun _ _ h => by cases h; exact m178)
                    have B1492 := B173.ext x1489
                    have X1491 := X174.step x1489 (fun y hy h => absurd hy (by cases h; have := g9; omega))
                    refine OW.assign rfl rfl rfl rfl rfl ?_
                    refine OW.done ?_
                    have hb1493 := (hb182.keep x1489 n10)
                    have ho1494 := (h195.keep x1489 (fun b h e => n201 (e ▸ h)) t1490 (fun _ h => h))
                    cases hm
                    exact TW.ret (Out.many rfl ⟨_, _, rfl, ⟨_, _, _, _, _, rfl, shp_24, hb1488, rfl, rfl⟩, ⟨_, _, rfl, rfl, rfl⟩⟩ rfl) ⟨_, _, rfl, (T_api_Cbor.shut (x := (T_api_Cbor.mk x190 x191 x192 x193)) (ho1494.data.tr (Tr.drop _ fun x h => ⟨(lf175 _ h), fun e => (Nat.lt_or_ge x w0.heap.size).elim (fun hl => (by rcases gv196 x e hl with rfl <;> first | exact n200 e)) (fun hg => by have := B0 x h; omega)⟩))), hb1493, (T_seneschalref03_reader.shut (x := (T_seneschalref03_reader.mk x180 x181))), X1491⟩
                · intro key1497
                  have hb1498 := (hb163.keep x167 n161)
                  have hb1499 := (hb164.keep x167 n162)
                  have h1500 := G55.tr (t157.trans t168)
                  exact TW.sub (Sub.cons rfl (Sub.cons rfl (Sub.cons rfl (Sub.cons rfl (Sub.cons rfl (Sub.cons rfl (Sub.cons rfl (Sub.cons rfl Sub.nil)))))))) (key1497 y13.2.2.2.gs y13.2.2.2.gi 0 0 ([] : List UInt8) [] (IntKind.wrap .i64 (y13.1 - 1)) 0 ([] : List UInt8) [] ([] : List UInt8) 0 hm w165 (Ins O51 b152) (Value.slice none 0 0) (Value.slice none 0 0) B170 h1500 X169 (fun x h => (Or.inr (lf54 _ h))) (Or.inr m56) (Or.inr m57) (Or.inl rfl) hb1498 RD.nil hb1499 (Own.nil' _ _ _ _) (fun b h => by cases h) hb166 (fun h => by cases h) (fun h => by cases h) (fun h => by cases h))
          · intro key61
            refine TW.cond rfl (fun c1501 => ?_) (fun c1501 => ?_)
            · have hm := ite_t c1501 hm
              refine TW.skip ?_
              have hb1502 := (hb3.keep x19 (Ne.symm n10))
              have h1503 := h12.tr t20
              exact TW.sub (Sub.cons rfl (Sub.cons rfl (Sub.cons rfl (Sub.cons rfl (Sub.cons rfl (Sub.cons rfl Sub.nil)))))) (key61 (decide (y13.1 = 2)) hm w18 (Ins O0 b1) B22 h1503 X21 (fun x h => (Or.inr h)) (Or.inr m0) (Or.inl rfl) hb16 hb1502)
            · have hm := ite_f c1501 hm
              refine TW.region ?_
              refine OW.binI rfl rfl rfl rfl rfl rfl rfl ?_
              refine OW.assign rfl rfl rfl rfl rfl ?_
              refine OW.done ?_
              have hb1504 := (hb3.keep x19 (Ne.symm n10))
              have h1505 := h12.tr t20
              exact TW.sub (Sub.cons rfl (Sub.cons rfl (Sub.cons rfl (Sub.cons rfl (Sub.cons rfl (Sub.cons rfl Sub.nil)))))) (key61 (decide (y13.1 = 3)) hm w18 (Ins O0 b1) B22 h1505 X21 (fun x h => (Or.inr h)) (Or.inr m0) (Or.inl rfl) hb16 hb1504)
set_option maxRecDepth 1000000 in
set_option maxHeartbeats 4000000 in
theorem C.r03_Decode (fuel : Nat) : ∀ (p0 : List UInt8) (r : T_api_Cbor × Int × Int), M.r03_Decode fuel p0 = some r → ∀ (w0 : World) (O0 : Nat → Prop) (B0 : Bd O0 w0) (G0 : Glob w0 O0), Calls Tryd.prog 8 (List.toArray [Value.string ⟨List.toArray p0⟩]) w0 (fun e w' => ∃ (us0 : List Value), e = .returned (Value.tuple (List.toArray [Value.agg us0.toArray, Value.int .i64 r.2.1, Value.int .i64 r.2.2])) ∧ RDs w' O0 (T_api_Cbor.enc r.1) us0 ∧ Ext Nowhere w0 w') := by
  intro p0 r hm w0 O0  B0 G0 
  refine calls_of Tryd.func8 rfl 29 rfl rfl ?_
  unfold M.r03_Decode at hm
  have X0 := Ext.refl Nowhere w0
  refine TW.seq (TW.region ?_)
  refine OW.alloc rfl rfl rfl rfl zer_24 (cs := [Value.int .i64 0, Value.int .i64 0, Value.string ⟨List.toArray ([] : List UInt8)⟩, Value.slice none 0 0]) rfl ?_
  intro b1 w2 hb3 x4 l5
  have t6 := Tr.of_new (O := O0) x4 (fun _ _ h => h.elim) l5
  have B8 := (B0.ext x4).ins hb3.lt
  have X7 := X0.step x4 (fun _ _ h => h.elim)
  have g9 : w0.heap.size ≤ b1 := Nat.le_trans X0.size l5
  refine OW.assign rfl rfl rfl rfl rfl ?_
  refine OW.assign rfl rfl rfl rfl rfl ?_
  refine OW.done (TW.seq (TW.seq (TW.region ?_)))
  refine OW.move rfl rfl rfl rfl rfl ?_
  refine OW.lenS rfl rfl rfl rfl Tryd.underlying9 rfl ?_
  refine OW.binI rfl rfl rfl rfl rfl rfl rfl ?_
  refine OW.done ?_
  refine TW.cond rfl (fun c10 => ?_) (fun c10 => ?_)
  · have hm := ite_t c10 hm
    refine TW.seq (TW.region ?_)
    refine OW.build rfl rfl rfl rfl rfl (cs := [Value.int .i64 0, Value.int .i64 0, Value.string ⟨List.toArray ([] : List UInt8)⟩, Value.slice none 0 0]) rfl ?_
    refine OW.store rfl rfl rfl shp_24 rfl rfl (vs := [Value.int .i64 0, Value.int .i64 0, Value.string ⟨List.toArray ([] : List UInt8)⟩, Value.slice none 0 0]) rfl rfl hb3 rfl (one_cons rfl (one_cons rfl (one_cons rfl (one_cons rfl one_nil)))) (cs' := [Value.int .i64 0, Value.int .i64 0, Value.string ⟨List.toArray ([] : List UInt8)⟩, Value.slice none 0 0]) rfl ?_
    intro w11 hb12 x13
    have t14 := Tr.of_ext (O := (Ins O0 b1)) x13 (fun _ _ h => by cases h; exact (Or.inl rfl))
    have B16 := B8.ext x13
    have X15 := X7.step x13 (fun y hy h => absurd hy (by cases h; have := g9; omega))
    refine OW.assign rfl rfl rfl rfl rfl ?_
    refine OW.assign rfl rfl rfl rfl rfl ?_
    refine OW.done ?_
    cases hm
    exact TW.ret (Out.many rfl ⟨_, _, rfl, ⟨_, _, _, _, _, rfl, shp_24, hb12, rfl, rfl⟩, ⟨_, _, rfl, rfl, ⟨_, _, rfl, rfl, rfl⟩⟩⟩ rfl) ⟨_, rfl, (T_api_Cbor.shut (x := (T_api_Cbor.mk 0 0 ([] : List UInt8) [])) RD.nil), X15⟩
  · have hm := ite_f c10 hm
    refine TW.skip (TW.seq (TW.region ?_))
    refine OW.move rfl rfl rfl rfl rfl ?_
    refine OW.build rfl rfl rfl rfl rfl (cs := [Value.string ⟨List.toArray p0⟩, Value.int .i64 0]) rfl ?_
    refine OW.box rfl rfl rfl rfl rfl (cs := [Value.string ⟨List.toArray p0⟩, Value.int .i64 0]) rfl ?_
    intro b17 w18 hb19 x20 l21
    have t22 := Tr.of_new (O := (Ins O0 b1)) x20 (fun _ _ h => h.elim) l21
    have B24 := (B8.ext x20).ins hb19.lt
    have X23 := X7.step x20 (fun _ _ h => h.elim)
    have g25 : w0.heap.size ≤ b17 := Nat.le_trans X7.size l21
    have n26 : b1 ≠ b17 := by have := hb3.lt; omega
    refine OW.assign rfl rfl rfl rfl rfl ?_
    refine OW.done (TW.seq (TW.region ?_))
    refine OW.move rfl rfl rfl rfl rfl ?_
    have hb27 := (hb3.keep x20 (fun h => h))
    have h28 := G0.tr (t6.trans t22)
    obtain ⟨y29, hy30, hm⟩ := bnd hm
    refine OW.call rfl rfl rfl rfl rfl rfl Tryd.call19 ((C.r03_reader_item _ _ _ _ hy30 _ (Ins (Ins O0 b1) b17) _ _ B24 h28 hb19 (T_seneschalref03_reader.shut (x := (T_seneschalref03_reader.mk p0 0))) (Or.inl rfl)).mono ?_)
    rintro e w36 ⟨cs31, cs33, rfl, h32, hb34, h35, x37⟩
    obtain ⟨v38, rfl, h39⟩ := T_api_Cbor.opn h32
    obtain rfl := T_seneschalref03_reader.opn h35
    refine CallK.ret ?_
    have t40 := Tr.of_ext (O := (Ins (Ins O0 b1) b17)) x37 (fun _ _ h => by cases h; exact (Or.inl rfl))
    have B42 := B24.ext x37
    have X41 := X23.step x37 (fun y hy h => absurd hy (by cases h; have := g25; omega))
    refine OW.move rfl rfl rfl rfl rfl ?_
    refine OW.extract rfl rfl rfl rfl rfl rfl ?_
    refine OW.extract rfl rfl rfl rfl rfl rfl ?_
    have hb48 := (hb27.keep x37 n26)
    refine OW.alloc rfl rfl rfl rfl zer_24 (cs := [Value.int .i64 0, Value.int .i64 0, Value.string ⟨List.toArray ([] : List UInt8)⟩, Value.slice none 0 0]) rfl ?_
    intro b43 w44 hb45 x46 l47
    have t49 := Tr.of_new (O := (Ins (Ins O0 b1) b17)) x46 (fun _ _ h => h.elim) l47
    have B51 := (B42.ext x46).ins hb45.lt
    have X50 := X41.step x46 (fun _ _ h => h.elim)
    have g52 : w0.heap.size ≤ b43 := Nat.le_trans X41.size l47
    have n53 : b1 ≠ b43 := by have := hb48.lt; omega
    have n54 : b17 ≠ b43 := by have := hb34.lt; omega
    have hb55 := (hb48.keep x46 (fun h => h))
    have hb56 := (hb34.keep x46 (fun h => h))
    refine OW.store rfl rfl rfl shp_24 rfl rfl (vs := [Value.int .i64 y29.1.gKind, Value.int .i64 y29.1.gNum, Value.string ⟨List.toArray y29.1.gText⟩, v38]) rfl rfl hb45 rfl (one_cons rfl (one_cons rfl (one_cons rfl (one_cons (RD.one _ _ h39) one_nil)))) (cs' := [Value.int .i64 y29.1.gKind, Value.int .i64 y29.1.gNum, Value.string ⟨List.toArray y29.1.gText⟩, v38]) rfl ?_
    intro w57 hb58 x59
    have t60 := Tr.of_ext (O := (Ins (Ins (Ins O0 b1) b17) b43)) x59 (fun _ _ h => by cases h; exact (Or.inl rfl))
    have B62 := B51.ext x59
    have X61 := X50.step x59 (fun y hy h => absurd hy (by cases h; have := g52; omega))
    refine OW.assign rfl rfl rfl rfl rfl ?_
    refine OW.done (TW.seq (TW.seq (TW.region ?_)))
    refine OW.move rfl rfl rfl rfl rfl ?_
    refine OW.binI rfl rfl rfl rfl rfl rfl rfl ?_
    refine OW.done ?_
    refine TW.cond rfl (fun c63 => ?_) (fun c63 => ?_)
    · have hm := ite_t c63 hm
      refine TW.seq (TW.region ?_)
      refine OW.build rfl rfl rfl rfl rfl (cs := [Value.int .i64 0, Value.int .i64 0, Value.string ⟨List.toArray ([] : List UInt8)⟩, Value.slice none 0 0]) rfl ?_
      refine OW.move rfl rfl rfl rfl rfl ?_
      have hb64 := (hb55.keep x59 n53)
      have hb65 := (hb56.keep x59 n54)
      refine OW.store rfl rfl rfl shp_24 rfl rfl (vs := [Value.int .i64 0, Value.int .i64 0, Value.string ⟨List.toArray ([] : List UInt8)⟩, Value.slice none 0 0]) rfl rfl hb64 rfl (one_cons rfl (one_cons rfl (one_cons rfl (one_cons rfl one_nil)))) (cs' := [Value.int .i64 0, Value.int .i64 0, Value.string ⟨List.toArray ([] : List UInt8)⟩, Value.slice none 0 0]) rfl ?_
      intro w66 hb67 x68
      have t69 := Tr.of_ext (O := (Ins (Ins (Ins O0 b1) b17) b43)) x68 (fun _ _ h => by cases h; exact (Or.inr (Or.inr (Or.inl rfl))))
      have B71 := B62.ext x68
      have X70 := X61.step x68 (fun y hy h => absurd hy (by cases h; have := g9; omega))
      refine OW.assign rfl rfl rfl rfl rfl ?_
      refine OW.assign rfl rfl rfl rfl rfl ?_
      refine OW.done ?_
      cases hm
      exact TW.ret (Out.many rfl ⟨_, _, rfl, ⟨_, _, _, _, _, rfl, shp_24, hb67, rfl, rfl⟩, ⟨_, _, rfl, rfl, ⟨_, _, rfl, rfl, rfl⟩⟩⟩ rfl) ⟨_, rfl, (T_api_Cbor.shut (x := (T_api_Cbor.mk 0 0 ([] : List UInt8) [])) RD.nil), X70⟩
    · have hm := ite_f c63 hm
      refine TW.skip (TW.seq ?_)
      refine TW.drawP [0, 0, 2, 6, 14, 1, 63, 127] [0, 1, 2, 3, 4] [(5, [1, 2, 3, 4], [6, 7])] mix (by kernel_rfl) ?_
      intro w72 x73
      have t74 := Tr.of_ext (O := (Ins (Ins (Ins O0 b1) b17) b43)) x73 (fun _ _ h => h.elim)
      have B76 := B62.ext x73
      have X75 := X61.step x73 (fun _ _ h => h.elim)
      have hb77 := (hb58.keep x73 (fun h => h))
      have hb78 := ((hb56.keep x59 n54).keep x73 (fun h => h))
      refine DP.put [(24, Value.agg (List.toArray [Value.int .i64 y29.1.gKind, Value.int .i64 y29.1.gNum, Value.string ⟨List.toArray y29.1.gText⟩, v38])), (25, Value.pointer (some ⟨b17, 0, none⟩)), (26, Value.pointer (some ⟨b17, 0, none⟩)), (27, Value.pointer (some ⟨b17, 0 + 1, none⟩)), (28, Value.int .i64 y29.2.2.gi)] rfl ?_
      refine DW.next (StabE.cons rfl rfl rfl rfl (EX.loadN rfl shp_24 rfl hb77 (vs := [Value.int .i64 y29.1.gKind, Value.int .i64 y29.1.gNum, Value.string ⟨List.toArray y29.1.gText⟩, v38]) rfl rfl) (StabE.cons rfl rfl rfl rfl (EX.move rfl rfl) (StabE.cons rfl rfl rfl rfl (EX.nilCheck rfl rfl) (StabE.cons rfl rfl rfl rfl (EX.fieldAddr rfl fld_48_1 rfl) (StabE.cons rfl rfl rfl rfl (EX.load1 rfl shp_3 rfl hb78 rfl) StabE.nil))))) rfl ?_
      have hb79 := ((hb55.keep x59 n53).keep x73 (fun h => h))
      refine OW.store rfl rfl rfl shp_24 rfl rfl (vs := [Value.int .i64 y29.1.gKind, Value.int .i64 y29.1.gNum, Value.string ⟨List.toArray y29.1.gText⟩, v38]) rfl rfl hb79 rfl (one_cons rfl (one_cons rfl (one_cons rfl (one_cons (RD.one _ _ h39) one_nil)))) (cs' := [Value.int .i64 y29.1.gKind, Value.int .i64 y29.1.gNum, Value.string ⟨List.toArray y29.1.gText⟩, v38]) rfl ?_
      intro w80 hb81 x82
      have t83 := Tr.of_ext (O := (Ins (Ins (Ins O0 b1) b17) b43)) x82 (fun _ _ h => by cases h; exact (Or.inr (Or.inr (Or.inl rfl))))
      have B85 := B76.ext x82
      have X84 := X75.step x82 (fun y hy h => absurd hy (by cases h; have := g9; omega))
      refine DP.ow ?_
      refine DP.put [(3, Value.int .i64 y29.2.2.gi), (4, Value.int .i64 0)] rfl ?_
      have hb86 := (hb78.keep x82 (Ne.symm n26))
      refine DW.end' (StabE.cons rfl rfl rfl rfl (EX.move rfl rfl) (StabE.cons rfl rfl rfl rfl (EX.nilCheck rfl rfl) (StabE.cons rfl rfl rfl rfl (EX.fieldAddr rfl fld_48_1 rfl) (StabE.cons rfl rfl rfl rfl (EX.load1 rfl shp_3 rfl hb86 rfl) (StabE.cons rfl rfl rfl rfl (EX.assign rfl rfl) (StabE.cons rfl rfl rfl rfl (EX.assign rfl rfl) StabE.nil)))))) ?_
      have h87 := h39.tr (t49.trans (t60.trans (t74.trans t83)))
      cases hm
      exact TW.ret (Out.many rfl ⟨_, _, rfl, ⟨_, _, _, _, _, rfl, shp_24, hb81, rfl, rfl⟩, ⟨_, _, rfl, rfl, ⟨_, _, rfl, rfl, rfl⟩⟩⟩ rfl) ⟨_, rfl, (T_api_Cbor.shut (x := y29.1) (h87.tr (Tr.drop _ fun x h => (Or.inr (Or.inr (Or.inr h)))))), X84⟩
set_option maxRecDepth 1000000 in
set_option maxHeartbeats 4000000 in
theorem C.r03_Same (fuel : Nat) : ∀ (p0 : T_api_Cbor) (p1 : T_api_Cbor) (r : Bool), M.r03_Same fuel p0 p1 = some r → ∀ (w0 : World) (O0 : Nat → Prop) (cs0 : List Value) (cs1 : List Value) (B0 : Bd O0 w0) (G0 : Glob w0 O0) (h0 : RDs w0 O0 (T_api_Cbor.enc p0) cs0) (h1 : RDs w0 O0 (T_api_Cbor.enc p1) cs1), Calls Tryd.prog 9 (List.toArray [Value.agg cs0.toArray, Value.agg cs1.toArray]) w0 (fun e w' => e = .returned (Value.bool r) ∧ Ext Nowhere w0 w') := by
  induction fuel with
  | zero => intro p0 p1 r hm w0 O0 cs0 cs1 B0 G0 h0 h1; cases hm
  | succ fuel ih =>
    intro p0 p1 r hm w0 O0 cs0 cs1 B0 G0 h0 h1
    refine calls_of Tryd.func9 rfl 53 rfl rfl ?_
    simp only [M.r03_Same] at hm
    have X0 := Ext.refl Nowhere w0
    obtain ⟨v1, rfl, h2⟩ := T_api_Cbor.opn h0
    obtain ⟨v3, rfl, h4⟩ := T_api_Cbor.opn h1
    refine TW.seq (TW.region ?_)
    refine OW.box rfl rfl rfl rfl rfl (cs := [Value.int .i64 p0.gKind, Value.int .i64 p0.gNum, Value.string ⟨List.toArray p0.gText⟩, v1]) rfl ?_
    intro b5 w6 hb7 x8 l9
    have t10 := Tr.of_new (O := O0) x8 (fun _ _ h => h.elim) l9
    have B12 := (B0.ext x8).ins hb7.lt
    have X11 := X0.step x8 (fun _ _ h => h.elim)
    have g13 : w0.heap.size ≤ b5 := Nat.le_trans X0.size l9
    refine OW.box rfl rfl rfl rfl rfl (cs := [Value.int .i64 p1.gKind, Value.int .i64 p1.gNum, Value.string ⟨List.toArray p1.gText⟩, v3]) rfl ?_
    intro b14 w15 hb16 x17 l18
    have t19 := Tr.of_new (O := (Ins O0 b5)) x17 (fun _ _ h => h.elim) l18
    have B21 := (B12.ext x17).ins hb16.lt
    have X20 := X11.step x17 (fun _ _ h => h.elim)
    have g22 : w0.heap.size ≤ b14 := Nat.le_trans X11.size l18
    have n23 : b5 ≠ b14 := by have := hb7.lt; omega
    refine OW.assign rfl rfl rfl rfl rfl ?_
    refine OW.done (TW.seq (TW.seq (TW.region ?_)))
    refine OW.fieldAddr rfl rfl rfl rfl fld_24_0 rfl ?_
    have hb24 := (hb7.keep x17 (fun h => h))
    refine OW.load1 rfl rfl rfl rfl shp_3 rfl hb24 rfl ?_
    refine OW.fieldAddr rfl rfl rfl rfl fld_24_0 rfl ?_
    refine OW.load1 rfl rfl rfl rfl shp_3 rfl hb16 rfl ?_
    refine OW.binI rfl rfl rfl rfl rfl rfl rfl ?_
    refine OW.move rfl rfl rfl rfl rfl ?_
    refine OW.blk 6 (fun K => K [(17, Value.bool ((!decide (p0.gKind = p1.gKind)) || (!decide (p0.gNum = p1.gNum)))), (2, Value.pointer (some ⟨b5, 0, none⟩)), (3, Value.pointer (some ⟨b14, 0, none⟩)), (6, Value.pointer (some ⟨b5, 0 + 0, none⟩)), (7, Value.int .i64 p0.gKind), (8, Value.pointer (some ⟨b14, 0 + 0, none⟩)), (9, Value.int .i64 p1.gKind), (10, Value.bool (!decide (p0.gKind = p1.gKind))), (11, Value.bool (!decide (p0.gKind = p1.gKind)))] w15) ?_ ?_
    · show OW _ _ _ _ _ _ _ _
      refine OW.move rfl rfl rfl rfl rfl ?_
      refine OW.blk 6 (fun K => K [(24, Value.bool (((!decide (p0.gKind = p1.gKind)) || (!decide (p0.gNum = p1.gNum))) || (!decide (p0.gText = p1.gText)))), (2, Value.pointer (some ⟨b5, 0, none⟩)), (3, Value.pointer (some ⟨b14, 0, none⟩)), (6, Value.pointer (some ⟨b5, 0 + 0, none⟩)), (7, Value.int .i64 p0.gKind), (8, Value.pointer (some ⟨b14, 0 + 0, none⟩)), (9, Value.int .i64 p1.gKind), (10, Value.bool (!decide (p0.gKind = p1.gKind))), (11, Value.bool (!decide (p0.gKind = p1.gKind))), (17, Value.bool ((!decide (p0.gKind = p1.gKind)) || (!decide (p0.gNum = p1.gNum)))), (18, Value.bool ((!decide (p0.gKind = p1.gKind)) || (!decide (p0.gNum = p1.gNum))))] w15) ?_ ?_
      · show OW _ _ _ _ _ _ _ _
        refine OW.move rfl rfl rfl rfl rfl ?_
        refine OW.blk 8 (fun K => K [(33, Value.bool ((((!decide (p0.gKind = p1.gKind)) || (!decide (p0.gNum = p1.gNum))) || (!decide (p0.gText = p1.gText))) || (!decide ((p0.gList.length : Int) = (p1.gList.length : Int))))), (2, Value.pointer (some ⟨b5, 0, none⟩)), (3, Value.pointer (some ⟨b14, 0, none⟩)), (6, Value.pointer (some ⟨b5, 0 + 0, none⟩)), (7, Value.int .i64 p0.gKind), (8, Value.pointer (some ⟨b14, 0 + 0, none⟩)), (9, Value.int .i64 p1.gKind), (10, Value.bool (!decide (p0.gKind = p1.gKind))), (11, Value.bool (!decide (p0.gKind = p1.gKind))), (17, Value.bool ((!decide (p0.gKind = p1.gKind)) || (!decide (p0.gNum = p1.gNum)))), (18, Value.bool ((!decide (p0.gKind = p1.gKind)) || (!decide (p0.gNum = p1.gNum)))), (24, Value.bool (((!decide (p0.gKind = p1.gKind)) || (!decide (p0.gNum = p1.gNum))) || (!decide (p0.gText = p1.gText)))), (25, Value.bool (((!decide (p0.gKind = p1.gKind)) || (!decide (p0.gNum = p1.gNum))) || (!decide (p0.gText = p1.gText))))] w15) ?_ ?_
        · show OW _ _ _ _ _ _ _ _
          refine OW.done ?_
          refine TW.cond rfl (fun c34 => ?_) (fun c34 => ?_)
          · have hm := ite_t c34 hm
            refine TW.seq (TW.region ?_)
            refine OW.assign rfl rfl rfl rfl rfl ?_
            refine OW.done ?_
            cases hm
            exact TW.ret (Out.one rfl rfl) ⟨rfl, X20⟩
          · have hm := ite_f c34 hm
            refine TW.skip (TW.seq (TW.seq (TW.region ?_)))
            refine OW.assign rfl rfl rfl rfl rfl ?_
            refine OW.done (TW.block ?_)
            refine TW.lp (fun K => ∀ (x47 : Int), M.r03_Same_k1 (fuel + 1) (M.r03_Same fuel) p0 p1 x47 = some r → ∀ (w35 : World) (O36 : Nat → Prop), Bd O36 w35 → Glob w35 O36 → Ext Nowhere w0 w35 → (∀ x, O0 x → O36 x) → (O36 b5) → (O36 b14) → (RD w35 O36 (D.sl 24 4 (p0.gList.map T_api_Cbor.enc)) v1) → (BoxAt w35 b5 24 [Value.int .i64 p0.gKind, Value.int .i64 p0.gNum, Value.string ⟨List.toArray p0.gText⟩, v1]) → (RD w35 O36 (D.sl 24 4 (p1.gList.map T_api_Cbor.enc)) v3) → (BoxAt w35 b14 24 [Value.int .i64 p1.gKind, Value.int .i64 p1.gNum, Value.string ⟨List.toArray p1.gText⟩, v3]) →  K [(2, Value.pointer (some ⟨b5, 0, none⟩)), (3, Value.pointer (some ⟨b14, 0, none⟩)), (5, Value.int .i64 x47)] w35) ?_ ?_
            · intro K hin48 hout49
              refine fun x47 hm => M.r03_Same_k1.partial_correctness (fuel + 1) (M.r03_Same fuel) p0 p1 (fun x47 r107 => r107 = r → ∀ (w35 : World) (O36 : Nat → Prop), Bd O36 w35 → Glob w35 O36 → Ext Nowhere w0 w35 → (∀ x, O0 x → O36 x) → (O36 b5) → (O36 b14) → (RD w35 O36 (D.sl 24 4 (p0.gList.map T_api_Cbor.enc)) v1) → (BoxAt w35 b5 24 [Value.int .i64 p0.gKind, Value.int .i64 p0.gNum, Value.string ⟨List.toArray p0.gText⟩, v1]) → (RD w35 O36 (D.sl 24 4 (p1.gList.map T_api_Cbor.enc)) v3) → (BoxAt w35 b14 24 [Value.int .i64 p1.gKind, Value.int .i64 p1.gNum, Value.string ⟨List.toArray p1.gText⟩, v3]) →  K [(2, Value.pointer (some ⟨b5, 0, none⟩)), (3, Value.pointer (some ⟨b14, 0, none⟩)), (5, Value.int .i64 x47)] w35) ?_ x47 r hm rfl
              intro self ih50 x47 r107 hm hr108 w35 O36 B37 G40 X38 lf39 m41 m42 h43 hb44 h45 hb46
              rw [hr108] at hm
              refine hin48 _ _ ?_
              refine TW.seq (TW.seq (TW.region ?_))
              refine OW.move rfl rfl rfl rfl rfl ?_
              refine OW.fieldAddr rfl rfl rfl rfl fld_24_3 rfl ?_
              refine OW.load1 rfl rfl rfl rfl shp_22 rfl hb44 rfl ?_
              refine OW.lenV rfl rfl rfl rfl Tryd.underlying22 rfl (RD.len' h43) ?_
              refine OW.binI rfl rfl rfl rfl rfl rfl rfl ?_
              refine OW.done ?_
              refine TW.cond rfl (fun c51 => ?_) (fun c51 => ?_)
              · have hm := ite_t c51 hm
                refine TW.skip (TW.seq (TW.block (TW.seq ?_)))
                refine TW.drawP [0, 1, 0, 7, 15, 0, 32, 0, 224, 480, 1023, 2047] [0, 1, 2, 3, 4, 5, 6, 7, 8, 9] [(10, [], [11])] mix (by kernel_rfl) ?_
                intro w52 x53
                have t54 := Tr.of_ext (O := O36) x53 (fun _ _ h => h.elim)
                have B56 := B37.ext x53
                have X55 := X38.step x53 (fun _ _ h => h.elim)
                have hb57 := (hb44.keep x53 (fun h => h))
                have h58 := h43.tr t54
                obtain ⟨x59, h60, hm⟩ := bnd hm
                obtain ⟨j61, hj62, hc63⟩ := ix_some h60
                obtain ⟨b64, q65, cap66, hv67, hlt68, cs69, hl70, hcc71, hr72⟩ := RD.elem' h58 hc63
                obtain ⟨v73, rfl, h74⟩ := T_api_Cbor.opn hr72
                have hb75 := (hb46.keep x53 (fun h => h))
                have h76 := h45.tr t54
                obtain ⟨x77, h78, hm⟩ := bnd hm
                obtain ⟨j79, hj80, hc81⟩ := ix_some h78
                obtain ⟨b82, q83, cap84, hv85, hlt86, cs87, hl88, hcc89, hr90⟩ := RD.elem' h76 hc81
                obtain ⟨v91, rfl, h92⟩ := T_api_Cbor.opn hr90
                refine DP.put [(41, Value.pointer (some ⟨b5, 0 + 3, none⟩)), (42, v1), (43, Value.int .i64 x47), (44, Value.pointer (some ⟨b64, q65 + j61 * 4, none⟩)), (45, Value.agg (List.toArray [Value.int .i64 x59.gKind, Value.int .i64 x59.gNum, Value.string ⟨List.toArray x59.gText⟩, v73])), (46, Value.pointer (some ⟨b14, 0 + 3, none⟩)), (47, v3), (48, Value.int .i64 x47), (49, Value.pointer (some ⟨b82, q83 + j79 * 4, none⟩)), (50, Value.agg (List.toArray [Value.int .i64 x77.gKind, Value.int .i64 x77.gNum, Value.string ⟨List.toArray x77.gText⟩, v91]))] rfl ?_
                refine DW.next (StabE.cons rfl rfl rfl rfl (EX.fieldAddr rfl fld_24_3 rfl) (StabE.cons rfl rfl rfl rfl (EX.load1 rfl shp_22 rfl hb57 rfl) (StabE.cons rfl rfl rfl rfl (EX.move rfl rfl) (StabE.cons rfl rfl rfl rfl (EX.indexAddrV rfl Tryd.underlying22 shp_24 rfl hv67 rfl hj62 hlt68) (StabE.cons rfl rfl rfl rfl (EX.loadCs rfl shp_24 rfl rfl hcc71.at_) (StabE.cons rfl rfl rfl rfl (EX.fieldAddr rfl fld_24_3 rfl) (StabE.cons rfl rfl rfl rfl (EX.load1 rfl shp_22 rfl hb75 rfl) (StabE.cons rfl rfl rfl rfl (EX.move rfl rfl) (StabE.cons rfl rfl rfl rfl (EX.indexAddrV rfl Tryd.underlying22 shp_24 rfl hv85 rfl hj80 hlt86) (StabE.cons rfl rfl rfl rfl (EX.loadCs rfl shp_24 rfl rfl hcc89.at_) StabE.nil)))))))))) rfl ?_
                have h93 := G40.tr t54
                obtain ⟨y94, hy95, hm⟩ := bnd hm
                refine OW.call rfl rfl rfl rfl rfl rfl Tryd.call9 ((ih _ _ _ hy95 _ O36 _ _ B56 h93 (T_api_Cbor.shut (x := x59) h74) (T_api_Cbor.shut (x := x77) h92)).mono ?_)
                rintro e w96 ⟨rfl, x97⟩
                refine CallK.ret ?_
                have t98 := Tr.of_ext (O := O36) x97 (fun _ _ h => h.elim)
                have B100 := B56.ext x97
                have X99 := X55.step x97 (fun _ _ h => h.elim)
                refine DP.ow ?_
                refine DP.put [(52, Value.bool (!y94))] rfl ?_
                refine DW.end' (StabE.cons rfl rfl rfl rfl (EX.notB rfl rfl) StabE.nil) ?_
                refine TW.cond rfl (fun c101 => ?_) (fun c101 => ?_)
                · have hm := ite_t c101 hm
                  refine TW.seq (TW.region ?_)
                  refine OW.assign rfl rfl rfl rfl rfl ?_
                  refine OW.done ?_
                  cases hm
                  exact TW.ret (Out.one rfl rfl) ⟨rfl, X99⟩
                · have hm := ite_f c101 hm
                  refine TW.skip (TW.inBlock (TW.region ?_))
                  refine OW.move rfl rfl rfl rfl rfl ?_
                  refine OW.binI rfl rfl rfl rfl rfl rfl rfl ?_
                  refine OW.assign rfl rfl rfl rfl rfl ?_
                  refine OW.done ?_
                  have h102 := h58.tr t98
                  have hb103 := (hb57.keep x97 (fun h => h))
                  have h104 := h76.tr t98
                  have hb105 := (hb75.keep x97 (fun h => h))
                  have h106 := h93.tr t98
                  exact TW.sub (Sub.cons rfl (Sub.cons rfl (Sub.cons rfl Sub.nil))) (hout49 _ _ (ih50 (IntKind.wrap .i64 (x47 + 1)) _ hm rfl w96 O36 B100 h106 X99 (fun x h => (lf39 _ h)) m41 m42 h102 hb103 h104 hb105))
              · have hm := ite_f c51 hm
                refine TW.exit rfl (TW.seq (TW.region ?_))
                refine OW.assign rfl rfl rfl rfl rfl ?_
                refine OW.done ?_
                cases hm
                exact TW.ret (Out.one rfl rfl) ⟨rfl, X38⟩
            · intro key109
              have h110 := h2.tr (t10.trans t19)
              have h111 := h4.tr (t10.trans t19)
              have h112 := G0.tr (t10.trans t19)
              exact TW.sub (Sub.cons rfl (Sub.cons rfl (Sub.cons rfl Sub.nil))) (key109 0 hm w15 (Ins (Ins O0 b5) b14) B21 h112 X20 (fun x h => (Or.inr (Or.inr h))) (Or.inr (Or.inl rfl)) (Or.inl rfl) h110 hb24 h111 hb16)
        · intro key33
          cases c32 : (((!decide (p0.gKind = p1.gKind)) || (!decide (p0.gNum = p1.gNum))) || (!decide (p0.gText = p1.gText)))
          · try simp only [c32] at key33
            refine OW.yes rfl rfl rfl ?_
            refine OW.fieldAddr rfl rfl rfl rfl fld_24_3 rfl ?_
            refine OW.yes rfl rfl rfl ?_
            refine OW.load1 rfl rfl rfl rfl shp_22 rfl hb24 rfl ?_
            refine OW.yes rfl rfl rfl ?_
            have h113 := h2.tr (t10.trans t19)
            refine OW.lenV rfl rfl rfl rfl Tryd.underlying22 rfl (RD.len' h113) ?_
            refine OW.yes rfl rfl rfl ?_
            refine OW.fieldAddr rfl rfl rfl rfl fld_24_3 rfl ?_
            refine OW.yes rfl rfl rfl ?_
            refine OW.load1 rfl rfl rfl rfl shp_22 rfl hb16 rfl ?_
            refine OW.yes rfl rfl rfl ?_
            have h114 := h4.tr (t10.trans t19)
            refine OW.lenV rfl rfl rfl rfl Tryd.underlying22 rfl (RD.len' h114) ?_
            refine OW.yes rfl rfl rfl ?_
            refine OW.binI rfl rfl rfl rfl rfl rfl rfl ?_
            refine OW.pick_f rfl rfl rfl rfl rfl rfl ?_
            exact OW.sub (Sub.cons rfl (Sub.cons rfl (Sub.cons rfl (Sub.cons rfl (Sub.cons rfl (Sub.cons rfl (Sub.cons rfl (Sub.cons rfl (Sub.cons rfl (Sub.cons rfl (Sub.cons rfl (Sub.cons rfl (Sub.cons rfl Sub.nil))))))))))))) key33
          · try simp only [c32] at key33
            refine OW.not rfl rfl rfl rfl rfl rfl ?_
            refine OW.not rfl rfl rfl rfl rfl rfl ?_
            refine OW.not rfl rfl rfl rfl rfl rfl ?_
            refine OW.not rfl rfl rfl rfl rfl rfl ?_
            refine OW.not rfl rfl rfl rfl rfl rfl ?_
            refine OW.not rfl rfl rfl rfl rfl rfl ?_
            refine OW.not rfl rfl rfl rfl rfl rfl ?_
            refine OW.pick_t rfl rfl rfl rfl rfl rfl ?_
            exact OW.sub (Sub.cons rfl (Sub.cons rfl (Sub.cons rfl (Sub.cons rfl (Sub.cons rfl (Sub.cons rfl (Sub.cons rfl (Sub.cons rfl (Sub.cons rfl (Sub.cons rfl (Sub.cons rfl (Sub.cons rfl (Sub.cons rfl Sub.nil))))))))))))) key33
      · intro key30
        cases c29 : ((!decide (p0.gKind = p1.gKind)) || (!decide (p0.gNum = p1.gNum)))
        · try simp only [c29] at key30
          refine OW.yes rfl rfl rfl ?_
          refine OW.fieldAddr rfl rfl rfl rfl fld_24_2 rfl ?_
          refine OW.yes rfl rfl rfl ?_
          refine OW.load1 rfl rfl rfl rfl shp_9 rfl hb24 rfl ?_
          refine OW.yes rfl rfl rfl ?_
          refine OW.fieldAddr rfl rfl rfl rfl fld_24_2 rfl ?_
          refine OW.yes rfl rfl rfl ?_
          refine OW.load1 rfl rfl rfl rfl shp_9 rfl hb16 rfl ?_
          refine OW.yes rfl rfl rfl ?_
          refine OW.binS rfl rfl rfl rfl rfl rfl rfl ?_
          refine OW.pick_f rfl rfl rfl rfl rfl rfl ?_
          exact OW.sub (Sub.cons rfl (Sub.cons rfl (Sub.cons rfl (Sub.cons rfl (Sub.cons rfl (Sub.cons rfl (Sub.cons rfl (Sub.cons rfl (Sub.cons rfl (Sub.cons rfl (Sub.cons rfl Sub.nil))))))))))) key30
        · try simp only [c29] at key30
          refine OW.not rfl rfl rfl rfl rfl rfl ?_
          refine OW.not rfl rfl rfl rfl rfl rfl ?_
          refine OW.not rfl rfl rfl rfl rfl rfl ?_
          refine OW.not rfl rfl rfl rfl rfl rfl ?_
          refine OW.not rfl rfl rfl rfl rfl rfl ?_
          refine OW.pick_t rfl rfl rfl rfl rfl rfl ?_
          exact OW.sub (Sub.cons rfl (Sub.cons rfl (Sub.cons rfl (Sub.cons rfl (Sub.cons rfl (Sub.cons rfl (Sub.cons rfl (Sub.cons rfl (Sub.cons rfl (Sub.cons rfl (Sub.cons rfl Sub.nil))))))))))) key30
    · intro key27
      cases c26 : (!decide (p0.gKind = p1.gKind))
      · try simp only [c26] at key27
        refine OW.yes rfl rfl rfl ?_
        refine OW.fieldAddr rfl rfl rfl rfl fld_24_1 rfl ?_
        refine OW.yes rfl rfl rfl ?_
        refine OW.load1 rfl rfl rfl rfl shp_3 rfl hb24 rfl ?_
        refine OW.yes rfl rfl rfl ?_
        refine OW.fieldAddr rfl rfl rfl rfl fld_24_1 rfl ?_
        refine OW.yes rfl rfl rfl ?_
        refine OW.load1 rfl rfl rfl rfl shp_3 rfl hb16 rfl ?_
        refine OW.yes rfl rfl rfl ?_
        refine OW.binI rfl rfl rfl rfl rfl rfl rfl ?_
        refine OW.pick_f rfl rfl rfl rfl rfl rfl ?_
        exact OW.sub (Sub.cons rfl (Sub.cons rfl (Sub.cons rfl (Sub.cons rfl (Sub.cons rfl (Sub.cons rfl (Sub.cons rfl (Sub.cons rfl (Sub.cons rfl Sub.nil))))))))) key27
      · try simp only [c26] at key27
        refine OW.not rfl rfl rfl rfl rfl rfl ?_
        refine OW.not rfl rfl rfl rfl rfl rfl ?_
        refine OW.not rfl rfl rfl rfl rfl rfl ?_
        refine OW.not rfl rfl rfl rfl rfl rfl ?_
        refine OW.not rfl rfl rfl rfl rfl rfl ?_
        refine OW.pick_t rfl rfl rfl rfl rfl rfl ?_
        exact OW.sub (Sub.cons rfl (Sub.cons rfl (Sub.cons rfl (Sub.cons rfl (Sub.cons rfl (Sub.cons rfl (Sub.cons rfl (Sub.cons rfl (Sub.cons rfl Sub.nil))))))))) key27
end Go.Proofs.YtmbckfhcljgniaaDoor
