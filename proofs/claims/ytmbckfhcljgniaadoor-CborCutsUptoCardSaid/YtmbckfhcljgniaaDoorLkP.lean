/- LkP: models and contracts of the program's functions, printed by a program of ours. -/
import Derived.Test.YtmbckfhcljgniaaDoorRows
import Derived.Test.YtmbckfhcljgniaaDoorLkM
import Derived.Shelf.Unicode.ValidAny
import Derived.Test.YtmbckfhcljgniaaDoorLkU
import Derived.Test.YtmbckfhcljgniaaDoorCC
import Derived.Test.YtmbckfhcljgniaaDoorTrydShP
import Derived.Test.YtmbckfhcljgniaaDoorLkPp1
namespace Go.Proofs.YtmbckfhcljgniaaDoor
open Go.Lk Go.RowKit
set_option maxRecDepth 1000000 in
set_option maxHeartbeats 4000000 in
theorem C.cbor_checked (fuel : Nat) : ∀ (p0 : T_api_Cbor) (p1 : Int) (r : Res Unit), M.cbor_checked fuel p0 p1 = some r → ∀ (w0 : World) (O0 : Nat → Prop) (cs0 : List Value) (B0 : Bd O0 w0) (G0 : Glob w0 O0) (h0 : RDs w0 O0 (T_api_Cbor.enc p0) cs0), Calls Tryd.prog 27 (List.toArray [Value.agg cs0.toArray, Value.int .i64 p1]) w0 (PR Nowhere w0 (fun a e w' => e = .returned (Value.tuple (List.toArray [])) ∧ Ext Nowhere w0 w') r) := by
  induction fuel with
  | zero => intro p0 p1 r hm w0 O0 cs0 B0 G0 h0; cases hm
  | succ fuel ih =>
    intro p0 p1 r hm w0 O0 cs0 B0 G0 h0
    refine calls_of Tryd.func27 rfl 67 rfl rfl ?_
    simp only [M.cbor_checked] at hm
    have X0 := Ext.refl Nowhere w0
    obtain ⟨v1, rfl, h2⟩ := T_api_Cbor.opn h0
    refine TW.seq (TW.region ?_)
    refine OW.box rfl rfl rfl rfl rfl (cs := [Value.int .i64 p0.gKind, Value.int .i64 p0.gNum, Value.string ⟨List.toArray p0.gText⟩, v1]) rfl ?_
    intro b3 w4 hb5 x6 l7
    have t8 := Tr.of_new (O := O0) x6 (fun _ _ h => h.elim) l7
    have B10 := (B0.ext x6).ins hb5.lt
    have X9 := X0.step x6 (fun _ _ h => h.elim)
    have g11 : w0.heap.size ≤ b3 := Nat.le_trans X0.size l7
    refine OW.done (TW.seq (TW.region ?_))
    refine OW.fieldAddr rfl rfl rfl rfl fld_24_0 rfl ?_
    refine OW.load1 rfl rfl rfl rfl shp_3 rfl hb5 rfl ?_
    refine OW.binI rfl rfl rfl rfl rfl rfl rfl ?_
    refine OW.move rfl rfl rfl rfl rfl ?_
    refine OW.blk 4 (fun K => K [(17, Value.bool ((!decide (p0.gKind = 3)) && (!decide (p0.gKind = 4)))), (1, Value.int .i64 p1), (2, Value.pointer (some ⟨b3, 0, none⟩)), (10, Value.pointer (some ⟨b3, 0 + 0, none⟩)), (11, Value.int .i64 p0.gKind), (12, Value.bool (!decide (p0.gKind = 3))), (13, Value.bool (!decide (p0.gKind = 3)))] w4) ?_ ?_
    · show OW _ _ _ _ _ _ _ _
      refine OW.move rfl rfl rfl rfl rfl ?_
      refine OW.blk 3 (fun K => K [(21, Value.bool (((!decide (p0.gKind = 3)) && (!decide (p0.gKind = 4))) || (decide (p1 < 16)))), (1, Value.int .i64 p1), (2, Value.pointer (some ⟨b3, 0, none⟩)), (10, Value.pointer (some ⟨b3, 0 + 0, none⟩)), (11, Value.int .i64 p0.gKind), (12, Value.bool (!decide (p0.gKind = 3))), (13, Value.bool (!decide (p0.gKind = 3))), (17, Value.bool ((!decide (p0.gKind = 3)) && (!decide (p0.gKind = 4)))), (18, Value.bool ((!decide (p0.gKind = 3)) && (!decide (p0.gKind = 4))))] w4) ?_ ?_
      · show OW _ _ _ _ _ _ _ _
        have h18 := G0.tr t8
        obtain ⟨y19, hy20, hm⟩ := bnd hm
        rcases y19 with a21 | pv22
        · dsimp only at hm
          refine OW.call rfl rfl rfl rfl rfl rfl Tryd.call30 ((C.cbor_must _ _ _ hy20 _ (Ins O0 b3)  B10 h18).mono ?_)
          rintro e w23 ⟨rfl, x24⟩
          refine CallK.ret ?_
          have t25 := Tr.of_ext (O := (Ins O0 b3)) x24 (fun _ _ h => h.elim)
          have B27 := B10.ext x24
          have X26 := X9.step x24 (fun _ _ h => h.elim)
          refine OW.done (TW.seq (TW.region ?_))
          have hb28 := (hb5.keep x24 (fun h => h))
          refine OW.loadN rfl rfl rfl rfl shp_24 rfl hb28 (vs := [Value.int .i64 p0.gKind, Value.int .i64 p0.gNum, Value.string ⟨List.toArray p0.gText⟩, v1]) rfl rfl ?_
          have h29 := h18.tr t25
          have h30 := h2.tr (t8.trans t25)
          obtain ⟨y31, hy32, hm⟩ := bnd hm
          refine OW.call rfl rfl rfl rfl rfl rfl Tryd.call36 ((C.cbor_fields _ _ hy32 _ (Ins O0 b3) _ B27 h29 (T_api_Cbor.shut (x := p0) h30)).mono ?_)
          rintro e w33 ⟨rfl, x34⟩
          refine CallK.ret ?_
          have t35 := Tr.of_ext (O := (Ins O0 b3)) x34 (fun _ _ h => h.elim)
          have B37 := B27.ext x34
          have X36 := X26.step x34 (fun _ _ h => h.elim)
          have hb38 := (hb28.keep x34 (fun h => h))
          have h39 := h29.tr t35
          obtain ⟨y40, hy41, hm⟩ := bnd hm
          rcases y40 with a42 | pv43
          · dsimp only at hm
            refine OW.call rfl rfl rfl rfl rfl rfl Tryd.call30 ((C.cbor_must _ _ _ hy41 _ (Ins O0 b3)  B37 h39).mono ?_)
            rintro e w44 ⟨rfl, x45⟩
            refine CallK.ret ?_
            have t46 := Tr.of_ext (O := (Ins O0 b3)) x45 (fun _ _ h => h.elim)
            have B48 := B37.ext x45
            have X47 := X36.step x45 (fun _ _ h => h.elim)
            refine OW.done (TW.seq (TW.seq (TW.region ?_)))
            refine OW.fieldAddr rfl rfl rfl rfl fld_24_0 rfl ?_
            have hb49 := (hb38.keep x45 (fun h => h))
            refine OW.load1 rfl rfl rfl rfl shp_3 rfl hb49 rfl ?_
            refine OW.binI rfl rfl rfl rfl rfl rfl rfl ?_
            refine OW.done ?_
            refine TW.blk (fun K => ∀ (_ : Unit), M.cbor_checked_k1 (fuel + 1) (M.cbor_checked fuel) p1 p0 = some r → ∀ (w50 : World) (O51 : Nat → Prop), Bd O51 w50 → Glob w50 O51 → Ext Nowhere w0 w50 → (∀ x, O0 x → O51 x) → (O51 b3) → (RD w50 O51 (D.sl 24 4 (p0.gList.map T_api_Cbor.enc)) v1) → (BoxAt w50 b3 24 [Value.int .i64 p0.gKind, Value.int .i64 p0.gNum, Value.string ⟨List.toArray p0.gText⟩, v1]) →  K [(1, Value.int .i64 p1), (2, Value.pointer (some ⟨b3, 0, none⟩))] w50) ?_ ?_
            · intro _ hm w50 O51 B52 G55 X53 lf54 m56 h57 hb58
              unfold M.cbor_checked_k1 at hm
              refine TW.seq (TW.region ?_)
              refine OW.fieldAddr rfl rfl rfl rfl fld_24_3 rfl ?_
              refine OW.load1 rfl rfl rfl rfl shp_22 rfl hb58 rfl ?_
              refine OW.lenV rfl rfl rfl rfl Tryd.underlying22 rfl (RD.len' h57) ?_
              refine OW.move rfl rfl rfl rfl rfl ?_
              refine OW.done (TW.block ?_)
              refine TW.lp (fun K => ∀ (x67 : Int), M.cbor_checked_k2 (fuel + 1) (M.cbor_checked fuel) p1 p0 x67 = some r → ∀ (w60 : World) (O61 : Nat → Prop), Bd O61 w60 → Glob w60 O61 → Ext Nowhere w0 w60 → (∀ x, O0 x → O61 x) → (RD w60 O61 (D.sl 24 4 (p0.gList.map T_api_Cbor.enc)) v1) →  K [(1, Value.int .i64 p1), (56, v1), (57, Value.int .i64 (p0.gList.length : Int)), (58, Value.int .i64 x67)] w60) ?_ ?_
              · intro K hin68 hout69
                refine fun x67 hm => M.cbor_checked_k2.partial_correctness (fuel + 1) (M.cbor_checked fuel) p1 p0 (fun x67 r118 => r118 = r → ∀ (w60 : World) (O61 : Nat → Prop), Bd O61 w60 → Glob w60 O61 → Ext Nowhere w0 w60 → (∀ x, O0 x → O61 x) → (RD w60 O61 (D.sl 24 4 (p0.gList.map T_api_Cbor.enc)) v1) →  K [(1, Value.int .i64 p1), (56, v1), (57, Value.int .i64 (p0.gList.length : Int)), (58, Value.int .i64 x67)] w60) ?_ x67 r hm rfl
                intro self ih70 x67 r118 hm hr119 w60 O61 B62 G65 X63 lf64 h66
                rw [hr119] at hm
                refine hin68 _ _ ?_
                refine TW.seq (TW.region ?_)
                refine OW.binI rfl rfl rfl rfl rfl rfl rfl ?_
                refine OW.done (TW.seq ?_)
                refine TW.cond rfl (fun c71 => ?_) (fun c71 => ?_)
                · have hm := ite_t c71 hm
                  refine TW.skip (TW.seq (TW.block (TW.seq (TW.region ?_))))
                  obtain ⟨x72, h73, hm⟩ := bnd hm
                  obtain ⟨j74, hj75, hc76⟩ := ix_some h73
                  obtain ⟨b77, q78, cap79, hv80, hlt81, cs82, hl83, hcc84, hr85⟩ := RD.elem' h66 hc76
                  obtain ⟨v86, rfl, h87⟩ := T_api_Cbor.opn hr85
                  refine OW.indexAddrV rfl rfl rfl rfl Tryd.underlying22 shp_24 rfl hv80 rfl hj75 hlt81 ?_
                  refine OW.loadCs rfl rfl rfl rfl shp_24 rfl rfl hcc84.at_ ?_
                  refine OW.alloc rfl rfl rfl rfl zer_24 (cs := [Value.int .i64 0, Value.int .i64 0, Value.string ⟨List.toArray ([] : List UInt8)⟩, Value.slice none 0 0]) rfl ?_
                  intro b88 w89 hb90 x91 l92
                  have t93 := Tr.of_new (O := O61) x91 (fun _ _ h => h.elim) l92
                  have B95 := (B62.ext x91).ins hb90.lt
                  have X94 := X63.step x91 (fun _ _ h => h.elim)
                  have g96 : w0.heap.size ≤ b88 := Nat.le_trans X63.size l92
                  refine OW.store rfl rfl rfl shp_24 rfl rfl (vs := [Value.int .i64 x72.gKind, Value.int .i64 x72.gNum, Value.string ⟨List.toArray x72.gText⟩, v86]) rfl rfl hb90 rfl (one_cons rfl (one_cons rfl (one_cons rfl (one_cons (RD.one _ _ h87) one_nil)))) (cs' := [Value.int .i64 x72.gKind, Value.int .i64 x72.gNum, Value.string ⟨List.toArray x72.gText⟩, v86]) rfl ?_
                  intro w97 hb98 x99
                  have t100 := Tr.of_ext (O := (Ins O61 b88)) x99 (fun _ _ h => by cases h; exact (Or.inl rfl))
                  have B102 := B95.ext x99
                  have X101 := X94.step x99 (fun y hy h => absurd hy (by cases h; have := g96; omega))
                  refine OW.done (TW.region ?_)
                  refine OW.loadN rfl rfl rfl rfl shp_24 rfl hb98 (vs := [Value.int .i64 x72.gKind, Value.int .i64 x72.gNum, Value.string ⟨List.toArray x72.gText⟩, v86]) rfl rfl ?_
                  refine OW.move rfl rfl rfl rfl rfl ?_
                  refine OW.binI rfl rfl rfl rfl rfl rfl rfl ?_
                  have h103 := G65.tr (t93.trans t100)
                  have h104 := h87.tr (t93.trans t100)
                  obtain ⟨y105, hy106, hm⟩ := bnd hm
                  rcases y105 with a107 | pv108
                  · dsimp only at hm
                    refine OW.call rfl rfl rfl rfl rfl rfl Tryd.call27 ((ih _ _ _ hy106 _ (Ins O61 b88) _ B102 h103 (T_api_Cbor.shut (x := x72) h104)).mono ?_)
                    rintro e w109 ⟨rfl, x110⟩
                    refine CallK.ret ?_
                    have t111 := Tr.of_ext (O := (Ins O61 b88)) x110 (fun _ _ h => h.elim)
                    have B113 := B102.ext x110
                    have X112 := X101.step x110 (fun _ _ h => h.elim)
                    refine OW.done (TW.inBlock (TW.region ?_))
                    refine OW.binI rfl rfl rfl rfl rfl rfl rfl ?_
                    refine OW.move rfl rfl rfl rfl rfl ?_
                    refine OW.done ?_
                    have h114 := h66.tr (t93.trans (t100.trans t111))
                    have h115 := h103.tr t111
                    exact TW.sub (Sub.cons rfl (Sub.cons rfl (Sub.cons rfl (Sub.cons rfl Sub.nil)))) (hout69 _ _ (ih70 (IntKind.wrap .i64 (x67 + 1)) _ hm rfl w109 (Ins O61 b88) B113 h115 X112 (fun x h => (Or.inr (lf64 _ h))) h114))
                  · dsimp only at hm
                    cases hm
                    refine OW.call rfl rfl rfl rfl rfl rfl Tryd.call27 ((ih _ _ _ hy106 _ (Ins O61 b88) _ B102 h103 (T_api_Cbor.shut (x := x72) h104)).mono ?_)
                    rintro e w116 ⟨rfl, x117⟩
                    exact CallK.pan ⟨rfl, X101.step x117 (fun _ _ h => h.elim)⟩
                · have hm := ite_f c71 hm
                  refine TW.exit rfl ?_
                  cases hm
                  exact TW.fin (Out.unit rfl) ⟨rfl, X63⟩
              · intro key120
                exact TW.sub (Sub.cons rfl (Sub.cons rfl (Sub.cons rfl (Sub.cons rfl Sub.nil)))) (key120 0 hm w50 O51 B52 G55 X53 (fun x h => (lf54 _ h)) h57)
            · intro key59
              refine TW.cond rfl (fun c121 => ?_) (fun c121 => ?_)
              · have hm := ite_t c121 hm
                refine TW.seq (TW.region ?_)
                refine OW.fieldAddr rfl rfl rfl rfl fld_24_3 rfl ?_
                refine OW.load1 rfl rfl rfl rfl shp_22 rfl hb49 rfl ?_
                have h122 := h30.tr (t35.trans t46)
                refine OW.lenV rfl rfl rfl rfl Tryd.underlying22 rfl (RD.len' h122) ?_
                refine OW.quoI rfl rfl rfl rfl rfl rfl (by decide) rfl ?_
                refine OW.binI rfl rfl rfl rfl rfl rfl rfl ?_
                have h123 := h39.tr t46
                obtain ⟨y124, hy125, hm⟩ := bnd hm
                rcases y124 with a126 | pv127
                · dsimp only at hm
                  refine OW.call rfl rfl rfl rfl rfl rfl Tryd.call30 ((C.cbor_must _ _ _ hy125 _ (Ins O0 b3)  B48 h123).mono ?_)
                  rintro e w128 ⟨rfl, x129⟩
                  refine CallK.ret ?_
                  have t130 := Tr.of_ext (O := (Ins O0 b3)) x129 (fun _ _ h => h.elim)
                  have B132 := B48.ext x129
                  have X131 := X47.step x129 (fun _ _ h => h.elim)
                  refine OW.done (TW.seq (TW.region ?_))
                  refine OW.assign rfl rfl rfl rfl rfl ?_
                  refine OW.done (TW.seq (TW.region ?_))
                  refine OW.assign rfl rfl rfl rfl rfl ?_
                  refine OW.done (TW.block ?_)
                  refine TW.lp (fun K => ∀ (x142 : List UInt8) (x143 : Int), M.cbor_checked_k3 (fuel + 1) (M.cbor_checked fuel) p1 p0 x142 x143 = some r → ∀ (w133 : World) (O134 : Nat → Prop), Bd O134 w133 → Glob w133 O134 → Ext Nowhere w0 w133 → (∀ x, O0 x → O134 x) → (O134 b3) → (RD w133 O134 (D.sl 24 4 (p0.gList.map T_api_Cbor.enc)) v1) → (BoxAt w133 b3 24 [Value.int .i64 p0.gKind, Value.int .i64 p0.gNum, Value.string ⟨List.toArray p0.gText⟩, v1]) →  K [(1, Value.int .i64 p1), (2, Value.pointer (some ⟨b3, 0, none⟩)), (4, Value.string ⟨List.toArray x142⟩), (5, Value.int .i64 x143)] w133) ?_ ?_
                  · intro K hin144 hout145
                    refine fun x142 x143 hm => M.cbor_checked_k3.partial_correctness (fuel + 1) (M.cbor_checked fuel) p1 p0 (fun x142 x143 r187 => r187 = r → ∀ (w133 : World) (O134 : Nat → Prop), Bd O134 w133 → Glob w133 O134 → Ext Nowhere w0 w133 → (∀ x, O0 x → O134 x) → (O134 b3) → (RD w133 O134 (D.sl 24 4 (p0.gList.map T_api_Cbor.enc)) v1) → (BoxAt w133 b3 24 [Value.int .i64 p0.gKind, Value.int .i64 p0.gNum, Value.string ⟨List.toArray p0.gText⟩, v1]) →  K [(1, Value.int .i64 p1), (2, Value.pointer (some ⟨b3, 0, none⟩)), (4, Value.string ⟨List.toArray x142⟩), (5, Value.int .i64 x143)] w133) ?_ x142 x143 r hm rfl
                    intro self ih146 x142 x143 r187 hm hr188 w133 O134 B135 G138 X136 lf137 m139 h140 hb141
                    rw [hr188] at hm
                    refine hin144 _ _ ?_
                    refine TW.seq (TW.seq (TW.region ?_))
                    refine OW.move rfl rfl rfl rfl rfl ?_
                    refine OW.fieldAddr rfl rfl rfl rfl fld_24_3 rfl ?_
                    refine OW.load1 rfl rfl rfl rfl shp_22 rfl hb141 rfl ?_
                    refine OW.lenV rfl rfl rfl rfl Tryd.underlying22 rfl (RD.len' h140) ?_
                    refine OW.binI rfl rfl rfl rfl rfl rfl rfl ?_
                    refine OW.done ?_
                    refine TW.cond rfl (fun c147 => ?_) (fun c147 => ?_)
                    · have hm := ite_t c147 hm
                      refine TW.skip (TW.seq (TW.block (TW.seq (TW.region ?_))))
                      refine OW.fieldAddr rfl rfl rfl rfl fld_24_3 rfl ?_
                      refine OW.load1 rfl rfl rfl rfl shp_22 rfl hb141 rfl ?_
                      refine OW.move rfl rfl rfl rfl rfl ?_
                      obtain ⟨x148, h149, hm⟩ := bnd hm
                      obtain ⟨j150, hj151, hc152⟩ := ix_some h149
                      obtain ⟨b153, q154, cap155, hv156, hlt157, cs158, hl159, hcc160, hr161⟩ := RD.elem' h140 hc152
                      obtain ⟨v162, rfl, h163⟩ := T_api_Cbor.opn hr161
                      refine OW.indexAddrV rfl rfl rfl rfl Tryd.underlying22 shp_24 rfl hv156 rfl hj151 hlt157 ?_
                      refine OW.loadCs rfl rfl rfl rfl shp_24 rfl rfl hcc160.at_ ?_
                      refine OW.move rfl rfl rfl rfl rfl ?_
                      obtain ⟨y164, hy165, hm⟩ := bnd hm
                      refine OW.call rfl rfl rfl rfl rfl rfl Tryd.call32 ((C.cbor_key _ _ _ _ hy165 _ O134 _ B135 G138 (T_api_Cbor.shut (x := x148) h163)).mono ?_)
                      rintro e w166 ⟨rfl, x167⟩
                      refine CallK.ret ?_
                      have t168 := Tr.of_ext (O := O134) x167 (fun _ _ h => h.elim)
                      have B170 := B135.ext x167
                      have X169 := X136.step x167 (fun _ _ h => h.elim)
                      refine OW.move rfl rfl rfl rfl rfl ?_
                      refine OW.extract rfl rfl rfl rfl rfl rfl ?_
                      refine OW.extract rfl rfl rfl rfl rfl rfl ?_
                      refine OW.assign rfl rfl rfl rfl rfl ?_
                      refine OW.assign rfl rfl rfl rfl rfl ?_
                      refine OW.done (TW.seq (TW.region ?_))
                      refine OW.move rfl rfl rfl rfl rfl ?_
                      have hb171 := (hb141.keep x167 (fun h => h))
                      have h172 := G138.tr t168
                      obtain ⟨y173, hy174, hm⟩ := bnd hm
                      rcases y173 with a175 | pv176
                      · dsimp only at hm
                        refine OW.call rfl rfl rfl rfl rfl rfl Tryd.call30 ((C.cbor_must _ _ _ hy174 _ O134  B170 h172).mono ?_)
                        rintro e w177 ⟨rfl, x178⟩
                        refine CallK.ret ?_
                        have t179 := Tr.of_ext (O := O134) x178 (fun _ _ h => h.elim)
                        have B181 := B170.ext x178
                        have X180 := X169.step x178 (fun _ _ h => h.elim)
                        refine OW.done (TW.region ?_)
                        refine OW.move rfl rfl rfl rfl rfl ?_
                        refine OW.assign rfl rfl rfl rfl rfl ?_
                        refine OW.done (TW.inBlock (TW.region ?_))
                        refine OW.move rfl rfl rfl rfl rfl ?_
                        refine OW.binI rfl rfl rfl rfl rfl rfl rfl ?_
                        refine OW.assign rfl rfl rfl rfl rfl ?_
                        refine OW.done ?_
                        have h182 := h140.tr (t168.trans t179)
                        have hb183 := (hb171.keep x178 (fun h => h))
                        have h184 := h172.tr t179
                        exact TW.sub (Sub.cons rfl (Sub.cons rfl (Sub.cons rfl (Sub.cons rfl Sub.nil)))) (hout145 _ _ (ih146 y164.1 (IntKind.wrap .i64 (x143 + 2)) _ hm rfl w177 O134 B181 h184 X180 (fun x h => (lf137 _ h)) m139 h182 hb183))
                      · dsimp only at hm
                        cases hm
                        refine OW.call rfl rfl rfl rfl rfl rfl Tryd.call30 ((C.cbor_must _ _ _ hy174 _ O134  B170 h172).mono ?_)
                        rintro e w185 ⟨rfl, x186⟩
                        exact CallK.pan ⟨rfl, X169.step x186 (fun _ _ h => h.elim)⟩
                    · have hm := ite_f c147 hm
                      refine TW.exit rfl ?_
                      exact TW.sub (Sub.cons rfl (Sub.cons rfl Sub.nil)) (key59 () hm w133 O134 B135 G138 X136 (fun x h => (lf137 _ h)) m139 h140 hb141)
                  · intro key189
                    have h190 := h122.tr t130
                    have hb191 := (hb49.keep x129 (fun h => h))
                    have h192 := h123.tr t130
                    exact TW.sub (Sub.cons rfl (Sub.cons rfl (Sub.cons rfl (Sub.cons rfl Sub.nil)))) (key189 ([] : List UInt8) 0 hm w128 (Ins O0 b3) B132 h192 X131 (fun x h => (Or.inr h)) (Or.inl rfl) h190 hb191)
                · dsimp only at hm
                  cases hm
                  refine OW.call rfl rfl rfl rfl rfl rfl Tryd.call30 ((C.cbor_must _ _ _ hy125 _ (Ins O0 b3)  B48 h123).mono ?_)
                  rintro e w193 ⟨rfl, x194⟩
                  exact CallK.pan ⟨rfl, X47.step x194 (fun _ _ h => h.elim)⟩
              · have hm := ite_f c121 hm
                refine TW.skip ?_
                have h195 := h30.tr (t35.trans t46)
                have h196 := h39.tr t46
                exact TW.sub (Sub.cons rfl (Sub.cons rfl Sub.nil)) (key59 () hm w44 (Ins O0 b3) B48 h196 X47 (fun x h => (Or.inr h)) (Or.inl rfl) h195 hb49)
          · dsimp only at hm
            cases hm
            refine OW.call rfl rfl rfl rfl rfl rfl Tryd.call30 ((C.cbor_must _ _ _ hy41 _ (Ins O0 b3)  B37 h39).mono ?_)
            rintro e w197 ⟨rfl, x198⟩
            exact CallK.pan ⟨rfl, X36.step x198 (fun _ _ h => h.elim)⟩
        · dsimp only at hm
          cases hm
          refine OW.call rfl rfl rfl rfl rfl rfl Tryd.call30 ((C.cbor_must _ _ _ hy20 _ (Ins O0 b3)  B10 h18).mono ?_)
          rintro e w199 ⟨rfl, x200⟩
          exact CallK.pan ⟨rfl, X9.step x200 (fun _ _ h => h.elim)⟩
      · intro key17
        cases c16 : ((!decide (p0.gKind = 3)) && (!decide (p0.gKind = 4)))
        · try simp only [c16] at key17
          refine OW.yes rfl rfl rfl ?_
          refine OW.move rfl rfl rfl rfl rfl ?_
          refine OW.yes rfl rfl rfl ?_
          refine OW.binI rfl rfl rfl rfl rfl rfl rfl ?_
          refine OW.pick_f rfl rfl rfl rfl rfl rfl ?_
          exact OW.sub (Sub.cons rfl (Sub.cons rfl (Sub.cons rfl (Sub.cons rfl (Sub.cons rfl (Sub.cons rfl (Sub.cons rfl (Sub.cons rfl (Sub.cons rfl Sub.nil))))))))) key17
        · try simp only [c16] at key17
          refine OW.not rfl rfl rfl rfl rfl rfl ?_
          refine OW.not rfl rfl rfl rfl rfl rfl ?_
          refine OW.pick_t rfl rfl rfl rfl rfl rfl ?_
          exact OW.sub (Sub.cons rfl (Sub.cons rfl (Sub.cons rfl (Sub.cons rfl (Sub.cons rfl (Sub.cons rfl (Sub.cons rfl (Sub.cons rfl (Sub.cons rfl Sub.nil))))))))) key17
    · intro key14
      cases c13 : (!decide (p0.gKind = 3))
      · try simp only [c13] at key14
        refine OW.not rfl rfl rfl rfl rfl rfl ?_
        refine OW.not rfl rfl rfl rfl rfl rfl ?_
        refine OW.not rfl rfl rfl rfl rfl rfl ?_
        refine OW.pick_f rfl rfl rfl rfl rfl rfl ?_
        exact OW.sub (Sub.cons rfl (Sub.cons rfl (Sub.cons rfl (Sub.cons rfl (Sub.cons rfl (Sub.cons rfl (Sub.cons rfl Sub.nil))))))) key14
      · try simp only [c13] at key14
        refine OW.yes rfl rfl rfl ?_
        refine OW.fieldAddr rfl rfl rfl rfl fld_24_0 rfl ?_
        refine OW.yes rfl rfl rfl ?_
        refine OW.load1 rfl rfl rfl rfl shp_3 rfl hb5 rfl ?_
        refine OW.yes rfl rfl rfl ?_
        refine OW.binI rfl rfl rfl rfl rfl rfl rfl ?_
        refine OW.pick_t rfl rfl rfl rfl rfl rfl ?_
        exact OW.sub (Sub.cons rfl (Sub.cons rfl (Sub.cons rfl (Sub.cons rfl (Sub.cons rfl (Sub.cons rfl (Sub.cons rfl Sub.nil))))))) key14
set_option maxRecDepth 1000000 in
set_option maxHeartbeats 4000000 in
theorem C.cbor_Check (fuel : Nat) : ∀ (p0 : T_api_Cbor) (r : Int), M.cbor_Check fuel p0 = some r → ∀ (w0 : World) (O0 : Nat → Prop) (cs0 : List Value) (B0 : Bd O0 w0) (G0 : Glob w0 O0) (h0 : RDs w0 O0 (T_api_Cbor.enc p0) cs0), Calls Tryd.prog 16 (List.toArray [Value.agg cs0.toArray]) w0 (fun e w' => e = .returned (Value.int .i64 r) ∧ Ext Nowhere w0 w') := by
  intro p0 r hm w0 O0 cs0 B0 G0 h0
  refine calls_ofD Tryd.func16 rfl 5 rfl rfl ?_
  unfold M.cbor_Check at hm
  have X0 := Ext.refl Nowhere w0
  obtain ⟨v1, rfl, h2⟩ := T_api_Cbor.opn h0
  refine TW.seq (TW.region ?_)
  refine OW.box rfl rfl rfl rfl rfl (cs := [Value.int .i64 p0.gKind, Value.int .i64 p0.gNum, Value.string ⟨List.toArray p0.gText⟩, v1]) rfl ?_
  intro b3 w4 hb5 x6 l7
  have t8 := Tr.of_new (O := O0) x6 (fun _ _ h => h.elim) l7
  have B10 := (B0.ext x6).ins hb5.lt
  have X9 := X0.step x6 (fun _ _ h => h.elim)
  have g11 : w0.heap.size ≤ b3 := Nat.le_trans X0.size l7
  refine OW.alloc rfl rfl rfl rfl zer_25 (cs := [Value.int .i64 0]) rfl ?_
  intro b12 w13 hb14 x15 l16
  have t17 := Tr.of_new (O := (Ins O0 b3)) x15 (fun _ _ h => h.elim) l16
  have B19 := (B10.ext x15).ins hb14.lt
  have X18 := X9.step x15 (fun _ _ h => h.elim)
  have g20 : w0.heap.size ≤ b12 := Nat.le_trans X9.size l16
  have n21 : b3 ≠ b12 := by have := hb5.lt; omega
  refine OW.done (TW.seq (TW.deferR rfl rfl rfl rfl rfl ?_))
  refine TW.seq (TW.region ?_)
  have hb22 := (hb5.keep x15 (fun h => h))
  refine OW.loadN rfl rfl rfl rfl shp_24 rfl hb22 (vs := [Value.int .i64 p0.gKind, Value.int .i64 p0.gNum, Value.string ⟨List.toArray p0.gText⟩, v1]) rfl rfl ?_
  have h23 := G0.tr (t8.trans t17)
  have h24 := h2.tr (t8.trans t17)
  obtain ⟨y25, hy26, hm⟩ := bnd hm
  rcases y25 with a27 | pv28
  · dsimp only at hm
    refine OW.call rfl rfl rfl rfl rfl rfl Tryd.call27 ((C.cbor_checked _ _ _ _ hy26 _ (Ins (Ins O0 b3) b12) _ B19 h23 (T_api_Cbor.shut (x := p0) h24)).mono ?_)
    rintro e w46 ⟨rfl, x47⟩
    refine CallK.ret ?_
    have t48 := Tr.of_ext (O := (Ins (Ins O0 b3) b12)) x47 (fun _ _ h => h.elim)
    have B50 := B19.ext x47
    have X49 := X18.step x47 (fun _ _ h => h.elim)
    refine OW.done (TW.seq (TW.region ?_))
    have hb51 := (hb14.keep x47 (fun h => h))
    have hb52 := (hb22.keep x47 (fun h => h))
    refine OW.store rfl rfl rfl shp_25 rfl rfl (vs := [Value.int .i64 0]) rfl rfl hb51 rfl (one_cons rfl one_nil) (cs' := [Value.int .i64 0]) rfl ?_
    intro w53 hb54 x55
    have t56 := Tr.of_ext (O := (Ins (Ins O0 b3) b12)) x55 (fun _ _ h => by cases h; exact (Or.inl rfl))
    have B58 := B50.ext x55
    have X57 := X49.step x55 (fun y hy h => absurd hy (by cases h; have := g20; omega))
    refine OW.done ?_
    have hb59 := (hb52.keep x55 n21)
    refine TW.retD rfl (LV.ret2 Tryd.call17 (C.caught_ret _ _) ?_)
    intro w60 x61
    have t62 := Tr.of_ext (O := (Ins (Ins O0 b3) b12)) x61 (fun _ _ h => h.elim)
    have B64 := B58.ext x61
    have X63 := X57.step x61 (fun _ _ h => h.elim)
    have hb65 := (hb54.keep x61 (fun h => h))
    cases hm
    exact ⟨_, (Out.single rfl ⟨_, _, _, _, _, rfl, shp_25, hb65, rfl, rfl⟩), ⟨rfl, X63⟩⟩
  · dsimp only at hm
    obtain ⟨e29, he30, hm⟩ := bnd hm
    have hv31 := asErr_some he30
    subst hv31
    refine OW.call rfl rfl rfl rfl rfl rfl Tryd.call27 ((C.cbor_checked _ _ _ _ hy26 _ (Ins (Ins O0 b3) b12) _ B19 h23 (T_api_Cbor.shut (x := p0) h24)).mono ?_)
    rintro e w32 ⟨rfl, x33⟩
    have t34 := Tr.of_ext (O := (Ins (Ins O0 b3) b12)) x33 (fun _ _ h => h.elim)
    have B36 := B19.ext x33
    have X35 := X18.step x33 (fun _ _ h => h.elim)
    have hb37 := (hb14.keep x33 (fun h => h))
    have h38 := h23.tr t34
    have hb39 := (hb22.keep x33 (fun h => h))
    refine CallK.panD rfl rfl (LV.pan2 _ Tryd.call17 (C.caught_pan _ _ _ _ hb37) ?_)
    rintro w40 ⟨hb41, x42⟩
    have t43 := Tr.of_ext (O := (Ins (Ins O0 b3) b12)) x42 (fun _ _ h => by cases h; exact (Or.inl rfl))
    have B45 := B36.ext x42
    have X44 := X35.step x42 (fun y hy h => absurd hy (by cases h; have := g20; omega))
    cases hm
    exact ⟨_, (Out.single rfl ⟨_, _, _, _, _, rfl, shp_25, hb41, rfl, rfl⟩), ⟨rfl, X44⟩⟩
set_option maxRecDepth 1000000 in
set_option maxHeartbeats 4000000 in
theorem C.cbor_Encode (fuel : Nat) : ∀ (p0 : T_api_Cbor) (r : (List UInt8) × Int), M.cbor_Encode fuel p0 = some r → ∀ (w0 : World) (O0 : Nat → Prop) (cs0 : List Value) (B0 : Bd O0 w0) (G0 : Glob w0 O0) (h0 : RDs w0 O0 (T_api_Cbor.enc p0) cs0), Calls Tryd.prog 15 (List.toArray [Value.agg cs0.toArray]) w0 (fun e w' => e = .returned (Value.tuple (List.toArray [Value.string ⟨List.toArray r.1⟩, Value.int .i64 r.2])) ∧ Ext Nowhere w0 w') := by
  intro p0 r hm w0 O0 cs0 B0 G0 h0
  refine calls_of Tryd.func15 rfl 17 rfl rfl ?_
  unfold M.cbor_Encode at hm
  have X0 := Ext.refl Nowhere w0
  obtain ⟨v1, rfl, h2⟩ := T_api_Cbor.opn h0
  refine TW.seq (TW.region ?_)
  refine OW.box rfl rfl rfl rfl rfl (cs := [Value.int .i64 p0.gKind, Value.int .i64 p0.gNum, Value.string ⟨List.toArray p0.gText⟩, v1]) rfl ?_
  intro b3 w4 hb5 x6 l7
  have t8 := Tr.of_new (O := O0) x6 (fun _ _ h => h.elim) l7
  have B10 := (B0.ext x6).ins hb5.lt
  have X9 := X0.step x6 (fun _ _ h => h.elim)
  have g11 : w0.heap.size ≤ b3 := Nat.le_trans X0.size l7
  refine OW.assign rfl rfl rfl rfl rfl ?_
  refine OW.assign rfl rfl rfl rfl rfl ?_
  refine OW.done (TW.seq (TW.seq (TW.region ?_)))
  refine OW.loadN rfl rfl rfl rfl shp_24 rfl hb5 (vs := [Value.int .i64 p0.gKind, Value.int .i64 p0.gNum, Value.string ⟨List.toArray p0.gText⟩, v1]) rfl rfl ?_
  have h12 := G0.tr t8
  have h13 := h2.tr t8
  obtain ⟨y14, hy15, hm⟩ := bnd hm
  refine OW.call rfl rfl rfl rfl rfl rfl Tryd.call16 ((C.cbor_Check _ _ _ hy15 _ (Ins O0 b3) _ B10 h12 (T_api_Cbor.shut (x := p0) h13)).mono ?_)
  rintro e w16 ⟨rfl, x17⟩
  refine CallK.ret ?_
  have t18 := Tr.of_ext (O := (Ins O0 b3)) x17 (fun _ _ h => h.elim)
  have B20 := B10.ext x17
  have X19 := X9.step x17 (fun _ _ h => h.elim)
  refine OW.assign rfl rfl rfl rfl rfl ?_
  refine OW.done (TW.seq (TW.region ?_))
  refine OW.move rfl rfl rfl rfl rfl ?_
  refine OW.binI rfl rfl rfl rfl rfl rfl rfl ?_
  refine OW.done ?_
  refine TW.cond rfl (fun c21 => ?_) (fun c21 => ?_)
  · have hm := ite_t c21 hm
    refine TW.seq (TW.region ?_)
    refine OW.move rfl rfl rfl rfl rfl ?_
    refine OW.assign rfl rfl rfl rfl rfl ?_
    refine OW.assign rfl rfl rfl rfl rfl ?_
    refine OW.done ?_
    cases hm
    exact TW.ret (Out.many rfl ⟨_, _, rfl, rfl, ⟨_, _, rfl, rfl, rfl⟩⟩ rfl) ⟨rfl, X19⟩
  · have hm := ite_f c21 hm
    refine TW.skip (TW.seq (TW.region ?_))
    have hb22 := (hb5.keep x17 (fun h => h))
    refine OW.loadN rfl rfl rfl rfl shp_24 rfl hb22 (vs := [Value.int .i64 p0.gKind, Value.int .i64 p0.gNum, Value.string ⟨List.toArray p0.gText⟩, v1]) rfl rfl ?_
    have h23 := h12.tr t18
    have h24 := h13.tr t18
    obtain ⟨y25, hy26, hm⟩ := bnd hm
    refine OW.call rfl rfl rfl rfl rfl rfl Tryd.call26 ((C.cbor_told _ _ _ hy26 _ (Ins O0 b3) _ B20 h23 (T_api_Cbor.shut (x := p0) h24)).mono ?_)
    rintro e w27 ⟨rfl, x28⟩
    refine CallK.ret ?_
    have t29 := Tr.of_ext (O := (Ins O0 b3)) x28 (fun _ _ h => h.elim)
    have B31 := B20.ext x28
    have X30 := X19.step x28 (fun _ _ h => h.elim)
    refine OW.assign rfl rfl rfl rfl rfl ?_
    refine OW.done (TW.seq (TW.seq (TW.region ?_)))
    refine OW.move rfl rfl rfl rfl rfl ?_
    refine OW.lenS rfl rfl rfl rfl Tryd.underlying9 rfl ?_
    refine OW.binI rfl rfl rfl rfl rfl rfl rfl ?_
    refine OW.done ?_
    refine TW.cond rfl (fun c32 => ?_) (fun c32 => ?_)
    · have hm := ite_t c32 hm
      refine TW.seq (TW.region ?_)
      refine OW.assign rfl rfl rfl rfl rfl ?_
      refine OW.assign rfl rfl rfl rfl rfl ?_
      refine OW.done ?_
      cases hm
      exact TW.ret (Out.many rfl ⟨_, _, rfl, rfl, ⟨_, _, rfl, rfl, rfl⟩⟩ rfl) ⟨rfl, X30⟩
    · have hm := ite_f c32 hm
      refine TW.skip (TW.seq (TW.region ?_))
      refine OW.move rfl rfl rfl rfl rfl ?_
      refine OW.assign rfl rfl rfl rfl rfl ?_
      refine OW.assign rfl rfl rfl rfl rfl ?_
      refine OW.done ?_
      cases hm
      exact TW.ret (Out.many rfl ⟨_, _, rfl, rfl, ⟨_, _, rfl, rfl, rfl⟩⟩ rfl) ⟨rfl, X30⟩
set_option maxRecDepth 1000000 in
set_option maxHeartbeats 4000000 in
theorem C.cbor_ByInt_1 : ∀ (p0 : T_api_Cbor) (p1 : Int) (r : Bool), M.cbor_ByInt_1 p0 p1 = some r → ∀ (w0 : World) (O0 : Nat → Prop) (cs0 : List Value) (b1 : Nat) (B0 : Bd O0 w0) (G0 : Glob w0 O0) (h0 : RDs w0 O0 (T_api_Cbor.enc p0) cs0) (hb1 : CAt w0 O0 b1 3 [Value.int .i64 p1]), Calls Tryd.prog 23 (List.toArray [Value.agg cs0.toArray, Value.pointer (some ⟨b1, 0, none⟩)]) w0 (fun e w' => e = .returned (Value.bool r) ∧ Ext Nowhere w0 w') := by
  intro p0 p1 r hm w0 O0 cs0 b1 B0 G0 h0 hb1
  refine calls_of Tryd.func23 rfl 13 rfl rfl ?_
  unfold M.cbor_ByInt_1 at hm
  have X0 := Ext.refl Nowhere w0
  obtain ⟨v1, rfl, h2⟩ := T_api_Cbor.opn h0
  refine TW.seq (TW.region ?_)
  refine OW.box rfl rfl rfl rfl rfl (cs := [Value.int .i64 p0.gKind, Value.int .i64 p0.gNum, Value.string ⟨List.toArray p0.gText⟩, v1]) rfl ?_
  intro b3 w4 hb5 x6 l7
  have t8 := Tr.of_new (O := O0) x6 (fun _ _ h => h.elim) l7
  have B10 := (B0.ext x6).ins hb5.lt
  have X9 := X0.step x6 (fun _ _ h => h.elim)
  have g11 : w0.heap.size ≤ b3 := Nat.le_trans X0.size l7
  refine OW.assign rfl rfl rfl rfl rfl ?_
  refine OW.done (TW.seq (TW.region ?_))
  refine OW.fieldAddr rfl rfl rfl rfl fld_24_0 rfl ?_
  refine OW.load1 rfl rfl rfl rfl shp_3 rfl hb5 rfl ?_
  refine OW.binI rfl rfl rfl rfl rfl rfl rfl ?_
  refine OW.move rfl rfl rfl rfl rfl ?_
  refine OW.blk 5 (fun K => K [(12, Value.bool ((decide (p0.gKind = 0)) && (decide (p0.gNum = p1)))), (1, Value.pointer (some ⟨b1, 0, none⟩)), (2, Value.pointer (some ⟨b3, 0, none⟩)), (3, Value.bool false), (4, Value.pointer (some ⟨b3, 0 + 0, none⟩)), (5, Value.int .i64 p0.gKind), (6, Value.bool (decide (p0.gKind = 0))), (7, Value.bool (decide (p0.gKind = 0)))] w4) ?_ ?_
  · show OW _ _ _ _ _ _ _ _
    refine OW.assign rfl rfl rfl rfl rfl ?_
    refine OW.done ?_
    cases hm
    exact TW.ret (Out.one rfl rfl) ⟨rfl, X9⟩
  · intro key14
    cases c13 : (decide (p0.gKind = 0))
    · try simp only [c13] at key14
      refine OW.not rfl rfl rfl rfl rfl rfl ?_
      refine OW.not rfl rfl rfl rfl rfl rfl ?_
      refine OW.not rfl rfl rfl rfl rfl rfl ?_
      refine OW.not rfl rfl rfl rfl rfl rfl ?_
      refine OW.pick_f rfl rfl rfl rfl rfl rfl ?_
      exact OW.sub (Sub.cons rfl (Sub.cons rfl (Sub.cons rfl (Sub.cons rfl (Sub.cons rfl (Sub.cons rfl (Sub.cons rfl (Sub.cons rfl Sub.nil)))))))) key14
    · try simp only [c13] at key14
      refine OW.yes rfl rfl rfl ?_
      refine OW.fieldAddr rfl rfl rfl rfl fld_24_1 rfl ?_
      refine OW.yes rfl rfl rfl ?_
      refine OW.load1 rfl rfl rfl rfl shp_3 rfl hb5 rfl ?_
      refine OW.yes rfl rfl rfl ?_
      have h15 := hb1.tr t8
      refine OW.load1 rfl rfl rfl rfl shp_3 rfl h15.box rfl ?_
      refine OW.yes rfl rfl rfl ?_
      refine OW.binI rfl rfl rfl rfl rfl rfl rfl ?_
      refine OW.pick_t rfl rfl rfl rfl rfl rfl ?_
      exact OW.sub (Sub.cons rfl (Sub.cons rfl (Sub.cons rfl (Sub.cons rfl (Sub.cons rfl (Sub.cons rfl (Sub.cons rfl (Sub.cons rfl Sub.nil)))))))) key14
set_option maxRecDepth 1000000 in
set_option maxHeartbeats 4000000 in
theorem C.cbor_by : ∀ (p0 : T_api_Cbor) (p1 : T_api_Cbor → Option Bool) (r : T_api_Cbor × Bool), M.cbor_by p0 p1 = some r → ∀ (w0 : World) (O0 : Nat → Prop) (cs0 : List Value) (fid1 : Nat) (fs1 : List Value) (caps1 : List Value) (B0 : Bd O0 w0) (G0 : Glob w0 O0) (h0 : RDs w0 O0 (T_api_Cbor.enc p0) cs0) (hf1 : FT53 w0 O0 p1 fid1 fs1 caps1), Calls Tryd.prog 22 (List.toArray [Value.agg cs0.toArray, Value.func (.func fid1) (List.toArray fs1) (List.toArray caps1)]) w0 (fun e w' => ∃ (us0 : List Value), e = .returned (Value.tuple (List.toArray [Value.agg us0.toArray, Value.bool r.2])) ∧ RDs w' O0 (T_api_Cbor.enc r.1) us0 ∧ Ext Nowhere w0 w') := by
  intro p0 p1 r hm w0 O0 cs0 fid1 fs1 caps1 B0 G0 h0 hf1
  refine calls_of Tryd.func22 rfl 33 rfl rfl ?_
  unfold M.cbor_by at hm
  have X0 := Ext.refl Nowhere w0
  obtain ⟨v1, rfl, h2⟩ := T_api_Cbor.opn h0
  refine TW.seq (TW.region ?_)
  refine OW.box rfl rfl rfl rfl rfl (cs := [Value.int .i64 p0.gKind, Value.int .i64 p0.gNum, Value.string ⟨List.toArray p0.gText⟩, v1]) rfl ?_
  intro b3 w4 hb5 x6 l7
  have t8 := Tr.of_new (O := O0) x6 (fun _ _ h => h.elim) l7
  have B10 := (B0.ext x6).ins hb5.lt
  have X9 := X0.step x6 (fun _ _ h => h.elim)
  have g11 : w0.heap.size ≤ b3 := Nat.le_trans X0.size l7
  refine OW.alloc rfl rfl rfl rfl zer_24 (cs := [Value.int .i64 0, Value.int .i64 0, Value.string ⟨List.toArray ([] : List UInt8)⟩, Value.slice none 0 0]) rfl ?_
  intro b12 w13 hb14 x15 l16
  have t17 := Tr.of_new (O := (Ins O0 b3)) x15 (fun _ _ h => h.elim) l16
  have B19 := (B10.ext x15).ins hb14.lt
  have X18 := X9.step x15 (fun _ _ h => h.elim)
  have g20 : w0.heap.size ≤ b12 := Nat.le_trans X9.size l16
  have n21 : b3 ≠ b12 := by have := hb5.lt; omega
  refine OW.assign rfl rfl rfl rfl rfl ?_
  refine OW.done (TW.seq (TW.seq (TW.region ?_)))
  refine OW.assign rfl rfl rfl rfl rfl ?_
  refine OW.done (TW.block ?_)
  refine TW.lp (fun K => ∀ (x32 : Int) (x33 : Int) (x34 : List UInt8) (x35 : List T_api_Cbor) (x40 : Int), M.cbor_by_k1 p1 p0 x32 x33 x34 x35 x40 = some r → ∀ (w22 : World) (O23 : Nat → Prop) (v36 : Value), Bd O23 w22 → Glob w22 O23 → Ext Nowhere w0 w22 → (∀ x, O0 x → O23 x) → (O23 b3) → (O23 b12) → (RD w22 O23 (D.sl 24 4 (p0.gList.map T_api_Cbor.enc)) v1) → (BoxAt w22 b3 24 [Value.int .i64 p0.gKind, Value.int .i64 p0.gNum, Value.string ⟨List.toArray p0.gText⟩, v1]) → (RD w22 O23 (D.sl 24 4 (x35.map T_api_Cbor.enc)) v36) → (BoxAt w22 b12 24 [Value.int .i64 x32, Value.int .i64 x33, Value.string ⟨List.toArray x34⟩, v36]) → (FT53 w22 O23 p1 fid1 fs1 caps1) →  K [(1, Value.func (.func fid1) (List.toArray fs1) (List.toArray caps1)), (2, Value.pointer (some ⟨b3, 0, none⟩)), (4, Value.pointer (some ⟨b12, 0, none⟩)), (6, Value.int .i64 x40)] w22) ?_ ?_
  · intro K hin41 hout42
    refine fun x32 x33 x34 x35 x40 hm => M.cbor_by_k1.partial_correctness p1 p0 x32 x33 x34 x35 (fun x40 r110 => r110 = r → ∀ (w22 : World) (O23 : Nat → Prop) (v36 : Value), Bd O23 w22 → Glob w22 O23 → Ext Nowhere w0 w22 → (∀ x, O0 x → O23 x) → (O23 b3) → (O23 b12) → (RD w22 O23 (D.sl 24 4 (p0.gList.map T_api_Cbor.enc)) v1) → (BoxAt w22 b3 24 [Value.int .i64 p0.gKind, Value.int .i64 p0.gNum, Value.string ⟨List.toArray p0.gText⟩, v1]) → (RD w22 O23 (D.sl 24 4 (x35.map T_api_Cbor.enc)) v36) → (BoxAt w22 b12 24 [Value.int .i64 x32, Value.int .i64 x33, Value.string ⟨List.toArray x34⟩, v36]) → (FT53 w22 O23 p1 fid1 fs1 caps1) →  K [(1, Value.func (.func fid1) (List.toArray fs1) (List.toArray caps1)), (2, Value.pointer (some ⟨b3, 0, none⟩)), (4, Value.pointer (some ⟨b12, 0, none⟩)), (6, Value.int .i64 x40)] w22) ?_ x40 r hm rfl
    intro self ih43 x40 r110 hm hr111 w22 O23 v36 B24 G27 X25 lf26 m28 m29 h30 hb31 h37 hb38 hf39
    rw [hr111] at hm
    refine hin41 _ _ ?_
    refine TW.seq (TW.seq (TW.region ?_))
    refine OW.move rfl rfl rfl rfl rfl ?_
    refine OW.fieldAddr rfl rfl rfl rfl fld_24_3 rfl ?_
    refine OW.load1 rfl rfl rfl rfl shp_22 rfl hb31 rfl ?_
    refine OW.lenV rfl rfl rfl rfl Tryd.underlying22 rfl (RD.len' h30) ?_
    refine OW.binI rfl rfl rfl rfl rfl rfl rfl ?_
    refine OW.move rfl rfl rfl rfl rfl ?_
    refine OW.blk 4 (fun K => K [(16, Value.bool ((decide (x40 < (p0.gList.length : Int))) && (decide (p0.gKind = 4)))), (1, Value.func (.func fid1) (List.toArray fs1) (List.toArray caps1)), (2, Value.pointer (some ⟨b3, 0, none⟩)), (4, Value.pointer (some ⟨b12, 0, none⟩)), (6, Value.int .i64 x40), (7, Value.int .i64 x40), (8, Value.pointer (some ⟨b3, 0 + 3, none⟩)), (9, v1), (10, Value.int .i64 (p0.gList.length : Int)), (11, Value.bool (decide (x40 < (p0.gList.length : Int)))), (12, Value.bool (decide (x40 < (p0.gList.length : Int))))] w22) ?_ ?_
    · show OW _ _ _ _ _ _ _ _
      refine OW.done ?_
      refine TW.cond rfl (fun c47 => ?_) (fun c47 => ?_)
      · have hm := ite_t c47 hm
        refine TW.skip (TW.seq (TW.block (TW.seq (TW.region ?_))))
        refine OW.move rfl rfl rfl rfl rfl ?_
        refine OW.fieldAddr rfl rfl rfl rfl fld_24_3 rfl ?_
        refine OW.load1 rfl rfl rfl rfl shp_22 rfl hb31 rfl ?_
        refine OW.move rfl rfl rfl rfl rfl ?_
        refine OW.binI rfl rfl rfl rfl rfl rfl rfl ?_
        obtain ⟨x48, h49, hm⟩ := bnd hm
        obtain ⟨j50, hj51, hc52⟩ := ix_some h49
        obtain ⟨b53, q54, cap55, hv56, hlt57, cs58, hl59, hcc60, hr61⟩ := RD.elem' h30 hc52
        obtain ⟨v62, rfl, h63⟩ := T_api_Cbor.opn hr61
        refine OW.indexAddrV rfl rfl rfl rfl Tryd.underlying22 shp_24 rfl hv56 rfl hj51 hlt57 ?_
        refine OW.loadCs rfl rfl rfl rfl shp_24 rfl rfl hcc60.at_ ?_
        obtain ⟨y64, hy65, hm⟩ := bnd hm
        refine OW.callM rfl rfl rfl rfl rfl rfl hf39.ent ((hf39.app _ _ hy65 _ O23 _ B24 G27 (T_api_Cbor.shut (x := x48) h63) (Tr.refl _ _)).mono ?_)
        rintro e w66 ⟨rfl, x67⟩
        refine CallK.ret ?_
        have t68 := Tr.of_ext (O := O23) x67 (fun _ _ h => h.elim)
        have B70 := B24.ext x67
        have X69 := X25.step x67 (fun _ _ h => h.elim)
        refine OW.done ?_
        refine TW.cond rfl (fun c71 => ?_) (fun c71 => ?_)
        · have hm := ite_t c71 hm
          refine TW.seq (TW.region ?_)
          refine OW.fieldAddr rfl rfl rfl rfl fld_24_3 rfl ?_
          have hb72 := (hb31.keep x67 (fun h => h))
          refine OW.load1 rfl rfl rfl rfl shp_22 rfl hb72 rfl ?_
          refine OW.move rfl rfl rfl rfl rfl ?_
          have h73 := h30.tr t68
          obtain ⟨x74, h75, hm⟩ := bnd hm
          obtain ⟨j76, hj77, hc78⟩ := ix_some h75
          obtain ⟨b79, q80, cap81, hv82, hlt83, cs84, hl85, hcc86, hr87⟩ := RD.elem' h73 hc78
          obtain ⟨v88, rfl, h89⟩ := T_api_Cbor.opn hr87
          refine OW.indexAddrV rfl rfl rfl rfl Tryd.underlying22 shp_24 rfl hv82 rfl hj77 hlt83 ?_
          refine OW.loadCs rfl rfl rfl rfl shp_24 rfl rfl hcc86.at_ ?_
          have hb90 := (hb38.keep x67 (fun h => h))
          refine OW.store rfl rfl rfl shp_24 rfl rfl (vs := [Value.int .i64 x74.gKind, Value.int .i64 x74.gNum, Value.string ⟨List.toArray x74.gText⟩, v88]) rfl rfl hb90 rfl (one_cons rfl (one_cons rfl (one_cons rfl (one_cons (RD.one _ _ h89) one_nil)))) (cs' := [Value.int .i64 x74.gKind, Value.int .i64 x74.gNum, Value.string ⟨List.toArray x74.gText⟩, v88]) rfl ?_
          intro w91 hb92 x93
          have t94 := Tr.of_ext (O := O23) x93 (fun _ _ h => by cases h; exact m29)
          have B96 := B70.ext x93
          have X95 := X69.step x93 (fun y hy h => absurd hy (by cases h; have := g20; omega))
          refine OW.assign rfl rfl rfl rfl rfl ?_
          refine OW.done ?_
          have h97 := h89.tr t94
          cases hm
          exact TW.ret (Out.many rfl ⟨_, _, rfl, ⟨_, _, _, _, _, rfl, shp_24, hb92, rfl, rfl⟩, ⟨_, _, rfl, rfl, rfl⟩⟩ rfl) ⟨_, rfl, (T_api_Cbor.shut (x := x74) (h97.tr (Tr.drop _ fun x h => (lf26 _ h)))), X95⟩
        · have hm := ite_f c71 hm
          refine TW.skip (TW.inBlock (TW.region ?_))
          refine OW.move rfl rfl rfl rfl rfl ?_
          refine OW.binI rfl rfl rfl rfl rfl rfl rfl ?_
          refine OW.assign rfl rfl rfl rfl rfl ?_
          refine OW.done ?_
          have h98 := hf39.tr t68
          have h99 := h30.tr t68
          have hb100 := (hb31.keep x67 (fun h => h))
          have h101 := h37.tr t68
          have hb102 := (hb38.keep x67 (fun h => h))
          have h103 := G27.tr t68
          exact TW.sub (Sub.cons rfl (Sub.cons rfl (Sub.cons rfl (Sub.cons rfl Sub.nil)))) (hout42 _ _ (ih43 (IntKind.wrap .i64 (x40 + 2)) _ hm rfl w66 O23 v36 B70 h103 X69 (fun x h => (lf26 _ h)) m28 m29 h99 hb100 h101 hb102 h98))
      · have hm := ite_f c47 hm
        refine TW.exit rfl (TW.seq (TW.region ?_))
        refine OW.build rfl rfl rfl rfl rfl (cs := [Value.int .i64 0, Value.int .i64 0, Value.string ⟨List.toArray ([] : List UInt8)⟩, Value.slice none 0 0]) rfl ?_
        refine OW.store rfl rfl rfl shp_24 rfl rfl (vs := [Value.int .i64 0, Value.int .i64 0, Value.string ⟨List.toArray ([] : List UInt8)⟩, Value.slice none 0 0]) rfl rfl hb38 rfl (one_cons rfl (one_cons rfl (one_cons rfl (one_cons rfl one_nil)))) (cs' := [Value.int .i64 0, Value.int .i64 0, Value.string ⟨List.toArray ([] : List UInt8)⟩, Value.slice none 0 0]) rfl ?_
        intro w104 hb105 x106
        have t107 := Tr.of_ext (O := O23) x106 (fun _ _ h => by cases h; exact m29)
        have B109 := B24.ext x106
        have X108 := X25.step x106 (fun y hy h => absurd hy (by cases h; have := g20; omega))
        refine OW.assign rfl rfl rfl rfl rfl ?_
        refine OW.done ?_
        cases hm
        exact TW.ret (Out.many rfl ⟨_, _, rfl, ⟨_, _, _, _, _, rfl, shp_24, hb105, rfl, rfl⟩, ⟨_, _, rfl, rfl, rfl⟩⟩ rfl) ⟨_, rfl, (T_api_Cbor.shut (x := (T_api_Cbor.mk 0 0 ([] : List UInt8) [])) RD.nil), X108⟩
    · intro key46
      cases c45 : (decide (x40 < (p0.gList.length : Int)))
      · try simp only [c45] at key46
        refine OW.not rfl rfl rfl rfl rfl rfl ?_
        refine OW.not rfl rfl rfl rfl rfl rfl ?_
        refine OW.not rfl rfl rfl rfl rfl rfl ?_
        refine OW.pick_f rfl rfl rfl rfl rfl rfl ?_
        exact OW.sub (Sub.cons rfl (Sub.cons rfl (Sub.cons rfl (Sub.cons rfl (Sub.cons rfl (Sub.cons rfl (Sub.cons rfl (Sub.cons rfl (Sub.cons rfl (Sub.cons rfl (Sub.cons rfl Sub.nil))))))))))) key46
      · try simp only [c45] at key46
        refine OW.yes rfl rfl rfl ?_
        refine OW.fieldAddr rfl rfl rfl rfl fld_24_0 rfl ?_
        refine OW.yes rfl rfl rfl ?_
        refine OW.load1 rfl rfl rfl rfl shp_3 rfl hb31 rfl ?_
        refine OW.yes rfl rfl rfl ?_
        refine OW.binI rfl rfl rfl rfl rfl rfl rfl ?_
        refine OW.pick_t rfl rfl rfl rfl rfl rfl ?_
        exact OW.sub (Sub.cons rfl (Sub.cons rfl (Sub.cons rfl (Sub.cons rfl (Sub.cons rfl (Sub.cons rfl (Sub.cons rfl (Sub.cons rfl (Sub.cons rfl (Sub.cons rfl (Sub.cons rfl Sub.nil))))))))))) key46
  · intro key112
    have h113 := hf1.tr (t8.trans t17)
    have h114 := h2.tr (t8.trans t17)
    have hb115 := (hb5.keep x15 (fun h => h))
    have h116 := G0.tr (t8.trans t17)
    exact TW.sub (Sub.cons rfl (Sub.cons rfl (Sub.cons rfl (Sub.cons rfl Sub.nil)))) (key112 0 0 ([] : List UInt8) [] 1 hm w13 (Ins (Ins O0 b3) b12) (Value.slice none 0 0) B19 h116 X18 (fun x h => (Or.inr (Or.inr h))) (Or.inr (Or.inl rfl)) (Or.inl rfl) h114 hb115 RD.nil hb14 h113)
set_option maxRecDepth 1000000 in
set_option maxHeartbeats 4000000 in
theorem C.cbor_ByInt : ∀ (p0 : T_api_Cbor) (p1 : Int) (r : T_api_Cbor × Bool), M.cbor_ByInt p0 p1 = some r → ∀ (w0 : World) (O0 : Nat → Prop) (cs0 : List Value) (B0 : Bd O0 w0) (G0 : Glob w0 O0) (h0 : RDs w0 O0 (T_api_Cbor.enc p0) cs0), Calls Tryd.prog 11 (List.toArray [Value.agg cs0.toArray, Value.int .i64 p1]) w0 (fun e w' => ∃ (us0 : List Value), e = .returned (Value.tuple (List.toArray [Value.agg us0.toArray, Value.bool r.2])) ∧ RDs w' O0 (T_api_Cbor.enc r.1) us0 ∧ Ext Nowhere w0 w') := by
  intro p0 p1 r hm w0 O0 cs0 B0 G0 h0
  refine calls_of Tryd.func11 rfl 11 rfl rfl ?_
  unfold M.cbor_ByInt at hm
  have X0 := Ext.refl Nowhere w0
  obtain ⟨v1, rfl, h2⟩ := T_api_Cbor.opn h0
  refine TW.seq (TW.region ?_)
  refine OW.box rfl rfl rfl rfl rfl (cs := [Value.int .i64 p0.gKind, Value.int .i64 p0.gNum, Value.string ⟨List.toArray p0.gText⟩, v1]) rfl ?_
  intro b3 w4 hb5 x6 l7
  have t8 := Tr.of_new (O := O0) x6 (fun _ _ h => h.elim) l7
  have B10 := (B0.ext x6).ins hb5.lt
  have X9 := X0.step x6 (fun _ _ h => h.elim)
  have g11 : w0.heap.size ≤ b3 := Nat.le_trans X0.size l7
  refine OW.box rfl rfl rfl rfl rfl (cs := [Value.int .i64 p1]) rfl ?_
  intro b12 w13 hb14 x15 l16
  have t17 := Tr.of_new (O := (Ins O0 b3)) x15 (fun _ _ h => h.elim) l16
  have B19 := (B10.ext x15).ins hb14.lt
  have X18 := X9.step x15 (fun _ _ h => h.elim)
  have g20 : w0.heap.size ≤ b12 := Nat.le_trans X9.size l16
  have n21 : b3 ≠ b12 := by have := hb5.lt; omega
  have hb27 := (hb5.keep x15 (fun h => h))
  refine OW.alloc rfl rfl rfl rfl zer_24 (cs := [Value.int .i64 0, Value.int .i64 0, Value.string ⟨List.toArray ([] : List UInt8)⟩, Value.slice none 0 0]) rfl ?_
  intro b22 w23 hb24 x25 l26
  have t28 := Tr.of_new (O := (Ins (Ins O0 b3) b12)) x25 (fun _ _ h => h.elim) l26
  have B30 := (B19.ext x25).ins hb24.lt
  have X29 := X18.step x25 (fun _ _ h => h.elim)
  have g31 : w0.heap.size ≤ b22 := Nat.le_trans X18.size l26
  have n32 : b3 ≠ b22 := by have := hb27.lt; omega
  have n33 : b12 ≠ b22 := by have := hb14.lt; omega
  refine OW.assign rfl rfl rfl rfl rfl ?_
  refine OW.done (TW.seq (TW.region ?_))
  have hb34 := (hb27.keep x25 (fun h => h))
  refine OW.loadN rfl rfl rfl rfl shp_24 rfl hb34 (vs := [Value.int .i64 p0.gKind, Value.int .i64 p0.gNum, Value.string ⟨List.toArray p0.gText⟩, v1]) rfl rfl ?_
  refine OW.mkFunc rfl rfl rfl rfl rfl rfl ?_
  have hb35 := (hb14.keep x25 (fun h => h))
  have t36 := Tr.drop (O := (Ins (Ins (Ins O0 b3) b12) b22)) (O' := (fun x => (Ins (Ins (Ins O0 b3) b12) b22) x ∧ x ≠ b12)) w23 (fun x h => h.1)
  have B37 : Bd (fun x => (Ins (Ins (Ins O0 b3) b12) b22) x ∧ x ≠ b12) w23 := fun x h => B30 x h.1
  have hc38 : CAt w23 (fun x => (Ins (Ins (Ins O0 b3) b12) b22) x ∧ x ≠ b12) b12 3 [Value.int .i64 p1] := ⟨fun h => h.2 rfl, hb35⟩
  have hf39 : FT53 w23 (fun x => (Ins (Ins (Ins O0 b3) b12) b22) x ∧ x ≠ b12) (fun x0 => M.cbor_ByInt_1 x0 p1) 23 [] [Value.pointer (some ⟨b12, 0, none⟩)] := ⟨Tryd.call23, fun x0 r hm w O cs0 B G h0 t => C.cbor_ByInt_1 x0 p1 r hm w O cs0 _ B G h0 (hc38.tr t)⟩
  have h40 := G0.tr (t8.trans (t17.trans (t28.trans t36)))
  have h41 := h2.tr (t8.trans (t17.trans (t28.trans t36)))
  obtain ⟨y42, hy43, hm⟩ := bnd hm
  refine OW.call rfl rfl rfl rfl rfl rfl Tryd.call22 ((C.cbor_by _ _ _ hy43 _ (fun x => (Ins (Ins (Ins O0 b3) b12) b22) x ∧ x ≠ b12) _ _ _ _ B37 h40 (T_api_Cbor.shut (x := p0) h41) hf39).mono ?_)
  rintro e w46 ⟨cs44, rfl, h45, x47⟩
  obtain ⟨v48, rfl, h49⟩ := T_api_Cbor.opn h45
  refine CallK.ret ?_
  have t50 := Tr.of_ext (O := (fun x => (Ins (Ins (Ins O0 b3) b12) b22) x ∧ x ≠ b12)) x47 (fun _ _ h => h.elim)
  have B52 := B37.ext x47
  have X51 := X29.step x47 (fun _ _ h => h.elim)
  refine OW.extract rfl rfl rfl rfl rfl rfl ?_
  refine OW.extract rfl rfl rfl rfl rfl rfl ?_
  have hb53 := (hb24.keep x47 (fun h => h))
  have hb54 := (hb34.keep x47 (fun h => h))
  refine OW.store rfl rfl rfl shp_24 rfl rfl (vs := [Value.int .i64 y42.1.gKind, Value.int .i64 y42.1.gNum, Value.string ⟨List.toArray y42.1.gText⟩, v48]) rfl rfl hb53 rfl (one_cons rfl (one_cons rfl (one_cons rfl (one_cons (RD.one _ _ h49) one_nil)))) (cs' := [Value.int .i64 y42.1.gKind, Value.int .i64 y42.1.gNum, Value.string ⟨List.toArray y42.1.gText⟩, v48]) rfl ?_
  intro w55 hb56 x57
  have t58 := Tr.of_ext (O := (fun x => (Ins (Ins (Ins O0 b3) b12) b22) x ∧ x ≠ b12)) x57 (fun _ _ h => by cases h; exact ⟨(Or.inl rfl), (Ne.symm n33)⟩)
  have B60 := B52.ext x57
  have X59 := X51.step x57 (fun y hy h => absurd hy (by cases h; have := g31; omega))
  refine OW.assign rfl rfl rfl rfl rfl ?_
  refine OW.done ?_
  have h61 := h49.tr t58
  cases hm
  exact TW.ret (Out.many rfl ⟨_, _, rfl, ⟨_, _, _, _, _, rfl, shp_24, hb56, rfl, rfl⟩, ⟨_, _, rfl, rfl, rfl⟩⟩ rfl) ⟨_, rfl, (T_api_Cbor.shut (x := y42.1) (h61.tr (Tr.drop _ fun x h => ⟨(Or.inr (Or.inr (Or.inr h))), by have h1 := B0 _ h; have h2 := g20; intro e; subst e; omega⟩))), X59⟩
set_option maxRecDepth 1000000 in
set_option maxHeartbeats 4000000 in
theorem C.cbor_ByText_1 : ∀ (p0 : T_api_Cbor) (p1 : List UInt8) (r : Bool), M.cbor_ByText_1 p0 p1 = some r → ∀ (w0 : World) (O0 : Nat → Prop) (cs0 : List Value) (b1 : Nat) (B0 : Bd O0 w0) (G0 : Glob w0 O0) (h0 : RDs w0 O0 (T_api_Cbor.enc p0) cs0) (hb1 : CAt w0 O0 b1 9 [Value.string ⟨List.toArray p1⟩]), Calls Tryd.prog 25 (List.toArray [Value.agg cs0.toArray, Value.pointer (some ⟨b1, 0, none⟩)]) w0 (fun e w' => e = .returned (Value.bool r) ∧ Ext Nowhere w0 w') := by
  intro p0 p1 r hm w0 O0 cs0 b1 B0 G0 h0 hb1
  refine calls_of Tryd.func25 rfl 13 rfl rfl ?_
  unfold M.cbor_ByText_1 at hm
  have X0 := Ext.refl Nowhere w0
  obtain ⟨v1, rfl, h2⟩ := T_api_Cbor.opn h0
  refine TW.seq (TW.region ?_)
  refine OW.box rfl rfl rfl rfl rfl (cs := [Value.int .i64 p0.gKind, Value.int .i64 p0.gNum, Value.string ⟨List.toArray p0.gText⟩, v1]) rfl ?_
  intro b3 w4 hb5 x6 l7
  have t8 := Tr.of_new (O := O0) x6 (fun _ _ h => h.elim) l7
  have B10 := (B0.ext x6).ins hb5.lt
  have X9 := X0.step x6 (fun _ _ h => h.elim)
  have g11 : w0.heap.size ≤ b3 := Nat.le_trans X0.size l7
  refine OW.assign rfl rfl rfl rfl rfl ?_
  refine OW.done (TW.seq (TW.region ?_))
  refine OW.fieldAddr rfl rfl rfl rfl fld_24_0 rfl ?_
  refine OW.load1 rfl rfl rfl rfl shp_3 rfl hb5 rfl ?_
  refine OW.binI rfl rfl rfl rfl rfl rfl rfl ?_
  refine OW.move rfl rfl rfl rfl rfl ?_
  refine OW.blk 5 (fun K => K [(12, Value.bool ((decide (p0.gKind = 2)) && (decide (p0.gText = p1)))), (1, Value.pointer (some ⟨b1, 0, none⟩)), (2, Value.pointer (some ⟨b3, 0, none⟩)), (3, Value.bool false), (4, Value.pointer (some ⟨b3, 0 + 0, none⟩)), (5, Value.int .i64 p0.gKind), (6, Value.bool (decide (p0.gKind = 2))), (7, Value.bool (decide (p0.gKind = 2)))] w4) ?_ ?_
  · show OW _ _ _ _ _ _ _ _
    refine OW.assign rfl rfl rfl rfl rfl ?_
    refine OW.done ?_
    cases hm
    exact TW.ret (Out.one rfl rfl) ⟨rfl, X9⟩
  · intro key14
    cases c13 : (decide (p0.gKind = 2))
    · try simp only [c13] at key14
      refine OW.not rfl rfl rfl rfl rfl rfl ?_
      refine OW.not rfl rfl rfl rfl rfl rfl ?_
      refine OW.not rfl rfl rfl rfl rfl rfl ?_
      refine OW.not rfl rfl rfl rfl rfl rfl ?_
      refine OW.pick_f rfl rfl rfl rfl rfl rfl ?_
      exact OW.sub (Sub.cons rfl (Sub.cons rfl (Sub.cons rfl (Sub.cons rfl (Sub.cons rfl (Sub.cons rfl (Sub.cons rfl (Sub.cons rfl Sub.nil)))))))) key14
    · try simp only [c13] at key14
      refine OW.yes rfl rfl rfl ?_
      refine OW.fieldAddr rfl rfl rfl rfl fld_24_2 rfl ?_
      refine OW.yes rfl rfl rfl ?_
      refine OW.load1 rfl rfl rfl rfl shp_9 rfl hb5 rfl ?_
      refine OW.yes rfl rfl rfl ?_
      have h15 := hb1.tr t8
      refine OW.load1 rfl rfl rfl rfl shp_9 rfl h15.box rfl ?_
      refine OW.yes rfl rfl rfl ?_
      refine OW.binS rfl rfl rfl rfl rfl rfl rfl ?_
      refine OW.pick_t rfl rfl rfl rfl rfl rfl ?_
      exact OW.sub (Sub.cons rfl (Sub.cons rfl (Sub.cons rfl (Sub.cons rfl (Sub.cons rfl (Sub.cons rfl (Sub.cons rfl (Sub.cons rfl Sub.nil)))))))) key14
set_option maxRecDepth 1000000 in
set_option maxHeartbeats 4000000 in
theorem C.cbor_ByText : ∀ (p0 : T_api_Cbor) (p1 : List UInt8) (r : T_api_Cbor × Bool), M.cbor_ByText p0 p1 = some r → ∀ (w0 : World) (O0 : Nat → Prop) (cs0 : List Value) (B0 : Bd O0 w0) (G0 : Glob w0 O0) (h0 : RDs w0 O0 (T_api_Cbor.enc p0) cs0), Calls Tryd.prog 13 (List.toArray [Value.agg cs0.toArray, Value.string ⟨List.toArray p1⟩]) w0 (fun e w' => ∃ (us0 : List Value), e = .returned (Value.tuple (List.toArray [Value.agg us0.toArray, Value.bool r.2])) ∧ RDs w' O0 (T_api_Cbor.enc r.1) us0 ∧ Ext Nowhere w0 w') := by
  intro p0 p1 r hm w0 O0 cs0 B0 G0 h0
  refine calls_of Tryd.func13 rfl 11 rfl rfl ?_
  unfold M.cbor_ByText at hm
  have X0 := Ext.refl Nowhere w0
  obtain ⟨v1, rfl, h2⟩ := T_api_Cbor.opn h0
  refine TW.seq (TW.region ?_)
  refine OW.box rfl rfl rfl rfl rfl (cs := [Value.int .i64 p0.gKind, Value.int .i64 p0.gNum, Value.string ⟨List.toArray p0.gText⟩, v1]) rfl ?_
  intro b3 w4 hb5 x6 l7
  have t8 := Tr.of_new (O := O0) x6 (fun _ _ h => h.elim) l7
  have B10 := (B0.ext x6).ins hb5.lt
  have X9 := X0.step x6 (fun _ _ h => h.elim)
  have g11 : w0.heap.size ≤ b3 := Nat.le_trans X0.size l7
  refine OW.box rfl rfl rfl rfl rfl (cs := [Value.string ⟨List.toArray p1⟩]) rfl ?_
  intro b12 w13 hb14 x15 l16
  have t17 := Tr.of_new (O := (Ins O0 b3)) x15 (fun _ _ h => h.elim) l16
  have B19 := (B10.ext x15).ins hb14.lt
  have X18 := X9.step x15 (fun _ _ h => h.elim)
  have g20 : w0.heap.size ≤ b12 := Nat.le_trans X9.size l16
  have n21 : b3 ≠ b12 := by have := hb5.lt; omega
  have hb27 := (hb5.keep x15 (fun h => h))
  refine OW.alloc rfl rfl rfl rfl zer_24 (cs := [Value.int .i64 0, Value.int .i64 0, Value.string ⟨List.toArray ([] : List UInt8)⟩, Value.slice none 0 0]) rfl ?_
  intro b22 w23 hb24 x25 l26
  have t28 := Tr.of_new (O := (Ins (Ins O0 b3) b12)) x25 (fun _ _ h => h.elim) l26
  have B30 := (B19.ext x25).ins hb24.lt
  have X29 := X18.step x25 (fun _ _ h => h.elim)
  have g31 : w0.heap.size ≤ b22 := Nat.le_trans X18.size l26
  have n32 : b3 ≠ b22 := by have := hb27.lt; omega
  have n33 : b12 ≠ b22 := by have := hb14.lt; omega
  refine OW.assign rfl rfl rfl rfl rfl ?_
  refine OW.done (TW.seq (TW.region ?_))
  have hb34 := (hb27.keep x25 (fun h => h))
  refine OW.loadN rfl rfl rfl rfl shp_24 rfl hb34 (vs := [Value.int .i64 p0.gKind, Value.int .i64 p0.gNum, Value.string ⟨List.toArray p0.gText⟩, v1]) rfl rfl ?_
  refine OW.mkFunc rfl rfl rfl rfl rfl rfl ?_
  have hb35 := (hb14.keep x25 (fun h => h))
  have t36 := Tr.drop (O := (Ins (Ins (Ins O0 b3) b12) b22)) (O' := (fun x => (Ins (Ins (Ins O0 b3) b12) b22) x ∧ x ≠ b12)) w23 (fun x h => h.1)
  have B37 : Bd (fun x => (Ins (Ins (Ins O0 b3) b12) b22) x ∧ x ≠ b12) w23 := fun x h => B30 x h.1
  have hc38 : CAt w23 (fun x => (Ins (Ins (Ins O0 b3) b12) b22) x ∧ x ≠ b12) b12 9 [Value.string ⟨List.toArray p1⟩] := ⟨fun h => h.2 rfl, hb35⟩
  have hf39 : FT53 w23 (fun x => (Ins (Ins (Ins O0 b3) b12) b22) x ∧ x ≠ b12) (fun x0 => M.cbor_ByText_1 x0 p1) 25 [] [Value.pointer (some ⟨b12, 0, none⟩)] := ⟨Tryd.call25, fun x0 r hm w O cs0 B G h0 t => C.cbor_ByText_1 x0 p1 r hm w O cs0 _ B G h0 (hc38.tr t)⟩
  have h40 := G0.tr (t8.trans (t17.trans (t28.trans t36)))
  have h41 := h2.tr (t8.trans (t17.trans (t28.trans t36)))
  obtain ⟨y42, hy43, hm⟩ := bnd hm
  refine OW.call rfl rfl rfl rfl rfl rfl Tryd.call22 ((C.cbor_by _ _ _ hy43 _ (fun x => (Ins (Ins (Ins O0 b3) b12) b22) x ∧ x ≠ b12) _ _ _ _ B37 h40 (T_api_Cbor.shut (x := p0) h41) hf39).mono ?_)
  rintro e w46 ⟨cs44, rfl, h45, x47⟩
  obtain ⟨v48, rfl, h49⟩ := T_api_Cbor.opn h45
  refine CallK.ret ?_
  have t50 := Tr.of_ext (O := (fun x => (Ins (Ins (Ins O0 b3) b12) b22) x ∧ x ≠ b12)) x47 (fun _ _ h => h.elim)
  have B52 := B37.ext x47
  have X51 := X29.step x47 (fun _ _ h => h.elim)
  refine OW.extract rfl rfl rfl rfl rfl rfl ?_
  refine OW.extract rfl rfl rfl rfl rfl rfl ?_
  have hb53 := (hb24.keep x47 (fun h => h))
  have hb54 := (hb34.keep x47 (fun h => h))
  refine OW.store rfl rfl rfl shp_24 rfl rfl (vs := [Value.int .i64 y42.1.gKind, Value.int .i64 y42.1.gNum, Value.string ⟨List.toArray y42.1.gText⟩, v48]) rfl rfl hb53 rfl (one_cons rfl (one_cons rfl (one_cons rfl (one_cons (RD.one _ _ h49) one_nil)))) (cs' := [Value.int .i64 y42.1.gKind, Value.int .i64 y42.1.gNum, Value.string ⟨List.toArray y42.1.gText⟩, v48]) rfl ?_
  intro w55 hb56 x57
  have t58 := Tr.of_ext (O := (fun x => (Ins (Ins (Ins O0 b3) b12) b22) x ∧ x ≠ b12)) x57 (fun _ _ h => by cases h; exact ⟨(Or.inl rfl), (Ne.symm n33)⟩)
  have B60 := B52.ext x57
  have X59 := X51.step x57 (fun y hy h => absurd hy (by cases h; have := g31; omega))
  refine OW.assign rfl rfl rfl rfl rfl ?_
  refine OW.done ?_
  have h61 := h49.tr t58
  cases hm
  exact TW.ret (Out.many rfl ⟨_, _, rfl, ⟨_, _, _, _, _, rfl, shp_24, hb56, rfl, rfl⟩, ⟨_, _, rfl, rfl, rfl⟩⟩ rfl) ⟨_, rfl, (T_api_Cbor.shut (x := y42.1) (h61.tr (Tr.drop _ fun x h => ⟨(Or.inr (Or.inr (Or.inr h))), by have h1 := B0 _ h; have h2 := g20; intro e; subst e; omega⟩))), X59⟩
set_option maxRecDepth 1000000 in
set_option maxHeartbeats 4000000 in
theorem C.l03_awake (fuel : Nat) : ∀ (r : Bool), M.l03_awake fuel = some r → ∀ (w0 : World) (O0 : Nat → Prop) (B0 : Bd O0 w0) (G0 : Glob w0 O0), Calls Tryd.prog 10 (List.toArray []) w0 (fun e w' => e = .returned (Value.bool r) ∧ Ext Nowhere w0 w') := by
  intro  r hm w0 O0  B0 G0 
  refine calls_of Tryd.func10 rfl 116 rfl rfl ?_
  unfold M.l03_awake at hm
  have X0 := Ext.refl Nowhere w0
  refine TW.seq (TW.region ?_)
  refine OW.assign rfl rfl rfl rfl rfl ?_
  refine OW.done (TW.seq (TW.region ?_))
  obtain ⟨y1, hy2, hm⟩ := bnd hm
  refine OW.call rfl rfl rfl rfl rfl rfl Tryd.call20 ((C.l03_number _ _ hy2 _ O0  B0 G0).mono ?_)
  rintro e w5 ⟨cs3, rfl, h4, x6⟩
  obtain ⟨v7, rfl, h8⟩ := T_api_Cbor.opn h4
  refine CallK.ret ?_
  have t9 := Tr.of_ext (O := O0) x6 (fun _ _ h => h.elim)
  have B11 := B0.ext x6
  have X10 := X0.step x6 (fun _ _ h => h.elim)
  have h12 := G0.tr t9
  obtain ⟨y13, hy14, hm⟩ := bnd hm
  refine OW.call rfl rfl rfl rfl rfl rfl Tryd.call20 ((C.l03_number _ _ hy14 _ O0  B11 h12).mono ?_)
  rintro e w17 ⟨cs15, rfl, h16, x18⟩
  obtain ⟨v19, rfl, h20⟩ := T_api_Cbor.opn h16
  refine CallK.ret ?_
  have t21 := Tr.of_ext (O := O0) x18 (fun _ _ h => h.elim)
  have B23 := B11.ext x18
  have X22 := X10.step x18 (fun _ _ h => h.elim)
  have h24 := h12.tr t21
  obtain ⟨y25, hy26, hm⟩ := bnd hm
  refine OW.call rfl rfl rfl rfl rfl rfl Tryd.call20 ((C.l03_number _ _ hy26 _ O0  B23 h24).mono ?_)
  rintro e w29 ⟨cs27, rfl, h28, x30⟩
  obtain ⟨v31, rfl, h32⟩ := T_api_Cbor.opn h28
  refine CallK.ret ?_
  have t33 := Tr.of_ext (O := O0) x30 (fun _ _ h => h.elim)
  have B35 := B23.ext x30
  have X34 := X22.step x30 (fun _ _ h => h.elim)
  have h36 := h24.tr t33
  obtain ⟨y37, hy38, hm⟩ := bnd hm
  refine OW.call rfl rfl rfl rfl rfl rfl Tryd.call21 ((C.l03_text _ _ hy38 _ O0  B35 h36).mono ?_)
  rintro e w41 ⟨cs39, rfl, h40, x42⟩
  obtain ⟨v43, rfl, h44⟩ := T_api_Cbor.opn h40
  refine CallK.ret ?_
  have t45 := Tr.of_ext (O := O0) x42 (fun _ _ h => h.elim)
  have B47 := B35.ext x42
  have X46 := X34.step x42 (fun _ _ h => h.elim)
  have h48 := h8.tr (t21.trans (t33.trans t45))
  have h49 := h20.tr (t33.trans t45)
  have h50 := h32.tr t45
  refine OW.buildSlice rfl rfl rfl rfl Tryd.underlying22 shp_24 zer_24 rfl rfl (cs := [Value.int .i64 y1.gKind, Value.int .i64 y1.gNum, Value.string ⟨List.toArray y1.gText⟩, v7, Value.int .i64 y13.gKind, Value.int .i64 y13.gNum, Value.string ⟨List.toArray y13.gText⟩, v19, Value.int .i64 y25.gKind, Value.int .i64 y25.gNum, Value.string ⟨List.toArray y25.gText⟩, v31, Value.int .i64 y37.gKind, Value.int .i64 y37.gNum, Value.string ⟨List.toArray y37.gText⟩, v43]) rfl rfl rfl ?_
  intro b51 w52 hb53 x54 l55
  have t57 := Tr.of_ext (O := O0) x54 (fun _ _ h => h.elim)
  have B59 := B47.ext x54
  have X58 := X46.step x54 (fun _ _ h => h.elim)
  have h60 := h44.tr t57
  have h61 := h50.tr t57
  have h62 := h49.tr t57
  have h63 := h48.tr t57
  have h56 : RD w52 O0 (D.sl 24 4 ([y1, y13, y25, y37].map T_api_Cbor.enc)) (Value.slice (some ⟨b51, 0, none⟩) 4 4) := RD.of_new hb53 B47 l55 rfl (Nat.le_of_ble_eq_true rfl) rfl ⟨(T_api_Cbor.shut (x := y1) h63), ⟨(T_api_Cbor.shut (x := y13) h62), ⟨(T_api_Cbor.shut (x := y25) h61), ⟨(T_api_Cbor.shut (x := y37) h60), trivial⟩⟩⟩⟩
  refine OW.build rfl rfl rfl rfl rfl (cs := [Value.int .i64 4, Value.int .i64 0, Value.string ⟨List.toArray ([] : List UInt8)⟩, Value.slice (some ⟨b51, 0, none⟩) 4 4]) rfl ?_
  refine OW.alloc rfl rfl rfl rfl zer_24 (cs := [Value.int .i64 0, Value.int .i64 0, Value.string ⟨List.toArray ([] : List UInt8)⟩, Value.slice none 0 0]) rfl ?_
  intro b64 w65 hb66 x67 l68
  have t69 := Tr.of_new (O := O0) x67 (fun _ _ h => h.elim) l68
  have B71 := (B59.ext x67).ins hb66.lt
  have X70 := X58.step x67 (fun _ _ h => h.elim)
  have g72 : w0.heap.size ≤ b64 := Nat.le_trans X58.size l68
  refine OW.store rfl rfl rfl shp_24 rfl rfl (vs := [Value.int .i64 4, Value.int .i64 0, Value.string ⟨List.toArray ([] : List UInt8)⟩, Value.slice (some ⟨b51, 0, none⟩) 4 4]) rfl rfl hb66 rfl (one_cons rfl (one_cons rfl (one_cons rfl (one_cons (RD.one _ _ h56) one_nil)))) (cs' := [Value.int .i64 4, Value.int .i64 0, Value.string ⟨List.toArray ([] : List UInt8)⟩, Value.slice (some ⟨b51, 0, none⟩) 4 4]) rfl ?_
  intro w73 hb74 x75
  have t76 := Tr.of_ext (O := (Ins O0 b64)) x75 (fun _ _ h => by cases h; exact (Or.inl rfl))
  have B78 := B71.ext x75
  have X77 := X70.step x75 (fun y hy h => absurd hy (by cases h; have := g72; omega))
  refine OW.done (TW.seq (TW.region ?_))
  refine OW.loadN rfl rfl rfl rfl shp_24 rfl hb74 (vs := [Value.int .i64 4, Value.int .i64 0, Value.string ⟨List.toArray ([] : List UInt8)⟩, Value.slice (some ⟨b51, 0, none⟩) 4 4]) rfl rfl ?_
  have h79 := h36.tr (t45.trans (t57.trans (t69.trans t76)))
  have h80 := h56.tr (t69.trans t76)
  obtain ⟨y81, hy82, hm⟩ := bnd hm
  refine OW.call rfl rfl rfl rfl rfl rfl Tryd.call15 ((C.cbor_Encode _ _ _ hy82 _ (Ins O0 b64) _ B78 h79 (T_api_Cbor.shut (x := (T_api_Cbor.mk 4 0 ([] : List UInt8) [y1, y13, y25, y37])) h80)).mono ?_)
  rintro e w83 ⟨rfl, x84⟩
  refine CallK.ret ?_
  have t85 := Tr.of_ext (O := (Ins O0 b64)) x84 (fun _ _ h => h.elim)
  have B87 := B78.ext x84
  have X86 := X77.step x84 (fun _ _ h => h.elim)
  refine OW.move rfl rfl rfl rfl rfl ?_
  refine OW.extract rfl rfl rfl rfl rfl rfl ?_
  refine OW.extract rfl rfl rfl rfl rfl rfl ?_
  refine OW.assign rfl rfl rfl rfl rfl ?_
  refine OW.assign rfl rfl rfl rfl rfl ?_
  refine OW.done (TW.seq (TW.region ?_))
  have hb88 := (hb74.keep x84 (fun h => h))
  have h89 := h79.tr t85
  obtain ⟨y90, hy91, hm⟩ := bnd hm
  refine OW.call rfl rfl rfl rfl rfl rfl Tryd.call7 ((C.cbor_Decode _ _ _ hy91 _ (Ins O0 b64)  B87 h89).mono ?_)
  rintro e w94 ⟨cs92, rfl, h93, x95⟩
  obtain ⟨v96, rfl, h97⟩ := T_api_Cbor.opn h93
  refine CallK.ret ?_
  have t98 := Tr.of_ext (O := (Ins O0 b64)) x95 (fun _ _ h => h.elim)
  have B100 := B87.ext x95
  have X99 := X86.step x95 (fun _ _ h => h.elim)
  refine OW.move rfl rfl rfl rfl rfl ?_
  refine OW.extract rfl rfl rfl rfl rfl rfl ?_
  refine OW.extract rfl rfl rfl rfl rfl rfl ?_
  refine OW.extract rfl rfl rfl rfl rfl rfl ?_
  have hb106 := (hb88.keep x95 (fun h => h))
  refine OW.alloc rfl rfl rfl rfl zer_24 (cs := [Value.int .i64 0, Value.int .i64 0, Value.string ⟨List.toArray ([] : List UInt8)⟩, Value.slice none 0 0]) rfl ?_
  intro b101 w102 hb103 x104 l105
  have t107 := Tr.of_new (O := (Ins O0 b64)) x104 (fun _ _ h => h.elim) l105
  have B109 := (B100.ext x104).ins hb103.lt
  have X108 := X99.step x104 (fun _ _ h => h.elim)
  have g110 : w0.heap.size ≤ b101 := Nat.le_trans X99.size l105
  have n111 : b64 ≠ b101 := by have := hb106.lt; omega
  have hb112 := (hb106.keep x104 (fun h => h))
  refine OW.store rfl rfl rfl shp_24 rfl rfl (vs := [Value.int .i64 y90.1.gKind, Value.int .i64 y90.1.gNum, Value.string ⟨List.toArray y90.1.gText⟩, v96]) rfl rfl hb103 rfl (one_cons rfl (one_cons rfl (one_cons rfl (one_cons (RD.one _ _ h97) one_nil)))) (cs' := [Value.int .i64 y90.1.gKind, Value.int .i64 y90.1.gNum, Value.string ⟨List.toArray y90.1.gText⟩, v96]) rfl ?_
  intro w113 hb114 x115
  have t116 := Tr.of_ext (O := (Ins (Ins O0 b64) b101)) x115 (fun _ _ h => by cases h; exact (Or.inl rfl))
  have B118 := B109.ext x115
  have X117 := X108.step x115 (fun y hy h => absurd hy (by cases h; have := g110; omega))
  refine OW.assign rfl rfl rfl rfl rfl ?_
  refine OW.assign rfl rfl rfl rfl rfl ?_
  refine OW.done (TW.seq (TW.region ?_))
  have hb119 := (hb112.keep x115 n111)
  have h120 := h89.tr (t98.trans (t107.trans t116))
  obtain ⟨y121, hy122, hm⟩ := bnd hm
  refine OW.call rfl rfl rfl rfl rfl rfl Tryd.call7 ((C.cbor_Decode _ _ _ hy122 _ (Ins (Ins O0 b64) b101)  B118 h120).mono ?_)
  rintro e w125 ⟨cs123, rfl, h124, x126⟩
  obtain ⟨v127, rfl, h128⟩ := T_api_Cbor.opn h124
  refine CallK.ret ?_
  have t129 := Tr.of_ext (O := (Ins (Ins O0 b64) b101)) x126 (fun _ _ h => h.elim)
  have B131 := B118.ext x126
  have X130 := X117.step x126 (fun _ _ h => h.elim)
  refine OW.move rfl rfl rfl rfl rfl ?_
  refine OW.extract rfl rfl rfl rfl rfl rfl ?_
  refine OW.extract rfl rfl rfl rfl rfl rfl ?_
  refine OW.extract rfl rfl rfl rfl rfl rfl ?_
  have hb137 := (hb119.keep x126 (fun h => h))
  have hb138 := (hb114.keep x126 (fun h => h))
  refine OW.alloc rfl rfl rfl rfl zer_24 (cs := [Value.int .i64 0, Value.int .i64 0, Value.string ⟨List.toArray ([] : List UInt8)⟩, Value.slice none 0 0]) rfl ?_
  intro b132 w133 hb134 x135 l136
  have t139 := Tr.of_new (O := (Ins (Ins O0 b64) b101)) x135 (fun _ _ h => h.elim) l136
  have B141 := (B131.ext x135).ins hb134.lt
  have X140 := X130.step x135 (fun _ _ h => h.elim)
  have g142 : w0.heap.size ≤ b132 := Nat.le_trans X130.size l136
  have n143 : b64 ≠ b132 := by have := hb137.lt; omega
  have n144 : b101 ≠ b132 := by have := hb138.lt; omega
  have hb145 := (hb137.keep x135 (fun h => h))
  have hb146 := (hb138.keep x135 (fun h => h))
  refine OW.store rfl rfl rfl shp_24 rfl rfl (vs := [Value.int .i64 y121.1.gKind, Value.int .i64 y121.1.gNum, Value.string ⟨List.toArray y121.1.gText⟩, v127]) rfl rfl hb134 rfl (one_cons rfl (one_cons rfl (one_cons rfl (one_cons (RD.one _ _ h128) one_nil)))) (cs' := [Value.int .i64 y121.1.gKind, Value.int .i64 y121.1.gNum, Value.string ⟨List.toArray y121.1.gText⟩, v127]) rfl ?_
  intro w147 hb148 x149
  have t150 := Tr.of_ext (O := (Ins (Ins (Ins O0 b64) b101) b132)) x149 (fun _ _ h => by cases h; exact (Or.inl rfl))
  have B152 := B141.ext x149
  have X151 := X140.step x149 (fun y hy h => absurd hy (by cases h; have := g142; omega))
  refine OW.assign rfl rfl rfl rfl rfl ?_
  refine OW.assign rfl rfl rfl rfl rfl ?_
  refine OW.done (TW.seq (TW.region ?_))
  have hb153 := (hb145.keep x149 n143)
  have hb154 := (hb146.keep x149 n144)
  have h155 := h120.tr (t129.trans (t139.trans t150))
  obtain ⟨y156, hy157, hm⟩ := bnd hm
  refine OW.call rfl rfl rfl rfl rfl rfl Tryd.call7 ((C.cbor_Decode _ _ _ hy157 _ (Ins (Ins (Ins O0 b64) b101) b132)  B152 h155).mono ?_)
  rintro e w160 ⟨cs158, rfl, h159, x161⟩
  obtain ⟨v162, rfl, h163⟩ := T_api_Cbor.opn h159
  refine CallK.ret ?_
  have t164 := Tr.of_ext (O := (Ins (Ins (Ins O0 b64) b101) b132)) x161 (fun _ _ h => h.elim)
  have B166 := B152.ext x161
  have X165 := X151.step x161 (fun _ _ h => h.elim)
  refine OW.move rfl rfl rfl rfl rfl ?_
  refine OW.extract rfl rfl rfl rfl rfl rfl ?_
  refine OW.extract rfl rfl rfl rfl rfl rfl ?_
  refine OW.extract rfl rfl rfl rfl rfl rfl ?_
  have hb172 := (hb153.keep x161 (fun h => h))
  have hb173 := (hb154.keep x161 (fun h => h))
  have hb174 := (hb148.keep x161 (fun h => h))
  refine OW.alloc rfl rfl rfl rfl zer_24 (cs := [Value.int .i64 0, Value.int .i64 0, Value.string ⟨List.toArray ([] : List UInt8)⟩, Value.slice none 0 0]) rfl ?_
  intro b167 w168 hb169 x170 l171
  have t175 := Tr.of_new (O := (Ins (Ins (Ins O0 b64) b101) b132)) x170 (fun _ _ h => h.elim) l171
  have B177 := (B166.ext x170).ins hb169.lt
  have X176 := X165.step x170 (fun _ _ h => h.elim)
  have g178 : w0.heap.size ≤ b167 := Nat.le_trans X165.size l171
  have n179 : b64 ≠ b167 := by have := hb172.lt; omega
  have n180 : b101 ≠ b167 := by have := hb173.lt; omega
  have n181 : b132 ≠ b167 := by have := hb174.lt; omega
  have hb182 := (hb172.keep x170 (fun h => h))
  have hb183 := (hb173.keep x170 (fun h => h))
  have hb184 := (hb174.keep x170 (fun h => h))
  refine OW.store rfl rfl rfl shp_24 rfl rfl (vs := [Value.int .i64 y156.1.gKind, Value.int .i64 y156.1.gNum, Value.string ⟨List.toArray y156.1.gText⟩, v162]) rfl rfl hb169 rfl (one_cons rfl (one_cons rfl (one_cons rfl (one_cons (RD.one _ _ h163) one_nil)))) (cs' := [Value.int .i64 y156.1.gKind, Value.int .i64 y156.1.gNum, Value.string ⟨List.toArray y156.1.gText⟩, v162]) rfl ?_
  intro w185 hb186 x187
  have t188 := Tr.of_ext (O := (Ins (Ins (Ins (Ins O0 b64) b101) b132) b167)) x187 (fun _ _ h => by cases h; exact (Or.inl rfl))
  have B190 := B177.ext x187
  have X189 := X176.step x187 (fun y hy h => absurd hy (by cases h; have := g178; omega))
  refine OW.assign rfl rfl rfl rfl rfl ?_
  refine OW.assign rfl rfl rfl rfl rfl ?_
  refine OW.done (TW.seq (TW.region ?_))
  refine OW.build rfl rfl rfl rfl rfl (cs := [Value.int .i64 5, Value.int .i64 0, Value.string ⟨List.toArray ([] : List UInt8)⟩, Value.slice none 0 0]) rfl ?_
  have hb191 := (hb182.keep x187 n179)
  have hb192 := (hb183.keep x187 n180)
  have hb193 := (hb184.keep x187 n181)
  have h194 := h155.tr (t164.trans (t175.trans t188))
  obtain ⟨y195, hy196, hm⟩ := bnd hm
  refine OW.call rfl rfl rfl rfl rfl rfl Tryd.call15 ((C.cbor_Encode _ _ _ hy196 _ (Ins (Ins (Ins (Ins O0 b64) b101) b132) b167) _ B190 h194 (T_api_Cbor.shut (x := (T_api_Cbor.mk 5 0 ([] : List UInt8) [])) RD.nil)).mono ?_)
  rintro e w197 ⟨rfl, x198⟩
  refine CallK.ret ?_
  have t199 := Tr.of_ext (O := (Ins (Ins (Ins (Ins O0 b64) b101) b132) b167)) x198 (fun _ _ h => h.elim)
  have B201 := B190.ext x198
  have X200 := X189.step x198 (fun _ _ h => h.elim)
  refine OW.move rfl rfl rfl rfl rfl ?_
  refine OW.extract rfl rfl rfl rfl rfl rfl ?_
  refine OW.extract rfl rfl rfl rfl rfl rfl ?_
  refine OW.assign rfl rfl rfl rfl rfl ?_
  refine OW.assign rfl rfl rfl rfl rfl ?_
  refine OW.done (TW.seq (TW.region ?_))
  have hb202 := (hb191.keep x198 (fun h => h))
  refine OW.loadN rfl rfl rfl rfl shp_24 rfl hb202 (vs := [Value.int .i64 4, Value.int .i64 0, Value.string ⟨List.toArray ([] : List UInt8)⟩, Value.slice (some ⟨b51, 0, none⟩) 4 4]) rfl rfl ?_
  have hb203 := (hb192.keep x198 (fun h => h))
  have hb204 := (hb193.keep x198 (fun h => h))
  have hb205 := (hb186.keep x198 (fun h => h))
  have h206 := h194.tr t199
  have h207 := h80.tr (t85.trans (t98.trans (t107.trans (t116.trans (t129.trans (t139.trans (t150.trans (t164.trans (t175.trans (t188.trans t199))))))))))
  obtain ⟨y208, hy209, hm⟩ := bnd hm
  refine OW.call rfl rfl rfl rfl rfl rfl Tryd.call11 ((C.cbor_ByInt _ _ _ hy209 _ (Ins (Ins (Ins (Ins O0 b64) b101) b132) b167) _ B201 h206 (T_api_Cbor.shut (x := (T_api_Cbor.mk 4 0 ([] : List UInt8) [y1, y13, y25, y37])) h207)).mono ?_)
  rintro e w212 ⟨cs210, rfl, h211, x213⟩
  obtain ⟨v214, rfl, h215⟩ := T_api_Cbor.opn h211
  refine CallK.ret ?_
  have t216 := Tr.of_ext (O := (Ins (Ins (Ins (Ins O0 b64) b101) b132) b167)) x213 (fun _ _ h => h.elim)
  have B218 := B201.ext x213
  have X217 := X200.step x213 (fun _ _ h => h.elim)
  refine OW.move rfl rfl rfl rfl rfl ?_
  refine OW.extract rfl rfl rfl rfl rfl rfl ?_
  refine OW.extract rfl rfl rfl rfl rfl rfl ?_
  have hb224 := (hb202.keep x213 (fun h => h))
  have hb225 := (hb203.keep x213 (fun h => h))
  have hb226 := (hb204.keep x213 (fun h => h))
  have hb227 := (hb205.keep x213 (fun h => h))
  refine OW.alloc rfl rfl rfl rfl zer_24 (cs := [Value.int .i64 0, Value.int .i64 0, Value.string ⟨List.toArray ([] : List UInt8)⟩, Value.slice none 0 0]) rfl ?_
  intro b219 w220 hb221 x222 l223
  have t228 := Tr.of_new (O := (Ins (Ins (Ins (Ins O0 b64) b101) b132) b167)) x222 (fun _ _ h => h.elim) l223
  have B230 := (B218.ext x222).ins hb221.lt
  have X229 := X217.step x222 (fun _ _ h => h.elim)
  have g231 : w0.heap.size ≤ b219 := Nat.le_trans X217.size l223
  have n232 : b64 ≠ b219 := by have := hb224.lt; omega
  have n233 : b101 ≠ b219 := by have := hb225.lt; omega
  have n234 : b132 ≠ b219 := by have := hb226.lt; omega
  have n235 : b167 ≠ b219 := by have := hb227.lt; omega
  have hb236 := (hb224.keep x222 (fun h => h))
  have hb237 := (hb225.keep x222 (fun h => h))
  have hb238 := (hb226.keep x222 (fun h => h))
  have hb239 := (hb227.keep x222 (fun h => h))
  refine OW.store rfl rfl rfl shp_24 rfl rfl (vs := [Value.int .i64 y208.1.gKind, Value.int .i64 y208.1.gNum, Value.string ⟨List.toArray y208.1.gText⟩, v214]) rfl rfl hb221 rfl (one_cons rfl (one_cons rfl (one_cons rfl (one_cons (RD.one _ _ h215) one_nil)))) (cs' := [Value.int .i64 y208.1.gKind, Value.int .i64 y208.1.gNum, Value.string ⟨List.toArray y208.1.gText⟩, v214]) rfl ?_
  intro w240 hb241 x242
  have t243 := Tr.of_ext (O := (Ins (Ins (Ins (Ins (Ins O0 b64) b101) b132) b167) b219)) x242 (fun _ _ h => by cases h; exact (Or.inl rfl))
  have B245 := B230.ext x242
  have X244 := X229.step x242 (fun y hy h => absurd hy (by cases h; have := g231; omega))
  refine OW.assign rfl rfl rfl rfl rfl ?_
  refine OW.done (TW.seq (TW.region ?_))
  have hb246 := (hb236.keep x242 n232)
  refine OW.loadN rfl rfl rfl rfl shp_24 rfl hb246 (vs := [Value.int .i64 4, Value.int .i64 0, Value.string ⟨List.toArray ([] : List UInt8)⟩, Value.slice (some ⟨b51, 0, none⟩) 4 4]) rfl rfl ?_
  have hb247 := (hb237.keep x242 n233)
  have hb248 := (hb238.keep x242 n234)
  have hb249 := (hb239.keep x242 n235)
  have h250 := h206.tr (t216.trans (t228.trans t243))
  have h251 := h207.tr (t216.trans (t228.trans t243))
  obtain ⟨y252, hy253, hm⟩ := bnd hm
  refine OW.call rfl rfl rfl rfl rfl rfl Tryd.call13 ((C.cbor_ByText _ _ _ hy253 _ (Ins (Ins (Ins (Ins (Ins O0 b64) b101) b132) b167) b219) _ B245 h250 (T_api_Cbor.shut (x := (T_api_Cbor.mk 4 0 ([] : List UInt8) [y1, y13, y25, y37])) h251)).mono ?_)
  rintro e w256 ⟨cs254, rfl, h255, x257⟩
  obtain ⟨v258, rfl, h259⟩ := T_api_Cbor.opn h255
  refine CallK.ret ?_
  have t260 := Tr.of_ext (O := (Ins (Ins (Ins (Ins (Ins O0 b64) b101) b132) b167) b219)) x257 (fun _ _ h => h.elim)
  have B262 := B245.ext x257
  have X261 := X244.step x257 (fun _ _ h => h.elim)
  refine OW.move rfl rfl rfl rfl rfl ?_
  refine OW.extract rfl rfl rfl rfl rfl rfl ?_
  refine OW.extract rfl rfl rfl rfl rfl rfl ?_
  have hb268 := (hb246.keep x257 (fun h => h))
  have hb269 := (hb247.keep x257 (fun h => h))
  have hb270 := (hb248.keep x257 (fun h => h))
  have hb271 := (hb249.keep x257 (fun h => h))
  have hb272 := (hb241.keep x257 (fun h => h))
  refine OW.alloc rfl rfl rfl rfl zer_24 (cs := [Value.int .i64 0, Value.int .i64 0, Value.string ⟨List.toArray ([] : List UInt8)⟩, Value.slice none 0 0]) rfl ?_
  intro b263 w264 hb265 x266 l267
  have t273 := Tr.of_new (O := (Ins (Ins (Ins (Ins (Ins O0 b64) b101) b132) b167) b219)) x266 (fun _ _ h => h.elim) l267
  have B275 := (B262.ext x266).ins hb265.lt
  have X274 := X261.step x266 (fun _ _ h => h.elim)
  have g276 : w0.heap.size ≤ b263 := Nat.le_trans X261.size l267
  have n277 : b64 ≠ b263 := by have := hb268.lt; omega
  have n278 : b101 ≠ b263 := by have := hb269.lt; omega
  have n279 : b132 ≠ b263 := by have := hb270.lt; omega
  have n280 : b167 ≠ b263 := by have := hb271.lt; omega
  have n281 : b219 ≠ b263 := by have := hb272.lt; omega
  have hb282 := (hb268.keep x266 (fun h => h))
  have hb283 := (hb269.keep x266 (fun h => h))
  have hb284 := (hb270.keep x266 (fun h => h))
  have hb285 := (hb271.keep x266 (fun h => h))
  have hb286 := (hb272.keep x266 (fun h => h))
  refine OW.store rfl rfl rfl shp_24 rfl rfl (vs := [Value.int .i64 y252.1.gKind, Value.int .i64 y252.1.gNum, Value.string ⟨List.toArray y252.1.gText⟩, v258]) rfl rfl hb265 rfl (one_cons rfl (one_cons rfl (one_cons rfl (one_cons (RD.one _ _ h259) one_nil)))) (cs' := [Value.int .i64 y252.1.gKind, Value.int .i64 y252.1.gNum, Value.string ⟨List.toArray y252.1.gText⟩, v258]) rfl ?_
  intro w287 hb288 x289
  have t290 := Tr.of_ext (O := (Ins (Ins (Ins (Ins (Ins (Ins O0 b64) b101) b132) b167) b219) b263)) x289 (fun _ _ h => by cases h; exact (Or.inl rfl))
  have B292 := B275.ext x289
  have X291 := X274.step x289 (fun y hy h => absurd hy (by cases h; have := g276; omega))
  refine OW.assign rfl rfl rfl rfl rfl ?_
  refine OW.done (TW.seq ?_)
  refine TW.drawP [0, 1, 3, 7, 15, 31, 63, 127, 127, 511, 1023, 2047, 4095, 8191, 16383, 32767, 65535, 131071, 262143, 524287, 1048575, 2097151, 4194303, 8388607, 16777215, 33554431, 67108863, 134217727, 268435455, 536870911, 1073741823, 2147483647, 4294967295, 4294967295, 17179869183, 34359738367, 68719476735, 137438953471, 274877906943, 549755813887, 1099511627775, 2199023255551, 4398046511103, 8796093022207, 17592186044415, 35184372088831, 70368744177663, 140737488355327, 281474976710655, 562949953421311, 1125899906842623, 2251799813685247, 4503599627370495, 9007199254740991, 18014398509481983, 36028797018963967, 72057594037927935] [0, 1, 2, 3, 4, 5, 6, 7, 8] [(9, [], [10, 11, 12, 13, 14, 15, 16, 17, 18, 19, 20, 21, 22, 23, 24, 25, 26, 27, 28, 29, 30, 31, 32]), (33, [32], []), (34, [], [35, 36, 37, 38, 39, 40, 41, 42, 43, 44]), (45, [], [46, 47, 48, 49, 50, 51, 52, 53, 54, 55, 56])] mix (by kernel_rfl) ?_
  intro w293 x294
  have t295 := Tr.of_ext (O := (Ins (Ins (Ins (Ins (Ins (Ins O0 b64) b101) b132) b167) b219) b263)) x294 (fun _ _ h => h.elim)
  have B297 := B292.ext x294
  have X296 := X291.step x294 (fun _ _ h => h.elim)
  obtain ⟨_, hk298, hm⟩ := bnd hm
  have hk298 := chk_some hk298
  obtain ⟨_, hk299, hm⟩ := bnd hm
  have hk299 := chk_some hk299
  have hb300 := ((hb282.keep x289 n277).keep x294 (fun h => h))
  have hb301 := ((hb283.keep x289 n278).keep x294 (fun h => h))
  refine DP.put [(60, Value.string ⟨List.toArray y81.1⟩), (61, Value.bool (decide (y81.1 = ([162, 1, 2, 32, 97, 97] : List UInt8)))), (62, Value.bool (decide (y81.1 = ([162, 1, 2, 32, 97, 97] : List UInt8)))), (63, Value.int .i64 y81.2), (64, Value.bool (decide (y81.2 = 0))), (65, Value.bool (decide (y81.2 = 0))), (66, Value.bool (decide (y81.2 = 0))), (67, Value.agg (List.toArray [Value.int .i64 4, Value.int .i64 0, Value.string ⟨List.toArray ([] : List UInt8)⟩, Value.slice (some ⟨b51, 0, none⟩) 4 4])), (68, Value.agg (List.toArray [Value.int .i64 y90.1.gKind, Value.int .i64 y90.1.gNum, Value.string ⟨List.toArray y90.1.gText⟩, v96]))] rfl ?_
  refine DW.next (StabE.cons rfl rfl rfl rfl (EX.move rfl rfl) (StabE.cons rfl rfl rfl rfl (EX.binS rfl rfl rfl rfl) (StabE.cons rfl rfl rfl rfl (EX.move rfl rfl) (StabE.yesH rfl rfl rfl rfl rfl rfl hk298 (EX.move rfl rfl) (StabE.yesH rfl rfl rfl rfl rfl rfl hk298 (EX.binI rfl rfl rfl rfl) (StabE.cons rfl rfl rfl rfl (EX.pickT rfl rfl hk298 rfl) (StabE.cons rfl rfl rfl rfl (EX.move rfl rfl) (StabE.yesH rfl rfl rfl rfl rfl rfl hk299 (EX.loadN rfl shp_24 rfl hb300 (vs := [Value.int .i64 4, Value.int .i64 0, Value.string ⟨List.toArray ([] : List UInt8)⟩, Value.slice (some ⟨b51, 0, none⟩) 4 4]) rfl rfl) (StabE.yesH rfl rfl rfl rfl rfl rfl hk299 (EX.loadN rfl shp_24 rfl hb301 (vs := [Value.int .i64 y90.1.gKind, Value.int .i64 y90.1.gNum, Value.string ⟨List.toArray y90.1.gText⟩, v96]) rfl rfl) StabE.nil))))))))) rfl ?_
  refine OW.yesH rfl rfl rfl hk299 ?_
  have hb302 := ((hb284.keep x289 n279).keep x294 (fun h => h))
  have hb303 := ((hb285.keep x289 n280).keep x294 (fun h => h))
  have hb304 := ((hb286.keep x289 n281).keep x294 (fun h => h))
  have hb305 := (hb288.keep x294 (fun h => h))
  have h306 := h250.tr (t260.trans (t273.trans (t290.trans t295)))
  have h307 := h251.tr (t260.trans (t273.trans (t290.trans t295)))
  have h308 := h97.tr (t107.trans (t116.trans (t129.trans (t139.trans (t150.trans (t164.trans (t175.trans (t188.trans (t199.trans (t216.trans (t228.trans (t243.trans (t260.trans (t273.trans (t290.trans t295)))))))))))))))
  obtain ⟨y309, hy310, hm⟩ := bnd hm
  refine OW.call rfl rfl rfl rfl rfl rfl Tryd.call9 ((C.r03_Same _ _ _ _ hy310 _ (Ins (Ins (Ins (Ins (Ins (Ins O0 b64) b101) b132) b167) b219) b263) _ _ B297 h306 (T_api_Cbor.shut (x := (T_api_Cbor.mk 4 0 ([] : List UInt8) [y1, y13, y25, y37])) h307) (T_api_Cbor.shut (x := y90.1) h308)).mono ?_)
  rintro e w311 ⟨rfl, x312⟩
  refine CallK.ret ?_
  have t313 := Tr.of_ext (O := (Ins (Ins (Ins (Ins (Ins (Ins O0 b64) b101) b132) b167) b219) b263)) x312 (fun _ _ h => h.elim)
  have B315 := B297.ext x312
  have X314 := X296.step x312 (fun _ _ h => h.elim)
  refine DP.ow ?_
  obtain ⟨_, hk316, hm⟩ := bnd hm
  have hk316 := chk_some hk316
  obtain ⟨_, hk317, hm⟩ := bnd hm
  have hk317 := chk_some hk317
  obtain ⟨_, hk318, hm⟩ := bnd hm
  have hk318 := chk_some hk318
  obtain ⟨_, hk319, hm⟩ := bnd hm
  have hk319 := chk_some hk319
  obtain ⟨_, hk320, hm⟩ := bnd hm
  have hk320 := chk_some hk320
  obtain ⟨_, hk321, hm⟩ := bnd hm
  have hk321 := chk_some hk321
  have hb322 := (hb304.keep x312 (fun h => h))
  refine DP.put [(70, Value.bool y309), (71, Value.bool y309), (72, Value.int .i64 y90.2.1), (73, Value.bool (decide (y90.2.1 = 6))), (74, Value.bool (decide (y90.2.1 = 6))), (75, Value.bool (decide (y90.2.1 = 6))), (76, Value.int .i64 y90.2.2), (77, Value.bool (decide (y90.2.2 = 0))), (78, Value.bool (decide (y90.2.2 = 0))), (79, Value.bool (decide (y90.2.2 = 0))), (80, Value.int .i64 y121.2.2), (81, Value.bool (decide (y121.2.2 = 30))), (82, Value.bool (decide (y121.2.2 = 30))), (83, Value.bool (decide (y121.2.2 = 30))), (84, Value.int .i64 y156.2.2), (85, Value.bool (decide (y156.2.2 = 31))), (86, Value.bool (decide (y156.2.2 = 31))), (87, Value.bool (decide (y156.2.2 = 31))), (88, Value.int .i64 y195.2), (89, Value.bool (decide (y195.2 = 33))), (90, Value.bool (decide (y195.2 = 33))), (91, Value.bool (decide (y195.2 = 33))), (92, Value.agg (List.toArray [Value.int .i64 y208.1.gKind, Value.int .i64 y208.1.gNum, Value.string ⟨List.toArray y208.1.gText⟩, v214]))] rfl ?_
  refine DW.next (StabE.cons rfl rfl rfl rfl (EX.pickT rfl rfl hk299 rfl) (StabE.cons rfl rfl rfl rfl (EX.move rfl rfl) (StabE.yesH rfl rfl rfl rfl rfl rfl hk316 (EX.move rfl rfl) (StabE.yesH rfl rfl rfl rfl rfl rfl hk316 (EX.binI rfl rfl rfl rfl) (StabE.cons rfl rfl rfl rfl (EX.pickT rfl rfl hk316 rfl) (StabE.cons rfl rfl rfl rfl (EX.move rfl rfl) (StabE.yesH rfl rfl rfl rfl rfl rfl hk317 (EX.move rfl rfl) (StabE.yesH rfl rfl rfl rfl rfl rfl hk317 (EX.binI rfl rfl rfl rfl) (StabE.cons rfl rfl rfl rfl (EX.pickT rfl rfl hk317 rfl) (StabE.cons rfl rfl rfl rfl (EX.move rfl rfl) (StabE.yesH rfl rfl rfl rfl rfl rfl hk318 (EX.move rfl rfl) (StabE.yesH rfl rfl rfl rfl rfl rfl hk318 (EX.binI rfl rfl rfl rfl) (StabE.cons rfl rfl rfl rfl (EX.pickT rfl rfl hk318 rfl) (StabE.cons rfl rfl rfl rfl (EX.move rfl rfl) (StabE.yesH rfl rfl rfl rfl rfl rfl hk319 (EX.move rfl rfl) (StabE.yesH rfl rfl rfl rfl rfl rfl hk319 (EX.binI rfl rfl rfl rfl) (StabE.cons rfl rfl rfl rfl (EX.pickT rfl rfl hk319 rfl) (StabE.cons rfl rfl rfl rfl (EX.move rfl rfl) (StabE.yesH rfl rfl rfl rfl rfl rfl hk320 (EX.move rfl rfl) (StabE.yesH rfl rfl rfl rfl rfl rfl hk320 (EX.binI rfl rfl rfl rfl) (StabE.cons rfl rfl rfl rfl (EX.pickT rfl rfl hk320 rfl) (StabE.cons rfl rfl rfl rfl (EX.move rfl rfl) (StabE.yesH rfl rfl rfl rfl rfl rfl hk321 (EX.loadN rfl shp_24 rfl hb322 (vs := [Value.int .i64 y208.1.gKind, Value.int .i64 y208.1.gNum, Value.string ⟨List.toArray y208.1.gText⟩, v214]) rfl rfl) StabE.nil))))))))))))))))))))))) rfl ?_
  refine OW.yesH rfl rfl rfl hk321 ?_
  have hb323 := (hb300.keep x312 (fun h => h))
  have hb324 := (hb301.keep x312 (fun h => h))
  have hb325 := (hb302.keep x312 (fun h => h))
  have hb326 := (hb303.keep x312 (fun h => h))
  have hb327 := (hb305.keep x312 (fun h => h))
  have h328 := h306.tr t313
  obtain ⟨y329, hy330, hm⟩ := bnd hm
  refine OW.call rfl rfl rfl rfl rfl rfl Tryd.call21 ((C.l03_text _ _ hy330 _ (Ins (Ins (Ins (Ins (Ins (Ins O0 b64) b101) b132) b167) b219) b263)  B315 h328).mono ?_)
  rintro e w333 ⟨cs331, rfl, h332, x334⟩
  obtain ⟨v335, rfl, h336⟩ := T_api_Cbor.opn h332
  refine CallK.ret ?_
  have t337 := Tr.of_ext (O := (Ins (Ins (Ins (Ins (Ins (Ins O0 b64) b101) b132) b167) b219) b263)) x334 (fun _ _ h => h.elim)
  have B339 := B315.ext x334
  have X338 := X314.step x334 (fun _ _ h => h.elim)
  refine DP.ow ?_
  refine DP.put [] rfl ?_
  have hb340 := (hb322.keep x334 (fun h => h))
  refine DW.next (StabE.yesH rfl rfl rfl rfl rfl rfl hk321 (EX.loadN rfl shp_24 rfl hb340 (vs := [Value.int .i64 y208.1.gKind, Value.int .i64 y208.1.gNum, Value.string ⟨List.toArray y208.1.gText⟩, v214]) rfl rfl) StabE.nil) rfl ?_
  refine OW.yesH rfl rfl rfl hk321 ?_
  have hb341 := (hb323.keep x334 (fun h => h))
  have hb342 := (hb324.keep x334 (fun h => h))
  have hb343 := (hb325.keep x334 (fun h => h))
  have hb344 := (hb326.keep x334 (fun h => h))
  have hb345 := (hb327.keep x334 (fun h => h))
  have h346 := h328.tr t337
  have h347 := h215.tr (t228.trans (t243.trans (t260.trans (t273.trans (t290.trans (t295.trans (t313.trans t337)))))))
  obtain ⟨y348, hy349, hm⟩ := bnd hm
  refine OW.call rfl rfl rfl rfl rfl rfl Tryd.call9 ((C.r03_Same _ _ _ _ hy349 _ (Ins (Ins (Ins (Ins (Ins (Ins O0 b64) b101) b132) b167) b219) b263) _ _ B339 h346 (T_api_Cbor.shut (x := y208.1) h347) (T_api_Cbor.shut (x := y329) h336)).mono ?_)
  rintro e w350 ⟨rfl, x351⟩
  refine CallK.ret ?_
  have t352 := Tr.of_ext (O := (Ins (Ins (Ins (Ins (Ins (Ins O0 b64) b101) b132) b167) b219) b263)) x351 (fun _ _ h => h.elim)
  have B354 := B339.ext x351
  have X353 := X338.step x351 (fun _ _ h => h.elim)
  refine DP.ow ?_
  obtain ⟨_, hk355, hm⟩ := bnd hm
  have hk355 := chk_some hk355
  obtain ⟨_, hk356, hm⟩ := bnd hm
  have hk356 := chk_some hk356
  obtain ⟨_, hk357, hm⟩ := bnd hm
  have hk357 := chk_some hk357
  have hb358 := (hb341.keep x351 (fun h => h))
  refine DP.put [(95, Value.bool y348), (96, Value.bool y348), (97, Value.bool y208.2), (98, Value.bool y208.2), (99, Value.bool y208.2), (100, Value.bool y252.2), (101, Value.bool (!y252.2)), (102, Value.bool (!y252.2)), (103, Value.bool (!y252.2)), (104, Value.agg (List.toArray [Value.int .i64 4, Value.int .i64 0, Value.string ⟨List.toArray ([] : List UInt8)⟩, Value.slice (some ⟨b51, 0, none⟩) 4 4]))] rfl ?_
  refine DW.next (StabE.cons rfl rfl rfl rfl (EX.pickT rfl rfl hk321 rfl) (StabE.cons rfl rfl rfl rfl (EX.move rfl rfl) (StabE.yesH rfl rfl rfl rfl rfl rfl hk355 (EX.move rfl rfl) (StabE.cons rfl rfl rfl rfl (EX.pickT rfl rfl hk355 rfl) (StabE.cons rfl rfl rfl rfl (EX.move rfl rfl) (StabE.yesH rfl rfl rfl rfl rfl rfl hk356 (EX.move rfl rfl) (StabE.yesH rfl rfl rfl rfl rfl rfl hk356 (EX.notB rfl rfl) (StabE.cons rfl rfl rfl rfl (EX.pickT rfl rfl hk356 rfl) (StabE.cons rfl rfl rfl rfl (EX.move rfl rfl) (StabE.yesH rfl rfl rfl rfl rfl rfl hk357 (EX.loadN rfl shp_24 rfl hb358 (vs := [Value.int .i64 4, Value.int .i64 0, Value.string ⟨List.toArray ([] : List UInt8)⟩, Value.slice (some ⟨b51, 0, none⟩) 4 4]) rfl rfl) StabE.nil)))))))))) rfl ?_
  refine OW.yesH rfl rfl rfl hk357 ?_
  have hb359 := (hb342.keep x351 (fun h => h))
  have hb360 := (hb343.keep x351 (fun h => h))
  have hb361 := (hb344.keep x351 (fun h => h))
  have hb362 := (hb340.keep x351 (fun h => h))
  have hb363 := (hb345.keep x351 (fun h => h))
  have h364 := h346.tr t352
  have h365 := h307.tr (t313.trans (t337.trans t352))
  obtain ⟨y366, hy367, hm⟩ := bnd hm
  refine OW.call rfl rfl rfl rfl rfl rfl Tryd.call16 ((C.cbor_Check _ _ _ hy367 _ (Ins (Ins (Ins (Ins (Ins (Ins O0 b64) b101) b132) b167) b219) b263) _ B354 h364 (T_api_Cbor.shut (x := (T_api_Cbor.mk 4 0 ([] : List UInt8) [y1, y13, y25, y37])) h365)).mono ?_)
  rintro e w368 ⟨rfl, x369⟩
  refine CallK.ret ?_
  have t370 := Tr.of_ext (O := (Ins (Ins (Ins (Ins (Ins (Ins O0 b64) b101) b132) b167) b219) b263)) x369 (fun _ _ h => h.elim)
  have B372 := B354.ext x369
  have X371 := X353.step x369 (fun _ _ h => h.elim)
  refine DP.ow ?_
  obtain ⟨_, hk373, hm⟩ := bnd hm
  have hk373 := chk_some hk373
  refine DP.put [(106, Value.bool (decide (y366 = 0))), (107, Value.bool (decide (y366 = 0))), (108, Value.bool (decide (y366 = 0))), (109, Value.bool true), (110, Value.bool true), (111, Value.bool true), (112, Value.bool true), (113, Value.bool true), (114, Value.bool true), (115, Value.bool true), (0, Value.bool true)] rfl ?_
  refine DW.end' (StabE.yesH rfl rfl rfl rfl rfl rfl hk357 (EX.binI rfl rfl rfl rfl) (StabE.cons rfl rfl rfl rfl (EX.pickT rfl rfl hk357 rfl) (StabE.cons rfl rfl rfl rfl (EX.move rfl rfl) (StabE.cons rfl rfl rfl rfl (EX.pickT rfl rfl hk373 rfl) (StabE.cons rfl rfl rfl rfl (EX.move rfl rfl) (StabE.cons rfl rfl rfl rfl (EX.pickT rfl rfl rfl rfl) (StabE.cons rfl rfl rfl rfl (EX.move rfl rfl) (StabE.cons rfl rfl rfl rfl (EX.pickT rfl rfl rfl rfl) (StabE.cons rfl rfl rfl rfl (EX.move rfl rfl) (StabE.cons rfl rfl rfl rfl (EX.pickT rfl rfl rfl rfl) (StabE.cons rfl rfl rfl rfl (EX.assign rfl rfl) StabE.nil))))))))))) ?_
  cases hm
  exact TW.ret (Out.one rfl rfl) ⟨rfl, X371⟩
set_option maxRecDepth 1000000 in
set_option maxHeartbeats 4000000 in
theorem C.l03_CborReads (fuel : Nat) : ∀ (p0 : List UInt8) (r : Bool), M.l03_CborReads fuel p0 = some r → ∀ (w0 : World) (O0 : Nat → Prop) (B0 : Bd O0 w0) (G0 : Glob w0 O0), Calls Tryd.prog 3 (List.toArray [Value.string ⟨List.toArray p0⟩]) w0 (fun e w' => e = .returned (Value.bool r) ∧ Ext Nowhere w0 w') := by
  intro p0 r hm w0 O0  B0 G0 
  refine calls_of Tryd.func3 rfl 54 rfl rfl ?_
  unfold M.l03_CborReads at hm
  have X0 := Ext.refl Nowhere w0
  refine TW.seq (TW.region ?_)
  refine OW.assign rfl rfl rfl rfl rfl ?_
  refine OW.done (TW.seq (TW.seq (TW.region ?_)))
  refine OW.assign rfl rfl rfl rfl rfl ?_
  refine OW.done (TW.block ?_)
  refine TW.lp (fun K => ∀ (x7 : Int), M.l03_CborReads_k1 fuel p0 x7 = some r → ∀ (w1 : World) (O2 : Nat → Prop), Bd O2 w1 → Glob w1 O2 → Ext Nowhere w0 w1 → (∀ x, O0 x → O2 x) →  K [(0, Value.string ⟨List.toArray p0⟩), (3, Value.int .i64 x7)] w1) ?_ ?_
  · intro K hin8 hout9
    refine fun x7 hm => M.l03_CborReads_k1.partial_correctness fuel p0 (fun x7 r186 => r186 = r → ∀ (w1 : World) (O2 : Nat → Prop), Bd O2 w1 → Glob w1 O2 → Ext Nowhere w0 w1 → (∀ x, O0 x → O2 x) →  K [(0, Value.string ⟨List.toArray p0⟩), (3, Value.int .i64 x7)] w1) ?_ x7 r hm rfl
    intro self ih10 x7 r186 hm hr187 w1 O2 B3 G6 X4 lf5
    rw [hr187] at hm
    refine hin8 _ _ ?_
    refine TW.seq (TW.seq (TW.region ?_))
    refine OW.move rfl rfl rfl rfl rfl ?_
    refine OW.binI rfl rfl rfl rfl rfl rfl rfl ?_
    refine OW.done ?_
    refine TW.cond rfl (fun c11 => ?_) (fun c11 => ?_)
    · have hm := ite_t c11 hm
      refine TW.skip (TW.seq (TW.block (TW.seq (TW.region ?_))))
      refine OW.move rfl rfl rfl rfl rfl ?_
      obtain ⟨y12, hy13, hm⟩ := bnd hm
      refine OW.call rfl rfl rfl rfl rfl rfl Tryd.call7 ((C.cbor_Decode_own _ _ _ hy13 _ O2  B3 G6).mono ?_)
      rintro e w17 ⟨v14, rfl, h15, h16, x18⟩
      refine CallK.ret ?_
      have t19 := Tr.of_own (O := O2) x18 (fun _ _ h => h.elim) (fun b h => Or.inr (h16 b h))
      have X20 := X4.step x18 (fun _ _ h => h.elim)
      have B21 : Bd (fun x => O2 x ∨ v14.ownBlock = some x) w17 := Bd.own (B3.ext x18) h15.lt
      have gv22 : ∀ b, v14.ownBlock = some b → b < w0.heap.size → Nowhere b := fun b h hl => absurd hl (by have := X4.size; have := h16 b h; omega)
      have ho23 : Own w17 (fun x => O2 x ∨ v14.ownBlock = some x) 24 4 v14 (y12.1.gList.map T_api_Cbor.enc) := h15
      refine OW.move rfl rfl rfl rfl rfl ?_
      refine OW.extract rfl rfl rfl rfl rfl rfl ?_
      refine OW.extract rfl rfl rfl rfl rfl rfl ?_
      refine OW.extract rfl rfl rfl rfl rfl rfl ?_
      refine OW.alloc rfl rfl rfl rfl zer_24 (cs := [Value.int .i64 0, Value.int .i64 0, Value.string ⟨List.toArray ([] : List UInt8)⟩, Value.slice none 0 0]) rfl ?_
      intro b24 w25 hb26 x27 l28
      have t29 := Tr.of_new (O := (fun x => O2 x ∨ v14.ownBlock = some x)) x27 (fun _ _ h => h.elim) l28
      have B31 := (B21.ext x27).ins hb26.lt
      have X30 := X20.step x27 (fun _ _ h => h.elim)
      have g32 : w0.heap.size ≤ b24 := Nat.le_trans X20.size l28
      have n33 : v14.ownBlock ≠ some b24 := fun h => by have := ho23.lt _ h; omega
      have ho34 := (ho23.keep x27 (fun _ _ h => h) t29 (fun _ h => Or.inr h))
      refine OW.store rfl rfl rfl shp_24 rfl rfl (vs := [Value.int .i64 y12.1.gKind, Value.int .i64 y12.1.gNum, Value.string ⟨List.toArray y12.1.gText⟩, v14]) rfl rfl hb26 rfl (one_cons rfl (one_cons rfl (one_cons rfl (one_cons ho34.one one_nil)))) (cs' := [Value.int .i64 y12.1.gKind, Value.int .i64 y12.1.gNum, Value.string ⟨List.toArray y12.1.gText⟩, v14]) rfl ?_
      intro w35 hb36 x37
      have t38 := Tr.of_ext (O := (Ins (fun x => O2 x ∨ v14.ownBlock = some x) b24)) x37 (fun _ _ h => by cases h; exact (Or.inl rfl))
      have B40 := B31.ext x37
      have X39 := X30.step x37 (fun y hy h => absurd hy (by cases h; have := g32; omega))
      refine OW.assign rfl rfl rfl rfl rfl ?_
      refine OW.assign rfl rfl rfl rfl rfl ?_
      refine OW.done (TW.seq (TW.region ?_))
      refine OW.move rfl rfl rfl rfl rfl ?_
      have ho41 := (ho34.keep x37 (fun b h e => n33 (e ▸ h)) t38 (fun _ h => h))
      have h42 := G6.tr (t19.trans (t29.trans t38))
      obtain ⟨y43, hy44, hm⟩ := bnd hm
      refine OW.call rfl rfl rfl rfl rfl rfl Tryd.call8 ((C.r03_Decode _ _ _ hy44 _ (Ins (fun x => O2 x ∨ v14.ownBlock = some x) b24)  B40 h42).mono ?_)
      rintro e w47 ⟨cs45, rfl, h46, x48⟩
      obtain ⟨v49, rfl, h50⟩ := T_api_Cbor.opn h46
      refine CallK.ret ?_
      have t51 := Tr.of_ext (O := (Ins (fun x => O2 x ∨ v14.ownBlock = some x) b24)) x48 (fun _ _ h => h.elim)
      have B53 := B40.ext x48
      have X52 := X39.step x48 (fun _ _ h => h.elim)
      refine OW.move rfl rfl rfl rfl rfl ?_
      refine OW.extract rfl rfl rfl rfl rfl rfl ?_
      refine OW.extract rfl rfl rfl rfl rfl rfl ?_
      refine OW.extract rfl rfl rfl rfl rfl rfl ?_
      have hb59 := (hb36.keep x48 (fun h => h))
      have ho60 := (ho41.keep x48 (fun _ _ h => h) t51 (fun _ h => h))
      refine OW.alloc rfl rfl rfl rfl zer_24 (cs := [Value.int .i64 0, Value.int .i64 0, Value.string ⟨List.toArray ([] : List UInt8)⟩, Value.slice none 0 0]) rfl ?_
      intro b54 w55 hb56 x57 l58
      have t61 := Tr.of_new (O := (Ins (fun x => O2 x ∨ v14.ownBlock = some x) b24)) x57 (fun _ _ h => h.elim) l58
      have B63 := (B53.ext x57).ins hb56.lt
      have X62 := X52.step x57 (fun _ _ h => h.elim)
      have g64 : w0.heap.size ≤ b54 := Nat.le_trans X52.size l58
      have n65 : b24 ≠ b54 := by have := hb59.lt; omega
      have n66 : v14.ownBlock ≠ some b54 := fun h => by have := ho60.lt _ h; omega
      have hb67 := (hb59.keep x57 (fun h => h))
      have ho68 := (ho60.keep x57 (fun _ _ h => h) t61 (fun _ h => Or.inr h))
      refine OW.store rfl rfl rfl shp_24 rfl rfl (vs := [Value.int .i64 y43.1.gKind, Value.int .i64 y43.1.gNum, Value.string ⟨List.toArray y43.1.gText⟩, v49]) rfl rfl hb56 rfl (one_cons rfl (one_cons rfl (one_cons rfl (one_cons (RD.one _ _ h50) one_nil)))) (cs' := [Value.int .i64 y43.1.gKind, Value.int .i64 y43.1.gNum, Value.string ⟨List.toArray y43.1.gText⟩, v49]) rfl ?_
      intro w69 hb70 x71
      have t72 := Tr.of_ext (O := (Ins (Ins (fun x => O2 x ∨ v14.ownBlock = some x) b24) b54)) x71 (fun _ _ h => by cases h; exact (Or.inl rfl))
      have B74 := B63.ext x71
      have X73 := X62.step x71 (fun y hy h => absurd hy (by cases h; have := g64; omega))
      refine OW.assign rfl rfl rfl rfl rfl ?_
      refine OW.assign rfl rfl rfl rfl rfl ?_
      refine OW.done (TW.seq (TW.seq (TW.region ?_)))
      refine OW.move rfl rfl rfl rfl rfl ?_
      refine OW.move rfl rfl rfl rfl rfl ?_
      refine OW.binI rfl rfl rfl rfl rfl rfl rfl ?_
      refine OW.move rfl rfl rfl rfl rfl ?_
      refine OW.blk 4 (fun K => K [(34, Value.bool ((!decide (y12.2.2 = y43.2.2)) || (!decide (y12.2.1 = y43.2.1)))), (0, Value.string ⟨List.toArray p0⟩), (3, Value.int .i64 x7), (4, Value.pointer (some ⟨b24, 0, none⟩)), (5, Value.int .i64 y12.2.1), (6, Value.int .i64 y12.2.2), (7, Value.pointer (some ⟨b54, 0, none⟩)), (8, Value.int .i64 y43.2.1), (9, Value.int .i64 y43.2.2), (27, Value.int .i64 y12.2.2), (28, Value.int .i64 y43.2.2), (29, Value.bool (!decide (y12.2.2 = y43.2.2))), (30, Value.bool (!decide (y12.2.2 = y43.2.2)))] w69) ?_ ?_
      · show OW _ _ _ _ _ _ _ _
        refine OW.move rfl rfl rfl rfl rfl ?_
        obtain ⟨x91, hx92, hm⟩ := bnd hm
        refine OW.blk 5 (fun K => ∀ (w79 : World) (O80 : Nat → Prop), Bd O80 w79 → Glob w79 O80 → Ext Nowhere w0 w79 → (∀ x, O0 x → O80 x) → (O80 b24) → (O80 b54) → (Own w79 O80 24 4 v14 (y12.1.gList.map T_api_Cbor.enc)) → (BoxAt w79 b24 24 [Value.int .i64 y12.1.gKind, Value.int .i64 y12.1.gNum, Value.string ⟨List.toArray y12.1.gText⟩, v14]) → (RD w79 O80 (D.sl 24 4 (y43.1.gList.map T_api_Cbor.enc)) v49) → (BoxAt w79 b54 24 [Value.int .i64 y43.1.gKind, Value.int .i64 y43.1.gNum, Value.string ⟨List.toArray y43.1.gText⟩, v49]) →  K [(0, Value.string ⟨List.toArray p0⟩), (3, Value.int .i64 x7), (4, Value.pointer (some ⟨b24, 0, none⟩)), (5, Value.int .i64 y12.2.1), (6, Value.int .i64 y12.2.2), (7, Value.pointer (some ⟨b54, 0, none⟩)), (8, Value.int .i64 y43.2.1), (9, Value.int .i64 y43.2.2), (27, Value.int .i64 y12.2.2), (28, Value.int .i64 y43.2.2), (29, Value.bool (!decide (y12.2.2 = y43.2.2))), (30, Value.bool (!decide (y12.2.2 = y43.2.2))), (34, Value.bool ((!decide (y12.2.2 = y43.2.2)) || (!decide (y12.2.1 = y43.2.1)))), (35, Value.bool ((!decide (y12.2.2 = y43.2.2)) || (!decide (y12.2.1 = y43.2.1)))), (40, Value.bool x91)] w79) ?_ ?_
        · intro w79 O80 B81 G84 X82 lf83 m85 m86 h87 hb88 h89 hb90
          show OW _ _ _ _ _ _ _ _
          refine OW.done ?_
          refine TW.cond rfl (fun c115 => ?_) (fun c115 => ?_)
          · have hm := ite_t c115 hm
            refine TW.seq (TW.region ?_)
            refine OW.assign rfl rfl rfl rfl rfl ?_
            refine OW.done ?_
            cases hm
            exact TW.ret (Out.one rfl rfl) ⟨rfl, X82⟩
          · have hm := ite_f c115 hm
            refine TW.skip (TW.seq (TW.region ?_))
            refine OW.assign rfl rfl rfl rfl rfl ?_
            refine OW.done (TW.block ?_)
            obtain ⟨F143, j175, hF144, hj176, hm⟩ := bndF hm
            refine TW.blk2 (fun K => ∀ (_ : Unit), F143 (.go ()) = some r → ∀ (w116 : World) (O117 : Nat → Prop), Bd O117 w116 → Glob w116 O117 → Ext Nowhere w0 w116 → (∀ x, O0 x → O117 x) →  K [(0, Value.string ⟨List.toArray p0⟩), (3, Value.int .i64 x7)] w116) ?_ ?_
            · intro _ hm w116 O117 B118 G121 X119 lf120
              rw [hF144] at hm; dsimp only at hm
              refine TW.inBlock (TW.region ?_)
              refine OW.move rfl rfl rfl rfl rfl ?_
              refine OW.binI rfl rfl rfl rfl rfl rfl rfl ?_
              refine OW.assign rfl rfl rfl rfl rfl ?_
              refine OW.done ?_
              exact TW.sub (Sub.cons rfl (Sub.cons rfl Sub.nil)) (hout9 _ _ (ih10 (IntKind.wrap .i64 (x7 + 1)) _ hm rfl w116 O117 B118 G121 X119 (fun x h => (lf120 _ h))))
            · intro key146
              refine TW.lp (fun K => ∀ (x129 : Int) (x130 : Int) (x131 : List UInt8) (x132 : List T_api_Cbor) (x137 : Int) j, M.l03_CborReads_k4 fuel p0 x7 x129 x130 x131 x132 x137 = some j → F143 j = some r → ∀ (w122 : World) (O123 : Nat → Prop) (v133 : Value), Bd O123 w122 → Glob w122 O123 → Ext Nowhere w0 w122 → (∀ x, O0 x → O123 x) → (O123 b24) → (Own w122 O123 24 4 v133 (x132.map T_api_Cbor.enc)) → (∀ b, v133.ownBlock = some b → b < w0.heap.size → Nowhere b) → (BoxAt w122 b24 24 [Value.int .i64 x129, Value.int .i64 x130, Value.string ⟨List.toArray x131⟩, v133]) → (v133.ownBlock ≠ some b24) →  K [(0, Value.string ⟨List.toArray p0⟩), (3, Value.int .i64 x7), (4, Value.pointer (some ⟨b24, 0, none⟩)), (10, Value.int .i64 x137)] w122) ?_ ?_
              · intro K hin139 hout140
                refine fun x129 x130 x131 x132 x137 j hj => M.l03_CborReads_k4.partial_correctness fuel p0 x7 x129 x130 x131 (fun x132 x137 r145 => F143 r145 = some r → ∀ (w122 : World) (O123 : Nat → Prop) (v133 : Value), Bd O123 w122 → Glob w122 O123 → Ext Nowhere w0 w122 → (∀ x, O0 x → O123 x) → (O123 b24) → (Own w122 O123 24 4 v133 (x132.map T_api_Cbor.enc)) → (∀ b, v133.ownBlock = some b → b < w0.heap.size → Nowhere b) → (BoxAt w122 b24 24 [Value.int .i64 x129, Value.int .i64 x130, Value.string ⟨List.toArray x131⟩, v133]) → (v133.ownBlock ≠ some b24) →  K [(0, Value.string ⟨List.toArray p0⟩), (3, Value.int .i64 x7), (4, Value.pointer (some ⟨b24, 0, none⟩)), (10, Value.int .i64 x137)] w122) ?_ x132 x137 j hj
                intro self ih141 x132 x137 r145 hm hr142 w122 O123 v133 B124 G127 X125 lf126 m128 h134 gv135 hb136 n138
                refine hin139 _ _ ?_
                refine TW.seq (TW.seq (TW.region ?_))
                refine OW.move rfl rfl rfl rfl rfl ?_
                refine OW.fieldAddr rfl rfl rfl rfl fld_24_3 rfl ?_
                refine OW.load1 rfl rfl rfl rfl shp_22 rfl hb136 rfl ?_
                refine OW.lenV rfl rfl rfl rfl Tryd.underlying22 rfl (Own.len' h134) ?_
                refine OW.binI rfl rfl rfl rfl rfl rfl rfl ?_
                refine OW.done ?_
                refine TW.cond rfl (fun c147 => ?_) (fun c147 => ?_)
                · have hm := ite_t c147 hm
                  refine TW.skip (TW.seq (TW.block (TW.region ?_)))
                  refine OW.fieldAddr rfl rfl rfl rfl fld_24_3 rfl ?_
                  refine OW.load1 rfl rfl rfl rfl shp_22 rfl hb136 rfl ?_
                  refine OW.move rfl rfl rfl rfl rfl ?_
                  refine OW.build rfl rfl rfl rfl rfl (cs := [Value.int .i64 0, Value.int .i64 (-5), Value.string ⟨List.toArray ([] : List UInt8)⟩, Value.slice none 0 0]) rfl ?_
                  obtain ⟨x148, h149, hm⟩ := bnd hm
                  obtain ⟨j150, hj151, hc152⟩ := ix_some h149
                  obtain ⟨b153, q154, cap155, hv156, hlt157, cs158, hl159, hcc160, hr161⟩ := RD.elem' h134.data hc152
                  obtain ⟨v162, rfl, h163⟩ := T_api_Cbor.opn hr161
                  refine OW.indexAddrV rfl rfl rfl rfl Tryd.underlying22 shp_24 rfl hv156 rfl hj151 hlt157 ?_
                  obtain ⟨l164, h165, hm⟩ := bnd hm
                  have hl169 := setx_some h165 hj151
                  refine OW.storeE (a := (T_api_Cbor.mk 0 (-5) ([] : List UInt8) [])) rfl rfl rfl shp_24 rfl rfl (vs := [Value.int .i64 0, Value.int .i64 (-5), Value.string ⟨List.toArray ([] : List UInt8)⟩, Value.slice none 0 0]) rfl rfl hv156 h134 hlt157 (one_cons rfl (one_cons rfl (one_cons rfl (one_cons rfl one_nil)))) (T_api_Cbor.shut (x := (T_api_Cbor.mk 0 (-5) ([] : List UInt8) [])) RD.nil) ?_
                  intro w166 ho168 x167
                  rw [← hl169] at ho168
                  have t170 := Tr.of_ext (O := O123) x167 (fun b _ h => h134.mem b h)
                  have B172 := B124.ext x167
                  have X171 := X125.step x167 (fun y hy h => gv135 y h hy)
                  refine OW.done (TW.inBlock (TW.region ?_))
                  refine OW.move rfl rfl rfl rfl rfl ?_
                  refine OW.binI rfl rfl rfl rfl rfl rfl rfl ?_
                  refine OW.assign rfl rfl rfl rfl rfl ?_
                  refine OW.done ?_
                  have hb173 := (hb136.keep x167 (n138))
                  have h174 := G127.tr t170
                  exact TW.sub (Sub.cons rfl (Sub.cons rfl (Sub.cons rfl (Sub.cons rfl Sub.nil)))) (hout140 _ _ (ih141 l164 (IntKind.wrap .i64 (x137 + 1)) _ hm hr142 w166 O123 v133 B172 h174 X171 (fun x h => (lf126 _ h)) m128 ho168 gv135 hb173 n138))
                · have hm := ite_f c147 hm
                  refine TW.exit rfl ?_
                  cases hm
                  exact TW.sub (Sub.cons rfl (Sub.cons rfl Sub.nil)) (key146 () hr142 w122 O123 B124 G127 X125 (fun x h => (lf126 _ h)))
              · intro key177
                exact TW.sub (Sub.cons rfl (Sub.cons rfl (Sub.cons rfl (Sub.cons rfl Sub.nil)))) (key177 y12.1.gKind y12.1.gNum y12.1.gText y12.1.gList 0 _ hj176 hm w79 O80 v14 B81 G84 X82 (fun x h => (lf83 _ h)) m85 h87 gv22 hb88 n33)
        · intro key93
          rcases c94 : ((!decide (y12.2.2 = y43.2.2)) || (!decide (y12.2.1 = y43.2.1))) with _ | _
          · have hm := ite_f c94 hx92
            try simp only [c94] at key93
            refine OW.yes rfl rfl rfl ?_
            have hb99 := (hb67.keep x71 n65)
            refine OW.loadN rfl rfl rfl rfl shp_24 rfl hb99 (vs := [Value.int .i64 y12.1.gKind, Value.int .i64 y12.1.gNum, Value.string ⟨List.toArray y12.1.gText⟩, v14]) rfl rfl ?_
            refine OW.yes rfl rfl rfl ?_
            refine OW.loadN rfl rfl rfl rfl shp_24 rfl hb70 (vs := [Value.int .i64 y43.1.gKind, Value.int .i64 y43.1.gNum, Value.string ⟨List.toArray y43.1.gText⟩, v49]) rfl rfl ?_
            refine OW.yes rfl rfl rfl ?_
            have ho100 := (ho68.keep x71 (fun b h e => n66 (e ▸ h)) t72 (fun _ h => h))
            have h101 := h42.tr (t51.trans (t61.trans t72))
            have h102 := h50.tr (t61.trans t72)
            obtain ⟨y103, hy104, hm⟩ := bnd hm
            refine OW.call rfl rfl rfl rfl rfl rfl Tryd.call9 ((C.r03_Same _ _ _ _ hy104 _ (Del (Ins (Ins (fun x => O2 x ∨ v14.ownBlock = some x) b24) b54) v14) _ _ (fun x h => B74 x h.1) (h101.tr (Tr.drop _ (fun x h => h.1))) (T_api_Cbor.shut (x := y12.1) ho100.data) ((T_api_Cbor.shut (x := y43.1) h102).tr (Tr.drop _ (fun x h => h.1)))).mono ?_)
            rintro e w105 ⟨rfl, x106⟩
            refine CallK.ret ?_
            have t107 := Tr.of_ext (O := (Ins (Ins (fun x => O2 x ∨ v14.ownBlock = some x) b24) b54)) x106 (fun _ _ h => h.elim)
            have B109 := B74.ext x106
            have X108 := X73.step x106 (fun _ _ h => h.elim)
            refine OW.yes rfl rfl rfl ?_
            refine OW.notB rfl rfl rfl rfl rfl ?_
            refine OW.pick_f rfl rfl rfl rfl rfl rfl ?_
            cases hm
            have ho110 := (ho100.keep x106 (fun _ _ h => h) t107 (fun _ h => h))
            have hb111 := (hb99.keep x106 (fun h => h))
            have h112 := h102.tr t107
            have hb113 := (hb70.keep x106 (fun h => h))
            have h114 := h101.tr t107
            exact OW.sub (Sub.cons rfl (Sub.cons rfl (Sub.cons rfl (Sub.cons rfl (Sub.cons rfl (Sub.cons rfl (Sub.cons rfl (Sub.cons rfl (Sub.cons rfl (Sub.cons rfl (Sub.cons rfl (Sub.cons rfl (Sub.cons rfl (Sub.cons rfl (Sub.cons rfl Sub.nil))))))))))))))) (key93 w105 (Ins (Ins (fun x => O2 x ∨ v14.ownBlock = some x) b24) b54) B109 h114 X108 (fun x h => (Or.inr (Or.inr (Or.inl (lf5 _ h))))) (Or.inr (Or.inl rfl)) (Or.inl rfl) ho110 hb111 h112 hb113)
          · have hm := ite_t c94 hx92
            try simp only [c94] at key93
            refine OW.not rfl rfl rfl rfl rfl rfl ?_
            refine OW.not rfl rfl rfl rfl rfl rfl ?_
            refine OW.not rfl rfl rfl rfl rfl rfl ?_
            refine OW.not rfl rfl rfl rfl rfl rfl ?_
            refine OW.pick_t rfl rfl rfl rfl rfl rfl ?_
            cases hm
            have ho95 := (ho68.keep x71 (fun b h e => n66 (e ▸ h)) t72 (fun _ h => h))
            have hb96 := (hb67.keep x71 n65)
            have h97 := h50.tr (t61.trans t72)
            have h98 := h42.tr (t51.trans (t61.trans t72))
            exact OW.sub (Sub.cons rfl (Sub.cons rfl (Sub.cons rfl (Sub.cons rfl (Sub.cons rfl (Sub.cons rfl (Sub.cons rfl (Sub.cons rfl (Sub.cons rfl (Sub.cons rfl (Sub.cons rfl (Sub.cons rfl (Sub.cons rfl (Sub.cons rfl (Sub.cons rfl Sub.nil))))))))))))))) (key93 w69 (Ins (Ins (fun x => O2 x ∨ v14.ownBlock = some x) b24) b54) B74 h98 X73 (fun x h => (Or.inr (Or.inr (Or.inl (lf5 _ h))))) (Or.inr (Or.inl rfl)) (Or.inl rfl) ho95 hb96 h97 hb70)
      · intro key77
        cases c76 : (!decide (y12.2.2 = y43.2.2))
        · try simp only [c76] at key77
          refine OW.yes rfl rfl rfl ?_
          refine OW.move rfl rfl rfl rfl rfl ?_
          refine OW.yes rfl rfl rfl ?_
          refine OW.move rfl rfl rfl rfl rfl ?_
          refine OW.yes rfl rfl rfl ?_
          refine OW.binI rfl rfl rfl rfl rfl rfl rfl ?_
          refine OW.pick_f rfl rfl rfl rfl rfl rfl ?_
          exact OW.sub (Sub.cons rfl (Sub.cons rfl (Sub.cons rfl (Sub.cons rfl (Sub.cons rfl (Sub.cons rfl (Sub.cons rfl (Sub.cons rfl (Sub.cons rfl (Sub.cons rfl (Sub.cons rfl (Sub.cons rfl (Sub.cons rfl Sub.nil))))))))))))) key77
        · try simp only [c76] at key77
          refine OW.not rfl rfl rfl rfl rfl rfl ?_
          refine OW.not rfl rfl rfl rfl rfl rfl ?_
          refine OW.not rfl rfl rfl rfl rfl rfl ?_
          refine OW.pick_t rfl rfl rfl rfl rfl rfl ?_
          exact OW.sub (Sub.cons rfl (Sub.cons rfl (Sub.cons rfl (Sub.cons rfl (Sub.cons rfl (Sub.cons rfl (Sub.cons rfl (Sub.cons rfl (Sub.cons rfl (Sub.cons rfl (Sub.cons rfl (Sub.cons rfl (Sub.cons rfl Sub.nil))))))))))))) key77
    · have hm := ite_f c11 hm
      refine TW.exit rfl (TW.seq (TW.region ?_))
      obtain ⟨y179, hy180, hm⟩ := bnd hm
      refine OW.call rfl rfl rfl rfl rfl rfl Tryd.call10 ((C.l03_awake _  _ hy180 _ O2  B3 G6).mono ?_)
      rintro e w181 ⟨rfl, x182⟩
      refine CallK.ret ?_
      have t183 := Tr.of_ext (O := O2) x182 (fun _ _ h => h.elim)
      have B185 := B3.ext x182
      have X184 := X4.step x182 (fun _ _ h => h.elim)
      refine OW.assign rfl rfl rfl rfl rfl ?_
      refine OW.done ?_
      cases hm
      exact TW.ret (Out.one rfl rfl) ⟨rfl, X184⟩
  · intro key188
    exact TW.sub (Sub.cons rfl (Sub.cons rfl Sub.nil)) (key188 0 hm w0 O0 B0 G0 X0 (fun x h => h))
set_option maxRecDepth 1000000 in
set_option maxHeartbeats 4000000 in
theorem C.r03_by : ∀ (p0 : T_api_Cbor) (p1 : T_api_Cbor) (r : T_api_Cbor × Bool), M.r03_by p0 p1 = some r → ∀ (w0 : World) (O0 : Nat → Prop) (cs0 : List Value) (cs1 : List Value) (B0 : Bd O0 w0) (G0 : Glob w0 O0) (h0 : RDs w0 O0 (T_api_Cbor.enc p0) cs0) (h1 : RDs w0 O0 (T_api_Cbor.enc p1) cs1), Calls Tryd.prog 24 (List.toArray [Value.agg cs0.toArray, Value.agg cs1.toArray]) w0 (fun e w' => ∃ (us0 : List Value), e = .returned (Value.tuple (List.toArray [Value.agg us0.toArray, Value.bool r.2])) ∧ RDs w' O0 (T_api_Cbor.enc r.1) us0 ∧ Ext Nowhere w0 w') := by
  intro p0 p1 r hm w0 O0 cs0 cs1 B0 G0 h0 h1
  refine calls_of Tryd.func24 rfl 60 rfl rfl ?_
  unfold M.r03_by at hm
  have X0 := Ext.refl Nowhere w0
  obtain ⟨v1, rfl, h2⟩ := T_api_Cbor.opn h0
  obtain ⟨v3, rfl, h4⟩ := T_api_Cbor.opn h1
  refine TW.seq (TW.region ?_)
  refine OW.box rfl rfl rfl rfl rfl (cs := [Value.int .i64 p0.gKind, Value.int .i64 p0.gNum, Value.string ⟨List.toArray p0.gText⟩, v1]) rfl ?_
  intro b5 w6 hb7 x8 l9
  have t10 := Tr.of_new (O := O0) x8 (fun _ _ h => h.elim) l9
  have B12 := (B0.ext x8).ins hb7.lt
  have X11 := X0.step x8 (fun _ _ h => h.elim)
  have g13 : w0.heap.size ≤ b5 := Nat.le_trans X0.size l9
  refine OW.box rfl rfl rfl rfl rfl (cs := [Value.int .i64 p1.gKind, Value.int .i64 p1.gNum, Value.string ⟨List.toArray p1.gText⟩, v3]) rfl ?_
  intro b14 w15 hb16 x17 l18
  have t19 := Tr.of_new (O := (Ins O0 b5)) x17 (fun _ _ h => h.elim) l18
  have B21 := (B12.ext x17).ins hb16.lt
  have X20 := X11.step x17 (fun _ _ h => h.elim)
  have g22 : w0.heap.size ≤ b14 := Nat.le_trans X11.size l18
  have n23 : b5 ≠ b14 := by have := hb7.lt; omega
  have hb29 := (hb7.keep x17 (fun h => h))
  refine OW.alloc rfl rfl rfl rfl zer_24 (cs := [Value.int .i64 0, Value.int .i64 0, Value.string ⟨List.toArray ([] : List UInt8)⟩, Value.slice none 0 0]) rfl ?_
  intro b24 w25 hb26 x27 l28
  have t30 := Tr.of_new (O := (Ins (Ins O0 b5) b14)) x27 (fun _ _ h => h.elim) l28
  have B32 := (B21.ext x27).ins hb26.lt
  have X31 := X20.step x27 (fun _ _ h => h.elim)
  have g33 : w0.heap.size ≤ b24 := Nat.le_trans X20.size l28
  have n34 : b5 ≠ b24 := by have := hb29.lt; omega
  have n35 : b14 ≠ b24 := by have := hb16.lt; omega
  refine OW.assign rfl rfl rfl rfl rfl ?_
  refine OW.done (TW.seq (TW.seq (TW.region ?_)))
  refine OW.fieldAddr rfl rfl rfl rfl fld_24_0 rfl ?_
  have hb36 := (hb29.keep x27 (fun h => h))
  refine OW.load1 rfl rfl rfl rfl shp_3 rfl hb36 rfl ?_
  refine OW.binI rfl rfl rfl rfl rfl rfl rfl ?_
  refine OW.done ?_
  refine TW.cond rfl (fun c37 => ?_) (fun c37 => ?_)
  · have hm := ite_t c37 hm
    refine TW.seq (TW.region ?_)
    refine OW.assign rfl rfl rfl rfl rfl ?_
    refine OW.done (TW.block ?_)
    refine TW.lp (fun K => ∀ (x51 : Int) (x52 : Int) (x53 : List UInt8) (x54 : List T_api_Cbor) (x58 : Int), M.r03_by_k1 p0 p1 x51 x52 x53 x54 x58 = some r → ∀ (w38 : World) (O39 : Nat → Prop) (v55 : Value), Bd O39 w38 → Glob w38 O39 → Ext Nowhere w0 w38 → (∀ x, O0 x → O39 x) → (O39 b5) → (O39 b14) → (O39 b24) → (RD w38 O39 (D.sl 24 4 (p0.gList.map T_api_Cbor.enc)) v1) → (BoxAt w38 b5 24 [Value.int .i64 p0.gKind, Value.int .i64 p0.gNum, Value.string ⟨List.toArray p0.gText⟩, v1]) → (RD w38 O39 (D.sl 24 4 (p1.gList.map T_api_Cbor.enc)) v3) → (BoxAt w38 b14 24 [Value.int .i64 p1.gKind, Value.int .i64 p1.gNum, Value.string ⟨List.toArray p1.gText⟩, v3]) → (RD w38 O39 (D.sl 24 4 (x54.map T_api_Cbor.enc)) v55) → (BoxAt w38 b24 24 [Value.int .i64 x51, Value.int .i64 x52, Value.string ⟨List.toArray x53⟩, v55]) →  K [(2, Value.pointer (some ⟨b5, 0, none⟩)), (3, Value.pointer (some ⟨b14, 0, none⟩)), (4, Value.pointer (some ⟨b24, 0, none⟩)), (6, Value.int .i64 x58)] w38) ?_ ?_
    · intro K hin59 hout60
      refine fun x51 x52 x53 x54 x58 hm => M.r03_by_k1.partial_correctness p0 p1 x51 x52 x53 x54 (fun x58 r152 => r152 = r → ∀ (w38 : World) (O39 : Nat → Prop) (v55 : Value), Bd O39 w38 → Glob w38 O39 → Ext Nowhere w0 w38 → (∀ x, O0 x → O39 x) → (O39 b5) → (O39 b14) → (O39 b24) → (RD w38 O39 (D.sl 24 4 (p0.gList.map T_api_Cbor.enc)) v1) → (BoxAt w38 b5 24 [Value.int .i64 p0.gKind, Value.int .i64 p0.gNum, Value.string ⟨List.toArray p0.gText⟩, v1]) → (RD w38 O39 (D.sl 24 4 (p1.gList.map T_api_Cbor.enc)) v3) → (BoxAt w38 b14 24 [Value.int .i64 p1.gKind, Value.int .i64 p1.gNum, Value.string ⟨List.toArray p1.gText⟩, v3]) → (RD w38 O39 (D.sl 24 4 (x54.map T_api_Cbor.enc)) v55) → (BoxAt w38 b24 24 [Value.int .i64 x51, Value.int .i64 x52, Value.string ⟨List.toArray x53⟩, v55]) →  K [(2, Value.pointer (some ⟨b5, 0, none⟩)), (3, Value.pointer (some ⟨b14, 0, none⟩)), (4, Value.pointer (some ⟨b24, 0, none⟩)), (6, Value.int .i64 x58)] w38) ?_ x58 r hm rfl
      intro self ih61 x58 r152 hm hr153 w38 O39 v55 B40 G43 X41 lf42 m44 m45 m46 h47 hb48 h49 hb50 h56 hb57
      rw [hr153] at hm
      refine hin59 _ _ ?_
      refine TW.seq (TW.seq (TW.region ?_))
      refine OW.move rfl rfl rfl rfl rfl ?_
      refine OW.binI rfl rfl rfl rfl rfl rfl rfl ?_
      refine OW.fieldAddr rfl rfl rfl rfl fld_24_3 rfl ?_
      refine OW.load1 rfl rfl rfl rfl shp_22 rfl hb48 rfl ?_
      refine OW.lenV rfl rfl rfl rfl Tryd.underlying22 rfl (RD.len' h47) ?_
      refine OW.binI rfl rfl rfl rfl rfl rfl rfl ?_
      refine OW.done ?_
      refine TW.cond rfl (fun c62 => ?_) (fun c62 => ?_)
      · have hm := ite_t c62 hm
        refine TW.skip (TW.seq (TW.block (TW.seq (TW.region ?_))))
        refine OW.fieldAddr rfl rfl rfl rfl fld_24_3 rfl ?_
        refine OW.load1 rfl rfl rfl rfl shp_22 rfl hb48 rfl ?_
        refine OW.move rfl rfl rfl rfl rfl ?_
        obtain ⟨x63, h64, hm⟩ := bnd hm
        obtain ⟨j65, hj66, hc67⟩ := ix_some h64
        obtain ⟨b68, q69, cap70, hv71, hlt72, cs73, hl74, hcc75, hr76⟩ := RD.elem' h47 hc67
        obtain ⟨v77, rfl, h78⟩ := T_api_Cbor.opn hr76
        refine OW.indexAddrV rfl rfl rfl rfl Tryd.underlying22 shp_24 rfl hv71 rfl hj66 hlt72 ?_
        refine OW.loadCs rfl rfl rfl rfl shp_24 rfl rfl hcc75.at_ ?_
        refine OW.alloc rfl rfl rfl rfl zer_24 (cs := [Value.int .i64 0, Value.int .i64 0, Value.string ⟨List.toArray ([] : List UInt8)⟩, Value.slice none 0 0]) rfl ?_
        intro b79 w80 hb81 x82 l83
        have t84 := Tr.of_new (O := O39) x82 (fun _ _ h => h.elim) l83
        have B86 := (B40.ext x82).ins hb81.lt
        have X85 := X41.step x82 (fun _ _ h => h.elim)
        have g87 : w0.heap.size ≤ b79 := Nat.le_trans X41.size l83
        have n88 : b5 ≠ b79 := by have := hb48.lt; omega
        have n89 : b14 ≠ b79 := by have := hb50.lt; omega
        have n90 : b24 ≠ b79 := by have := hb57.lt; omega
        have hb91 := (hb48.keep x82 (fun h => h))
        have hb92 := (hb50.keep x82 (fun h => h))
        have hb93 := (hb57.keep x82 (fun h => h))
        refine OW.store rfl rfl rfl shp_24 rfl rfl (vs := [Value.int .i64 x63.gKind, Value.int .i64 x63.gNum, Value.string ⟨List.toArray x63.gText⟩, v77]) rfl rfl hb81 rfl (one_cons rfl (one_cons rfl (one_cons rfl (one_cons (RD.one _ _ h78) one_nil)))) (cs' := [Value.int .i64 x63.gKind, Value.int .i64 x63.gNum, Value.string ⟨List.toArray x63.gText⟩, v77]) rfl ?_
        intro w94 hb95 x96
        have t97 := Tr.of_ext (O := (Ins O39 b79)) x96 (fun _ _ h => by cases h; exact (Or.inl rfl))
        have B99 := B86.ext x96
        have X98 := X85.step x96 (fun y hy h => absurd hy (by cases h; have := g87; omega))
        refine OW.done (TW.seq (TW.region ?_))
        refine OW.fieldAddr rfl rfl rfl rfl fld_24_0 rfl ?_
        refine OW.load1 rfl rfl rfl rfl shp_3 rfl hb95 rfl ?_
        refine OW.fieldAddr rfl rfl rfl rfl fld_24_0 rfl ?_
        have hb100 := (hb92.keep x96 n89)
        refine OW.load1 rfl rfl rfl rfl shp_3 rfl hb100 rfl ?_
        refine OW.binI rfl rfl rfl rfl rfl rfl rfl ?_
        refine OW.move rfl rfl rfl rfl rfl ?_
        refine OW.blk 23 (fun K => K [(52, Value.bool ((decide (x63.gKind = p1.gKind)) && (((decide (x63.gKind = 0)) && (decide (x63.gNum = p1.gNum))) || ((decide (x63.gKind = 2)) && (decide (x63.gText = p1.gText)))))), (2, Value.pointer (some ⟨b5, 0, none⟩)), (3, Value.pointer (some ⟨b14, 0, none⟩)), (4, Value.pointer (some ⟨b24, 0, none⟩)), (6, Value.int .i64 x58), (7, Value.pointer (some ⟨b79, 0, none⟩)), (24, Value.pointer (some ⟨b79, 0 + 0, none⟩)), (25, Value.int .i64 x63.gKind), (26, Value.pointer (some ⟨b14, 0 + 0, none⟩)), (27, Value.int .i64 p1.gKind), (28, Value.bool (decide (x63.gKind = p1.gKind))), (29, Value.bool (decide (x63.gKind = p1.gKind)))] w94) ?_ ?_
        · show OW _ _ _ _ _ _ _ _
          refine OW.done ?_
          refine TW.cond rfl (fun c104 => ?_) (fun c104 => ?_)
          · have hm := ite_t c104 hm
            refine TW.seq (TW.region ?_)
            refine OW.fieldAddr rfl rfl rfl rfl fld_24_3 rfl ?_
            have hb105 := (hb91.keep x96 n88)
            refine OW.load1 rfl rfl rfl rfl shp_22 rfl hb105 rfl ?_
            refine OW.move rfl rfl rfl rfl rfl ?_
            refine OW.binI rfl rfl rfl rfl rfl rfl rfl ?_
            have h106 := h47.tr (t84.trans t97)
            obtain ⟨x107, h108, hm⟩ := bnd hm
            obtain ⟨j109, hj110, hc111⟩ := ix_some h108
            obtain ⟨b112, q113, cap114, hv115, hlt116, cs117, hl118, hcc119, hr120⟩ := RD.elem' h106 hc111
            obtain ⟨v121, rfl, h122⟩ := T_api_Cbor.opn hr120
            refine OW.indexAddrV rfl rfl rfl rfl Tryd.underlying22 shp_24 rfl hv115 rfl hj110 hlt116 ?_
            refine OW.loadCs rfl rfl rfl rfl shp_24 rfl rfl hcc119.at_ ?_
            have hb123 := (hb93.keep x96 n90)
            refine OW.store rfl rfl rfl shp_24 rfl rfl (vs := [Value.int .i64 x107.gKind, Value.int .i64 x107.gNum, Value.string ⟨List.toArray x107.gText⟩, v121]) rfl rfl hb123 rfl (one_cons rfl (one_cons rfl (one_cons rfl (one_cons (RD.one _ _ h122) one_nil)))) (cs' := [Value.int .i64 x107.gKind, Value.int .i64 x107.gNum, Value.string ⟨List.toArray x107.gText⟩, v121]) rfl ?_
            intro w124 hb125 x126
            have t127 := Tr.of_ext (O := (Ins O39 b79)) x126 (fun _ _ h => by cases h; exact (Or.inr m46))
            have B129 := B99.ext x126
            have X128 := X98.step x126 (fun y hy h => absurd hy (by cases h; have := g33; omega))
            refine OW.assign rfl rfl rfl rfl rfl ?_
            refine OW.done ?_
            have h130 := h122.tr t127
            cases hm
            exact TW.ret (Out.many rfl ⟨_, _, rfl, ⟨_, _, _, _, _, rfl, shp_24, hb125, rfl, rfl⟩, ⟨_, _, rfl, rfl, rfl⟩⟩ rfl) ⟨_, rfl, (T_api_Cbor.shut (x := x107) (h130.tr (Tr.drop _ fun x h => (Or.inr (lf42 _ h))))), X128⟩
          · have hm := ite_f c104 hm
            refine TW.skip (TW.inBlock (TW.region ?_))
            refine OW.move rfl rfl rfl rfl rfl ?_
            refine OW.binI rfl rfl rfl rfl rfl rfl rfl ?_
            refine OW.assign rfl rfl rfl rfl rfl ?_
            refine OW.done ?_
            have h131 := h47.tr (t84.trans t97)
            have hb132 := (hb91.keep x96 n88)
            have h133 := h49.tr (t84.trans t97)
            have h134 := h56.tr (t84.trans t97)
            have hb135 := (hb93.keep x96 n90)
            have h136 := G43.tr (t84.trans t97)
            exact TW.sub (Sub.cons rfl (Sub.cons rfl (Sub.cons rfl (Sub.cons rfl Sub.nil)))) (hout60 _ _ (ih61 (IntKind.wrap .i64 (x58 + 2)) _ hm rfl w94 (Ins O39 b79) v55 B99 h136 X98 (fun x h => (Or.inr (lf42 _ h))) (Or.inr m44) (Or.inr m45) (Or.inr m46) h131 hb132 h133 hb100 h134 hb135))
        · intro key103
          cases c102 : (decide (x63.gKind = p1.gKind))
          · try simp only [c102] at key103
            refine OW.not rfl rfl rfl rfl rfl rfl ?_
            refine OW.not rfl rfl rfl rfl rfl rfl ?_
            refine OW.not rfl rfl rfl rfl rfl rfl ?_
            refine OW.not rfl rfl rfl rfl rfl rfl ?_
            refine OW.notU rfl rfl rfl rfl rfl ?_
            refine OW.notU rfl rfl rfl rfl rfl ?_
            refine OW.notU rfl rfl rfl rfl rfl ?_
            refine OW.notU rfl rfl rfl rfl rfl ?_
            refine OW.notU rfl rfl rfl rfl rfl ?_
            refine OW.not rfl rfl rfl rfl rfl rfl ?_
            refine OW.not rfl rfl rfl rfl rfl rfl ?_
            refine OW.notU rfl rfl rfl rfl rfl ?_
            refine OW.notU rfl rfl rfl rfl rfl ?_
            refine OW.notU rfl rfl rfl rfl rfl ?_
            refine OW.notU rfl rfl rfl rfl rfl ?_
            refine OW.notU rfl rfl rfl rfl rfl ?_
            refine OW.notU rfl rfl rfl rfl rfl ?_
            refine OW.notU rfl rfl rfl rfl rfl ?_
            refine OW.notU rfl rfl rfl rfl rfl ?_
            refine OW.notU rfl rfl rfl rfl rfl ?_
            refine OW.notU rfl rfl rfl rfl rfl ?_
            refine OW.not rfl rfl rfl rfl rfl rfl ?_
            refine OW.pick_f rfl rfl rfl rfl rfl rfl ?_
            exact OW.sub (Sub.cons rfl (Sub.cons rfl (Sub.cons rfl (Sub.cons rfl (Sub.cons rfl (Sub.cons rfl (Sub.cons rfl (Sub.cons rfl (Sub.cons rfl (Sub.cons rfl (Sub.cons rfl (Sub.cons rfl Sub.nil)))))))))))) key103
          · try simp only [c102] at key103
            refine OW.yes rfl rfl rfl ?_
            refine OW.fieldAddr rfl rfl rfl rfl fld_24_0 rfl ?_
            refine OW.yes rfl rfl rfl ?_
            refine OW.load1 rfl rfl rfl rfl shp_3 rfl hb95 rfl ?_
            refine OW.yes rfl rfl rfl ?_
            refine OW.binI rfl rfl rfl rfl rfl rfl rfl ?_
            refine OW.yes rfl rfl rfl ?_
            refine OW.move rfl rfl rfl rfl rfl ?_
            refine OW.blk 6 (fun K => K [(39, Value.bool ((decide (x63.gKind = 0)) && (decide (x63.gNum = p1.gNum)))), (2, Value.pointer (some ⟨b5, 0, none⟩)), (3, Value.pointer (some ⟨b14, 0, none⟩)), (4, Value.pointer (some ⟨b24, 0, none⟩)), (6, Value.int .i64 x58), (7, Value.pointer (some ⟨b79, 0, none⟩)), (24, Value.pointer (some ⟨b79, 0 + 0, none⟩)), (25, Value.int .i64 x63.gKind), (26, Value.pointer (some ⟨b14, 0 + 0, none⟩)), (27, Value.int .i64 p1.gKind), (28, Value.bool true), (29, Value.bool true), (30, Value.pointer (some ⟨b79, 0 + 0, none⟩)), (31, Value.int .i64 x63.gKind), (32, Value.bool (decide (x63.gKind = 0))), (33, Value.bool (decide (x63.gKind = 0)))] w94) ?_ ?_
            · show OW _ _ _ _ _ _ _ _
              refine OW.yes rfl rfl rfl ?_
              refine OW.move rfl rfl rfl rfl rfl ?_
              refine OW.blk 11 (fun K => K [(51, Value.bool (((decide (x63.gKind = 0)) && (decide (x63.gNum = p1.gNum))) || ((decide (x63.gKind = 2)) && (decide (x63.gText = p1.gText))))), (2, Value.pointer (some ⟨b5, 0, none⟩)), (3, Value.pointer (some ⟨b14, 0, none⟩)), (4, Value.pointer (some ⟨b24, 0, none⟩)), (6, Value.int .i64 x58), (7, Value.pointer (some ⟨b79, 0, none⟩)), (24, Value.pointer (some ⟨b79, 0 + 0, none⟩)), (25, Value.int .i64 x63.gKind), (26, Value.pointer (some ⟨b14, 0 + 0, none⟩)), (27, Value.int .i64 p1.gKind), (28, Value.bool true), (29, Value.bool true), (30, Value.pointer (some ⟨b79, 0 + 0, none⟩)), (31, Value.int .i64 x63.gKind), (32, Value.bool (decide (x63.gKind = 0))), (33, Value.bool (decide (x63.gKind = 0))), (39, Value.bool ((decide (x63.gKind = 0)) && (decide (x63.gNum = p1.gNum)))), (40, Value.bool ((decide (x63.gKind = 0)) && (decide (x63.gNum = p1.gNum))))] w94) ?_ ?_
              · show OW _ _ _ _ _ _ _ _
                refine OW.pick_t rfl rfl rfl rfl rfl rfl ?_
                exact OW.sub (Sub.cons rfl (Sub.cons rfl (Sub.cons rfl (Sub.cons rfl (Sub.cons rfl (Sub.cons rfl (Sub.cons rfl (Sub.cons rfl (Sub.cons rfl (Sub.cons rfl (Sub.cons rfl (Sub.cons rfl Sub.nil)))))))))))) key103
              · intro key142
                cases c141 : ((decide (x63.gKind = 0)) && (decide (x63.gNum = p1.gNum)))
                · try simp only [c141] at key142
                  refine OW.yes rfl rfl rfl ?_
                  refine OW.fieldAddr rfl rfl rfl rfl fld_24_0 rfl ?_
                  refine OW.yes rfl rfl rfl ?_
                  refine OW.load1 rfl rfl rfl rfl shp_3 rfl hb95 rfl ?_
                  refine OW.yes rfl rfl rfl ?_
                  refine OW.binI rfl rfl rfl rfl rfl rfl rfl ?_
                  refine OW.yes rfl rfl rfl ?_
                  refine OW.move rfl rfl rfl rfl rfl ?_
                  refine OW.blk 6 (fun K => K [(50, Value.bool ((decide (x63.gKind = 2)) && (decide (x63.gText = p1.gText)))), (2, Value.pointer (some ⟨b5, 0, none⟩)), (3, Value.pointer (some ⟨b14, 0, none⟩)), (4, Value.pointer (some ⟨b24, 0, none⟩)), (6, Value.int .i64 x58), (7, Value.pointer (some ⟨b79, 0, none⟩)), (24, Value.pointer (some ⟨b79, 0 + 0, none⟩)), (25, Value.int .i64 x63.gKind), (26, Value.pointer (some ⟨b14, 0 + 0, none⟩)), (27, Value.int .i64 p1.gKind), (28, Value.bool true), (29, Value.bool true), (30, Value.pointer (some ⟨b79, 0 + 0, none⟩)), (31, Value.int .i64 x63.gKind), (32, Value.bool (decide (x63.gKind = 0))), (33, Value.bool (decide (x63.gKind = 0))), (39, Value.bool false), (40, Value.bool false), (41, Value.pointer (some ⟨b79, 0 + 0, none⟩)), (42, Value.int .i64 x63.gKind), (43, Value.bool (decide (x63.gKind = 2))), (44, Value.bool (decide (x63.gKind = 2)))] w94) ?_ ?_
                  · show OW _ _ _ _ _ _ _ _
                    refine OW.yes rfl rfl rfl ?_
                    refine OW.pick_f rfl rfl rfl rfl rfl rfl ?_
                    exact OW.sub (Sub.cons rfl (Sub.cons rfl (Sub.cons rfl (Sub.cons rfl (Sub.cons rfl (Sub.cons rfl (Sub.cons rfl (Sub.cons rfl (Sub.cons rfl (Sub.cons rfl (Sub.cons rfl (Sub.cons rfl (Sub.cons rfl (Sub.cons rfl (Sub.cons rfl (Sub.cons rfl (Sub.cons rfl (Sub.cons rfl Sub.nil)))))))))))))))))) key142
                  · intro key145
                    cases c144 : (decide (x63.gKind = 2))
                    · try simp only [c144] at key145
                      refine OW.not rfl rfl rfl rfl rfl rfl ?_
                      refine OW.not rfl rfl rfl rfl rfl rfl ?_
                      refine OW.not rfl rfl rfl rfl rfl rfl ?_
                      refine OW.not rfl rfl rfl rfl rfl rfl ?_
                      refine OW.not rfl rfl rfl rfl rfl rfl ?_
                      refine OW.yes rfl rfl rfl ?_
                      refine OW.pick_f rfl rfl rfl rfl rfl rfl ?_
                      exact OW.sub (Sub.cons rfl (Sub.cons rfl (Sub.cons rfl (Sub.cons rfl (Sub.cons rfl (Sub.cons rfl (Sub.cons rfl (Sub.cons rfl (Sub.cons rfl (Sub.cons rfl (Sub.cons rfl (Sub.cons rfl (Sub.cons rfl (Sub.cons rfl (Sub.cons rfl (Sub.cons rfl (Sub.cons rfl (Sub.cons rfl (Sub.cons rfl (Sub.cons rfl (Sub.cons rfl (Sub.cons rfl Sub.nil)))))))))))))))))))))) key145
                    · try simp only [c144] at key145
                      refine OW.yes rfl rfl rfl ?_
                      refine OW.fieldAddr rfl rfl rfl rfl fld_24_2 rfl ?_
                      refine OW.yes rfl rfl rfl ?_
                      refine OW.load1 rfl rfl rfl rfl shp_9 rfl hb95 rfl ?_
                      refine OW.yes rfl rfl rfl ?_
                      refine OW.fieldAddr rfl rfl rfl rfl fld_24_2 rfl ?_
                      refine OW.yes rfl rfl rfl ?_
                      refine OW.load1 rfl rfl rfl rfl shp_9 rfl hb100 rfl ?_
                      refine OW.yes rfl rfl rfl ?_
                      refine OW.binS rfl rfl rfl rfl rfl rfl rfl ?_
                      refine OW.yes rfl rfl rfl ?_
                      refine OW.pick_t rfl rfl rfl rfl rfl rfl ?_
                      exact OW.sub (Sub.cons rfl (Sub.cons rfl (Sub.cons rfl (Sub.cons rfl (Sub.cons rfl (Sub.cons rfl (Sub.cons rfl (Sub.cons rfl (Sub.cons rfl (Sub.cons rfl (Sub.cons rfl (Sub.cons rfl (Sub.cons rfl (Sub.cons rfl (Sub.cons rfl (Sub.cons rfl (Sub.cons rfl (Sub.cons rfl (Sub.cons rfl (Sub.cons rfl (Sub.cons rfl (Sub.cons rfl Sub.nil)))))))))))))))))))))) key145
                · try simp only [c141] at key142
                  refine OW.not rfl rfl rfl rfl rfl rfl ?_
                  refine OW.not rfl rfl rfl rfl rfl rfl ?_
                  refine OW.not rfl rfl rfl rfl rfl rfl ?_
                  refine OW.not rfl rfl rfl rfl rfl rfl ?_
                  refine OW.notU rfl rfl rfl rfl rfl ?_
                  refine OW.notU rfl rfl rfl rfl rfl ?_
                  refine OW.notU rfl rfl rfl rfl rfl ?_
                  refine OW.notU rfl rfl rfl rfl rfl ?_
                  refine OW.notU rfl rfl rfl rfl rfl ?_
                  refine OW.not rfl rfl rfl rfl rfl rfl ?_
                  refine OW.yes rfl rfl rfl ?_
                  refine OW.pick_t rfl rfl rfl rfl rfl rfl ?_
                  exact OW.sub (Sub.cons rfl (Sub.cons rfl (Sub.cons rfl (Sub.cons rfl (Sub.cons rfl (Sub.cons rfl (Sub.cons rfl (Sub.cons rfl (Sub.cons rfl (Sub.cons rfl (Sub.cons rfl (Sub.cons rfl (Sub.cons rfl (Sub.cons rfl (Sub.cons rfl (Sub.cons rfl (Sub.cons rfl (Sub.cons rfl Sub.nil)))))))))))))))))) key142
            · intro key139
              cases c138 : (decide (x63.gKind = 0))
              · try simp only [c138] at key139
                refine OW.not rfl rfl rfl rfl rfl rfl ?_
                refine OW.not rfl rfl rfl rfl rfl rfl ?_
                refine OW.not rfl rfl rfl rfl rfl rfl ?_
                refine OW.not rfl rfl rfl rfl rfl rfl ?_
                refine OW.not rfl rfl rfl rfl rfl rfl ?_
                refine OW.yes rfl rfl rfl ?_
                refine OW.pick_f rfl rfl rfl rfl rfl rfl ?_
                exact OW.sub (Sub.cons rfl (Sub.cons rfl (Sub.cons rfl (Sub.cons rfl (Sub.cons rfl (Sub.cons rfl (Sub.cons rfl (Sub.cons rfl (Sub.cons rfl (Sub.cons rfl (Sub.cons rfl (Sub.cons rfl (Sub.cons rfl (Sub.cons rfl (Sub.cons rfl (Sub.cons rfl Sub.nil)))))))))))))))) key139
              · try simp only [c138] at key139
                refine OW.yes rfl rfl rfl ?_
                refine OW.fieldAddr rfl rfl rfl rfl fld_24_1 rfl ?_
                refine OW.yes rfl rfl rfl ?_
                refine OW.load1 rfl rfl rfl rfl shp_3 rfl hb95 rfl ?_
                refine OW.yes rfl rfl rfl ?_
                refine OW.fieldAddr rfl rfl rfl rfl fld_24_1 rfl ?_
                refine OW.yes rfl rfl rfl ?_
                refine OW.load1 rfl rfl rfl rfl shp_3 rfl hb100 rfl ?_
                refine OW.yes rfl rfl rfl ?_
                refine OW.binI rfl rfl rfl rfl rfl rfl rfl ?_
                refine OW.yes rfl rfl rfl ?_
                refine OW.pick_t rfl rfl rfl rfl rfl rfl ?_
                exact OW.sub (Sub.cons rfl (Sub.cons rfl (Sub.cons rfl (Sub.cons rfl (Sub.cons rfl (Sub.cons rfl (Sub.cons rfl (Sub.cons rfl (Sub.cons rfl (Sub.cons rfl (Sub.cons rfl (Sub.cons rfl (Sub.cons rfl (Sub.cons rfl (Sub.cons rfl (Sub.cons rfl Sub.nil)))))))))))))))) key139
      · have hm := ite_f c62 hm
        refine TW.exit rfl (TW.seq (TW.region ?_))
        refine OW.build rfl rfl rfl rfl rfl (cs := [Value.int .i64 0, Value.int .i64 0, Value.string ⟨List.toArray ([] : List UInt8)⟩, Value.slice none 0 0]) rfl ?_
        refine OW.store rfl rfl rfl shp_24 rfl rfl (vs := [Value.int .i64 0, Value.int .i64 0, Value.string ⟨List.toArray ([] : List UInt8)⟩, Value.slice none 0 0]) rfl rfl hb57 rfl (one_cons rfl (one_cons rfl (one_cons rfl (one_cons rfl one_nil)))) (cs' := [Value.int .i64 0, Value.int .i64 0, Value.string ⟨List.toArray ([] : List UInt8)⟩, Value.slice none 0 0]) rfl ?_
        intro w146 hb147 x148
        have t149 := Tr.of_ext (O := O39) x148 (fun _ _ h => by cases h; exact m46)
        have B151 := B40.ext x148
        have X150 := X41.step x148 (fun y hy h => absurd hy (by cases h; have := g33; omega))
        refine OW.assign rfl rfl rfl rfl rfl ?_
        refine OW.done ?_
        cases hm
        exact TW.ret (Out.many rfl ⟨_, _, rfl, ⟨_, _, _, _, _, rfl, shp_24, hb147, rfl, rfl⟩, ⟨_, _, rfl, rfl, rfl⟩⟩ rfl) ⟨_, rfl, (T_api_Cbor.shut (x := (T_api_Cbor.mk 0 0 ([] : List UInt8) [])) RD.nil), X150⟩
    · intro key154
      have h155 := h2.tr (t10.trans (t19.trans t30))
      have h156 := h4.tr (t10.trans (t19.trans t30))
      have hb157 := (hb16.keep x27 (fun h => h))
      have h158 := G0.tr (t10.trans (t19.trans t30))
      exact TW.sub (Sub.cons rfl (Sub.cons rfl (Sub.cons rfl (Sub.cons rfl Sub.nil)))) (key154 0 0 ([] : List UInt8) [] 0 hm w25 (Ins (Ins (Ins O0 b5) b14) b24) (Value.slice none 0 0) B32 h158 X31 (fun x h => (Or.inr (Or.inr (Or.inr h)))) (Or.inr (Or.inr (Or.inl rfl))) (Or.inr (Or.inl rfl)) (Or.inl rfl) h155 hb36 h156 hb157 RD.nil hb26)
  · have hm := ite_f c37 hm
    refine TW.skip (TW.seq (TW.region ?_))
    refine OW.build rfl rfl rfl rfl rfl (cs := [Value.int .i64 0, Value.int .i64 0, Value.string ⟨List.toArray ([] : List UInt8)⟩, Value.slice none 0 0]) rfl ?_
    have hb159 := (hb16.keep x27 (fun h => h))
    refine OW.store rfl rfl rfl shp_24 rfl rfl (vs := [Value.int .i64 0, Value.int .i64 0, Value.string ⟨List.toArray ([] : List UInt8)⟩, Value.slice none 0 0]) rfl rfl hb26 rfl (one_cons rfl (one_cons rfl (one_cons rfl (one_cons rfl one_nil)))) (cs' := [Value.int .i64 0, Value.int .i64 0, Value.string ⟨List.toArray ([] : List UInt8)⟩, Value.slice none 0 0]) rfl ?_
    intro w160 hb161 x162
    have t163 := Tr.of_ext (O := (Ins (Ins (Ins O0 b5) b14) b24)) x162 (fun _ _ h => by cases h; exact (Or.inl rfl))
    have B165 := B32.ext x162
    have X164 := X31.step x162 (fun y hy h => absurd hy (by cases h; have := g33; omega))
    refine OW.assign rfl rfl rfl rfl rfl ?_
    refine OW.done ?_
    cases hm
    exact TW.ret (Out.many rfl ⟨_, _, rfl, ⟨_, _, _, _, _, rfl, shp_24, hb161, rfl, rfl⟩, ⟨_, _, rfl, rfl, rfl⟩⟩ rfl) ⟨_, rfl, (T_api_Cbor.shut (x := (T_api_Cbor.mk 0 0 ([] : List UInt8) [])) RD.nil), X164⟩
set_option maxRecDepth 1000000 in
set_option maxHeartbeats 4000000 in
theorem C.r03_ByInt : ∀ (p0 : T_api_Cbor) (p1 : Int) (r : T_api_Cbor × Bool), M.r03_ByInt p0 p1 = some r → ∀ (w0 : World) (O0 : Nat → Prop) (cs0 : List Value) (B0 : Bd O0 w0) (G0 : Glob w0 O0) (h0 : RDs w0 O0 (T_api_Cbor.enc p0) cs0), Calls Tryd.prog 12 (List.toArray [Value.agg cs0.toArray, Value.int .i64 p1]) w0 (fun e w' => ∃ (us0 : List Value), e = .returned (Value.tuple (List.toArray [Value.agg us0.toArray, Value.bool r.2])) ∧ RDs w' O0 (T_api_Cbor.enc r.1) us0 ∧ Ext Nowhere w0 w') := by
  intro p0 p1 r hm w0 O0 cs0 B0 G0 h0
  refine calls_of Tryd.func12 rfl 12 rfl rfl ?_
  unfold M.r03_ByInt at hm
  have X0 := Ext.refl Nowhere w0
  obtain ⟨v1, rfl, h2⟩ := T_api_Cbor.opn h0
  refine TW.seq (TW.region ?_)
  refine OW.box rfl rfl rfl rfl rfl (cs := [Value.int .i64 p0.gKind, Value.int .i64 p0.gNum, Value.string ⟨List.toArray p0.gText⟩, v1]) rfl ?_
  intro b3 w4 hb5 x6 l7
  have t8 := Tr.of_new (O := O0) x6 (fun _ _ h => h.elim) l7
  have B10 := (B0.ext x6).ins hb5.lt
  have X9 := X0.step x6 (fun _ _ h => h.elim)
  have g11 : w0.heap.size ≤ b3 := Nat.le_trans X0.size l7
  refine OW.alloc rfl rfl rfl rfl zer_24 (cs := [Value.int .i64 0, Value.int .i64 0, Value.string ⟨List.toArray ([] : List UInt8)⟩, Value.slice none 0 0]) rfl ?_
  intro b12 w13 hb14 x15 l16
  have t17 := Tr.of_new (O := (Ins O0 b3)) x15 (fun _ _ h => h.elim) l16
  have B19 := (B10.ext x15).ins hb14.lt
  have X18 := X9.step x15 (fun _ _ h => h.elim)
  have g20 : w0.heap.size ≤ b12 := Nat.le_trans X9.size l16
  have n21 : b3 ≠ b12 := by have := hb5.lt; omega
  refine OW.assign rfl rfl rfl rfl rfl ?_
  refine OW.done (TW.seq (TW.region ?_))
  have hb22 := (hb5.keep x15 (fun h => h))
  refine OW.loadN rfl rfl rfl rfl shp_24 rfl hb22 (vs := [Value.int .i64 p0.gKind, Value.int .i64 p0.gNum, Value.string ⟨List.toArray p0.gText⟩, v1]) rfl rfl ?_
  refine OW.move rfl rfl rfl rfl rfl ?_
  refine OW.build rfl rfl rfl rfl rfl (cs := [Value.int .i64 0, Value.int .i64 p1, Value.string ⟨List.toArray ([] : List UInt8)⟩, Value.slice none 0 0]) rfl ?_
  have h23 := G0.tr (t8.trans t17)
  have h24 := h2.tr (t8.trans t17)
  obtain ⟨y25, hy26, hm⟩ := bnd hm
  refine OW.call rfl rfl rfl rfl rfl rfl Tryd.call24 ((C.r03_by _ _ _ hy26 _ (Ins (Ins O0 b3) b12) _ _ B19 h23 (T_api_Cbor.shut (x := p0) h24) (T_api_Cbor.shut (x := (T_api_Cbor.mk 0 p1 ([] : List UInt8) [])) RD.nil)).mono ?_)
  rintro e w29 ⟨cs27, rfl, h28, x30⟩
  obtain ⟨v31, rfl, h32⟩ := T_api_Cbor.opn h28
  refine CallK.ret ?_
  have t33 := Tr.of_ext (O := (Ins (Ins O0 b3) b12)) x30 (fun _ _ h => h.elim)
  have B35 := B19.ext x30
  have X34 := X18.step x30 (fun _ _ h => h.elim)
  refine OW.extract rfl rfl rfl rfl rfl rfl ?_
  refine OW.extract rfl rfl rfl rfl rfl rfl ?_
  have hb36 := (hb14.keep x30 (fun h => h))
  have hb37 := (hb22.keep x30 (fun h => h))
  refine OW.store rfl rfl rfl shp_24 rfl rfl (vs := [Value.int .i64 y25.1.gKind, Value.int .i64 y25.1.gNum, Value.string ⟨List.toArray y25.1.gText⟩, v31]) rfl rfl hb36 rfl (one_cons rfl (one_cons rfl (one_cons rfl (one_cons (RD.one _ _ h32) one_nil)))) (cs' := [Value.int .i64 y25.1.gKind, Value.int .i64 y25.1.gNum, Value.string ⟨List.toArray y25.1.gText⟩, v31]) rfl ?_
  intro w38 hb39 x40
  have t41 := Tr.of_ext (O := (Ins (Ins O0 b3) b12)) x40 (fun _ _ h => by cases h; exact (Or.inl rfl))
  have B43 := B35.ext x40
  have X42 := X34.step x40 (fun y hy h => absurd hy (by cases h; have := g20; omega))
  refine OW.assign rfl rfl rfl rfl rfl ?_
  refine OW.done ?_
  have h44 := h32.tr t41
  cases hm
  exact TW.ret (Out.many rfl ⟨_, _, rfl, ⟨_, _, _, _, _, rfl, shp_24, hb39, rfl, rfl⟩, ⟨_, _, rfl, rfl, rfl⟩⟩ rfl) ⟨_, rfl, (T_api_Cbor.shut (x := y25.1) (h44.tr (Tr.drop _ fun x h => (Or.inr (Or.inr h))))), X42⟩
set_option maxRecDepth 1000000 in
set_option maxHeartbeats 4000000 in
theorem C.r03_ByText : ∀ (p0 : T_api_Cbor) (p1 : List UInt8) (r : T_api_Cbor × Bool), M.r03_ByText p0 p1 = some r → ∀ (w0 : World) (O0 : Nat → Prop) (cs0 : List Value) (B0 : Bd O0 w0) (G0 : Glob w0 O0) (h0 : RDs w0 O0 (T_api_Cbor.enc p0) cs0), Calls Tryd.prog 14 (List.toArray [Value.agg cs0.toArray, Value.string ⟨List.toArray p1⟩]) w0 (fun e w' => ∃ (us0 : List Value), e = .returned (Value.tuple (List.toArray [Value.agg us0.toArray, Value.bool r.2])) ∧ RDs w' O0 (T_api_Cbor.enc r.1) us0 ∧ Ext Nowhere w0 w') := by
  intro p0 p1 r hm w0 O0 cs0 B0 G0 h0
  refine calls_of Tryd.func14 rfl 12 rfl rfl ?_
  unfold M.r03_ByText at hm
  have X0 := Ext.refl Nowhere w0
  obtain ⟨v1, rfl, h2⟩ := T_api_Cbor.opn h0
  refine TW.seq (TW.region ?_)
  refine OW.box rfl rfl rfl rfl rfl (cs := [Value.int .i64 p0.gKind, Value.int .i64 p0.gNum, Value.string ⟨List.toArray p0.gText⟩, v1]) rfl ?_
  intro b3 w4 hb5 x6 l7
  have t8 := Tr.of_new (O := O0) x6 (fun _ _ h => h.elim) l7
  have B10 := (B0.ext x6).ins hb5.lt
  have X9 := X0.step x6 (fun _ _ h => h.elim)
  have g11 : w0.heap.size ≤ b3 := Nat.le_trans X0.size l7
  refine OW.alloc rfl rfl rfl rfl zer_24 (cs := [Value.int .i64 0, Value.int .i64 0, Value.string ⟨List.toArray ([] : List UInt8)⟩, Value.slice none 0 0]) rfl ?_
  intro b12 w13 hb14 x15 l16
  have t17 := Tr.of_new (O := (Ins O0 b3)) x15 (fun _ _ h => h.elim) l16
  have B19 := (B10.ext x15).ins hb14.lt
  have X18 := X9.step x15 (fun _ _ h => h.elim)
  have g20 : w0.heap.size ≤ b12 := Nat.le_trans X9.size l16
  have n21 : b3 ≠ b12 := by have := hb5.lt; omega
  refine OW.assign rfl rfl rfl rfl rfl ?_
  refine OW.done (TW.seq (TW.region ?_))
  have hb22 := (hb5.keep x15 (fun h => h))
  refine OW.loadN rfl rfl rfl rfl shp_24 rfl hb22 (vs := [Value.int .i64 p0.gKind, Value.int .i64 p0.gNum, Value.string ⟨List.toArray p0.gText⟩, v1]) rfl rfl ?_
  refine OW.move rfl rfl rfl rfl rfl ?_
  refine OW.build rfl rfl rfl rfl rfl (cs := [Value.int .i64 2, Value.int .i64 0, Value.string ⟨List.toArray p1⟩, Value.slice none 0 0]) rfl ?_
  have h23 := G0.tr (t8.trans t17)
  have h24 := h2.tr (t8.trans t17)
  obtain ⟨y25, hy26, hm⟩ := bnd hm
  refine OW.call rfl rfl rfl rfl rfl rfl Tryd.call24 ((C.r03_by _ _ _ hy26 _ (Ins (Ins O0 b3) b12) _ _ B19 h23 (T_api_Cbor.shut (x := p0) h24) (T_api_Cbor.shut (x := (T_api_Cbor.mk 2 0 p1 [])) RD.nil)).mono ?_)
  rintro e w29 ⟨cs27, rfl, h28, x30⟩
  obtain ⟨v31, rfl, h32⟩ := T_api_Cbor.opn h28
  refine CallK.ret ?_
  have t33 := Tr.of_ext (O := (Ins (Ins O0 b3) b12)) x30 (fun _ _ h => h.elim)
  have B35 := B19.ext x30
  have X34 := X18.step x30 (fun _ _ h => h.elim)
  refine OW.extract rfl rfl rfl rfl rfl rfl ?_
  refine OW.extract rfl rfl rfl rfl rfl rfl ?_
  have hb36 := (hb14.keep x30 (fun h => h))
  have hb37 := (hb22.keep x30 (fun h => h))
  refine OW.store rfl rfl rfl shp_24 rfl rfl (vs := [Value.int .i64 y25.1.gKind, Value.int .i64 y25.1.gNum, Value.string ⟨List.toArray y25.1.gText⟩, v31]) rfl rfl hb36 rfl (one_cons rfl (one_cons rfl (one_cons rfl (one_cons (RD.one _ _ h32) one_nil)))) (cs' := [Value.int .i64 y25.1.gKind, Value.int .i64 y25.1.gNum, Value.string ⟨List.toArray y25.1.gText⟩, v31]) rfl ?_
  intro w38 hb39 x40
  have t41 := Tr.of_ext (O := (Ins (Ins O0 b3) b12)) x40 (fun _ _ h => by cases h; exact (Or.inl rfl))
  have B43 := B35.ext x40
  have X42 := X34.step x40 (fun y hy h => absurd hy (by cases h; have := g20; omega))
  refine OW.assign rfl rfl rfl rfl rfl ?_
  refine OW.done ?_
  have h44 := h32.tr t41
  cases hm
  exact TW.ret (Out.many rfl ⟨_, _, rfl, ⟨_, _, _, _, _, rfl, shp_24, hb39, rfl, rfl⟩, ⟨_, _, rfl, rfl, rfl⟩⟩ rfl) ⟨_, rfl, (T_api_Cbor.shut (x := y25.1) (h44.tr (Tr.drop _ fun x h => (Or.inr (Or.inr h))))), X42⟩
set_option maxRecDepth 1000000 in
set_option maxHeartbeats 4000000 in
theorem C.l03_CborFinds (fuel : Nat) : ∀ (p0 : T_api_Cbor) (p1 : Int) (p2 : List UInt8) (r : Bool), M.l03_CborFinds fuel p0 p1 p2 = some r → ∀ (w0 : World) (O0 : Nat → Prop) (cs0 : List Value) (B0 : Bd O0 w0) (G0 : Glob w0 O0) (h0 : RDs w0 O0 (T_api_Cbor.enc p0) cs0), Calls Tryd.prog 4 (List.toArray [Value.agg cs0.toArray, Value.int .i64 p1, Value.string ⟨List.toArray p2⟩]) w0 (fun e w' => e = .returned (Value.bool r) ∧ Ext Nowhere w0 w') := by
  intro p0 p1 p2 r hm w0 O0 cs0 B0 G0 h0
  refine calls_of Tryd.func4 rfl 60 rfl rfl ?_
  unfold M.l03_CborFinds at hm
  have X0 := Ext.refl Nowhere w0
  obtain ⟨v1, rfl, h2⟩ := T_api_Cbor.opn h0
  refine TW.seq (TW.region ?_)
  refine OW.box rfl rfl rfl rfl rfl (cs := [Value.int .i64 p0.gKind, Value.int .i64 p0.gNum, Value.string ⟨List.toArray p0.gText⟩, v1]) rfl ?_
  intro b3 w4 hb5 x6 l7
  have t8 := Tr.of_new (O := O0) x6 (fun _ _ h => h.elim) l7
  have B10 := (B0.ext x6).ins hb5.lt
  have X9 := X0.step x6 (fun _ _ h => h.elim)
  have g11 : w0.heap.size ≤ b3 := Nat.le_trans X0.size l7
  refine OW.assign rfl rfl rfl rfl rfl ?_
  refine OW.done (TW.seq (TW.region ?_))
  refine OW.loadN rfl rfl rfl rfl shp_24 rfl hb5 (vs := [Value.int .i64 p0.gKind, Value.int .i64 p0.gNum, Value.string ⟨List.toArray p0.gText⟩, v1]) rfl rfl ?_
  refine OW.move rfl rfl rfl rfl rfl ?_
  have h12 := G0.tr t8
  have h13 := h2.tr t8
  obtain ⟨y14, hy15, hm⟩ := bnd hm
  refine OW.call rfl rfl rfl rfl rfl rfl Tryd.call11 ((C.cbor_ByInt _ _ _ hy15 _ (Ins O0 b3) _ B10 h12 (T_api_Cbor.shut (x := p0) h13)).mono ?_)
  rintro e w18 ⟨cs16, rfl, h17, x19⟩
  obtain ⟨v20, rfl, h21⟩ := T_api_Cbor.opn h17
  refine CallK.ret ?_
  have t22 := Tr.of_ext (O := (Ins O0 b3)) x19 (fun _ _ h => h.elim)
  have B24 := B10.ext x19
  have X23 := X9.step x19 (fun _ _ h => h.elim)
  refine OW.move rfl rfl rfl rfl rfl ?_
  refine OW.extract rfl rfl rfl rfl rfl rfl ?_
  refine OW.extract rfl rfl rfl rfl rfl rfl ?_
  have hb30 := (hb5.keep x19 (fun h => h))
  refine OW.alloc rfl rfl rfl rfl zer_24 (cs := [Value.int .i64 0, Value.int .i64 0, Value.string ⟨List.toArray ([] : List UInt8)⟩, Value.slice none 0 0]) rfl ?_
  intro b25 w26 hb27 x28 l29
  have t31 := Tr.of_new (O := (Ins O0 b3)) x28 (fun _ _ h => h.elim) l29
  have B33 := (B24.ext x28).ins hb27.lt
  have X32 := X23.step x28 (fun _ _ h => h.elim)
  have g34 : w0.heap.size ≤ b25 := Nat.le_trans X23.size l29
  have n35 : b3 ≠ b25 := by have := hb30.lt; omega
  have hb36 := (hb30.keep x28 (fun h => h))
  refine OW.store rfl rfl rfl shp_24 rfl rfl (vs := [Value.int .i64 y14.1.gKind, Value.int .i64 y14.1.gNum, Value.string ⟨List.toArray y14.1.gText⟩, v20]) rfl rfl hb27 rfl (one_cons rfl (one_cons rfl (one_cons rfl (one_cons (RD.one _ _ h21) one_nil)))) (cs' := [Value.int .i64 y14.1.gKind, Value.int .i64 y14.1.gNum, Value.string ⟨List.toArray y14.1.gText⟩, v20]) rfl ?_
  intro w37 hb38 x39
  have t40 := Tr.of_ext (O := (Ins (Ins O0 b3) b25)) x39 (fun _ _ h => by cases h; exact (Or.inl rfl))
  have B42 := B33.ext x39
  have X41 := X32.step x39 (fun y hy h => absurd hy (by cases h; have := g34; omega))
  refine OW.assign rfl rfl rfl rfl rfl ?_
  refine OW.done (TW.seq (TW.region ?_))
  have hb43 := (hb36.keep x39 n35)
  refine OW.loadN rfl rfl rfl rfl shp_24 rfl hb43 (vs := [Value.int .i64 p0.gKind, Value.int .i64 p0.gNum, Value.string ⟨List.toArray p0.gText⟩, v1]) rfl rfl ?_
  refine OW.move rfl rfl rfl rfl rfl ?_
  have h44 := h12.tr (t22.trans (t31.trans t40))
  have h45 := h13.tr (t22.trans (t31.trans t40))
  obtain ⟨y46, hy47, hm⟩ := bnd hm
  refine OW.call rfl rfl rfl rfl rfl rfl Tryd.call12 ((C.r03_ByInt _ _ _ hy47 _ (Ins (Ins O0 b3) b25) _ B42 h44 (T_api_Cbor.shut (x := p0) h45)).mono ?_)
  rintro e w50 ⟨cs48, rfl, h49, x51⟩
  obtain ⟨v52, rfl, h53⟩ := T_api_Cbor.opn h49
  refine CallK.ret ?_
  have t54 := Tr.of_ext (O := (Ins (Ins O0 b3) b25)) x51 (fun _ _ h => h.elim)
  have B56 := B42.ext x51
  have X55 := X41.step x51 (fun _ _ h => h.elim)
  refine OW.move rfl rfl rfl rfl rfl ?_
  refine OW.extract rfl rfl rfl rfl rfl rfl ?_
  refine OW.extract rfl rfl rfl rfl rfl rfl ?_
  have hb62 := (hb43.keep x51 (fun h => h))
  have hb63 := (hb38.keep x51 (fun h => h))
  refine OW.alloc rfl rfl rfl rfl zer_24 (cs := [Value.int .i64 0, Value.int .i64 0, Value.string ⟨List.toArray ([] : List UInt8)⟩, Value.slice none 0 0]) rfl ?_
  intro b57 w58 hb59 x60 l61
  have t64 := Tr.of_new (O := (Ins (Ins O0 b3) b25)) x60 (fun _ _ h => h.elim) l61
  have B66 := (B56.ext x60).ins hb59.lt
  have X65 := X55.step x60 (fun _ _ h => h.elim)
  have g67 : w0.heap.size ≤ b57 := Nat.le_trans X55.size l61
  have n68 : b3 ≠ b57 := by have := hb62.lt; omega
  have n69 : b25 ≠ b57 := by have := hb63.lt; omega
  have hb70 := (hb62.keep x60 (fun h => h))
  have hb71 := (hb63.keep x60 (fun h => h))
  refine OW.store rfl rfl rfl shp_24 rfl rfl (vs := [Value.int .i64 y46.1.gKind, Value.int .i64 y46.1.gNum, Value.string ⟨List.toArray y46.1.gText⟩, v52]) rfl rfl hb59 rfl (one_cons rfl (one_cons rfl (one_cons rfl (one_cons (RD.one _ _ h53) one_nil)))) (cs' := [Value.int .i64 y46.1.gKind, Value.int .i64 y46.1.gNum, Value.string ⟨List.toArray y46.1.gText⟩, v52]) rfl ?_
  intro w72 hb73 x74
  have t75 := Tr.of_ext (O := (Ins (Ins (Ins O0 b3) b25) b57)) x74 (fun _ _ h => by cases h; exact (Or.inl rfl))
  have B77 := B66.ext x74
  have X76 := X65.step x74 (fun y hy h => absurd hy (by cases h; have := g67; omega))
  refine OW.assign rfl rfl rfl rfl rfl ?_
  refine OW.done (TW.seq (TW.region ?_))
  have hb78 := (hb70.keep x74 n68)
  refine OW.loadN rfl rfl rfl rfl shp_24 rfl hb78 (vs := [Value.int .i64 p0.gKind, Value.int .i64 p0.gNum, Value.string ⟨List.toArray p0.gText⟩, v1]) rfl rfl ?_
  refine OW.move rfl rfl rfl rfl rfl ?_
  have hb79 := (hb71.keep x74 n69)
  have h80 := h44.tr (t54.trans (t64.trans t75))
  have h81 := h45.tr (t54.trans (t64.trans t75))
  obtain ⟨y82, hy83, hm⟩ := bnd hm
  refine OW.call rfl rfl rfl rfl rfl rfl Tryd.call13 ((C.cbor_ByText _ _ _ hy83 _ (Ins (Ins (Ins O0 b3) b25) b57) _ B77 h80 (T_api_Cbor.shut (x := p0) h81)).mono ?_)
  rintro e w86 ⟨cs84, rfl, h85, x87⟩
  obtain ⟨v88, rfl, h89⟩ := T_api_Cbor.opn h85
  refine CallK.ret ?_
  have t90 := Tr.of_ext (O := (Ins (Ins (Ins O0 b3) b25) b57)) x87 (fun _ _ h => h.elim)
  have B92 := B77.ext x87
  have X91 := X76.step x87 (fun _ _ h => h.elim)
  refine OW.move rfl rfl rfl rfl rfl ?_
  refine OW.extract rfl rfl rfl rfl rfl rfl ?_
  refine OW.extract rfl rfl rfl rfl rfl rfl ?_
  have hb98 := (hb78.keep x87 (fun h => h))
  have hb99 := (hb79.keep x87 (fun h => h))
  have hb100 := (hb73.keep x87 (fun h => h))
  refine OW.alloc rfl rfl rfl rfl zer_24 (cs := [Value.int .i64 0, Value.int .i64 0, Value.string ⟨List.toArray ([] : List UInt8)⟩, Value.slice none 0 0]) rfl ?_
  intro b93 w94 hb95 x96 l97
  have t101 := Tr.of_new (O := (Ins (Ins (Ins O0 b3) b25) b57)) x96 (fun _ _ h => h.elim) l97
  have B103 := (B92.ext x96).ins hb95.lt
  have X102 := X91.step x96 (fun _ _ h => h.elim)
  have g104 : w0.heap.size ≤ b93 := Nat.le_trans X91.size l97
  have n105 : b3 ≠ b93 := by have := hb98.lt; omega
  have n106 : b25 ≠ b93 := by have := hb99.lt; omega
  have n107 : b57 ≠ b93 := by have := hb100.lt; omega
  have hb108 := (hb98.keep x96 (fun h => h))
  have hb109 := (hb99.keep x96 (fun h => h))
  have hb110 := (hb100.keep x96 (fun h => h))
  refine OW.store rfl rfl rfl shp_24 rfl rfl (vs := [Value.int .i64 y82.1.gKind, Value.int .i64 y82.1.gNum, Value.string ⟨List.toArray y82.1.gText⟩, v88]) rfl rfl hb95 rfl (one_cons rfl (one_cons rfl (one_cons rfl (one_cons (RD.one _ _ h89) one_nil)))) (cs' := [Value.int .i64 y82.1.gKind, Value.int .i64 y82.1.gNum, Value.string ⟨List.toArray y82.1.gText⟩, v88]) rfl ?_
  intro w111 hb112 x113
  have t114 := Tr.of_ext (O := (Ins (Ins (Ins (Ins O0 b3) b25) b57) b93)) x113 (fun _ _ h => by cases h; exact (Or.inl rfl))
  have B116 := B103.ext x113
  have X115 := X102.step x113 (fun y hy h => absurd hy (by cases h; have := g104; omega))
  refine OW.assign rfl rfl rfl rfl rfl ?_
  refine OW.done (TW.seq (TW.region ?_))
  have hb117 := (hb108.keep x113 n105)
  refine OW.loadN rfl rfl rfl rfl shp_24 rfl hb117 (vs := [Value.int .i64 p0.gKind, Value.int .i64 p0.gNum, Value.string ⟨List.toArray p0.gText⟩, v1]) rfl rfl ?_
  refine OW.move rfl rfl rfl rfl rfl ?_
  have hb118 := (hb109.keep x113 n106)
  have hb119 := (hb110.keep x113 n107)
  have h120 := h80.tr (t90.trans (t101.trans t114))
  have h121 := h81.tr (t90.trans (t101.trans t114))
  obtain ⟨y122, hy123, hm⟩ := bnd hm
  refine OW.call rfl rfl rfl rfl rfl rfl Tryd.call14 ((C.r03_ByText _ _ _ hy123 _ (Ins (Ins (Ins (Ins O0 b3) b25) b57) b93) _ B116 h120 (T_api_Cbor.shut (x := p0) h121)).mono ?_)
  rintro e w126 ⟨cs124, rfl, h125, x127⟩
  obtain ⟨v128, rfl, h129⟩ := T_api_Cbor.opn h125
  refine CallK.ret ?_
  have t130 := Tr.of_ext (O := (Ins (Ins (Ins (Ins O0 b3) b25) b57) b93)) x127 (fun _ _ h => h.elim)
  have B132 := B116.ext x127
  have X131 := X115.step x127 (fun _ _ h => h.elim)
  refine OW.move rfl rfl rfl rfl rfl ?_
  refine OW.extract rfl rfl rfl rfl rfl rfl ?_
  refine OW.extract rfl rfl rfl rfl rfl rfl ?_
  have hb138 := (hb117.keep x127 (fun h => h))
  have hb139 := (hb118.keep x127 (fun h => h))
  have hb140 := (hb119.keep x127 (fun h => h))
  have hb141 := (hb112.keep x127 (fun h => h))
  refine OW.alloc rfl rfl rfl rfl zer_24 (cs := [Value.int .i64 0, Value.int .i64 0, Value.string ⟨List.toArray ([] : List UInt8)⟩, Value.slice none 0 0]) rfl ?_
  intro b133 w134 hb135 x136 l137
  have t142 := Tr.of_new (O := (Ins (Ins (Ins (Ins O0 b3) b25) b57) b93)) x136 (fun _ _ h => h.elim) l137
  have B144 := (B132.ext x136).ins hb135.lt
  have X143 := X131.step x136 (fun _ _ h => h.elim)
  have g145 : w0.heap.size ≤ b133 := Nat.le_trans X131.size l137
  have n146 : b3 ≠ b133 := by have := hb138.lt; omega
  have n147 : b25 ≠ b133 := by have := hb139.lt; omega
  have n148 : b57 ≠ b133 := by have := hb140.lt; omega
  have n149 : b93 ≠ b133 := by have := hb141.lt; omega
  have hb150 := (hb138.keep x136 (fun h => h))
  have hb151 := (hb139.keep x136 (fun h => h))
  have hb152 := (hb140.keep x136 (fun h => h))
  have hb153 := (hb141.keep x136 (fun h => h))
  refine OW.store rfl rfl rfl shp_24 rfl rfl (vs := [Value.int .i64 y122.1.gKind, Value.int .i64 y122.1.gNum, Value.string ⟨List.toArray y122.1.gText⟩, v128]) rfl rfl hb135 rfl (one_cons rfl (one_cons rfl (one_cons rfl (one_cons (RD.one _ _ h129) one_nil)))) (cs' := [Value.int .i64 y122.1.gKind, Value.int .i64 y122.1.gNum, Value.string ⟨List.toArray y122.1.gText⟩, v128]) rfl ?_
  intro w154 hb155 x156
  have t157 := Tr.of_ext (O := (Ins (Ins (Ins (Ins (Ins O0 b3) b25) b57) b93) b133)) x156 (fun _ _ h => by cases h; exact (Or.inl rfl))
  have B159 := B144.ext x156
  have X158 := X143.step x156 (fun y hy h => absurd hy (by cases h; have := g145; omega))
  refine OW.assign rfl rfl rfl rfl rfl ?_
  refine OW.done (TW.seq (TW.region ?_))
  have hb160 := (hb150.keep x156 n146)
  have hb161 := (hb151.keep x156 n147)
  have hb162 := (hb152.keep x156 n148)
  have hb163 := (hb153.keep x156 n149)
  have h164 := h120.tr (t130.trans (t142.trans t157))
  obtain ⟨y165, hy166, hm⟩ := bnd hm
  refine OW.call rfl rfl rfl rfl rfl rfl Tryd.call10 ((C.l03_awake _  _ hy166 _ (Ins (Ins (Ins (Ins (Ins O0 b3) b25) b57) b93) b133)  B159 h164).mono ?_)
  rintro e w167 ⟨rfl, x168⟩
  refine CallK.ret ?_
  have t169 := Tr.of_ext (O := (Ins (Ins (Ins (Ins (Ins O0 b3) b25) b57) b93) b133)) x168 (fun _ _ h => h.elim)
  have B171 := B159.ext x168
  have X170 := X158.step x168 (fun _ _ h => h.elim)
  refine OW.move rfl rfl rfl rfl rfl ?_
  refine OW.blk 4 (fun K => K [(44, Value.bool (y165 && (y14.2 == y46.2))), (6, Value.bool false), (7, Value.pointer (some ⟨b25, 0, none⟩)), (8, Value.bool y14.2), (9, Value.pointer (some ⟨b57, 0, none⟩)), (10, Value.bool y46.2), (11, Value.pointer (some ⟨b93, 0, none⟩)), (12, Value.bool y82.2), (13, Value.pointer (some ⟨b133, 0, none⟩)), (14, Value.bool y122.2), (39, Value.bool y165), (40, Value.bool y165)] w167) ?_ ?_
  · show OW _ _ _ _ _ _ _ _
    refine OW.move rfl rfl rfl rfl rfl ?_
    refine OW.blk 4 (fun K => K [(49, Value.bool ((y165 && (y14.2 == y46.2)) && (y82.2 == y122.2))), (6, Value.bool false), (7, Value.pointer (some ⟨b25, 0, none⟩)), (8, Value.bool y14.2), (9, Value.pointer (some ⟨b57, 0, none⟩)), (10, Value.bool y46.2), (11, Value.pointer (some ⟨b93, 0, none⟩)), (12, Value.bool y82.2), (13, Value.pointer (some ⟨b133, 0, none⟩)), (14, Value.bool y122.2), (39, Value.bool y165), (40, Value.bool y165), (44, Value.bool (y165 && (y14.2 == y46.2))), (45, Value.bool (y165 && (y14.2 == y46.2)))] w167) ?_ ?_
    · show OW _ _ _ _ _ _ _ _
      refine OW.move rfl rfl rfl rfl rfl ?_
      obtain ⟨x197, hx198, hm⟩ := bnd hm
      refine OW.blk 4 (fun K => ∀ (w179 : World) (O180 : Nat → Prop), Bd O180 w179 → Glob w179 O180 → Ext Nowhere w0 w179 → (∀ x, O0 x → O180 x) → (O180 b25) → (O180 b57) → (O180 b93) → (O180 b133) → (RD w179 O180 (D.sl 24 4 (y14.1.gList.map T_api_Cbor.enc)) v20) → (BoxAt w179 b25 24 [Value.int .i64 y14.1.gKind, Value.int .i64 y14.1.gNum, Value.string ⟨List.toArray y14.1.gText⟩, v20]) → (RD w179 O180 (D.sl 24 4 (y46.1.gList.map T_api_Cbor.enc)) v52) → (BoxAt w179 b57 24 [Value.int .i64 y46.1.gKind, Value.int .i64 y46.1.gNum, Value.string ⟨List.toArray y46.1.gText⟩, v52]) → (RD w179 O180 (D.sl 24 4 (y82.1.gList.map T_api_Cbor.enc)) v88) → (BoxAt w179 b93 24 [Value.int .i64 y82.1.gKind, Value.int .i64 y82.1.gNum, Value.string ⟨List.toArray y82.1.gText⟩, v88]) → (RD w179 O180 (D.sl 24 4 (y122.1.gList.map T_api_Cbor.enc)) v128) → (BoxAt w179 b133 24 [Value.int .i64 y122.1.gKind, Value.int .i64 y122.1.gNum, Value.string ⟨List.toArray y122.1.gText⟩, v128]) →  K [(6, Value.bool false), (7, Value.pointer (some ⟨b25, 0, none⟩)), (8, Value.bool y14.2), (9, Value.pointer (some ⟨b57, 0, none⟩)), (10, Value.bool y46.2), (11, Value.pointer (some ⟨b93, 0, none⟩)), (12, Value.bool y82.2), (13, Value.pointer (some ⟨b133, 0, none⟩)), (14, Value.bool y122.2), (39, Value.bool y165), (40, Value.bool y165), (44, Value.bool (y165 && (y14.2 == y46.2))), (45, Value.bool (y165 && (y14.2 == y46.2))), (49, Value.bool ((y165 && (y14.2 == y46.2)) && (y82.2 == y122.2))), (50, Value.bool ((y165 && (y14.2 == y46.2)) && (y82.2 == y122.2))), (54, Value.bool x197)] w179) ?_ ?_
      · intro w179 O180 B181 G184 X182 lf183 m185 m186 m187 m188 h189 hb190 h191 hb192 h193 hb194 h195 hb196
        show OW _ _ _ _ _ _ _ _
        refine OW.move rfl rfl rfl rfl rfl ?_
        obtain ⟨x253, hx254, hm⟩ := bnd hm
        refine OW.blk 4 (fun K => ∀ (w235 : World) (O236 : Nat → Prop), Bd O236 w235 → Glob w235 O236 → Ext Nowhere w0 w235 → (∀ x, O0 x → O236 x) → (O236 b25) → (O236 b57) → (O236 b93) → (O236 b133) → (RD w235 O236 (D.sl 24 4 (y14.1.gList.map T_api_Cbor.enc)) v20) → (BoxAt w235 b25 24 [Value.int .i64 y14.1.gKind, Value.int .i64 y14.1.gNum, Value.string ⟨List.toArray y14.1.gText⟩, v20]) → (RD w235 O236 (D.sl 24 4 (y46.1.gList.map T_api_Cbor.enc)) v52) → (BoxAt w235 b57 24 [Value.int .i64 y46.1.gKind, Value.int .i64 y46.1.gNum, Value.string ⟨List.toArray y46.1.gText⟩, v52]) → (RD w235 O236 (D.sl 24 4 (y82.1.gList.map T_api_Cbor.enc)) v88) → (BoxAt w235 b93 24 [Value.int .i64 y82.1.gKind, Value.int .i64 y82.1.gNum, Value.string ⟨List.toArray y82.1.gText⟩, v88]) → (RD w235 O236 (D.sl 24 4 (y122.1.gList.map T_api_Cbor.enc)) v128) → (BoxAt w235 b133 24 [Value.int .i64 y122.1.gKind, Value.int .i64 y122.1.gNum, Value.string ⟨List.toArray y122.1.gText⟩, v128]) →  K [(6, Value.bool false), (7, Value.pointer (some ⟨b25, 0, none⟩)), (8, Value.bool y14.2), (9, Value.pointer (some ⟨b57, 0, none⟩)), (10, Value.bool y46.2), (11, Value.pointer (some ⟨b93, 0, none⟩)), (12, Value.bool y82.2), (13, Value.pointer (some ⟨b133, 0, none⟩)), (14, Value.bool y122.2), (39, Value.bool y165), (40, Value.bool y165), (44, Value.bool (y165 && (y14.2 == y46.2))), (45, Value.bool (y165 && (y14.2 == y46.2))), (49, Value.bool ((y165 && (y14.2 == y46.2)) && (y82.2 == y122.2))), (50, Value.bool ((y165 && (y14.2 == y46.2)) && (y82.2 == y122.2))), (54, Value.bool x197), (55, Value.bool x197), (59, Value.bool x253)] w235) ?_ ?_
        · intro w235 O236 B237 G240 X238 lf239 m241 m242 m243 m244 h245 hb246 h247 hb248 h249 hb250 h251 hb252
          show OW _ _ _ _ _ _ _ _
          refine OW.assign rfl rfl rfl rfl rfl ?_
          refine OW.done ?_
          cases hm
          exact TW.ret (Out.one rfl rfl) ⟨rfl, X238⟩
        · intro key255
          rcases c256 : x197 with _ | _
          · have hm := ite_f c256 hx254
            try simp only [c256] at key255
            refine OW.not rfl rfl rfl rfl rfl rfl ?_
            refine OW.not rfl rfl rfl rfl rfl rfl ?_
            refine OW.not rfl rfl rfl rfl rfl rfl ?_
            refine OW.pick_f rfl rfl rfl rfl rfl rfl ?_
            cases hm
            exact OW.sub (Sub.cons rfl (Sub.cons rfl (Sub.cons rfl (Sub.cons rfl (Sub.cons rfl (Sub.cons rfl (Sub.cons rfl (Sub.cons rfl (Sub.cons rfl (Sub.cons rfl (Sub.cons rfl (Sub.cons rfl (Sub.cons rfl (Sub.cons rfl (Sub.cons rfl (Sub.cons rfl (Sub.cons rfl (Sub.cons rfl Sub.nil)))))))))))))))))) (key255 w179 O180 B181 G184 X182 (fun x h => (lf183 _ h)) m185 m186 m187 m188 h189 hb190 h191 hb192 h193 hb194 h195 hb196)
          · have hm := ite_t c256 hx254
            try simp only [c256] at key255
            refine OW.yes rfl rfl rfl ?_
            refine OW.loadN rfl rfl rfl rfl shp_24 rfl hb194 (vs := [Value.int .i64 y82.1.gKind, Value.int .i64 y82.1.gNum, Value.string ⟨List.toArray y82.1.gText⟩, v88]) rfl rfl ?_
            refine OW.yes rfl rfl rfl ?_
            refine OW.loadN rfl rfl rfl rfl shp_24 rfl hb196 (vs := [Value.int .i64 y122.1.gKind, Value.int .i64 y122.1.gNum, Value.string ⟨List.toArray y122.1.gText⟩, v128]) rfl rfl ?_
            refine OW.yes rfl rfl rfl ?_
            obtain ⟨y257, hy258, hm⟩ := bnd hm
            refine OW.call rfl rfl rfl rfl rfl rfl Tryd.call9 ((C.r03_Same _ _ _ _ hy258 _ O180 _ _ B181 G184 (T_api_Cbor.shut (x := y82.1) h193) (T_api_Cbor.shut (x := y122.1) h195)).mono ?_)
            rintro e w259 ⟨rfl, x260⟩
            refine CallK.ret ?_
            have t261 := Tr.of_ext (O := O180) x260 (fun _ _ h => h.elim)
            have B263 := B181.ext x260
            have X262 := X182.step x260 (fun _ _ h => h.elim)
            refine OW.pick_t rfl rfl rfl rfl rfl rfl ?_
            cases hm
            have h264 := h189.tr t261
            have hb265 := (hb190.keep x260 (fun h => h))
            have h266 := h191.tr t261
            have hb267 := (hb192.keep x260 (fun h => h))
            have h268 := h193.tr t261
            have hb269 := (hb194.keep x260 (fun h => h))
            have h270 := h195.tr t261
            have hb271 := (hb196.keep x260 (fun h => h))
            have h272 := G184.tr t261
            exact OW.sub (Sub.cons rfl (Sub.cons rfl (Sub.cons rfl (Sub.cons rfl (Sub.cons rfl (Sub.cons rfl (Sub.cons rfl (Sub.cons rfl (Sub.cons rfl (Sub.cons rfl (Sub.cons rfl (Sub.cons rfl (Sub.cons rfl (Sub.cons rfl (Sub.cons rfl (Sub.cons rfl (Sub.cons rfl (Sub.cons rfl Sub.nil)))))))))))))))))) (key255 w259 O180 B263 h272 X262 (fun x h => (lf183 _ h)) m185 m186 m187 m188 h264 hb265 h266 hb267 h268 hb269 h270 hb271)
      · intro key199
        rcases c200 : ((y165 && (y14.2 == y46.2)) && (y82.2 == y122.2)) with _ | _
        · have hm := ite_f c200 hx198
          try simp only [c200] at key199
          refine OW.not rfl rfl rfl rfl rfl rfl ?_
          refine OW.not rfl rfl rfl rfl rfl rfl ?_
          refine OW.not rfl rfl rfl rfl rfl rfl ?_
          refine OW.pick_f rfl rfl rfl rfl rfl rfl ?_
          cases hm
          have h225 := h21.tr (t31.trans (t40.trans (t54.trans (t64.trans (t75.trans (t90.trans (t101.trans (t114.trans (t130.trans (t142.trans (t157.trans t169)))))))))))
          have hb226 := (hb161.keep x168 (fun h => h))
          have h227 := h53.tr (t64.trans (t75.trans (t90.trans (t101.trans (t114.trans (t130.trans (t142.trans (t157.trans t169))))))))
          have hb228 := (hb162.keep x168 (fun h => h))
          have h229 := h89.tr (t101.trans (t114.trans (t130.trans (t142.trans (t157.trans t169)))))
          have hb230 := (hb163.keep x168 (fun h => h))
          have h231 := h129.tr (t142.trans (t157.trans t169))
          have hb232 := (hb155.keep x168 (fun h => h))
          have h233 := h164.tr t169
          exact OW.sub (Sub.cons rfl (Sub.cons rfl (Sub.cons rfl (Sub.cons rfl (Sub.cons rfl (Sub.cons rfl (Sub.cons rfl (Sub.cons rfl (Sub.cons rfl (Sub.cons rfl (Sub.cons rfl (Sub.cons rfl (Sub.cons rfl (Sub.cons rfl (Sub.cons rfl (Sub.cons rfl Sub.nil)))))))))))))))) (key199 w167 (Ins (Ins (Ins (Ins (Ins O0 b3) b25) b57) b93) b133) B171 h233 X170 (fun x h => (Or.inr (Or.inr (Or.inr (Or.inr (Or.inr h)))))) (Or.inr (Or.inr (Or.inr (Or.inl rfl)))) (Or.inr (Or.inr (Or.inl rfl))) (Or.inr (Or.inl rfl)) (Or.inl rfl) h225 hb226 h227 hb228 h229 hb230 h231 hb232)
        · have hm := ite_t c200 hx198
          try simp only [c200] at key199
          refine OW.yes rfl rfl rfl ?_
          have hb201 := (hb161.keep x168 (fun h => h))
          refine OW.loadN rfl rfl rfl rfl shp_24 rfl hb201 (vs := [Value.int .i64 y14.1.gKind, Value.int .i64 y14.1.gNum, Value.string ⟨List.toArray y14.1.gText⟩, v20]) rfl rfl ?_
          refine OW.yes rfl rfl rfl ?_
          have hb202 := (hb162.keep x168 (fun h => h))
          refine OW.loadN rfl rfl rfl rfl shp_24 rfl hb202 (vs := [Value.int .i64 y46.1.gKind, Value.int .i64 y46.1.gNum, Value.string ⟨List.toArray y46.1.gText⟩, v52]) rfl rfl ?_
          refine OW.yes rfl rfl rfl ?_
          have hb203 := (hb160.keep x168 (fun h => h))
          have hb204 := (hb163.keep x168 (fun h => h))
          have hb205 := (hb155.keep x168 (fun h => h))
          have h206 := h164.tr t169
          have h207 := h21.tr (t31.trans (t40.trans (t54.trans (t64.trans (t75.trans (t90.trans (t101.trans (t114.trans (t130.trans (t142.trans (t157.trans t169)))))))))))
          have h208 := h53.tr (t64.trans (t75.trans (t90.trans (t101.trans (t114.trans (t130.trans (t142.trans (t157.trans t169))))))))
          obtain ⟨y209, hy210, hm⟩ := bnd hm
          refine OW.call rfl rfl rfl rfl rfl rfl Tryd.call9 ((C.r03_Same _ _ _ _ hy210 _ (Ins (Ins (Ins (Ins (Ins O0 b3) b25) b57) b93) b133) _ _ B171 h206 (T_api_Cbor.shut (x := y14.1) h207) (T_api_Cbor.shut (x := y46.1) h208)).mono ?_)
          rintro e w211 ⟨rfl, x212⟩
          refine CallK.ret ?_
          have t213 := Tr.of_ext (O := (Ins (Ins (Ins (Ins (Ins O0 b3) b25) b57) b93) b133)) x212 (fun _ _ h => h.elim)
          have B215 := B171.ext x212
          have X214 := X170.step x212 (fun _ _ h => h.elim)
          refine OW.pick_t rfl rfl rfl rfl rfl rfl ?_
          cases hm
          have h216 := h207.tr t213
          have hb217 := (hb201.keep x212 (fun h => h))
          have h218 := h208.tr t213
          have hb219 := (hb202.keep x212 (fun h => h))
          have h220 := h89.tr (t101.trans (t114.trans (t130.trans (t142.trans (t157.trans (t169.trans t213))))))
          have hb221 := (hb204.keep x212 (fun h => h))
          have h222 := h129.tr (t142.trans (t157.trans (t169.trans t213)))
          have hb223 := (hb205.keep x212 (fun h => h))
          have h224 := h206.tr t213
          exact OW.sub (Sub.cons rfl (Sub.cons rfl (Sub.cons rfl (Sub.cons rfl (Sub.cons rfl (Sub.cons rfl (Sub.cons rfl (Sub.cons rfl (Sub.cons rfl (Sub.cons rfl (Sub.cons rfl (Sub.cons rfl (Sub.cons rfl (Sub.cons rfl (Sub.cons rfl (Sub.cons rfl Sub.nil)))))))))))))))) (key199 w211 (Ins (Ins (Ins (Ins (Ins O0 b3) b25) b57) b93) b133) B215 h224 X214 (fun x h => (Or.inr (Or.inr (Or.inr (Or.inr (Or.inr h)))))) (Or.inr (Or.inr (Or.inr (Or.inl rfl)))) (Or.inr (Or.inr (Or.inl rfl))) (Or.inr (Or.inl rfl)) (Or.inl rfl) h216 hb217 h218 hb219 h220 hb221 h222 hb223)
    · intro key177
      cases c176 : (y165 && (y14.2 == y46.2))
      · try simp only [c176] at key177
        refine OW.not rfl rfl rfl rfl rfl rfl ?_
        refine OW.not rfl rfl rfl rfl rfl rfl ?_
        refine OW.not rfl rfl rfl rfl rfl rfl ?_
        refine OW.pick_f rfl rfl rfl rfl rfl rfl ?_
        exact OW.sub (Sub.cons rfl (Sub.cons rfl (Sub.cons rfl (Sub.cons rfl (Sub.cons rfl (Sub.cons rfl (Sub.cons rfl (Sub.cons rfl (Sub.cons rfl (Sub.cons rfl (Sub.cons rfl (Sub.cons rfl (Sub.cons rfl (Sub.cons rfl Sub.nil)))))))))))))) key177
      · try simp only [c176] at key177
        refine OW.yes rfl rfl rfl ?_
        refine OW.move rfl rfl rfl rfl rfl ?_
        refine OW.yes rfl rfl rfl ?_
        refine OW.move rfl rfl rfl rfl rfl ?_
        refine OW.yes rfl rfl rfl ?_
        refine OW.binB rfl rfl rfl rfl Tryd.underlying4 rfl rfl rfl ?_
        refine OW.pick_t rfl rfl rfl rfl rfl rfl ?_
        exact OW.sub (Sub.cons rfl (Sub.cons rfl (Sub.cons rfl (Sub.cons rfl (Sub.cons rfl (Sub.cons rfl (Sub.cons rfl (Sub.cons rfl (Sub.cons rfl (Sub.cons rfl (Sub.cons rfl (Sub.cons rfl (Sub.cons rfl (Sub.cons rfl Sub.nil)))))))))))))) key177
  · intro key174
    cases c173 : y165
    · try simp only [c173] at key174
      refine OW.not rfl rfl rfl rfl rfl rfl ?_
      refine OW.not rfl rfl rfl rfl rfl rfl ?_
      refine OW.not rfl rfl rfl rfl rfl rfl ?_
      refine OW.pick_f rfl rfl rfl rfl rfl rfl ?_
      exact OW.sub (Sub.cons rfl (Sub.cons rfl (Sub.cons rfl (Sub.cons rfl (Sub.cons rfl (Sub.cons rfl (Sub.cons rfl (Sub.cons rfl (Sub.cons rfl (Sub.cons rfl (Sub.cons rfl (Sub.cons rfl Sub.nil)))))))))))) key174
    · try simp only [c173] at key174
      refine OW.yes rfl rfl rfl ?_
      refine OW.move rfl rfl rfl rfl rfl ?_
      refine OW.yes rfl rfl rfl ?_
      refine OW.move rfl rfl rfl rfl rfl ?_
      refine OW.yes rfl rfl rfl ?_
      refine OW.binB rfl rfl rfl rfl Tryd.underlying4 rfl rfl rfl ?_
      refine OW.pick_t rfl rfl rfl rfl rfl rfl ?_
      exact OW.sub (Sub.cons rfl (Sub.cons rfl (Sub.cons rfl (Sub.cons rfl (Sub.cons rfl (Sub.cons rfl (Sub.cons rfl (Sub.cons rfl (Sub.cons rfl (Sub.cons rfl (Sub.cons rfl (Sub.cons rfl Sub.nil)))))))))))) key174
set_option maxRecDepth 1000000 in
set_option maxHeartbeats 4000000 in
theorem C.l03_CborBack (fuel : Nat) : ∀ (p0 : T_api_Cbor) (p1 : List UInt8) (r : Bool), M.l03_CborBack fuel p0 p1 = some r → ∀ (w0 : World) (O0 : Nat → Prop) (cs0 : List Value) (B0 : Bd O0 w0) (G0 : Glob w0 O0) (h0 : RDs w0 O0 (T_api_Cbor.enc p0) cs0), Calls Tryd.prog 5 (List.toArray [Value.agg cs0.toArray, Value.string ⟨List.toArray p1⟩]) w0 (fun e w' => e = .returned (Value.bool r) ∧ Ext Nowhere w0 w') := by
  intro p0 p1 r hm w0 O0 cs0 B0 G0 h0
  refine calls_of Tryd.func5 rfl 105 rfl rfl ?_
  unfold M.l03_CborBack at hm
  have X0 := Ext.refl Nowhere w0
  obtain ⟨v1, rfl, h2⟩ := T_api_Cbor.opn h0
  refine TW.seq (TW.region ?_)
  refine OW.box rfl rfl rfl rfl rfl (cs := [Value.int .i64 p0.gKind, Value.int .i64 p0.gNum, Value.string ⟨List.toArray p0.gText⟩, v1]) rfl ?_
  intro b3 w4 hb5 x6 l7
  have t8 := Tr.of_new (O := O0) x6 (fun _ _ h => h.elim) l7
  have B10 := (B0.ext x6).ins hb5.lt
  have X9 := X0.step x6 (fun _ _ h => h.elim)
  have g11 : w0.heap.size ≤ b3 := Nat.le_trans X0.size l7
  refine OW.assign rfl rfl rfl rfl rfl ?_
  refine OW.done (TW.seq (TW.region ?_))
  refine OW.loadN rfl rfl rfl rfl shp_24 rfl hb5 (vs := [Value.int .i64 p0.gKind, Value.int .i64 p0.gNum, Value.string ⟨List.toArray p0.gText⟩, v1]) rfl rfl ?_
  have h12 := G0.tr t8
  have h13 := h2.tr t8
  obtain ⟨y14, hy15, hm⟩ := bnd hm
  refine OW.call rfl rfl rfl rfl rfl rfl Tryd.call15 ((C.cbor_Encode _ _ _ hy15 _ (Ins O0 b3) _ B10 h12 (T_api_Cbor.shut (x := p0) h13)).mono ?_)
  rintro e w16 ⟨rfl, x17⟩
  refine CallK.ret ?_
  have t18 := Tr.of_ext (O := (Ins O0 b3)) x17 (fun _ _ h => h.elim)
  have B20 := B10.ext x17
  have X19 := X9.step x17 (fun _ _ h => h.elim)
  refine OW.move rfl rfl rfl rfl rfl ?_
  refine OW.extract rfl rfl rfl rfl rfl rfl ?_
  refine OW.extract rfl rfl rfl rfl rfl rfl ?_
  refine OW.assign rfl rfl rfl rfl rfl ?_
  refine OW.assign rfl rfl rfl rfl rfl ?_
  refine OW.done (TW.seq (TW.seq (TW.region ?_)))
  have hb21 := (hb5.keep x17 (fun h => h))
  have h22 := h12.tr t18
  obtain ⟨y23, hy24, hm⟩ := bnd hm
  refine OW.call rfl rfl rfl rfl rfl rfl Tryd.call10 ((C.l03_awake _  _ hy24 _ (Ins O0 b3)  B20 h22).mono ?_)
  rintro e w25 ⟨rfl, x26⟩
  refine CallK.ret ?_
  have t27 := Tr.of_ext (O := (Ins O0 b3)) x26 (fun _ _ h => h.elim)
  have B29 := B20.ext x26
  have X28 := X19.step x26 (fun _ _ h => h.elim)
  refine OW.notB rfl rfl rfl rfl rfl ?_
  refine OW.move rfl rfl rfl rfl rfl ?_
  obtain ⟨x40, hx41, hm⟩ := bnd hm
  refine OW.blk 11 (fun K => ∀ (w31 : World) (O32 : Nat → Prop), Bd O32 w31 → Glob w31 O32 → Ext Nowhere w0 w31 → (∀ x, O0 x → O32 x) → (O32 b3) → (RD w31 O32 (D.sl 24 4 (p0.gList.map T_api_Cbor.enc)) v1) → (BoxAt w31 b3 24 [Value.int .i64 p0.gKind, Value.int .i64 p0.gNum, Value.string ⟨List.toArray p0.gText⟩, v1]) →  K [(1, Value.string ⟨List.toArray p1⟩), (2, Value.pointer (some ⟨b3, 0, none⟩)), (5, Value.string ⟨List.toArray y14.1⟩), (6, Value.int .i64 y14.2), (20, Value.bool y23), (21, Value.bool (!y23)), (22, Value.bool (!y23)), (33, Value.bool x40)] w31) ?_ ?_
  · intro w31 O32 B33 G36 X34 lf35 m37 h38 hb39
    show OW _ _ _ _ _ _ _ _
    refine OW.done ?_
    refine TW.cond rfl (fun c63 => ?_) (fun c63 => ?_)
    · have hm := ite_t c63 hm
      refine TW.seq (TW.region ?_)
      refine OW.assign rfl rfl rfl rfl rfl ?_
      refine OW.done ?_
      cases hm
      exact TW.ret (Out.one rfl rfl) ⟨rfl, X34⟩
    · have hm := ite_f c63 hm
      refine TW.skip (TW.seq (TW.seq (TW.region ?_)))
      refine OW.move rfl rfl rfl rfl rfl ?_
      refine OW.binI rfl rfl rfl rfl rfl rfl rfl ?_
      refine OW.move rfl rfl rfl rfl rfl ?_
      refine OW.blk 7 (fun K => K [(43, Value.bool ((decide (y14.2 = 0)) && (decide ((IntKind.wrap .i64 ((y14.1.length : Int) + (p1.length : Int))) ≤ 4096)))), (1, Value.string ⟨List.toArray p1⟩), (2, Value.pointer (some ⟨b3, 0, none⟩)), (5, Value.string ⟨List.toArray y14.1⟩), (6, Value.int .i64 y14.2), (34, Value.int .i64 y14.2), (35, Value.bool (decide (y14.2 = 0))), (36, Value.bool (decide (y14.2 = 0)))] w31) ?_ ?_
      · show OW _ _ _ _ _ _ _ _
        refine OW.done ?_
        refine TW.blk (fun K => ∀ (_ : Unit), M.l03_CborBack_k2 fuel p1 = some r → ∀ (w67 : World) (O68 : Nat → Prop), Bd O68 w67 → Glob w67 O68 → Ext Nowhere w0 w67 → (∀ x, O0 x → O68 x) →  K [(1, Value.string ⟨List.toArray p1⟩)] w67) ?_ ?_
        · intro _ hm w67 O68 B69 G72 X70 lf71
          unfold M.l03_CborBack_k2 at hm
          refine TW.seq (TW.region ?_)
          refine OW.move rfl rfl rfl rfl rfl ?_
          obtain ⟨y74, hy75, hm⟩ := bnd hm
          refine OW.call rfl rfl rfl rfl rfl rfl Tryd.call7 ((C.cbor_Decode _ _ _ hy75 _ O68  B69 G72).mono ?_)
          rintro e w78 ⟨cs76, rfl, h77, x79⟩
          obtain ⟨v80, rfl, h81⟩ := T_api_Cbor.opn h77
          refine CallK.ret ?_
          have t82 := Tr.of_ext (O := O68) x79 (fun _ _ h => h.elim)
          have B84 := B69.ext x79
          have X83 := X70.step x79 (fun _ _ h => h.elim)
          refine OW.move rfl rfl rfl rfl rfl ?_
          refine OW.extract rfl rfl rfl rfl rfl rfl ?_
          refine OW.extract rfl rfl rfl rfl rfl rfl ?_
          refine OW.extract rfl rfl rfl rfl rfl rfl ?_
          refine OW.alloc rfl rfl rfl rfl zer_24 (cs := [Value.int .i64 0, Value.int .i64 0, Value.string ⟨List.toArray ([] : List UInt8)⟩, Value.slice none 0 0]) rfl ?_
          intro b85 w86 hb87 x88 l89
          have t90 := Tr.of_new (O := O68) x88 (fun _ _ h => h.elim) l89
          have B92 := (B84.ext x88).ins hb87.lt
          have X91 := X83.step x88 (fun _ _ h => h.elim)
          have g93 : w0.heap.size ≤ b85 := Nat.le_trans X83.size l89
          refine OW.store rfl rfl rfl shp_24 rfl rfl (vs := [Value.int .i64 y74.1.gKind, Value.int .i64 y74.1.gNum, Value.string ⟨List.toArray y74.1.gText⟩, v80]) rfl rfl hb87 rfl (one_cons rfl (one_cons rfl (one_cons rfl (one_cons (RD.one _ _ h81) one_nil)))) (cs' := [Value.int .i64 y74.1.gKind, Value.int .i64 y74.1.gNum, Value.string ⟨List.toArray y74.1.gText⟩, v80]) rfl ?_
          intro w94 hb95 x96
          have t97 := Tr.of_ext (O := (Ins O68 b85)) x96 (fun _ _ h => by cases h; exact (Or.inl rfl))
          have B99 := B92.ext x96
          have X98 := X91.step x96 (fun y hy h => absurd hy (by cases h; have := g93; omega))
          refine OW.assign rfl rfl rfl rfl rfl ?_
          refine OW.assign rfl rfl rfl rfl rfl ?_
          refine OW.done (TW.seq (TW.seq (TW.region ?_)))
          refine OW.move rfl rfl rfl rfl rfl ?_
          refine OW.binI rfl rfl rfl rfl rfl rfl rfl ?_
          refine OW.done ?_
          refine TW.cond rfl (fun c100 => ?_) (fun c100 => ?_)
          · have hm := ite_t c100 hm
            refine TW.seq (TW.region ?_)
            refine OW.move rfl rfl rfl rfl rfl ?_
            refine OW.binI rfl rfl rfl rfl rfl rfl rfl ?_
            refine OW.move rfl rfl rfl rfl rfl ?_
            obtain ⟨x111, hx112, hm⟩ := bnd hm
            refine OW.blk 4 (fun K => ∀ (w102 : World) (O103 : Nat → Prop), Bd O103 w102 → Glob w102 O103 → Ext Nowhere w0 w102 → (∀ x, O0 x → O103 x) → (O103 b85) → (RD w102 O103 (D.sl 24 4 (y74.1.gList.map T_api_Cbor.enc)) v80) → (BoxAt w102 b85 24 [Value.int .i64 y74.1.gKind, Value.int .i64 y74.1.gNum, Value.string ⟨List.toArray y74.1.gText⟩, v80]) →  K [(10, Value.pointer (some ⟨b85, 0, none⟩)), (11, Value.int .i64 y74.2.1), (74, Value.int .i64 y74.2.1), (75, Value.bool (decide (y74.2.1 = 0))), (76, Value.bool (decide (y74.2.1 = 0))), (80, Value.bool x111)] w102) ?_ ?_
            · intro w102 O103 B104 G107 X105 lf106 m108 h109 hb110
              show OW _ _ _ _ _ _ _ _
              refine OW.assign rfl rfl rfl rfl rfl ?_
              refine OW.done ?_
              cases hm
              exact TW.ret (Out.one rfl rfl) ⟨rfl, X105⟩
            · intro key113
              rcases c114 : (decide (y74.2.1 = 0)) with _ | _
              · have hm := ite_f c114 hx112
                try simp only [c114] at key113
                refine OW.not rfl rfl rfl rfl rfl rfl ?_
                refine OW.not rfl rfl rfl rfl rfl rfl ?_
                refine OW.not rfl rfl rfl rfl rfl rfl ?_
                refine OW.pick_f rfl rfl rfl rfl rfl rfl ?_
                cases hm
                have h127 := h81.tr (t90.trans t97)
                have h128 := G72.tr (t82.trans (t90.trans t97))
                exact OW.sub (Sub.cons rfl (Sub.cons rfl (Sub.cons rfl (Sub.cons rfl (Sub.cons rfl (Sub.cons rfl Sub.nil)))))) (key113 w94 (Ins O68 b85) B99 h128 X98 (fun x h => (Or.inr (lf71 _ h))) (Or.inl rfl) h127 hb95)
              · have hm := ite_t c114 hx112
                try simp only [c114] at key113
                refine OW.yes rfl rfl rfl ?_
                refine OW.loadN rfl rfl rfl rfl shp_24 rfl hb95 (vs := [Value.int .i64 y74.1.gKind, Value.int .i64 y74.1.gNum, Value.string ⟨List.toArray y74.1.gText⟩, v80]) rfl rfl ?_
                refine OW.yes rfl rfl rfl ?_
                refine OW.build rfl rfl rfl rfl rfl (cs := [Value.int .i64 0, Value.int .i64 0, Value.string ⟨List.toArray ([] : List UInt8)⟩, Value.slice none 0 0]) rfl ?_
                refine OW.yes rfl rfl rfl ?_
                have h115 := G72.tr (t82.trans (t90.trans t97))
                have h116 := h81.tr (t90.trans t97)
                obtain ⟨y117, hy118, hm⟩ := bnd hm
                refine OW.call rfl rfl rfl rfl rfl rfl Tryd.call9 ((C.r03_Same _ _ _ _ hy118 _ (Ins O68 b85) _ _ B99 h115 (T_api_Cbor.shut (x := y74.1) h116) (T_api_Cbor.shut (x := (T_api_Cbor.mk 0 0 ([] : List UInt8) [])) RD.nil)).mono ?_)
                rintro e w119 ⟨rfl, x120⟩
                refine CallK.ret ?_
                have t121 := Tr.of_ext (O := (Ins O68 b85)) x120 (fun _ _ h => h.elim)
                have B123 := B99.ext x120
                have X122 := X98.step x120 (fun _ _ h => h.elim)
                refine OW.pick_t rfl rfl rfl rfl rfl rfl ?_
                cases hm
                have h124 := h116.tr t121
                have hb125 := (hb95.keep x120 (fun h => h))
                have h126 := h115.tr t121
                exact OW.sub (Sub.cons rfl (Sub.cons rfl (Sub.cons rfl (Sub.cons rfl (Sub.cons rfl (Sub.cons rfl Sub.nil)))))) (key113 w119 (Ins O68 b85) B123 h126 X122 (fun x h => (Or.inr (lf71 _ h))) (Or.inl rfl) h124 hb125)
          · have hm := ite_f c100 hm
            refine TW.skip (TW.seq (TW.region ?_))
            refine OW.loadN rfl rfl rfl rfl shp_24 rfl hb95 (vs := [Value.int .i64 y74.1.gKind, Value.int .i64 y74.1.gNum, Value.string ⟨List.toArray y74.1.gText⟩, v80]) rfl rfl ?_
            have h129 := G72.tr (t82.trans (t90.trans t97))
            have h130 := h81.tr (t90.trans t97)
            obtain ⟨y131, hy132, hm⟩ := bnd hm
            refine OW.call rfl rfl rfl rfl rfl rfl Tryd.call15 ((C.cbor_Encode _ _ _ hy132 _ (Ins O68 b85) _ B99 h129 (T_api_Cbor.shut (x := y74.1) h130)).mono ?_)
            rintro e w133 ⟨rfl, x134⟩
            refine CallK.ret ?_
            have t135 := Tr.of_ext (O := (Ins O68 b85)) x134 (fun _ _ h => h.elim)
            have B137 := B99.ext x134
            have X136 := X98.step x134 (fun _ _ h => h.elim)
            refine OW.move rfl rfl rfl rfl rfl ?_
            refine OW.extract rfl rfl rfl rfl rfl rfl ?_
            refine OW.extract rfl rfl rfl rfl rfl rfl ?_
            refine OW.assign rfl rfl rfl rfl rfl ?_
            refine OW.assign rfl rfl rfl rfl rfl ?_
            refine OW.done (TW.seq (TW.region ?_))
            refine OW.move rfl rfl rfl rfl rfl ?_
            refine OW.binI rfl rfl rfl rfl rfl rfl rfl ?_
            refine OW.move rfl rfl rfl rfl rfl ?_
            refine OW.blk 3 (fun K => K [(91, Value.bool ((decide (y131.2 = 0)) && (decide (1 ≤ y74.2.1)))), (1, Value.string ⟨List.toArray p1⟩), (10, Value.pointer (some ⟨b85, 0, none⟩)), (11, Value.int .i64 y74.2.1), (13, Value.string ⟨List.toArray y131.1⟩), (14, Value.int .i64 y131.2), (86, Value.int .i64 y131.2), (87, Value.bool (decide (y131.2 = 0))), (88, Value.bool (decide (y131.2 = 0)))] w133) ?_ ?_
            · show OW _ _ _ _ _ _ _ _
              refine OW.move rfl rfl rfl rfl rfl ?_
              refine OW.blk 5 (fun K => K [(97, Value.bool (((decide (y131.2 = 0)) && (decide (1 ≤ y74.2.1))) && (decide (y74.2.1 ≤ (p1.length : Int))))), (1, Value.string ⟨List.toArray p1⟩), (10, Value.pointer (some ⟨b85, 0, none⟩)), (11, Value.int .i64 y74.2.1), (13, Value.string ⟨List.toArray y131.1⟩), (14, Value.int .i64 y131.2), (86, Value.int .i64 y131.2), (87, Value.bool (decide (y131.2 = 0))), (88, Value.bool (decide (y131.2 = 0))), (91, Value.bool ((decide (y131.2 = 0)) && (decide (1 ≤ y74.2.1)))), (92, Value.bool ((decide (y131.2 = 0)) && (decide (1 ≤ y74.2.1))))] w133) ?_ ?_
              · show OW _ _ _ _ _ _ _ _
                refine OW.move rfl rfl rfl rfl rfl ?_
                obtain ⟨x154, hx155, hm⟩ := bnd hm
                refine OW.blk 6 (fun K => ∀ (w145 : World) (O146 : Nat → Prop), Bd O146 w145 → Glob w145 O146 → Ext Nowhere w0 w145 → (∀ x, O0 x → O146 x) → (O146 b85) → (RD w145 O146 (D.sl 24 4 (y74.1.gList.map T_api_Cbor.enc)) v80) → (BoxAt w145 b85 24 [Value.int .i64 y74.1.gKind, Value.int .i64 y74.1.gNum, Value.string ⟨List.toArray y74.1.gText⟩, v80]) →  K [(1, Value.string ⟨List.toArray p1⟩), (10, Value.pointer (some ⟨b85, 0, none⟩)), (11, Value.int .i64 y74.2.1), (13, Value.string ⟨List.toArray y131.1⟩), (14, Value.int .i64 y131.2), (86, Value.int .i64 y131.2), (87, Value.bool (decide (y131.2 = 0))), (88, Value.bool (decide (y131.2 = 0))), (91, Value.bool ((decide (y131.2 = 0)) && (decide (1 ≤ y74.2.1)))), (92, Value.bool ((decide (y131.2 = 0)) && (decide (1 ≤ y74.2.1)))), (97, Value.bool (((decide (y131.2 = 0)) && (decide (1 ≤ y74.2.1))) && (decide (y74.2.1 ≤ (p1.length : Int))))), (98, Value.bool (((decide (y131.2 = 0)) && (decide (1 ≤ y74.2.1))) && (decide (y74.2.1 ≤ (p1.length : Int))))), (104, Value.bool x154)] w145) ?_ ?_
                · intro w145 O146 B147 G150 X148 lf149 m151 h152 hb153
                  show OW _ _ _ _ _ _ _ _
                  refine OW.assign rfl rfl rfl rfl rfl ?_
                  refine OW.done ?_
                  cases hm
                  exact TW.ret (Out.one rfl rfl) ⟨rfl, X148⟩
                · intro key156
                  rcases c157 : (((decide (y131.2 = 0)) && (decide (1 ≤ y74.2.1))) && (decide (y74.2.1 ≤ (p1.length : Int)))) with _ | _
                  · have hm := ite_f c157 hx155
                    try simp only [c157] at key156
                    refine OW.not rfl rfl rfl rfl rfl rfl ?_
                    refine OW.not rfl rfl rfl rfl rfl rfl ?_
                    refine OW.not rfl rfl rfl rfl rfl rfl ?_
                    refine OW.not rfl rfl rfl rfl rfl rfl ?_
                    refine OW.not rfl rfl rfl rfl rfl rfl ?_
                    refine OW.pick_f rfl rfl rfl rfl rfl rfl ?_
                    cases hm
                    have h170 := h130.tr t135
                    have hb171 := (hb95.keep x134 (fun h => h))
                    have h172 := h129.tr t135
                    exact OW.sub (Sub.cons rfl (Sub.cons rfl (Sub.cons rfl (Sub.cons rfl (Sub.cons rfl (Sub.cons rfl (Sub.cons rfl (Sub.cons rfl (Sub.cons rfl (Sub.cons rfl (Sub.cons rfl (Sub.cons rfl (Sub.cons rfl Sub.nil))))))))))))) (key156 w133 (Ins O68 b85) B137 h172 X136 (fun x h => (Or.inr (lf71 _ h))) (Or.inl rfl) h170 hb171)
                  · have hm := ite_t c157 hx155
                    try simp only [c157] at key156
                    refine OW.yes rfl rfl rfl ?_
                    refine OW.move rfl rfl rfl rfl rfl ?_
                    refine OW.yes rfl rfl rfl ?_
                    refine OW.move rfl rfl rfl rfl rfl ?_
                    refine OW.yes rfl rfl rfl ?_
                    refine OW.move rfl rfl rfl rfl rfl ?_
                    refine OW.yes rfl rfl rfl ?_
                    obtain ⟨s158, h159, hm⟩ := bnd hm
                    obtain ⟨p160, q161, h162, h163, h164, h165, h166⟩ := sub_some h159
                    refine OW.sliceS rfl rfl rfl rfl Tryd.underlying9 rfl (a := p160) (b := q161) (by show _ = 0; omega) ⟨_, _, rfl, h163⟩ h164 h165 ?_
                    rw [← h166]
                    refine OW.yes rfl rfl rfl ?_
                    refine OW.binS rfl rfl rfl rfl rfl rfl rfl ?_
                    refine OW.pick_t rfl rfl rfl rfl rfl rfl ?_
                    cases hm
                    have h167 := h130.tr t135
                    have hb168 := (hb95.keep x134 (fun h => h))
                    have h169 := h129.tr t135
                    exact OW.sub (Sub.cons rfl (Sub.cons rfl (Sub.cons rfl (Sub.cons rfl (Sub.cons rfl (Sub.cons rfl (Sub.cons rfl (Sub.cons rfl (Sub.cons rfl (Sub.cons rfl (Sub.cons rfl (Sub.cons rfl (Sub.cons rfl Sub.nil))))))))))))) (key156 w133 (Ins O68 b85) B137 h169 X136 (fun x h => (Or.inr (lf71 _ h))) (Or.inl rfl) h167 hb168)
              · intro key143
                cases c142 : ((decide (y131.2 = 0)) && (decide (1 ≤ y74.2.1)))
                · try simp only [c142] at key143
                  refine OW.not rfl rfl rfl rfl rfl rfl ?_
                  refine OW.not rfl rfl rfl rfl rfl rfl ?_
                  refine OW.not rfl rfl rfl rfl rfl rfl ?_
                  refine OW.not rfl rfl rfl rfl rfl rfl ?_
                  refine OW.pick_f rfl rfl rfl rfl rfl rfl ?_
                  exact OW.sub (Sub.cons rfl (Sub.cons rfl (Sub.cons rfl (Sub.cons rfl (Sub.cons rfl (Sub.cons rfl (Sub.cons rfl (Sub.cons rfl (Sub.cons rfl (Sub.cons rfl (Sub.cons rfl Sub.nil))))))))))) key143
                · try simp only [c142] at key143
                  refine OW.yes rfl rfl rfl ?_
                  refine OW.move rfl rfl rfl rfl rfl ?_
                  refine OW.yes rfl rfl rfl ?_
                  refine OW.move rfl rfl rfl rfl rfl ?_
                  refine OW.yes rfl rfl rfl ?_
                  refine OW.lenS rfl rfl rfl rfl Tryd.underlying9 rfl ?_
                  refine OW.yes rfl rfl rfl ?_
                  refine OW.binI rfl rfl rfl rfl rfl rfl rfl ?_
                  refine OW.pick_t rfl rfl rfl rfl rfl rfl ?_
                  exact OW.sub (Sub.cons rfl (Sub.cons rfl (Sub.cons rfl (Sub.cons rfl (Sub.cons rfl (Sub.cons rfl (Sub.cons rfl (Sub.cons rfl (Sub.cons rfl (Sub.cons rfl (Sub.cons rfl Sub.nil))))))))))) key143
            · intro key140
              cases c139 : (decide (y131.2 = 0))
              · try simp only [c139] at key140
                refine OW.not rfl rfl rfl rfl rfl rfl ?_
                refine OW.not rfl rfl rfl rfl rfl rfl ?_
                refine OW.pick_f rfl rfl rfl rfl rfl rfl ?_
                exact OW.sub (Sub.cons rfl (Sub.cons rfl (Sub.cons rfl (Sub.cons rfl (Sub.cons rfl (Sub.cons rfl (Sub.cons rfl (Sub.cons rfl (Sub.cons rfl Sub.nil))))))))) key140
              · try simp only [c139] at key140
                refine OW.yes rfl rfl rfl ?_
                refine OW.move rfl rfl rfl rfl rfl ?_
                refine OW.yes rfl rfl rfl ?_
                refine OW.binI rfl rfl rfl rfl rfl rfl rfl ?_
                refine OW.pick_t rfl rfl rfl rfl rfl rfl ?_
                exact OW.sub (Sub.cons rfl (Sub.cons rfl (Sub.cons rfl (Sub.cons rfl (Sub.cons rfl (Sub.cons rfl (Sub.cons rfl (Sub.cons rfl (Sub.cons rfl Sub.nil))))))))) key140
        · intro key73
          refine TW.cond rfl (fun c173 => ?_) (fun c173 => ?_)
          · have hm := ite_t c173 hm
            refine TW.seq (TW.region ?_)
            refine OW.move rfl rfl rfl rfl rfl ?_
            refine OW.move rfl rfl rfl rfl rfl ?_
            obtain ⟨s174, h175, hm⟩ := bnd hm
            obtain ⟨hx176, hl177⟩ := cat_some h175
            refine OW.catS rfl rfl rfl rfl rfl rfl hl177 ?_
            rw [← hx176]
            obtain ⟨y178, hy179, hm⟩ := bnd hm
            refine OW.call rfl rfl rfl rfl rfl rfl Tryd.call7 ((C.cbor_Decode _ _ _ hy179 _ O32  B33 G36).mono ?_)
            rintro e w182 ⟨cs180, rfl, h181, x183⟩
            obtain ⟨v184, rfl, h185⟩ := T_api_Cbor.opn h181
            refine CallK.ret ?_
            have t186 := Tr.of_ext (O := O32) x183 (fun _ _ h => h.elim)
            have B188 := B33.ext x183
            have X187 := X34.step x183 (fun _ _ h => h.elim)
            refine OW.move rfl rfl rfl rfl rfl ?_
            refine OW.extract rfl rfl rfl rfl rfl rfl ?_
            refine OW.extract rfl rfl rfl rfl rfl rfl ?_
            refine OW.extract rfl rfl rfl rfl rfl rfl ?_
            have hb194 := (hb39.keep x183 (fun h => h))
            refine OW.alloc rfl rfl rfl rfl zer_24 (cs := [Value.int .i64 0, Value.int .i64 0, Value.string ⟨List.toArray ([] : List UInt8)⟩, Value.slice none 0 0]) rfl ?_
            intro b189 w190 hb191 x192 l193
            have t195 := Tr.of_new (O := O32) x192 (fun _ _ h => h.elim) l193
            have B197 := (B188.ext x192).ins hb191.lt
            have X196 := X187.step x192 (fun _ _ h => h.elim)
            have g198 : w0.heap.size ≤ b189 := Nat.le_trans X187.size l193
            have n199 : b3 ≠ b189 := by have := hb194.lt; omega
            have hb200 := (hb194.keep x192 (fun h => h))
            refine OW.store rfl rfl rfl shp_24 rfl rfl (vs := [Value.int .i64 y178.1.gKind, Value.int .i64 y178.1.gNum, Value.string ⟨List.toArray y178.1.gText⟩, v184]) rfl rfl hb191 rfl (one_cons rfl (one_cons rfl (one_cons rfl (one_cons (RD.one _ _ h185) one_nil)))) (cs' := [Value.int .i64 y178.1.gKind, Value.int .i64 y178.1.gNum, Value.string ⟨List.toArray y178.1.gText⟩, v184]) rfl ?_
            intro w201 hb202 x203
            have t204 := Tr.of_ext (O := (Ins O32 b189)) x203 (fun _ _ h => by cases h; exact (Or.inl rfl))
            have B206 := B197.ext x203
            have X205 := X196.step x203 (fun y hy h => absurd hy (by cases h; have := g198; omega))
            refine OW.assign rfl rfl rfl rfl rfl ?_
            refine OW.assign rfl rfl rfl rfl rfl ?_
            refine OW.done (TW.seq (TW.region ?_))
            refine OW.move rfl rfl rfl rfl rfl ?_
            refine OW.binI rfl rfl rfl rfl rfl rfl rfl ?_
            refine OW.move rfl rfl rfl rfl rfl ?_
            refine OW.blk 5 (fun K => K [(59, Value.bool ((!decide (y178.2.2 = 0)) || (!decide (y178.2.1 = (y14.1.length : Int))))), (1, Value.string ⟨List.toArray p1⟩), (2, Value.pointer (some ⟨b3, 0, none⟩)), (5, Value.string ⟨List.toArray y14.1⟩), (7, Value.pointer (some ⟨b189, 0, none⟩)), (8, Value.int .i64 y178.2.1), (9, Value.int .i64 y178.2.2), (52, Value.int .i64 y178.2.2), (53, Value.bool (!decide (y178.2.2 = 0))), (54, Value.bool (!decide (y178.2.2 = 0)))] w201) ?_ ?_
            · show OW _ _ _ _ _ _ _ _
              refine OW.move rfl rfl rfl rfl rfl ?_
              obtain ⟨x223, hx224, hm⟩ := bnd hm
              refine OW.blk 5 (fun K => ∀ (w211 : World) (O212 : Nat → Prop), Bd O212 w211 → Glob w211 O212 → Ext Nowhere w0 w211 → (∀ x, O0 x → O212 x) → (O212 b3) → (O212 b189) → (RD w211 O212 (D.sl 24 4 (p0.gList.map T_api_Cbor.enc)) v1) → (BoxAt w211 b3 24 [Value.int .i64 p0.gKind, Value.int .i64 p0.gNum, Value.string ⟨List.toArray p0.gText⟩, v1]) → (RD w211 O212 (D.sl 24 4 (y178.1.gList.map T_api_Cbor.enc)) v184) → (BoxAt w211 b189 24 [Value.int .i64 y178.1.gKind, Value.int .i64 y178.1.gNum, Value.string ⟨List.toArray y178.1.gText⟩, v184]) →  K [(1, Value.string ⟨List.toArray p1⟩), (2, Value.pointer (some ⟨b3, 0, none⟩)), (5, Value.string ⟨List.toArray y14.1⟩), (7, Value.pointer (some ⟨b189, 0, none⟩)), (8, Value.int .i64 y178.2.1), (9, Value.int .i64 y178.2.2), (52, Value.int .i64 y178.2.2), (53, Value.bool (!decide (y178.2.2 = 0))), (54, Value.bool (!decide (y178.2.2 = 0))), (59, Value.bool ((!decide (y178.2.2 = 0)) || (!decide (y178.2.1 = (y14.1.length : Int))))), (60, Value.bool ((!decide (y178.2.2 = 0)) || (!decide (y178.2.1 = (y14.1.length : Int))))), (65, Value.bool x223)] w211) ?_ ?_
              · intro w211 O212 B213 G216 X214 lf215 m217 m218 h219 hb220 h221 hb222
                show OW _ _ _ _ _ _ _ _
                refine OW.done ?_
                refine TW.cond rfl (fun c247 => ?_) (fun c247 => ?_)
                · have hm := ite_t c247 hm
                  refine TW.seq (TW.region ?_)
                  refine OW.assign rfl rfl rfl rfl rfl ?_
                  refine OW.done ?_
                  cases hm
                  exact TW.ret (Out.one rfl rfl) ⟨rfl, X214⟩
                · have hm := ite_f c247 hm
                  refine TW.skip ?_
                  exact TW.sub (Sub.cons rfl Sub.nil) (key73 () hm w211 O212 B213 G216 X214 (fun x h => (lf215 _ h)))
              · intro key225
                rcases c226 : ((!decide (y178.2.2 = 0)) || (!decide (y178.2.1 = (y14.1.length : Int)))) with _ | _
                · have hm := ite_f c226 hx224
                  try simp only [c226] at key225
                  refine OW.yes rfl rfl rfl ?_
                  have hb231 := (hb200.keep x203 n199)
                  refine OW.loadN rfl rfl rfl rfl shp_24 rfl hb231 (vs := [Value.int .i64 p0.gKind, Value.int .i64 p0.gNum, Value.string ⟨List.toArray p0.gText⟩, v1]) rfl rfl ?_
                  refine OW.yes rfl rfl rfl ?_
                  refine OW.loadN rfl rfl rfl rfl shp_24 rfl hb202 (vs := [Value.int .i64 y178.1.gKind, Value.int .i64 y178.1.gNum, Value.string ⟨List.toArray y178.1.gText⟩, v184]) rfl rfl ?_
                  refine OW.yes rfl rfl rfl ?_
                  have h232 := G36.tr (t186.trans (t195.trans t204))
                  have h233 := h38.tr (t186.trans (t195.trans t204))
                  have h234 := h185.tr (t195.trans t204)
                  obtain ⟨y235, hy236, hm⟩ := bnd hm
                  refine OW.call rfl rfl rfl rfl rfl rfl Tryd.call9 ((C.r03_Same _ _ _ _ hy236 _ (Ins O32 b189) _ _ B206 h232 (T_api_Cbor.shut (x := p0) h233) (T_api_Cbor.shut (x := y178.1) h234)).mono ?_)
                  rintro e w237 ⟨rfl, x238⟩
                  refine CallK.ret ?_
                  have t239 := Tr.of_ext (O := (Ins O32 b189)) x238 (fun _ _ h => h.elim)
                  have B241 := B206.ext x238
                  have X240 := X205.step x238 (fun _ _ h => h.elim)
                  refine OW.yes rfl rfl rfl ?_
                  refine OW.notB rfl rfl rfl rfl rfl ?_
                  refine OW.pick_f rfl rfl rfl rfl rfl rfl ?_
                  cases hm
                  have h242 := h233.tr t239
                  have hb243 := (hb231.keep x238 (fun h => h))
                  have h244 := h234.tr t239
                  have hb245 := (hb202.keep x238 (fun h => h))
                  have h246 := h232.tr t239
                  exact OW.sub (Sub.cons rfl (Sub.cons rfl (Sub.cons rfl (Sub.cons rfl (Sub.cons rfl (Sub.cons rfl (Sub.cons rfl (Sub.cons rfl (Sub.cons rfl (Sub.cons rfl (Sub.cons rfl (Sub.cons rfl Sub.nil)))))))))))) (key225 w237 (Ins O32 b189) B241 h246 X240 (fun x h => (Or.inr (lf35 _ h))) (Or.inr m37) (Or.inl rfl) h242 hb243 h244 hb245)
                · have hm := ite_t c226 hx224
                  try simp only [c226] at key225
                  refine OW.not rfl rfl rfl rfl rfl rfl ?_
                  refine OW.not rfl rfl rfl rfl rfl rfl ?_
                  refine OW.not rfl rfl rfl rfl rfl rfl ?_
                  refine OW.not rfl rfl rfl rfl rfl rfl ?_
                  refine OW.pick_t rfl rfl rfl rfl rfl rfl ?_
                  cases hm
                  have h227 := h38.tr (t186.trans (t195.trans t204))
                  have hb228 := (hb200.keep x203 n199)
                  have h229 := h185.tr (t195.trans t204)
                  have h230 := G36.tr (t186.trans (t195.trans t204))
                  exact OW.sub (Sub.cons rfl (Sub.cons rfl (Sub.cons rfl (Sub.cons rfl (Sub.cons rfl (Sub.cons rfl (Sub.cons rfl (Sub.cons rfl (Sub.cons rfl (Sub.cons rfl (Sub.cons rfl (Sub.cons rfl Sub.nil)))))))))))) (key225 w201 (Ins O32 b189) B206 h230 X205 (fun x h => (Or.inr (lf35 _ h))) (Or.inr m37) (Or.inl rfl) h227 hb228 h229 hb202)
            · intro key209
              cases c208 : (!decide (y178.2.2 = 0))
              · try simp only [c208] at key209
                refine OW.yes rfl rfl rfl ?_
                refine OW.move rfl rfl rfl rfl rfl ?_
                refine OW.yes rfl rfl rfl ?_
                refine OW.move rfl rfl rfl rfl rfl ?_
                refine OW.yes rfl rfl rfl ?_
                refine OW.lenS rfl rfl rfl rfl Tryd.underlying9 rfl ?_
                refine OW.yes rfl rfl rfl ?_
                refine OW.binI rfl rfl rfl rfl rfl rfl rfl ?_
                refine OW.pick_f rfl rfl rfl rfl rfl rfl ?_
                exact OW.sub (Sub.cons rfl (Sub.cons rfl (Sub.cons rfl (Sub.cons rfl (Sub.cons rfl (Sub.cons rfl (Sub.cons rfl (Sub.cons rfl (Sub.cons rfl (Sub.cons rfl Sub.nil)))))))))) key209
              · try simp only [c208] at key209
                refine OW.not rfl rfl rfl rfl rfl rfl ?_
                refine OW.not rfl rfl rfl rfl rfl rfl ?_
                refine OW.not rfl rfl rfl rfl rfl rfl ?_
                refine OW.not rfl rfl rfl rfl rfl rfl ?_
                refine OW.pick_t rfl rfl rfl rfl rfl rfl ?_
                exact OW.sub (Sub.cons rfl (Sub.cons rfl (Sub.cons rfl (Sub.cons rfl (Sub.cons rfl (Sub.cons rfl (Sub.cons rfl (Sub.cons rfl (Sub.cons rfl (Sub.cons rfl Sub.nil)))))))))) key209
          · have hm := ite_f c173 hm
            refine TW.skip ?_
            exact TW.sub (Sub.cons rfl Sub.nil) (key73 () hm w31 O32 B33 G36 X34 (fun x h => (lf35 _ h)))
      · intro key66
        cases c65 : (decide (y14.2 = 0))
        · try simp only [c65] at key66
          refine OW.not rfl rfl rfl rfl rfl rfl ?_
          refine OW.not rfl rfl rfl rfl rfl rfl ?_
          refine OW.not rfl rfl rfl rfl rfl rfl ?_
          refine OW.not rfl rfl rfl rfl rfl rfl ?_
          refine OW.not rfl rfl rfl rfl rfl rfl ?_
          refine OW.not rfl rfl rfl rfl rfl rfl ?_
          refine OW.pick_f rfl rfl rfl rfl rfl rfl ?_
          exact OW.sub (Sub.cons rfl (Sub.cons rfl (Sub.cons rfl (Sub.cons rfl (Sub.cons rfl (Sub.cons rfl (Sub.cons rfl (Sub.cons rfl Sub.nil)))))))) key66
        · try simp only [c65] at key66
          refine OW.yes rfl rfl rfl ?_
          refine OW.move rfl rfl rfl rfl rfl ?_
          refine OW.yes rfl rfl rfl ?_
          refine OW.lenS rfl rfl rfl rfl Tryd.underlying9 rfl ?_
          refine OW.yes rfl rfl rfl ?_
          refine OW.move rfl rfl rfl rfl rfl ?_
          refine OW.yes rfl rfl rfl ?_
          refine OW.lenS rfl rfl rfl rfl Tryd.underlying9 rfl ?_
          refine OW.yes rfl rfl rfl ?_
          refine OW.binI rfl rfl rfl rfl rfl rfl rfl ?_
          refine OW.yes rfl rfl rfl ?_
          refine OW.binI rfl rfl rfl rfl rfl rfl rfl ?_
          refine OW.pick_t rfl rfl rfl rfl rfl rfl ?_
          exact OW.sub (Sub.cons rfl (Sub.cons rfl (Sub.cons rfl (Sub.cons rfl (Sub.cons rfl (Sub.cons rfl (Sub.cons rfl (Sub.cons rfl Sub.nil)))))))) key66
  · intro key42
    rcases c43 : (!y23) with _ | _
    · have hm := ite_f c43 hx41
      try simp only [c43] at key42
      refine OW.yes rfl rfl rfl ?_
      refine OW.move rfl rfl rfl rfl rfl ?_
      refine OW.yes rfl rfl rfl ?_
      refine OW.binI rfl rfl rfl rfl rfl rfl rfl ?_
      refine OW.yes rfl rfl rfl ?_
      refine OW.move rfl rfl rfl rfl rfl ?_
      refine OW.blk 3 (fun K => K [(28, Value.bool ((decide (y14.2 = 0)) || (decide (y14.2 = 32)))), (1, Value.string ⟨List.toArray p1⟩), (2, Value.pointer (some ⟨b3, 0, none⟩)), (5, Value.string ⟨List.toArray y14.1⟩), (6, Value.int .i64 y14.2), (20, Value.bool y23), (21, Value.bool false), (22, Value.bool false), (23, Value.int .i64 y14.2), (24, Value.bool (decide (y14.2 = 0))), (25, Value.bool (decide (y14.2 = 0)))] w25) ?_ ?_
      · show OW _ _ _ _ _ _ _ _
        refine OW.yes rfl rfl rfl ?_
        have hb50 := (hb21.keep x26 (fun h => h))
        refine OW.loadN rfl rfl rfl rfl shp_24 rfl hb50 (vs := [Value.int .i64 p0.gKind, Value.int .i64 p0.gNum, Value.string ⟨List.toArray p0.gText⟩, v1]) rfl rfl ?_
        refine OW.yes rfl rfl rfl ?_
        have h51 := h22.tr t27
        have h52 := h13.tr (t18.trans t27)
        obtain ⟨y53, hy54, hm⟩ := bnd hm
        refine OW.call rfl rfl rfl rfl rfl rfl Tryd.call16 ((C.cbor_Check _ _ _ hy54 _ (Ins O0 b3) _ B29 h51 (T_api_Cbor.shut (x := p0) h52)).mono ?_)
        rintro e w55 ⟨rfl, x56⟩
        refine CallK.ret ?_
        have t57 := Tr.of_ext (O := (Ins O0 b3)) x56 (fun _ _ h => h.elim)
        have B59 := B29.ext x56
        have X58 := X28.step x56 (fun _ _ h => h.elim)
        refine OW.yes rfl rfl rfl ?_
        refine OW.binI rfl rfl rfl rfl rfl rfl rfl ?_
        refine OW.yes rfl rfl rfl ?_
        refine OW.binB rfl rfl rfl rfl Tryd.underlying4 rfl rfl rfl ?_
        refine OW.pick_f rfl rfl rfl rfl rfl rfl ?_
        cases hm
        have h60 := h52.tr t57
        have hb61 := (hb50.keep x56 (fun h => h))
        have h62 := h51.tr t57
        exact OW.sub (Sub.cons rfl (Sub.cons rfl (Sub.cons rfl (Sub.cons rfl (Sub.cons rfl (Sub.cons rfl (Sub.cons rfl (Sub.cons rfl Sub.nil)))))))) (key42 w55 (Ins O0 b3) B59 h62 X58 (fun x h => (Or.inr h)) (Or.inl rfl) h60 hb61)
      · intro key49
        cases c48 : (decide (y14.2 = 0))
        · try simp only [c48] at key49
          refine OW.yes rfl rfl rfl ?_
          refine OW.move rfl rfl rfl rfl rfl ?_
          refine OW.yes rfl rfl rfl ?_
          refine OW.binI rfl rfl rfl rfl rfl rfl rfl ?_
          refine OW.yes rfl rfl rfl ?_
          refine OW.pick_f rfl rfl rfl rfl rfl rfl ?_
          exact OW.sub (Sub.cons rfl (Sub.cons rfl (Sub.cons rfl (Sub.cons rfl (Sub.cons rfl (Sub.cons rfl (Sub.cons rfl (Sub.cons rfl (Sub.cons rfl (Sub.cons rfl (Sub.cons rfl Sub.nil))))))))))) key49
        · try simp only [c48] at key49
          refine OW.not rfl rfl rfl rfl rfl rfl ?_
          refine OW.not rfl rfl rfl rfl rfl rfl ?_
          refine OW.yes rfl rfl rfl ?_
          refine OW.pick_t rfl rfl rfl rfl rfl rfl ?_
          exact OW.sub (Sub.cons rfl (Sub.cons rfl (Sub.cons rfl (Sub.cons rfl (Sub.cons rfl (Sub.cons rfl (Sub.cons rfl (Sub.cons rfl (Sub.cons rfl (Sub.cons rfl (Sub.cons rfl Sub.nil))))))))))) key49
    · have hm := ite_t c43 hx41
      try simp only [c43] at key42
      refine OW.not rfl rfl rfl rfl rfl rfl ?_
      refine OW.not rfl rfl rfl rfl rfl rfl ?_
      refine OW.not rfl rfl rfl rfl rfl rfl ?_
      refine OW.notU rfl rfl rfl rfl rfl ?_
      refine OW.notU rfl rfl rfl rfl rfl ?_
      refine OW.not rfl rfl rfl rfl rfl rfl ?_
      refine OW.not rfl rfl rfl rfl rfl rfl ?_
      refine OW.not rfl rfl rfl rfl rfl rfl ?_
      refine OW.not rfl rfl rfl rfl rfl rfl ?_
      refine OW.not rfl rfl rfl rfl rfl rfl ?_
      refine OW.pick_t rfl rfl rfl rfl rfl rfl ?_
      cases hm
      have h44 := h13.tr (t18.trans t27)
      have hb45 := (hb21.keep x26 (fun h => h))
      have h46 := h22.tr t27
      exact OW.sub (Sub.cons rfl (Sub.cons rfl (Sub.cons rfl (Sub.cons rfl (Sub.cons rfl (Sub.cons rfl (Sub.cons rfl (Sub.cons rfl Sub.nil)))))))) (key42 w25 (Ins O0 b3) B29 h46 X28 (fun x h => (Or.inr h)) (Or.inl rfl) h44 hb45)
set_option maxRecDepth 1000000 in
set_option maxHeartbeats 4000000 in
theorem C.l03_CborCuts (fuel : Nat) : ∀ (p0 : T_api_Cbor) (p1 : Int) (r : Bool), M.l03_CborCuts fuel p0 p1 = some r → ∀ (w0 : World) (O0 : Nat → Prop) (cs0 : List Value) (B0 : Bd O0 w0) (G0 : Glob w0 O0) (h0 : RDs w0 O0 (T_api_Cbor.enc p0) cs0), Calls Tryd.prog 6 (List.toArray [Value.agg cs0.toArray, Value.int .i64 p1]) w0 (fun e w' => e = .returned (Value.bool r) ∧ Ext Nowhere w0 w') := by
  intro p0 p1 r hm w0 O0 cs0 B0 G0 h0
  refine calls_of Tryd.func6 rfl 48 rfl rfl ?_
  unfold M.l03_CborCuts at hm
  have X0 := Ext.refl Nowhere w0
  obtain ⟨v1, rfl, h2⟩ := T_api_Cbor.opn h0
  refine TW.seq (TW.region ?_)
  refine OW.box rfl rfl rfl rfl rfl (cs := [Value.int .i64 p0.gKind, Value.int .i64 p0.gNum, Value.string ⟨List.toArray p0.gText⟩, v1]) rfl ?_
  intro b3 w4 hb5 x6 l7
  have t8 := Tr.of_new (O := O0) x6 (fun _ _ h => h.elim) l7
  have B10 := (B0.ext x6).ins hb5.lt
  have X9 := X0.step x6 (fun _ _ h => h.elim)
  have g11 : w0.heap.size ≤ b3 := Nat.le_trans X0.size l7
  refine OW.assign rfl rfl rfl rfl rfl ?_
  refine OW.done (TW.seq (TW.region ?_))
  refine OW.loadN rfl rfl rfl rfl shp_24 rfl hb5 (vs := [Value.int .i64 p0.gKind, Value.int .i64 p0.gNum, Value.string ⟨List.toArray p0.gText⟩, v1]) rfl rfl ?_
  have h12 := G0.tr t8
  have h13 := h2.tr t8
  obtain ⟨y14, hy15, hm⟩ := bnd hm
  refine OW.call rfl rfl rfl rfl rfl rfl Tryd.call15 ((C.cbor_Encode _ _ _ hy15 _ (Ins O0 b3) _ B10 h12 (T_api_Cbor.shut (x := p0) h13)).mono ?_)
  rintro e w16 ⟨rfl, x17⟩
  refine CallK.ret ?_
  have t18 := Tr.of_ext (O := (Ins O0 b3)) x17 (fun _ _ h => h.elim)
  have B20 := B10.ext x17
  have X19 := X9.step x17 (fun _ _ h => h.elim)
  refine OW.move rfl rfl rfl rfl rfl ?_
  refine OW.extract rfl rfl rfl rfl rfl rfl ?_
  refine OW.extract rfl rfl rfl rfl rfl rfl ?_
  refine OW.assign rfl rfl rfl rfl rfl ?_
  refine OW.assign rfl rfl rfl rfl rfl ?_
  refine OW.done (TW.seq (TW.seq (TW.region ?_)))
  have hb21 := (hb5.keep x17 (fun h => h))
  have h22 := h12.tr t18
  obtain ⟨y23, hy24, hm⟩ := bnd hm
  refine OW.call rfl rfl rfl rfl rfl rfl Tryd.call10 ((C.l03_awake _  _ hy24 _ (Ins O0 b3)  B20 h22).mono ?_)
  rintro e w25 ⟨rfl, x26⟩
  refine CallK.ret ?_
  have t27 := Tr.of_ext (O := (Ins O0 b3)) x26 (fun _ _ h => h.elim)
  have B29 := B20.ext x26
  have X28 := X19.step x26 (fun _ _ h => h.elim)
  refine OW.notB rfl rfl rfl rfl rfl ?_
  refine OW.done ?_
  refine TW.cond rfl (fun c30 => ?_) (fun c30 => ?_)
  · have hm := ite_t c30 hm
    refine TW.seq (TW.region ?_)
    refine OW.assign rfl rfl rfl rfl rfl ?_
    refine OW.done ?_
    cases hm
    exact TW.ret (Out.one rfl rfl) ⟨rfl, X28⟩
  · have hm := ite_f c30 hm
    refine TW.skip (TW.seq (TW.seq (TW.region ?_)))
    refine OW.move rfl rfl rfl rfl rfl ?_
    refine OW.binI rfl rfl rfl rfl rfl rfl rfl ?_
    refine OW.move rfl rfl rfl rfl rfl ?_
    refine OW.blk 3 (fun K => K [(22, Value.bool ((!decide (y14.2 = 0)) || (decide (p1 < 0)))), (1, Value.int .i64 p1), (5, Value.string ⟨List.toArray y14.1⟩), (6, Value.int .i64 y14.2), (17, Value.int .i64 y14.2), (18, Value.bool (!decide (y14.2 = 0))), (19, Value.bool (!decide (y14.2 = 0)))] w25) ?_ ?_
    · show OW _ _ _ _ _ _ _ _
      refine OW.move rfl rfl rfl rfl rfl ?_
      refine OW.blk 5 (fun K => K [(28, Value.bool (((!decide (y14.2 = 0)) || (decide (p1 < 0))) || (decide ((y14.1.length : Int) ≤ p1)))), (1, Value.int .i64 p1), (5, Value.string ⟨List.toArray y14.1⟩), (6, Value.int .i64 y14.2), (17, Value.int .i64 y14.2), (18, Value.bool (!decide (y14.2 = 0))), (19, Value.bool (!decide (y14.2 = 0))), (22, Value.bool ((!decide (y14.2 = 0)) || (decide (p1 < 0)))), (23, Value.bool ((!decide (y14.2 = 0)) || (decide (p1 < 0))))] w25) ?_ ?_
      · show OW _ _ _ _ _ _ _ _
        refine OW.done ?_
        refine TW.cond rfl (fun c37 => ?_) (fun c37 => ?_)
        · have hm := ite_t c37 hm
          refine TW.seq (TW.region ?_)
          refine OW.assign rfl rfl rfl rfl rfl ?_
          refine OW.done ?_
          cases hm
          exact TW.ret (Out.one rfl rfl) ⟨rfl, X28⟩
        · have hm := ite_f c37 hm
          refine TW.skip (TW.seq (TW.region ?_))
          refine OW.move rfl rfl rfl rfl rfl ?_
          refine OW.move rfl rfl rfl rfl rfl ?_
          obtain ⟨s38, h39, hm⟩ := bnd hm
          obtain ⟨p40, q41, h42, h43, h44, h45, h46⟩ := sub_some h39
          refine OW.sliceS rfl rfl rfl rfl Tryd.underlying9 rfl (a := p40) (b := q41) (by show _ = 0; omega) ⟨_, _, rfl, h43⟩ h44 h45 ?_
          rw [← h46]
          have hb47 := (hb21.keep x26 (fun h => h))
          have h48 := h22.tr t27
          obtain ⟨y49, hy50, hm⟩ := bnd hm
          refine OW.call rfl rfl rfl rfl rfl rfl Tryd.call7 ((C.cbor_Decode _ _ _ hy50 _ (Ins O0 b3)  B29 h48).mono ?_)
          rintro e w53 ⟨cs51, rfl, h52, x54⟩
          obtain ⟨v55, rfl, h56⟩ := T_api_Cbor.opn h52
          refine CallK.ret ?_
          have t57 := Tr.of_ext (O := (Ins O0 b3)) x54 (fun _ _ h => h.elim)
          have B59 := B29.ext x54
          have X58 := X28.step x54 (fun _ _ h => h.elim)
          refine OW.move rfl rfl rfl rfl rfl ?_
          refine OW.extract rfl rfl rfl rfl rfl rfl ?_
          refine OW.extract rfl rfl rfl rfl rfl rfl ?_
          refine OW.extract rfl rfl rfl rfl rfl rfl ?_
          have hb65 := (hb47.keep x54 (fun h => h))
          refine OW.alloc rfl rfl rfl rfl zer_24 (cs := [Value.int .i64 0, Value.int .i64 0, Value.string ⟨List.toArray ([] : List UInt8)⟩, Value.slice none 0 0]) rfl ?_
          intro b60 w61 hb62 x63 l64
          have t66 := Tr.of_new (O := (Ins O0 b3)) x63 (fun _ _ h => h.elim) l64
          have B68 := (B59.ext x63).ins hb62.lt
          have X67 := X58.step x63 (fun _ _ h => h.elim)
          have g69 : w0.heap.size ≤ b60 := Nat.le_trans X58.size l64
          have n70 : b3 ≠ b60 := by have := hb65.lt; omega
          have hb71 := (hb65.keep x63 (fun h => h))
          refine OW.store rfl rfl rfl shp_24 rfl rfl (vs := [Value.int .i64 y49.1.gKind, Value.int .i64 y49.1.gNum, Value.string ⟨List.toArray y49.1.gText⟩, v55]) rfl rfl hb62 rfl (one_cons rfl (one_cons rfl (one_cons rfl (one_cons (RD.one _ _ h56) one_nil)))) (cs' := [Value.int .i64 y49.1.gKind, Value.int .i64 y49.1.gNum, Value.string ⟨List.toArray y49.1.gText⟩, v55]) rfl ?_
          intro w72 hb73 x74
          have t75 := Tr.of_ext (O := (Ins (Ins O0 b3) b60)) x74 (fun _ _ h => by cases h; exact (Or.inl rfl))
          have B77 := B68.ext x74
          have X76 := X67.step x74 (fun y hy h => absurd hy (by cases h; have := g69; omega))
          refine OW.assign rfl rfl rfl rfl rfl ?_
          refine OW.assign rfl rfl rfl rfl rfl ?_
          refine OW.done (TW.seq (TW.region ?_))
          refine OW.move rfl rfl rfl rfl rfl ?_
          refine OW.binI rfl rfl rfl rfl rfl rfl rfl ?_
          refine OW.move rfl rfl rfl rfl rfl ?_
          refine OW.blk 3 (fun K => K [(42, Value.bool ((decide (y49.2.2 = 30)) && (decide (y49.2.1 = 0)))), (7, Value.pointer (some ⟨b60, 0, none⟩)), (8, Value.int .i64 y49.2.1), (9, Value.int .i64 y49.2.2), (37, Value.int .i64 y49.2.2), (38, Value.bool (decide (y49.2.2 = 30))), (39, Value.bool (decide (y49.2.2 = 30)))] w72) ?_ ?_
          · show OW _ _ _ _ _ _ _ _
            refine OW.move rfl rfl rfl rfl rfl ?_
            obtain ⟨x91, hx92, hm⟩ := bnd hm
            refine OW.blk 4 (fun K => ∀ (w82 : World) (O83 : Nat → Prop), Bd O83 w82 → Glob w82 O83 → Ext Nowhere w0 w82 → (∀ x, O0 x → O83 x) → (O83 b60) → (RD w82 O83 (D.sl 24 4 (y49.1.gList.map T_api_Cbor.enc)) v55) → (BoxAt w82 b60 24 [Value.int .i64 y49.1.gKind, Value.int .i64 y49.1.gNum, Value.string ⟨List.toArray y49.1.gText⟩, v55]) →  K [(7, Value.pointer (some ⟨b60, 0, none⟩)), (8, Value.int .i64 y49.2.1), (9, Value.int .i64 y49.2.2), (37, Value.int .i64 y49.2.2), (38, Value.bool (decide (y49.2.2 = 30))), (39, Value.bool (decide (y49.2.2 = 30))), (42, Value.bool ((decide (y49.2.2 = 30)) && (decide (y49.2.1 = 0)))), (43, Value.bool ((decide (y49.2.2 = 30)) && (decide (y49.2.1 = 0)))), (47, Value.bool x91)] w82) ?_ ?_
            · intro w82 O83 B84 G87 X85 lf86 m88 h89 hb90
              show OW _ _ _ _ _ _ _ _
              refine OW.assign rfl rfl rfl rfl rfl ?_
              refine OW.done ?_
              cases hm
              exact TW.ret (Out.one rfl rfl) ⟨rfl, X85⟩
            · intro key93
              rcases c94 : ((decide (y49.2.2 = 30)) && (decide (y49.2.1 = 0))) with _ | _
              · have hm := ite_f c94 hx92
                try simp only [c94] at key93
                refine OW.not rfl rfl rfl rfl rfl rfl ?_
                refine OW.not rfl rfl rfl rfl rfl rfl ?_
                refine OW.not rfl rfl rfl rfl rfl rfl ?_
                refine OW.pick_f rfl rfl rfl rfl rfl rfl ?_
                cases hm
                have h108 := h56.tr (t66.trans t75)
                have h109 := h48.tr (t57.trans (t66.trans t75))
                exact OW.sub (Sub.cons rfl (Sub.cons rfl (Sub.cons rfl (Sub.cons rfl (Sub.cons rfl (Sub.cons rfl (Sub.cons rfl (Sub.cons rfl (Sub.cons rfl Sub.nil))))))))) (key93 w72 (Ins (Ins O0 b3) b60) B77 h109 X76 (fun x h => (Or.inr (Or.inr h))) (Or.inl rfl) h108 hb73)
              · have hm := ite_t c94 hx92
                try simp only [c94] at key93
                refine OW.yes rfl rfl rfl ?_
                refine OW.loadN rfl rfl rfl rfl shp_24 rfl hb73 (vs := [Value.int .i64 y49.1.gKind, Value.int .i64 y49.1.gNum, Value.string ⟨List.toArray y49.1.gText⟩, v55]) rfl rfl ?_
                refine OW.yes rfl rfl rfl ?_
                refine OW.build rfl rfl rfl rfl rfl (cs := [Value.int .i64 0, Value.int .i64 0, Value.string ⟨List.toArray ([] : List UInt8)⟩, Value.slice none 0 0]) rfl ?_
                refine OW.yes rfl rfl rfl ?_
                have hb95 := (hb71.keep x74 n70)
                have h96 := h48.tr (t57.trans (t66.trans t75))
                have h97 := h56.tr (t66.trans t75)
                obtain ⟨y98, hy99, hm⟩ := bnd hm
                refine OW.call rfl rfl rfl rfl rfl rfl Tryd.call9 ((C.r03_Same _ _ _ _ hy99 _ (Ins (Ins O0 b3) b60) _ _ B77 h96 (T_api_Cbor.shut (x := y49.1) h97) (T_api_Cbor.shut (x := (T_api_Cbor.mk 0 0 ([] : List UInt8) [])) RD.nil)).mono ?_)
                rintro e w100 ⟨rfl, x101⟩
                refine CallK.ret ?_
                have t102 := Tr.of_ext (O := (Ins (Ins O0 b3) b60)) x101 (fun _ _ h => h.elim)
                have B104 := B77.ext x101
                have X103 := X76.step x101 (fun _ _ h => h.elim)
                refine OW.pick_t rfl rfl rfl rfl rfl rfl ?_
                cases hm
                have h105 := h97.tr t102
                have hb106 := (hb73.keep x101 (fun h => h))
                have h107 := h96.tr t102
                exact OW.sub (Sub.cons rfl (Sub.cons rfl (Sub.cons rfl (Sub.cons rfl (Sub.cons rfl (Sub.cons rfl (Sub.cons rfl (Sub.cons rfl (Sub.cons rfl Sub.nil))))))))) (key93 w100 (Ins (Ins O0 b3) b60) B104 h107 X103 (fun x h => (Or.inr (Or.inr h))) (Or.inl rfl) h105 hb106)
          · intro key80
            cases c79 : (decide (y49.2.2 = 30))
            · try simp only [c79] at key80
              refine OW.not rfl rfl rfl rfl rfl rfl ?_
              refine OW.not rfl rfl rfl rfl rfl rfl ?_
              refine OW.pick_f rfl rfl rfl rfl rfl rfl ?_
              exact OW.sub (Sub.cons rfl (Sub.cons rfl (Sub.cons rfl (Sub.cons rfl (Sub.cons rfl (Sub.cons rfl (Sub.cons rfl Sub.nil))))))) key80
            · try simp only [c79] at key80
              refine OW.yes rfl rfl rfl ?_
              refine OW.move rfl rfl rfl rfl rfl ?_
              refine OW.yes rfl rfl rfl ?_
              refine OW.binI rfl rfl rfl rfl rfl rfl rfl ?_
              refine OW.pick_t rfl rfl rfl rfl rfl rfl ?_
              exact OW.sub (Sub.cons rfl (Sub.cons rfl (Sub.cons rfl (Sub.cons rfl (Sub.cons rfl (Sub.cons rfl (Sub.cons rfl Sub.nil))))))) key80
      · intro key36
        cases c35 : ((!decide (y14.2 = 0)) || (decide (p1 < 0)))
        · try simp only [c35] at key36
          refine OW.yes rfl rfl rfl ?_
          refine OW.move rfl rfl rfl rfl rfl ?_
          refine OW.yes rfl rfl rfl ?_
          refine OW.move rfl rfl rfl rfl rfl ?_
          refine OW.yes rfl rfl rfl ?_
          refine OW.lenS rfl rfl rfl rfl Tryd.underlying9 rfl ?_
          refine OW.yes rfl rfl rfl ?_
          refine OW.binI rfl rfl rfl rfl rfl rfl rfl ?_
          refine OW.pick_f rfl rfl rfl rfl rfl rfl ?_
          exact OW.sub (Sub.cons rfl (Sub.cons rfl (Sub.cons rfl (Sub.cons rfl (Sub.cons rfl (Sub.cons rfl (Sub.cons rfl (Sub.cons rfl (Sub.cons rfl Sub.nil))))))))) key36
        · try simp only [c35] at key36
          refine OW.not rfl rfl rfl rfl rfl rfl ?_
          refine OW.not rfl rfl rfl rfl rfl rfl ?_
          refine OW.not rfl rfl rfl rfl rfl rfl ?_
          refine OW.not rfl rfl rfl rfl rfl rfl ?_
          refine OW.pick_t rfl rfl rfl rfl rfl rfl ?_
          exact OW.sub (Sub.cons rfl (Sub.cons rfl (Sub.cons rfl (Sub.cons rfl (Sub.cons rfl (Sub.cons rfl (Sub.cons rfl (Sub.cons rfl (Sub.cons rfl Sub.nil))))))))) key36
    · intro key33
      cases c32 : (!decide (y14.2 = 0))
      · try simp only [c32] at key33
        refine OW.yes rfl rfl rfl ?_
        refine OW.move rfl rfl rfl rfl rfl ?_
        refine OW.yes rfl rfl rfl ?_
        refine OW.binI rfl rfl rfl rfl rfl rfl rfl ?_
        refine OW.pick_f rfl rfl rfl rfl rfl rfl ?_
        exact OW.sub (Sub.cons rfl (Sub.cons rfl (Sub.cons rfl (Sub.cons rfl (Sub.cons rfl (Sub.cons rfl (Sub.cons rfl Sub.nil))))))) key33
      · try simp only [c32] at key33
        refine OW.not rfl rfl rfl rfl rfl rfl ?_
        refine OW.not rfl rfl rfl rfl rfl rfl ?_
        refine OW.pick_t rfl rfl rfl rfl rfl rfl ?_
        exact OW.sub (Sub.cons rfl (Sub.cons rfl (Sub.cons rfl (Sub.cons rfl (Sub.cons rfl (Sub.cons rfl (Sub.cons rfl Sub.nil))))))) key33
end Go.Proofs.YtmbckfhcljgniaaDoor
