/- LkP: models and contracts of the program's functions, printed by a program of ours. -/
import Derived.Test.YtmbckfhcljgniaaDoorRows
import Derived.Test.YtmbckfhcljgniaaDoorLkM
import Derived.Shelf.Unicode.ValidAny
import Derived.Test.YtmbckfhcljgniaaDoorLkU
import Derived.Test.YtmbckfhcljgniaaDoorCC
import Derived.Test.YtmbckfhcljgniaaDoorTrydShP
namespace Go.Proofs.YtmbckfhcljgniaaDoor
open Go.Lk Go.RowKit
theorem cls_5 : Tryd.prog.cellsOf 5 = 1 := by kernel_rfl
theorem fld_24_0 : fld Tryd.prog 24 0 = some (0, false, 1) := by kernel_rfl
theorem fld_24_1 : fld Tryd.prog 24 1 = some (1, false, 1) := by kernel_rfl
theorem fld_24_2 : fld Tryd.prog 24 2 = some (2, false, 1) := by kernel_rfl
theorem fld_24_3 : fld Tryd.prog 24 3 = some (3, false, 1) := by kernel_rfl
theorem fld_44_0 : fld Tryd.prog 44 0 = some (0, false, 1) := by kernel_rfl
theorem fld_48_0 : fld Tryd.prog 48 0 = some (0, false, 1) := by kernel_rfl
theorem fld_48_1 : fld Tryd.prog 48 1 = some (1, false, 1) := by kernel_rfl
theorem fld_58_0 : fld Tryd.prog 58 0 = some (0, false, 1) := by kernel_rfl
theorem fld_72_1 : fld Tryd.prog 72 1 = some (1, false, 1) := by kernel_rfl
theorem inf_5 : inf Tryd.prog 5 = some (Value.int .u8 0, 1, 1) := by kernel_rfl
theorem inf_24 : inf Tryd.prog 24 = some (Value.agg #[Value.int .i64 0, Value.int .i64 0, Value.string ⟨List.toArray ([] : List UInt8)⟩, Value.slice none 0 0], 4, 56) := by kernel_rfl
theorem mix : Tryd.prog.follows .mixedOrders = true := by kernel_rfl
theorem shp_3 : shp Tryd.prog 3 = some (false, 1) := by kernel_rfl
theorem shp_5 : shp Tryd.prog 5 = some (false, 1) := by kernel_rfl
theorem shp_9 : shp Tryd.prog 9 = some (false, 1) := by kernel_rfl
theorem shp_22 : shp Tryd.prog 22 = some (false, 1) := by kernel_rfl
theorem shp_24 : shp Tryd.prog 24 = some (true, 4) := by kernel_rfl
theorem shp_25 : shp Tryd.prog 25 = some (false, 1) := by kernel_rfl
theorem shp_58 : shp Tryd.prog 58 = some (true, 1) := by kernel_rfl
theorem shp_70 : shp Tryd.prog 70 = some (false, 1) := by kernel_rfl
theorem zer_5 : zer Tryd.prog 5 = some (Value.int .u8 0) := by kernel_rfl
theorem zer_24 : zer Tryd.prog 24 = some (Value.agg #[Value.int .i64 0, Value.int .i64 0, Value.string ⟨List.toArray ([] : List UInt8)⟩, Value.slice none 0 0]) := by kernel_rfl
theorem zer_25 : zer Tryd.prog 25 = some (Value.int .i64 0) := by kernel_rfl
theorem zer_58 : zer Tryd.prog 58 = some (Value.agg #[Value.int .i64 0]) := by kernel_rfl
theorem zer_72 : zer Tryd.prog 72 = some (Value.agg #[Value.pointer none, Value.slice none 0 0]) := by kernel_rfl
def Glob (w : World) (O : Nat → Prop) : Prop := Lib.Utf8Tabs 0 1 w ∧ ¬ O 0 ∧ ¬ O 1
theorem Glob.tr {w w' : World} {O O' : Nat → Prop} (h : Glob w O) (t : Tr O w O' w') : Glob w' O' := ⟨utf8_tr t h.2.1 h.2.2 h.1, fun x => t.owned 0 (utf8_lt h.1).1 h.2.1 x, fun x => t.owned 1 (utf8_lt h.1).2 h.2.2 x⟩
structure FT53 (w1 : World) (O1 : Nat → Prop) (p : T_api_Cbor → Option Bool) (fid : Nat) (fs caps : List Value) : Prop where
  ent : ∀ args w, (callFunc fid args).run Tryd.prog w = .ok (.enter fid args) w
  app : ∀ (p0 : T_api_Cbor) (r : Bool), p p0 = some r → ∀ (w0 : World) (O0 : Nat → Prop) (cs0 : List Value) (B0 : Bd O0 w0) (G0 : Glob w0 O0) (h0 : RDs w0 O0 (T_api_Cbor.enc p0) cs0), Tr O1 w1 O0 w0 → Calls Tryd.prog fid (List.toArray (fs ++ [Value.agg cs0.toArray] ++ caps)) w0 (fun e w' => e = .returned (Value.bool r) ∧ Ext Nowhere w0 w')
theorem FT53.tr {w w' : World} {O O' : Nat → Prop} {p : T_api_Cbor → Option Bool} {fid : Nat} {fs caps : List Value} (h : FT53 w O p fid fs caps) (t : Tr O w O' w') : FT53 w' O' p fid fs caps :=
  ⟨h.ent, fun p0 r hm w0 O0 cs0 B0 G0 h0 t2 => h.app p0 r hm w0 O0 cs0 B0 G0 h0 (t.trans t2)⟩
theorem C.validString : ∀ (p0 : List UInt8) (r : Bool), M.validString p0 = some r → ∀ (w0 : World) (O0 : Nat → Prop) (B0 : Bd O0 w0) (G0 : Glob w0 O0), Calls Tryd.prog 31 (List.toArray [Value.string ⟨List.toArray p0⟩]) w0 (fun e w' => e = .returned (Value.bool r) ∧ Ext Nowhere w0 w') := by
  intro p0 r hm w0 O0 B0 G0
  obtain ⟨_, h, hm⟩ := bnd hm
  have hl := chk_some h
  cases hm
  refine (Any.utf8_ValidString Tryd.lays196 ⟨p0.toArray⟩ w0 (by simpa [ByteArray.size] using hl) G0.1).mono ?_
  rintro e w' ⟨rfl, x⟩
  exact ⟨rfl, Ext.of_below x⟩
theorem C.copyCheck : ∀ (p0 : List Int) (r : (List Int)), M.copyCheck p0 = some r → ∀ (w0 : World) (O0 : Nat → Prop) (b0 : Nat) (a0 : Value) (v0 : Value) (B0 : Bd O0 w0) (G0 : Glob w0 O0) (hb0 : BoxAt w0 b0 72 [a0, v0]) (hs0 : Slf b0 a0) (h0 : Own w0 O0 5 1 v0 (p0.map (eI .u8))) (m0 : O0 b0) (no0 : v0.ownBlock ≠ some b0), Calls Tryd.prog 43 (List.toArray [Value.pointer (some ⟨b0, 0, none⟩)]) w0 (fun e w' => ∃ (aa0 uu0 : Value), e = .returned (Value.tuple (List.toArray [])) ∧ BoxAt w' b0 72 [aa0, uu0] ∧ Slf b0 aa0 ∧ Own w' (fun x => O0 x ∨ uu0.ownBlock = some x) 5 1 uu0 (r.map (eI .u8)) ∧ (∀ b, uu0.ownBlock = some b → v0.ownBlock = some b ∨ w0.heap.size ≤ b) ∧ Ext (fun x => At b0 x ∨ (fun x => v0.ownBlock = some x) x) w0 w') := by
  intro p0 r hm w0 O0 b0 a0 v0 B0 G0 hb0 hs0 h0 m0 no0
  cases hm
  refine (copyCheck_low w0 b0 a0 v0 hb0 hs0 h0.one).mono ?_
  rintro e w' ⟨rfl, hb, x⟩
  have h := h0.keep x (fun b h e => no0 (e ▸ h)) (Tr.of_ext (O := O0) x (fun _ _ h => by cases h; exact m0)) (fun _ h => h)
  exact ⟨_, v0, rfl, hb, Or.inr rfl, h.down (fun x hx => hx.elim id (fun e => h0.mem x e)) (fun b e => Or.inr e), fun b e => Or.inl e, x.mono (fun y _ hy => Or.inl hy)⟩
theorem C.caught_ret (w0 : World) (b0 : Nat) : CallsD Tryd.prog 17 (List.toArray [Value.pointer (some ⟨b0, 0, none⟩)]) .returning w0 (fun e u w' => e = .returned (.tuple #[]) ∧ u = .returning ∧ Ext Nowhere w0 w') := by
  have B0 : Bd Nowhere w0 := fun _ h => h.elim
  have X0 := Ext.refl Nowhere w0
  refine (callsD_of (R := fun e w' => e = .returned (.tuple #[]) ∧ Ext Nowhere w0 w') .returning .returning Tryd.func17 rfl 14 rfl rfl ?_).mono (fun e u w' h => ⟨h.2.1, h.1, h.2.2⟩)
  refine TWR.seq ?_
  refine TWR.recover rfl (.inl ⟨rfl, rfl, rfl⟩) rfl rfl rfl rfl ?_
  refine OW.val rfl rfl rfl (EX.taNil rfl Tryd.underlying58 rfl zer_58 rfl) ?_
  refine OW.move rfl rfl rfl rfl rfl ?_
  refine OW.extract rfl rfl rfl rfl rfl rfl ?_
  refine OW.extract rfl rfl rfl rfl rfl rfl ?_
  refine OW.alloc rfl rfl rfl rfl zer_58 (cs := [Value.int .i64 0]) rfl ?_
  intro b1 w2 hb3 x4 l5
  have t6 := Tr.of_new (O := Nowhere) x4 (fun _ _ h => h.elim) l5
  have B8 := (B0.ext x4).ins hb3.lt
  have X7 := X0.step x4 (fun _ _ h => h.elim)
  have g9 : w0.heap.size ≤ b1 := Nat.le_trans X0.size l5
  refine OW.store rfl rfl rfl shp_58 rfl rfl (vs := [Value.int .i64 0]) rfl rfl hb3 rfl (one_cons rfl one_nil) (cs' := [Value.int .i64 0]) rfl ?_
  intro w10 hb11 x12
  have t13 := Tr.of_ext (O := (Ins Nowhere b1)) x12 (fun _ _ h => by cases h; exact (Or.inl rfl))
  have B15 := B8.ext x12
  have X14 := X7.step x12 (fun y hy h => absurd hy (by cases h; have := g9; omega))
  refine OW.assign rfl rfl rfl rfl rfl ?_
  refine OW.done (TW.seq (TW.region ?_))
  refine OW.move rfl rfl rfl rfl rfl ?_
  refine OW.done (TW.cond_f rfl (TW.skip ?_))
  exact TW.fin (Out.unit rfl) ⟨rfl, X14⟩
theorem C.caught_pan (w0 : World) (b0 : Nat) (c0 : Value) (e0 : Int) (hb0 : BoxAt w0 b0 25 [c0]) : CallsD Tryd.prog 17 (List.toArray [Value.pointer (some ⟨b0, 0, none⟩)]) (.panicking [{ v := Value.iface 58 (Value.agg (List.toArray [Value.int .i64 e0])), recovered := false }]) w0 (fun e u w' => e = .returned (.tuple #[]) ∧ u = (.panicking [{ v := Value.iface 58 (Value.agg (List.toArray [Value.int .i64 e0])), recovered := true }]) ∧ BoxAt w' b0 25 [Value.int .i64 e0] ∧ Ext (At b0) w0 w') := by
  have B0 : Bd (At b0) w0 := fun x h => by cases h; exact hb0.lt
  have X0 := Ext.refl (At b0) w0
  refine (callsD_of (R := fun e w' => e = .returned (.tuple #[]) ∧ BoxAt w' b0 25 [Value.int .i64 e0] ∧ Ext (At b0) w0 w') (.panicking [{ v := Value.iface 58 (Value.agg (List.toArray [Value.int .i64 e0])), recovered := false }]) (.panicking [{ v := Value.iface 58 (Value.agg (List.toArray [Value.int .i64 e0])), recovered := true }]) Tryd.func17 rfl 14 rfl rfl ?_).mono (fun e u w' h => ⟨h.2.1, h.1, h.2.2⟩)
  refine TWR.seq ?_
  refine TWR.recover rfl (.inr ⟨[], rfl, rfl⟩) rfl rfl rfl rfl ?_
  refine OW.val rfl rfl rfl (EX.taYes rfl Tryd.underlying58 rfl rfl) ?_
  refine OW.move rfl rfl rfl rfl rfl ?_
  refine OW.extract rfl rfl rfl rfl rfl rfl ?_
  refine OW.extract rfl rfl rfl rfl rfl rfl ?_
  refine OW.alloc rfl rfl rfl rfl zer_58 (cs := [Value.int .i64 0]) rfl ?_
  intro b1 w2 hb3 x4 l5
  have t6 := Tr.of_new (O := (At b0)) x4 (fun _ _ h => h.elim) l5
  have B8 := (B0.ext x4).ins hb3.lt
  have X7 := X0.step x4 (fun _ _ h => h.elim)
  have g9 : w0.heap.size ≤ b1 := Nat.le_trans X0.size l5
  have n10 : b0 ≠ b1 := by have := hb0.lt; omega
  have hb11 := (hb0.keep x4 (fun h => h))
  refine OW.store rfl rfl rfl shp_58 rfl rfl (vs := [Value.int .i64 e0]) rfl rfl hb3 rfl (one_cons rfl one_nil) (cs' := [Value.int .i64 e0]) rfl ?_
  intro w12 hb13 x14
  have t15 := Tr.of_ext (O := (Ins (At b0) b1)) x14 (fun _ _ h => by cases h; exact (Or.inl rfl))
  have B17 := B8.ext x14
  have X16 := X7.step x14 (fun y hy h => absurd hy (by cases h; have := g9; omega))
  refine OW.assign rfl rfl rfl rfl rfl ?_
  refine OW.done (TW.seq (TW.region ?_))
  refine OW.move rfl rfl rfl rfl rfl ?_
  refine OW.done (TW.cond_t rfl (TW.region ?_))
  refine OW.move rfl rfl rfl rfl rfl ?_
  refine OW.fieldAddr rfl rfl rfl rfl fld_58_0 rfl ?_
  refine OW.load1 rfl rfl rfl rfl shp_25 rfl hb13 rfl ?_
  refine OW.nilCheck rfl rfl rfl rfl rfl ?_
  have hb18 := (hb11.keep x14 n10)
  refine OW.store rfl rfl rfl shp_25 rfl rfl (vs := [Value.int .i64 e0]) rfl rfl hb18 rfl (one_cons rfl one_nil) (cs' := [Value.int .i64 e0]) rfl ?_
  intro w19 hb20 x21
  have t22 := Tr.of_ext (O := (Ins (At b0) b1)) x21 (fun _ _ h => by cases h; exact (Or.inr (rfl : At b0 b0)))
  have B24 := B17.ext x21
  have X23 := X16.step x21 (fun y hy h => h)
  refine OW.done ?_
  have hb25 := (hb13.keep x21 (Ne.symm n10))
  exact TW.fin (Out.unit rfl) ⟨rfl, hb20, X23⟩
set_option maxRecDepth 1000000 in
set_option maxHeartbeats 4000000 in
theorem C.strings_Builder_Write : ∀ (p0 : List Int) (p1 : List Int) (r : Int × (List Int)), M.strings_Builder_Write p0 p1 = some r → ∀ (w0 : World) (O0 : Nat → Prop) (b0 : Nat) (a0 : Value) (v0 : Value) (v1 : Value) (B0 : Bd O0 w0) (G0 : Glob w0 O0) (hb0 : BoxAt w0 b0 72 [a0, v0]) (hs0 : Slf b0 a0) (h0 : Own w0 O0 5 1 v0 (p0.map (eI .u8))) (m0 : O0 b0) (no0 : v0.ownBlock ≠ some b0) (h1 : RD w0 O0 (D.sl 5 1 (p1.map (eI .u8))) v1), Calls Tryd.prog 40 (List.toArray [Value.pointer (some ⟨b0, 0, none⟩), v1]) w0 (fun e w' => ∃ (aa0 uu0 : Value), e = .returned (Value.tuple (List.toArray [Value.int .i64 r.1, Value.nilIface])) ∧ BoxAt w' b0 72 [aa0, uu0] ∧ Slf b0 aa0 ∧ Own w' (fun x => O0 x ∨ uu0.ownBlock = some x) 5 1 uu0 (r.2.map (eI .u8)) ∧ (∀ b, uu0.ownBlock = some b → v0.ownBlock = some b ∨ w0.heap.size ≤ b) ∧ Ext (fun x => At b0 x ∨ (fun x => v0.ownBlock = some x) x) w0 w') := by
  intro p0 p1 r hm w0 O0 b0 a0 v0 v1 B0 G0 hb0 hs0 h0 m0 no0 h1
  refine calls_of Tryd.func40 rfl 19 rfl rfl ?_
  unfold M.strings_Builder_Write at hm
  have X0 := Ext.refl (fun x => At b0 x ∨ (fun x => v0.ownBlock = some x) x) w0
  refine TW.seq (TW.region ?_)
  refine OW.assign rfl rfl rfl rfl rfl ?_
  refine OW.assign rfl rfl rfl rfl rfl ?_
  refine OW.done (TW.seq (TW.region ?_))
  refine OW.move rfl rfl rfl rfl rfl ?_
  obtain ⟨y1, hy2, hm⟩ := bnd hm
  refine OW.call rfl rfl rfl rfl rfl rfl Tryd.call43 ((C.copyCheck _ _ hy2 _ O0 _ _ _ B0 G0 hb0 hs0 h0 m0 no0).mono ?_)
  rintro e w9 ⟨a3, v4, rfl, hb5, hs6, h7, h8, x10⟩
  refine CallK.ret ?_
  have t11 := Tr.of_own (O := O0) x10 (fun x hx h => h.elim (fun h => (fun _ _ h => by cases h; exact m0) x hx h) (fun h => (fun b _ h => h0.mem b h) x hx h)) (fun b h => (h8 b h).imp (fun h => h0.mem b h) id)
  have X12 := X0.step x10 (fun x hx h => h.elim (fun h => (fun y hy h => (Or.inl h)) x hx h) (fun h => (fun y hy h => (fun b h _ => (Or.inr h)) y h hy) x hx h))
  have B13 : Bd (fun x => O0 x ∨ v4.ownBlock = some x) w9 := Bd.own (B0.ext x10) h7.lt
  have gv14 : ∀ b, v4.ownBlock = some b → b < w0.heap.size → (fun x => At b0 x ∨ (fun x => v0.ownBlock = some x) x) b := fun b h hl => (h8 b h).elim (fun h => (fun b h _ => (Or.inr h)) b h hl) (fun h => absurd hl (by have := X0.size; omega))
  have n15 : v4.ownBlock ≠ some b0 := fun h => (h8 _ h).elim no0 (fun h => by have := hb0.lt; omega)
  have ho16 : Own w9 (fun x => O0 x ∨ v4.ownBlock = some x) 5 1 v4 (y1.map (eI .u8)) := h7
  refine OW.done (TW.seq (TW.region ?_))
  refine OW.move rfl rfl rfl rfl rfl ?_
  refine OW.move rfl rfl rfl rfl rfl ?_
  refine OW.nilCheck rfl rfl rfl rfl rfl ?_
  refine OW.fieldAddr rfl rfl rfl rfl fld_72_1 rfl ?_
  refine OW.load1 rfl rfl rfl rfl shp_70 rfl hb5 rfl ?_
  refine OW.move rfl rfl rfl rfl rfl ?_
  have h25 := h1.tr t11
  obtain ⟨l17, h18, hm⟩ := bnd hm
  obtain ⟨hx19, hl20⟩ := app_some h18
  refine OW.appendL' rfl rfl rfl rfl Tryd.underlying70 inf_5 rfl rfl rfl rfl rfl ho16 B13 h25 hl20 ?_
  intro v21 w22 O23 G24
  rw [← hx19] at G24
  have X26 := X12.step G24.ext (fun y hy h => gv14 y h hy)
  have gv27 : ∀ b, v21.ownBlock = some b → b < w0.heap.size → (fun x => At b0 x ∨ (fun x => v0.ownBlock = some x) x) b := fun b h hl => (G24.at_ b h).elim (fun h => gv14 b h hl) (fun h => absurd hl (by have := X12.size; omega))
  have n28 : v21.ownBlock ≠ some b0 := fun h => (G24.at_ _ h).elim n15 (fun h => by have := hb5.lt; omega)
  refine OW.nilCheck rfl rfl rfl rfl rfl ?_
  refine OW.fieldAddr rfl rfl rfl rfl fld_72_1 rfl ?_
  have hb29 := (hb5.keep G24.ext (n15))
  refine OW.store rfl rfl rfl shp_70 rfl rfl (vs := [v21]) (cells_one G24.own.one) rfl hb29 rfl (one_cons G24.own.one one_nil) (cs' := [a3, v21]) rfl ?_
  intro w30 hb31 x32
  have t33 := Tr.of_ext (O := O23) x32 (fun _ _ h => by cases h; exact (G24.more _ (Or.inl m0)))
  have B35 := G24.bd.ext x32
  have X34 := X26.step x32 (fun y hy h => (Or.inl h))
  refine OW.done (TW.seq (TW.region ?_))
  refine OW.move rfl rfl rfl rfl rfl ?_
  have h36 := h25.tr (G24.tr.trans t33)
  refine OW.lenV rfl rfl rfl rfl Tryd.underlying70 rfl (RD.len' h36) ?_
  refine OW.assign rfl rfl rfl rfl rfl ?_
  refine OW.assign rfl rfl rfl rfl rfl ?_
  refine OW.done ?_
  have ho37 := (G24.own.keep x32 (fun b h e => n28 (e ▸ h)) t33 (fun _ h => h))
  cases hm
  exact TW.ret (Out.many rfl ⟨_, _, rfl, rfl, ⟨_, _, rfl, rfl, rfl⟩⟩ rfl) ⟨_, _, rfl, hb31, hs6, (ho37.down (fun x h => h.elim (fun h => (G24.more _ (Or.inl h))) (fun h => ho37.mem x h)) (fun b h => Or.inr h)), (fun c h => (Nat.lt_or_ge c w0.heap.size).elim (fun hl => Or.inl (by rcases gv27 c h hl with rfl | h2 <;> first | exact h2 | exact absurd h n28)) Or.inr), X34⟩
set_option maxRecDepth 1000000 in
set_option maxHeartbeats 4000000 in
theorem C.strings_Builder_WriteString : ∀ (p0 : List Int) (p1 : List UInt8) (r : Int × (List Int)), M.strings_Builder_WriteString p0 p1 = some r → ∀ (w0 : World) (O0 : Nat → Prop) (b0 : Nat) (a0 : Value) (v0 : Value) (B0 : Bd O0 w0) (G0 : Glob w0 O0) (hb0 : BoxAt w0 b0 72 [a0, v0]) (hs0 : Slf b0 a0) (h0 : Own w0 O0 5 1 v0 (p0.map (eI .u8))) (m0 : O0 b0) (no0 : v0.ownBlock ≠ some b0), Calls Tryd.prog 41 (List.toArray [Value.pointer (some ⟨b0, 0, none⟩), Value.string ⟨List.toArray p1⟩]) w0 (fun e w' => ∃ (aa0 uu0 : Value), e = .returned (Value.tuple (List.toArray [Value.int .i64 r.1, Value.nilIface])) ∧ BoxAt w' b0 72 [aa0, uu0] ∧ Slf b0 aa0 ∧ Own w' (fun x => O0 x ∨ uu0.ownBlock = some x) 5 1 uu0 (r.2.map (eI .u8)) ∧ (∀ b, uu0.ownBlock = some b → v0.ownBlock = some b ∨ w0.heap.size ≤ b) ∧ Ext (fun x => At b0 x ∨ (fun x => v0.ownBlock = some x) x) w0 w') := by
  intro p0 p1 r hm w0 O0 b0 a0 v0 B0 G0 hb0 hs0 h0 m0 no0
  refine calls_of Tryd.func41 rfl 19 rfl rfl ?_
  unfold M.strings_Builder_WriteString at hm
  have X0 := Ext.refl (fun x => At b0 x ∨ (fun x => v0.ownBlock = some x) x) w0
  refine TW.seq (TW.region ?_)
  refine OW.assign rfl rfl rfl rfl rfl ?_
  refine OW.assign rfl rfl rfl rfl rfl ?_
  refine OW.done (TW.seq (TW.region ?_))
  refine OW.move rfl rfl rfl rfl rfl ?_
  obtain ⟨y1, hy2, hm⟩ := bnd hm
  refine OW.call rfl rfl rfl rfl rfl rfl Tryd.call43 ((C.copyCheck _ _ hy2 _ O0 _ _ _ B0 G0 hb0 hs0 h0 m0 no0).mono ?_)
  rintro e w9 ⟨a3, v4, rfl, hb5, hs6, h7, h8, x10⟩
  refine CallK.ret ?_
  have t11 := Tr.of_own (O := O0) x10 (fun x hx h => h.elim (fun h => (fun _ _ h => by cases h; exact m0) x hx h) (fun h => (fun b _ h => h0.mem b h) x hx h)) (fun b h => (h8 b h).imp (fun h => h0.mem b h) id)
  have X12 := X0.step x10 (fun x hx h => h.elim (fun h => (fun y hy h => (Or.inl h)) x hx h) (fun h => (fun y hy h => (fun b h _ => (Or.inr h)) y h hy) x hx h))
  have B13 : Bd (fun x => O0 x ∨ v4.ownBlock = some x) w9 := Bd.own (B0.ext x10) h7.lt
  have gv14 : ∀ b, v4.ownBlock = some b → b < w0.heap.size → (fun x => At b0 x ∨ (fun x => v0.ownBlock = some x) x) b := fun b h hl => (h8 b h).elim (fun h => (fun b h _ => (Or.inr h)) b h hl) (fun h => absurd hl (by have := X0.size; omega))
  have n15 : v4.ownBlock ≠ some b0 := fun h => (h8 _ h).elim no0 (fun h => by have := hb0.lt; omega)
  have ho16 : Own w9 (fun x => O0 x ∨ v4.ownBlock = some x) 5 1 v4 (y1.map (eI .u8)) := h7
  refine OW.done (TW.seq (TW.region ?_))
  refine OW.move rfl rfl rfl rfl rfl ?_
  refine OW.move rfl rfl rfl rfl rfl ?_
  refine OW.nilCheck rfl rfl rfl rfl rfl ?_
  refine OW.fieldAddr rfl rfl rfl rfl fld_72_1 rfl ?_
  refine OW.load1 rfl rfl rfl rfl shp_70 rfl hb5 rfl ?_
  refine OW.move rfl rfl rfl rfl rfl ?_
  obtain ⟨l17, h18, hm⟩ := bnd hm
  obtain ⟨hx19, hl20⟩ := app_some h18
  refine OW.appendS' rfl rfl rfl rfl Tryd.underlying70 Tryd.underlying9 inf_5 rfl rfl ho16 B13 hl20 ?_
  intro v21 w22 O23 G24
  rw [← hx19] at G24
  have X25 := X12.step G24.ext (fun y hy h => gv14 y h hy)
  have gv26 : ∀ b, v21.ownBlock = some b → b < w0.heap.size → (fun x => At b0 x ∨ (fun x => v0.ownBlock = some x) x) b := fun b h hl => (G24.at_ b h).elim (fun h => gv14 b h hl) (fun h => absurd hl (by have := X12.size; omega))
  have n27 : v21.ownBlock ≠ some b0 := fun h => (G24.at_ _ h).elim n15 (fun h => by have := hb5.lt; omega)
  refine OW.nilCheck rfl rfl rfl rfl rfl ?_
  refine OW.fieldAddr rfl rfl rfl rfl fld_72_1 rfl ?_
  have hb28 := (hb5.keep G24.ext (n15))
  refine OW.store rfl rfl rfl shp_70 rfl rfl (vs := [v21]) (cells_one G24.own.one) rfl hb28 rfl (one_cons G24.own.one one_nil) (cs' := [a3, v21]) rfl ?_
  intro w29 hb30 x31
  have t32 := Tr.of_ext (O := O23) x31 (fun _ _ h => by cases h; exact (G24.more _ (Or.inl m0)))
  have B34 := G24.bd.ext x31
  have X33 := X25.step x31 (fun y hy h => (Or.inl h))
  refine OW.done (TW.seq (TW.region ?_))
  refine OW.move rfl rfl rfl rfl rfl ?_
  refine OW.lenS rfl rfl rfl rfl Tryd.underlying9 rfl ?_
  refine OW.assign rfl rfl rfl rfl rfl ?_
  refine OW.assign rfl rfl rfl rfl rfl ?_
  refine OW.done ?_
  have ho35 := (G24.own.keep x31 (fun b h e => n27 (e ▸ h)) t32 (fun _ h => h))
  cases hm
  exact TW.ret (Out.many rfl ⟨_, _, rfl, rfl, ⟨_, _, rfl, rfl, rfl⟩⟩ rfl) ⟨_, _, rfl, hb30, hs6, (ho35.down (fun x h => h.elim (fun h => (G24.more _ (Or.inl h))) (fun h => ho35.mem x h)) (fun b h => Or.inr h)), (fun c h => (Nat.lt_or_ge c w0.heap.size).elim (fun hl => Or.inl (by rcases gv26 c h hl with rfl | h2 <;> first | exact h2 | exact absurd h n27)) Or.inr), X33⟩
set_option maxRecDepth 1000000 in
set_option maxHeartbeats 4000000 in
theorem C.strings_Builder_String : ∀ (p0 : List Int) (r : (List UInt8)), M.strings_Builder_String p0 = some r → ∀ (w0 : World) (O0 : Nat → Prop) (b0 : Nat) (a0 : Value) (v0 : Value) (B0 : Bd O0 w0) (G0 : Glob w0 O0) (hb0 : BoxAt w0 b0 72 [a0, v0]) (hs0 : Slf b0 a0) (h0 : Own w0 O0 5 1 v0 (p0.map (eI .u8))) (m0 : O0 b0) (no0 : v0.ownBlock ≠ some b0), Calls Tryd.prog 35 (List.toArray [Value.pointer (some ⟨b0, 0, none⟩)]) w0 (fun e w' => e = .returned (Value.string ⟨List.toArray r⟩) ∧ Ext (fun x => At b0 x ∨ (fun x => v0.ownBlock = some x) x) w0 w') := by
  intro p0 r hm w0 O0 b0 a0 v0 B0 G0 hb0 hs0 h0 m0 no0
  refine calls_of Tryd.func35 rfl 14 rfl rfl ?_
  unfold M.strings_Builder_String at hm
  have X0 := Ext.refl (fun x => At b0 x ∨ (fun x => v0.ownBlock = some x) x) w0
  refine TW.seq (TW.region ?_)
  refine OW.assign rfl rfl rfl rfl rfl ?_
  refine OW.done (TW.seq ?_)
  refine TW.drawP [0, 1, 3, 7, 15, 0, 32, 96, 224, 480, 1023, 2047] [0, 1, 2, 3, 5, 6, 7, 8, 9] [(4, [5, 6, 7, 8, 9], []), (10, [], [11])] mix (by kernel_rfl) ?_
  intro w1 x2
  have t3 := Tr.of_ext (O := O0) x2 (fun _ _ h => h.elim)
  have B5 := B0.ext x2
  have X4 := X0.step x2 (fun _ _ h => h.elim)
  have hb6 := (hb0.keep x2 (fun h => h))
  have ho7 := (h0.keep x2 (fun _ _ h => h) t3 (fun _ h => h))
  refine DP.put [(3, Value.pointer (some ⟨b0, 0, none⟩)), (4, Value.pointer (some ⟨b0, 0, none⟩)), (5, Value.pointer (some ⟨b0, 0 + 1, none⟩)), (6, v0), (8, Value.pointer (some ⟨b0, 0, none⟩)), (9, Value.pointer (some ⟨b0, 0, none⟩)), (10, Value.pointer (some ⟨b0, 0 + 1, none⟩)), (11, v0), (12, Value.int .i64 (p0.length : Int))] rfl ?_
  refine DW.next (StabE.cons rfl rfl rfl rfl (EX.move rfl rfl) (StabE.cons rfl rfl rfl rfl (EX.nilCheck rfl rfl) (StabE.cons rfl rfl rfl rfl (EX.fieldAddr rfl fld_72_1 rfl) (StabE.cons rfl rfl rfl rfl (EX.load1 rfl shp_70 rfl hb6 rfl) (StabE.cons rfl rfl rfl rfl (EX.move rfl rfl) (StabE.cons rfl rfl rfl rfl (EX.nilCheck rfl rfl) (StabE.cons rfl rfl rfl rfl (EX.fieldAddr rfl fld_72_1 rfl) (StabE.cons rfl rfl rfl rfl (EX.load1 rfl shp_70 rfl hb6 rfl) (StabE.cons rfl rfl rfl rfl (EX.lenV rfl Tryd.underlying70 rfl (Own.len' ho7)) StabE.nil))))))))) rfl ?_
  refine OW.sliceData rfl rfl rfl rfl Tryd.underlying88 rfl ho7 ?_
  intro p8 w9 x10 hp11
  have t12 := Tr.of_ext (O := O0) x10 (fun _ _ h => h.elim)
  have B14 := B5.ext x10
  have X13 := X4.step x10 (fun _ _ h => h.elim)
  refine DP.ow ?_
  refine DP.put [] rfl ?_
  have hb15 := (hb6.keep x10 (fun h => h))
  refine DW.next (StabE.cons rfl rfl rfl rfl (EX.move rfl rfl) (StabE.cons rfl rfl rfl rfl (EX.nilCheck rfl rfl) (StabE.cons rfl rfl rfl rfl (EX.fieldAddr rfl fld_72_1 rfl) (StabE.cons rfl rfl rfl rfl (EX.load1 rfl shp_70 rfl hb15 rfl) (StabE.cons rfl rfl rfl rfl (EX.lenV rfl Tryd.underlying70 rfl (Own.len' ho7)) StabE.nil))))) rfl ?_
  have ho16 := (ho7.keep x10 (fun _ _ h => h) t12 (fun _ h => h))
  refine OW.unsafeStr rfl rfl rfl rfl Tryd.underlying88 cls_5 rfl rfl ho16 hp11 ?_
  intro w17 x18
  have t19 := Tr.of_ext (O := O0) x18 (fun b _ h => ho16.mem b h)
  have B21 := B14.ext x18
  have X20 := X13.step x18 (fun y hy h => (fun b h _ => (Or.inr h)) y h hy)
  refine DP.ow ?_
  refine DP.put [(2, Value.string ⟨List.toArray (byt p0)⟩)] rfl ?_
  refine DW.end' (StabE.cons rfl rfl rfl rfl (EX.assign rfl rfl) StabE.nil) ?_
  have hb22 := (hb15.keep x18 (no0))
  cases hm
  exact TW.ret (Out.one rfl rfl) ⟨rfl, X20⟩
set_option maxRecDepth 1000000 in
set_option maxHeartbeats 4000000 in
theorem C.l03_number : ∀ (p0 : Int) (r : T_api_Cbor), M.l03_number p0 = some r → ∀ (w0 : World) (O0 : Nat → Prop) (B0 : Bd O0 w0) (G0 : Glob w0 O0), Calls Tryd.prog 20 (List.toArray [Value.int .i64 p0]) w0 (fun e w' => ∃ (us0 : List Value), e = .returned (Value.agg us0.toArray) ∧ RDs w' O0 (T_api_Cbor.enc r) us0 ∧ Ext Nowhere w0 w') := by
  intro p0 r hm w0 O0  B0 G0 
  refine calls_of Tryd.func20 rfl 5 rfl rfl ?_
  unfold M.l03_number at hm
  have X0 := Ext.refl Nowhere w0
  refine TW.seq (TW.region ?_)
  refine OW.alloc rfl rfl rfl rfl zer_24 (cs := [Value.int .i64 0, Value.int .i64 0, Value.string ⟨List.toArray ([] : List UInt8)⟩, Value.slice none 0 0]) rfl ?_
  intro b1 w2 hb3 x4 l5
  have t6 := Tr.of_new (O := O0) x4 (fun _ _ h => h.elim) l5
  have B8 := (B0.ext x4).ins hb3.lt
  have X7 := X0.step x4 (fun _ _ h => h.elim)
  have g9 : w0.heap.size ≤ b1 := Nat.le_trans X0.size l5
  refine OW.done (TW.seq (TW.region ?_))
  refine OW.move rfl rfl rfl rfl rfl ?_
  refine OW.build rfl rfl rfl rfl rfl (cs := [Value.int .i64 0, Value.int .i64 p0, Value.string ⟨List.toArray ([] : List UInt8)⟩, Value.slice none 0 0]) rfl ?_
  refine OW.store rfl rfl rfl shp_24 rfl rfl (vs := [Value.int .i64 0, Value.int .i64 p0, Value.string ⟨List.toArray ([] : List UInt8)⟩, Value.slice none 0 0]) rfl rfl hb3 rfl (one_cons rfl (one_cons rfl (one_cons rfl (one_cons rfl one_nil)))) (cs' := [Value.int .i64 0, Value.int .i64 p0, Value.string ⟨List.toArray ([] : List UInt8)⟩, Value.slice none 0 0]) rfl ?_
  intro w10 hb11 x12
  have t13 := Tr.of_ext (O := (Ins O0 b1)) x12 (fun _ _ h => by cases h; exact (Or.inl rfl))
  have B15 := B8.ext x12
  have X14 := X7.step x12 (fun y hy h => absurd hy (by cases h; have := g9; omega))
  refine OW.done ?_
  cases hm
  exact TW.ret (Out.cell rfl rfl shp_24 hb11 rfl) ⟨_, rfl, (T_api_Cbor.shut (x := (T_api_Cbor.mk 0 p0 ([] : List UInt8) [])) RD.nil), X14⟩
set_option maxRecDepth 1000000 in
set_option maxHeartbeats 4000000 in
theorem C.l03_text : ∀ (p0 : List UInt8) (r : T_api_Cbor), M.l03_text p0 = some r → ∀ (w0 : World) (O0 : Nat → Prop) (B0 : Bd O0 w0) (G0 : Glob w0 O0), Calls Tryd.prog 21 (List.toArray [Value.string ⟨List.toArray p0⟩]) w0 (fun e w' => ∃ (us0 : List Value), e = .returned (Value.agg us0.toArray) ∧ RDs w' O0 (T_api_Cbor.enc r) us0 ∧ Ext Nowhere w0 w') := by
  intro p0 r hm w0 O0  B0 G0 
  refine calls_of Tryd.func21 rfl 5 rfl rfl ?_
  unfold M.l03_text at hm
  have X0 := Ext.refl Nowhere w0
  refine TW.seq (TW.region ?_)
  refine OW.alloc rfl rfl rfl rfl zer_24 (cs := [Value.int .i64 0, Value.int .i64 0, Value.string ⟨List.toArray ([] : List UInt8)⟩, Value.slice none 0 0]) rfl ?_
  intro b1 w2 hb3 x4 l5
  have t6 := Tr.of_new (O := O0) x4 (fun _ _ h => h.elim) l5
  have B8 := (B0.ext x4).ins hb3.lt
  have X7 := X0.step x4 (fun _ _ h => h.elim)
  have g9 : w0.heap.size ≤ b1 := Nat.le_trans X0.size l5
  refine OW.done (TW.seq (TW.region ?_))
  refine OW.move rfl rfl rfl rfl rfl ?_
  refine OW.build rfl rfl rfl rfl rfl (cs := [Value.int .i64 2, Value.int .i64 0, Value.string ⟨List.toArray p0⟩, Value.slice none 0 0]) rfl ?_
  refine OW.store rfl rfl rfl shp_24 rfl rfl (vs := [Value.int .i64 2, Value.int .i64 0, Value.string ⟨List.toArray p0⟩, Value.slice none 0 0]) rfl rfl hb3 rfl (one_cons rfl (one_cons rfl (one_cons rfl (one_cons rfl one_nil)))) (cs' := [Value.int .i64 2, Value.int .i64 0, Value.string ⟨List.toArray p0⟩, Value.slice none 0 0]) rfl ?_
  intro w10 hb11 x12
  have t13 := Tr.of_ext (O := (Ins O0 b1)) x12 (fun _ _ h => by cases h; exact (Or.inl rfl))
  have B15 := B8.ext x12
  have X14 := X7.step x12 (fun y hy h => absurd hy (by cases h; have := g9; omega))
  refine OW.done ?_
  cases hm
  exact TW.ret (Out.cell rfl rfl shp_24 hb11 rfl) ⟨_, rfl, (T_api_Cbor.shut (x := (T_api_Cbor.mk 2 0 p0 [])) RD.nil), X14⟩
set_option maxRecDepth 1000000 in
set_option maxHeartbeats 4000000 in
theorem C.cbor_must : ∀ (p0 : Bool) (p1 : Int) (r : Res Unit), M.cbor_must p0 p1 = some r → ∀ (w0 : World) (O0 : Nat → Prop) (B0 : Bd O0 w0) (G0 : Glob w0 O0), Calls Tryd.prog 30 (List.toArray [Value.bool p0, Value.int .i64 p1]) w0 (PR Nowhere w0 (fun a e w' => e = .returned (Value.tuple (List.toArray [])) ∧ Ext Nowhere w0 w') r) := by
  intro p0 p1 r hm w0 O0  B0 G0 
  refine calls_of Tryd.func30 rfl 9 rfl rfl ?_
  unfold M.cbor_must at hm
  have X0 := Ext.refl Nowhere w0
  refine TW.seq (TW.region ?_)
  refine OW.move rfl rfl rfl rfl rfl ?_
  refine OW.notB rfl rfl rfl rfl rfl ?_
  refine OW.done ?_
  refine TW.cond rfl (fun c1 => ?_) (fun c1 => ?_)
  · have hm := ite_t c1 hm
    refine TW.region ?_
    refine OW.move rfl rfl rfl rfl rfl ?_
    refine OW.build rfl rfl rfl rfl rfl (cs := [Value.int .i64 p1]) rfl ?_
    refine OW.mkIface rfl rfl rfl rfl Tryd.underlying58 rfl rfl ?_
    cases hm
    exact OW.panicI rfl rfl rfl ⟨rfl, X0⟩
  · have hm := ite_f c1 hm
    refine TW.skip ?_
    cases hm
    exact TW.fin (Out.unit rfl) ⟨rfl, X0⟩
set_option maxRecDepth 1000000 in
set_option maxHeartbeats 4000000 in
theorem C.cbor_fields : ∀ (p0 : T_api_Cbor) (r : Bool), M.cbor_fields p0 = some r → ∀ (w0 : World) (O0 : Nat → Prop) (cs0 : List Value) (B0 : Bd O0 w0) (G0 : Glob w0 O0) (h0 : RDs w0 O0 (T_api_Cbor.enc p0) cs0), Calls Tryd.prog 36 (List.toArray [Value.agg cs0.toArray]) w0 (fun e w' => e = .returned (Value.bool r) ∧ Ext Nowhere w0 w') := by
  intro p0 r hm w0 O0 cs0 B0 G0 h0
  refine calls_of Tryd.func36 rfl 66 rfl rfl ?_
  unfold M.cbor_fields at hm
  have X0 := Ext.refl Nowhere w0
  obtain ⟨v1, rfl, h2⟩ := T_api_Cbor.opn h0
  refine TW.seq (TW.region ?_)
  refine OW.box rfl rfl rfl rfl rfl (cs := [Value.int .i64 p0.gKind, Value.int .i64 p0.gNum, Value.string ⟨List.toArray p0.gText⟩, v1]) rfl ?_
  intro b3 w4 hb5 x6 l7
  have t8 := Tr.of_new (O := O0) x6 (fun _ _ h => h.elim) l7
  have B10 := (B0.ext x6).ins hb5.lt
  have X9 := X0.step x6 (fun _ _ h => h.elim)
  have g11 : w0.heap.size ≤ b3 := Nat.le_trans X0.size l7
  refine OW.assign rfl rfl rfl rfl rfl ?_
  refine OW.done (TW.seq (TW.region ?_))
  refine OW.fieldAddr rfl rfl rfl rfl fld_24_0 rfl ?_
  refine OW.load1 rfl rfl rfl rfl shp_3 rfl hb5 rfl ?_
  refine OW.binI rfl rfl rfl rfl rfl rfl rfl ?_
  refine OW.move rfl rfl rfl rfl rfl ?_
  refine OW.blk 4 (fun K => K [(12, Value.bool ((decide (p0.gKind = 3)) || (decide (p0.gKind = 4)))), (1, Value.pointer (some ⟨b3, 0, none⟩)), (5, Value.pointer (some ⟨b3, 0 + 0, none⟩)), (6, Value.int .i64 p0.gKind), (7, Value.bool (decide (p0.gKind = 3))), (8, Value.bool (decide (p0.gKind = 3)))] w4) ?_ ?_
  · show OW _ _ _ _ _ _ _ _
    refine OW.assign rfl rfl rfl rfl rfl ?_
    refine OW.done (TW.seq (TW.region ?_))
    refine OW.fieldAddr rfl rfl rfl rfl fld_24_0 rfl ?_
    refine OW.load1 rfl rfl rfl rfl shp_3 rfl hb5 rfl ?_
    refine OW.binI rfl rfl rfl rfl rfl rfl rfl ?_
    refine OW.move rfl rfl rfl rfl rfl ?_
    refine OW.blk 4 (fun K => K [(20, Value.bool ((decide (p0.gKind = 1)) || (decide (p0.gKind = 2)))), (1, Value.pointer (some ⟨b3, 0, none⟩)), (3, Value.bool ((decide (p0.gKind = 3)) || (decide (p0.gKind = 4)))), (13, Value.pointer (some ⟨b3, 0 + 0, none⟩)), (14, Value.int .i64 p0.gKind), (15, Value.bool (decide (p0.gKind = 1))), (16, Value.bool (decide (p0.gKind = 1)))] w4) ?_ ?_
    · show OW _ _ _ _ _ _ _ _
      refine OW.assign rfl rfl rfl rfl rfl ?_
      refine OW.done (TW.seq (TW.region ?_))
      refine OW.fieldAddr rfl rfl rfl rfl fld_24_0 rfl ?_
      refine OW.load1 rfl rfl rfl rfl shp_3 rfl hb5 rfl ?_
      refine OW.binI rfl rfl rfl rfl rfl rfl rfl ?_
      refine OW.move rfl rfl rfl rfl rfl ?_
      refine OW.blk 4 (fun K => K [(28, Value.bool ((decide (0 ≤ p0.gKind)) && (decide (p0.gKind < 5)))), (1, Value.pointer (some ⟨b3, 0, none⟩)), (3, Value.bool ((decide (p0.gKind = 3)) || (decide (p0.gKind = 4)))), (4, Value.bool ((decide (p0.gKind = 1)) || (decide (p0.gKind = 2)))), (21, Value.pointer (some ⟨b3, 0 + 0, none⟩)), (22, Value.int .i64 p0.gKind), (23, Value.bool (decide (0 ≤ p0.gKind))), (24, Value.bool (decide (0 ≤ p0.gKind)))] w4) ?_ ?_
      · show OW _ _ _ _ _ _ _ _
        refine OW.move rfl rfl rfl rfl rfl ?_
        refine OW.blk 9 (fun K => K [(38, Value.bool (((decide (0 ≤ p0.gKind)) && (decide (p0.gKind < 5))) && ((decide (p0.gKind = 0)) || (decide (p0.gNum = 0))))), (1, Value.pointer (some ⟨b3, 0, none⟩)), (3, Value.bool ((decide (p0.gKind = 3)) || (decide (p0.gKind = 4)))), (4, Value.bool ((decide (p0.gKind = 1)) || (decide (p0.gKind = 2)))), (21, Value.pointer (some ⟨b3, 0 + 0, none⟩)), (22, Value.int .i64 p0.gKind), (23, Value.bool (decide (0 ≤ p0.gKind))), (24, Value.bool (decide (0 ≤ p0.gKind))), (28, Value.bool ((decide (0 ≤ p0.gKind)) && (decide (p0.gKind < 5)))), (29, Value.bool ((decide (0 ≤ p0.gKind)) && (decide (p0.gKind < 5))))] w4) ?_ ?_
        · show OW _ _ _ _ _ _ _ _
          refine OW.move rfl rfl rfl rfl rfl ?_
          refine OW.blk 7 (fun K => K [(46, Value.bool ((((decide (0 ≤ p0.gKind)) && (decide (p0.gKind < 5))) && ((decide (p0.gKind = 0)) || (decide (p0.gNum = 0)))) && (((decide (p0.gKind = 1)) || (decide (p0.gKind = 2))) || (decide (p0.gText = ([] : List UInt8)))))), (1, Value.pointer (some ⟨b3, 0, none⟩)), (3, Value.bool ((decide (p0.gKind = 3)) || (decide (p0.gKind = 4)))), (4, Value.bool ((decide (p0.gKind = 1)) || (decide (p0.gKind = 2)))), (21, Value.pointer (some ⟨b3, 0 + 0, none⟩)), (22, Value.int .i64 p0.gKind), (23, Value.bool (decide (0 ≤ p0.gKind))), (24, Value.bool (decide (0 ≤ p0.gKind))), (28, Value.bool ((decide (0 ≤ p0.gKind)) && (decide (p0.gKind < 5)))), (29, Value.bool ((decide (0 ≤ p0.gKind)) && (decide (p0.gKind < 5)))), (38, Value.bool (((decide (0 ≤ p0.gKind)) && (decide (p0.gKind < 5))) && ((decide (p0.gKind = 0)) || (decide (p0.gNum = 0))))), (39, Value.bool (((decide (0 ≤ p0.gKind)) && (decide (p0.gKind < 5))) && ((decide (p0.gKind = 0)) || (decide (p0.gNum = 0)))))] w4) ?_ ?_
          · show OW _ _ _ _ _ _ _ _
            refine OW.move rfl rfl rfl rfl rfl ?_
            refine OW.blk 8 (fun K => K [(55, Value.bool (((((decide (0 ≤ p0.gKind)) && (decide (p0.gKind < 5))) && ((decide (p0.gKind = 0)) || (decide (p0.gNum = 0)))) && (((decide (p0.gKind = 1)) || (decide (p0.gKind = 2))) || (decide (p0.gText = ([] : List UInt8))))) && (((decide (p0.gKind = 3)) || (decide (p0.gKind = 4))) || (decide ((p0.gList.length : Int) = 0))))), (1, Value.pointer (some ⟨b3, 0, none⟩)), (3, Value.bool ((decide (p0.gKind = 3)) || (decide (p0.gKind = 4)))), (4, Value.bool ((decide (p0.gKind = 1)) || (decide (p0.gKind = 2)))), (21, Value.pointer (some ⟨b3, 0 + 0, none⟩)), (22, Value.int .i64 p0.gKind), (23, Value.bool (decide (0 ≤ p0.gKind))), (24, Value.bool (decide (0 ≤ p0.gKind))), (28, Value.bool ((decide (0 ≤ p0.gKind)) && (decide (p0.gKind < 5)))), (29, Value.bool ((decide (0 ≤ p0.gKind)) && (decide (p0.gKind < 5)))), (38, Value.bool (((decide (0 ≤ p0.gKind)) && (decide (p0.gKind < 5))) && ((decide (p0.gKind = 0)) || (decide (p0.gNum = 0))))), (39, Value.bool (((decide (0 ≤ p0.gKind)) && (decide (p0.gKind < 5))) && ((decide (p0.gKind = 0)) || (decide (p0.gNum = 0))))), (46, Value.bool ((((decide (0 ≤ p0.gKind)) && (decide (p0.gKind < 5))) && ((decide (p0.gKind = 0)) || (decide (p0.gNum = 0)))) && (((decide (p0.gKind = 1)) || (decide (p0.gKind = 2))) || (decide (p0.gText = ([] : List UInt8)))))), (47, Value.bool ((((decide (0 ≤ p0.gKind)) && (decide (p0.gKind < 5))) && ((decide (p0.gKind = 0)) || (decide (p0.gNum = 0)))) && (((decide (p0.gKind = 1)) || (decide (p0.gKind = 2))) || (decide (p0.gText = ([] : List UInt8))))))] w4) ?_ ?_
            · show OW _ _ _ _ _ _ _ _
              refine OW.move rfl rfl rfl rfl rfl ?_
              obtain ⟨x40, hx41, hm⟩ := bnd hm
              refine OW.blk 9 (fun K => ∀ (w31 : World) (O32 : Nat → Prop), Bd O32 w31 → Glob w31 O32 → Ext Nowhere w0 w31 → (∀ x, O0 x → O32 x) → (O32 b3) → (RD w31 O32 (D.sl 24 4 (p0.gList.map T_api_Cbor.enc)) v1) → (BoxAt w31 b3 24 [Value.int .i64 p0.gKind, Value.int .i64 p0.gNum, Value.string ⟨List.toArray p0.gText⟩, v1]) →  K [(1, Value.pointer (some ⟨b3, 0, none⟩)), (3, Value.bool ((decide (p0.gKind = 3)) || (decide (p0.gKind = 4)))), (4, Value.bool ((decide (p0.gKind = 1)) || (decide (p0.gKind = 2)))), (21, Value.pointer (some ⟨b3, 0 + 0, none⟩)), (22, Value.int .i64 p0.gKind), (23, Value.bool (decide (0 ≤ p0.gKind))), (24, Value.bool (decide (0 ≤ p0.gKind))), (28, Value.bool ((decide (0 ≤ p0.gKind)) && (decide (p0.gKind < 5)))), (29, Value.bool ((decide (0 ≤ p0.gKind)) && (decide (p0.gKind < 5)))), (38, Value.bool (((decide (0 ≤ p0.gKind)) && (decide (p0.gKind < 5))) && ((decide (p0.gKind = 0)) || (decide (p0.gNum = 0))))), (39, Value.bool (((decide (0 ≤ p0.gKind)) && (decide (p0.gKind < 5))) && ((decide (p0.gKind = 0)) || (decide (p0.gNum = 0))))), (46, Value.bool ((((decide (0 ≤ p0.gKind)) && (decide (p0.gKind < 5))) && ((decide (p0.gKind = 0)) || (decide (p0.gNum = 0)))) && (((decide (p0.gKind = 1)) || (decide (p0.gKind = 2))) || (decide (p0.gText = ([] : List UInt8)))))), (47, Value.bool ((((decide (0 ≤ p0.gKind)) && (decide (p0.gKind < 5))) && ((decide (p0.gKind = 0)) || (decide (p0.gNum = 0)))) && (((decide (p0.gKind = 1)) || (decide (p0.gKind = 2))) || (decide (p0.gText = ([] : List UInt8)))))), (55, Value.bool (((((decide (0 ≤ p0.gKind)) && (decide (p0.gKind < 5))) && ((decide (p0.gKind = 0)) || (decide (p0.gNum = 0)))) && (((decide (p0.gKind = 1)) || (decide (p0.gKind = 2))) || (decide (p0.gText = ([] : List UInt8))))) && (((decide (p0.gKind = 3)) || (decide (p0.gKind = 4))) || (decide ((p0.gList.length : Int) = 0))))), (56, Value.bool (((((decide (0 ≤ p0.gKind)) && (decide (p0.gKind < 5))) && ((decide (p0.gKind = 0)) || (decide (p0.gNum = 0)))) && (((decide (p0.gKind = 1)) || (decide (p0.gKind = 2))) || (decide (p0.gText = ([] : List UInt8))))) && (((decide (p0.gKind = 3)) || (decide (p0.gKind = 4))) || (decide ((p0.gList.length : Int) = 0))))), (65, Value.bool x40)] w31) ?_ ?_
              · intro w31 O32 B33 G36 X34 lf35 m37 h38 hb39
                show OW _ _ _ _ _ _ _ _
                refine OW.assign rfl rfl rfl rfl rfl ?_
                refine OW.done ?_
                cases hm
                exact TW.ret (Out.one rfl rfl) ⟨rfl, X34⟩
              · intro key42
                rcases c43 : (((((decide (0 ≤ p0.gKind)) && (decide (p0.gKind < 5))) && ((decide (p0.gKind = 0)) || (decide (p0.gNum = 0)))) && (((decide (p0.gKind = 1)) || (decide (p0.gKind = 2))) || (decide (p0.gText = ([] : List UInt8))))) && (((decide (p0.gKind = 3)) || (decide (p0.gKind = 4))) || (decide ((p0.gList.length : Int) = 0)))) with _ | _
                · have hm := ite_f c43 hx41
                  try simp only [c43] at key42
                  refine OW.not rfl rfl rfl rfl rfl rfl ?_
                  refine OW.not rfl rfl rfl rfl rfl rfl ?_
                  refine OW.not rfl rfl rfl rfl rfl rfl ?_
                  refine OW.not rfl rfl rfl rfl rfl rfl ?_
                  refine OW.notU rfl rfl rfl rfl rfl ?_
                  refine OW.notU rfl rfl rfl rfl rfl ?_
                  refine OW.notU rfl rfl rfl rfl rfl ?_
                  refine OW.not rfl rfl rfl rfl rfl rfl ?_
                  refine OW.pick_f rfl rfl rfl rfl rfl rfl ?_
                  cases hm
                  have h71 := h2.tr t8
                  have h72 := G0.tr t8
                  exact OW.sub (Sub.cons rfl (Sub.cons rfl (Sub.cons rfl (Sub.cons rfl (Sub.cons rfl (Sub.cons rfl (Sub.cons rfl (Sub.cons rfl (Sub.cons rfl (Sub.cons rfl (Sub.cons rfl (Sub.cons rfl (Sub.cons rfl (Sub.cons rfl (Sub.cons rfl (Sub.cons rfl Sub.nil)))))))))))))))) (key42 w4 (Ins O0 b3) B10 h72 X9 (fun x h => (Or.inr h)) (Or.inl rfl) h71 hb5)
                · have hm := ite_t c43 hx41
                  try simp only [c43] at key42
                  refine OW.yes rfl rfl rfl ?_
                  refine OW.fieldAddr rfl rfl rfl rfl fld_24_0 rfl ?_
                  refine OW.yes rfl rfl rfl ?_
                  refine OW.load1 rfl rfl rfl rfl shp_3 rfl hb5 rfl ?_
                  refine OW.yes rfl rfl rfl ?_
                  refine OW.binI rfl rfl rfl rfl rfl rfl rfl ?_
                  refine OW.yes rfl rfl rfl ?_
                  refine OW.move rfl rfl rfl rfl rfl ?_
                  obtain ⟨x54, hx55, hm⟩ := bnd hm
                  refine OW.blk 4 (fun K => ∀ (w45 : World) (O46 : Nat → Prop), Bd O46 w45 → Glob w45 O46 → Ext Nowhere w0 w45 → (∀ x, O0 x → O46 x) → (O46 b3) → (RD w45 O46 (D.sl 24 4 (p0.gList.map T_api_Cbor.enc)) v1) → (BoxAt w45 b3 24 [Value.int .i64 p0.gKind, Value.int .i64 p0.gNum, Value.string ⟨List.toArray p0.gText⟩, v1]) →  K [(1, Value.pointer (some ⟨b3, 0, none⟩)), (3, Value.bool ((decide (p0.gKind = 3)) || (decide (p0.gKind = 4)))), (4, Value.bool ((decide (p0.gKind = 1)) || (decide (p0.gKind = 2)))), (21, Value.pointer (some ⟨b3, 0 + 0, none⟩)), (22, Value.int .i64 p0.gKind), (23, Value.bool (decide (0 ≤ p0.gKind))), (24, Value.bool (decide (0 ≤ p0.gKind))), (28, Value.bool ((decide (0 ≤ p0.gKind)) && (decide (p0.gKind < 5)))), (29, Value.bool ((decide (0 ≤ p0.gKind)) && (decide (p0.gKind < 5)))), (38, Value.bool (((decide (0 ≤ p0.gKind)) && (decide (p0.gKind < 5))) && ((decide (p0.gKind = 0)) || (decide (p0.gNum = 0))))), (39, Value.bool (((decide (0 ≤ p0.gKind)) && (decide (p0.gKind < 5))) && ((decide (p0.gKind = 0)) || (decide (p0.gNum = 0))))), (46, Value.bool ((((decide (0 ≤ p0.gKind)) && (decide (p0.gKind < 5))) && ((decide (p0.gKind = 0)) || (decide (p0.gNum = 0)))) && (((decide (p0.gKind = 1)) || (decide (p0.gKind = 2))) || (decide (p0.gText = ([] : List UInt8)))))), (47, Value.bool ((((decide (0 ≤ p0.gKind)) && (decide (p0.gKind < 5))) && ((decide (p0.gKind = 0)) || (decide (p0.gNum = 0)))) && (((decide (p0.gKind = 1)) || (decide (p0.gKind = 2))) || (decide (p0.gText = ([] : List UInt8)))))), (55, Value.bool true), (56, Value.bool true), (57, Value.pointer (some ⟨b3, 0 + 0, none⟩)), (58, Value.int .i64 p0.gKind), (59, Value.bool (!decide (p0.gKind = 2))), (60, Value.bool (!decide (p0.gKind = 2))), (64, Value.bool x54)] w45) ?_ ?_
                  · intro w45 O46 B47 G50 X48 lf49 m51 h52 hb53
                    show OW _ _ _ _ _ _ _ _
                    refine OW.pick_t rfl rfl rfl rfl rfl rfl ?_
                    cases hm
                    exact OW.sub (Sub.cons rfl (Sub.cons rfl (Sub.cons rfl (Sub.cons rfl (Sub.cons rfl (Sub.cons rfl (Sub.cons rfl (Sub.cons rfl (Sub.cons rfl (Sub.cons rfl (Sub.cons rfl (Sub.cons rfl (Sub.cons rfl (Sub.cons rfl (Sub.cons rfl (Sub.cons rfl Sub.nil)))))))))))))))) (key42 w45 O46 B47 G50 X48 (fun x h => (lf49 _ h)) m51 h52 hb53)
                  · intro key56
                    rcases c57 : (!decide (p0.gKind = 2)) with _ | _
                    · have hm := ite_f c57 hx55
                      try simp only [c57] at key56
                      refine OW.yes rfl rfl rfl ?_
                      refine OW.fieldAddr rfl rfl rfl rfl fld_24_2 rfl ?_
                      refine OW.yes rfl rfl rfl ?_
                      refine OW.load1 rfl rfl rfl rfl shp_9 rfl hb5 rfl ?_
                      refine OW.yes rfl rfl rfl ?_
                      have h60 := G0.tr t8
                      obtain ⟨y61, hy62, hm⟩ := bnd hm
                      refine OW.call rfl rfl rfl rfl rfl rfl Tryd.call31 ((C.validString _ _ hy62 _ (Ins O0 b3)  B10 h60).mono ?_)
                      rintro e w63 ⟨rfl, x64⟩
                      refine CallK.ret ?_
                      have t65 := Tr.of_ext (O := (Ins O0 b3)) x64 (fun _ _ h => h.elim)
                      have B67 := B10.ext x64
                      have X66 := X9.step x64 (fun _ _ h => h.elim)
                      refine OW.yes rfl rfl rfl ?_
                      refine OW.pick_f rfl rfl rfl rfl rfl rfl ?_
                      cases hm
                      have h68 := h2.tr (t8.trans t65)
                      have hb69 := (hb5.keep x64 (fun h => h))
                      have h70 := h60.tr t65
                      exact OW.sub (Sub.cons rfl (Sub.cons rfl (Sub.cons rfl (Sub.cons rfl (Sub.cons rfl (Sub.cons rfl (Sub.cons rfl (Sub.cons rfl (Sub.cons rfl (Sub.cons rfl (Sub.cons rfl (Sub.cons rfl (Sub.cons rfl (Sub.cons rfl (Sub.cons rfl (Sub.cons rfl (Sub.cons rfl (Sub.cons rfl (Sub.cons rfl (Sub.cons rfl Sub.nil)))))))))))))))))))) (key56 w63 (Ins O0 b3) B67 h70 X66 (fun x h => (Or.inr h)) (Or.inl rfl) h68 hb69)
                    · have hm := ite_t c57 hx55
                      try simp only [c57] at key56
                      refine OW.not rfl rfl rfl rfl rfl rfl ?_
                      refine OW.not rfl rfl rfl rfl rfl rfl ?_
                      refine OW.not rfl rfl rfl rfl rfl rfl ?_
                      refine OW.yes rfl rfl rfl ?_
                      refine OW.pick_t rfl rfl rfl rfl rfl rfl ?_
                      cases hm
                      have h58 := h2.tr t8
                      have h59 := G0.tr t8
                      exact OW.sub (Sub.cons rfl (Sub.cons rfl (Sub.cons rfl (Sub.cons rfl (Sub.cons rfl (Sub.cons rfl (Sub.cons rfl (Sub.cons rfl (Sub.cons rfl (Sub.cons rfl (Sub.cons rfl (Sub.cons rfl (Sub.cons rfl (Sub.cons rfl (Sub.cons rfl (Sub.cons rfl (Sub.cons rfl (Sub.cons rfl (Sub.cons rfl (Sub.cons rfl Sub.nil)))))))))))))))))))) (key56 w4 (Ins O0 b3) B10 h59 X9 (fun x h => (Or.inr h)) (Or.inl rfl) h58 hb5)
            · intro key29
              cases c28 : ((((decide (0 ≤ p0.gKind)) && (decide (p0.gKind < 5))) && ((decide (p0.gKind = 0)) || (decide (p0.gNum = 0)))) && (((decide (p0.gKind = 1)) || (decide (p0.gKind = 2))) || (decide (p0.gText = ([] : List UInt8)))))
              · try simp only [c28] at key29
                refine OW.not rfl rfl rfl rfl rfl rfl ?_
                refine OW.not rfl rfl rfl rfl rfl rfl ?_
                refine OW.notU rfl rfl rfl rfl rfl ?_
                refine OW.notU rfl rfl rfl rfl rfl ?_
                refine OW.notU rfl rfl rfl rfl rfl ?_
                refine OW.notU rfl rfl rfl rfl rfl ?_
                refine OW.not rfl rfl rfl rfl rfl rfl ?_
                refine OW.pick_f rfl rfl rfl rfl rfl rfl ?_
                exact OW.sub (Sub.cons rfl (Sub.cons rfl (Sub.cons rfl (Sub.cons rfl (Sub.cons rfl (Sub.cons rfl (Sub.cons rfl (Sub.cons rfl (Sub.cons rfl (Sub.cons rfl (Sub.cons rfl (Sub.cons rfl (Sub.cons rfl (Sub.cons rfl Sub.nil)))))))))))))) key29
              · try simp only [c28] at key29
                refine OW.yes rfl rfl rfl ?_
                refine OW.move rfl rfl rfl rfl rfl ?_
                refine OW.yes rfl rfl rfl ?_
                refine OW.move rfl rfl rfl rfl rfl ?_
                refine OW.blk 5 (fun K => K [(54, Value.bool (((decide (p0.gKind = 3)) || (decide (p0.gKind = 4))) || (decide ((p0.gList.length : Int) = 0)))), (1, Value.pointer (some ⟨b3, 0, none⟩)), (3, Value.bool ((decide (p0.gKind = 3)) || (decide (p0.gKind = 4)))), (4, Value.bool ((decide (p0.gKind = 1)) || (decide (p0.gKind = 2)))), (21, Value.pointer (some ⟨b3, 0 + 0, none⟩)), (22, Value.int .i64 p0.gKind), (23, Value.bool (decide (0 ≤ p0.gKind))), (24, Value.bool (decide (0 ≤ p0.gKind))), (28, Value.bool ((decide (0 ≤ p0.gKind)) && (decide (p0.gKind < 5)))), (29, Value.bool ((decide (0 ≤ p0.gKind)) && (decide (p0.gKind < 5)))), (38, Value.bool (((decide (0 ≤ p0.gKind)) && (decide (p0.gKind < 5))) && ((decide (p0.gKind = 0)) || (decide (p0.gNum = 0))))), (39, Value.bool (((decide (0 ≤ p0.gKind)) && (decide (p0.gKind < 5))) && ((decide (p0.gKind = 0)) || (decide (p0.gNum = 0))))), (46, Value.bool true), (47, Value.bool true), (48, Value.bool ((decide (p0.gKind = 3)) || (decide (p0.gKind = 4)))), (49, Value.bool ((decide (p0.gKind = 3)) || (decide (p0.gKind = 4))))] w4) ?_ ?_
                · show OW _ _ _ _ _ _ _ _
                  refine OW.pick_t rfl rfl rfl rfl rfl rfl ?_
                  exact OW.sub (Sub.cons rfl (Sub.cons rfl (Sub.cons rfl (Sub.cons rfl (Sub.cons rfl (Sub.cons rfl (Sub.cons rfl (Sub.cons rfl (Sub.cons rfl (Sub.cons rfl (Sub.cons rfl (Sub.cons rfl (Sub.cons rfl (Sub.cons rfl Sub.nil)))))))))))))) key29
                · intro key75
                  cases c74 : ((decide (p0.gKind = 3)) || (decide (p0.gKind = 4)))
                  · try simp only [c74] at key75
                    refine OW.yes rfl rfl rfl ?_
                    refine OW.fieldAddr rfl rfl rfl rfl fld_24_3 rfl ?_
                    refine OW.yes rfl rfl rfl ?_
                    refine OW.load1 rfl rfl rfl rfl shp_22 rfl hb5 rfl ?_
                    refine OW.yes rfl rfl rfl ?_
                    have h76 := h2.tr t8
                    refine OW.lenV rfl rfl rfl rfl Tryd.underlying22 rfl (RD.len' h76) ?_
                    refine OW.yes rfl rfl rfl ?_
                    refine OW.binI rfl rfl rfl rfl rfl rfl rfl ?_
                    refine OW.yes rfl rfl rfl ?_
                    refine OW.pick_f rfl rfl rfl rfl rfl rfl ?_
                    exact OW.sub (Sub.cons rfl (Sub.cons rfl (Sub.cons rfl (Sub.cons rfl (Sub.cons rfl (Sub.cons rfl (Sub.cons rfl (Sub.cons rfl (Sub.cons rfl (Sub.cons rfl (Sub.cons rfl (Sub.cons rfl (Sub.cons rfl (Sub.cons rfl (Sub.cons rfl (Sub.cons rfl Sub.nil)))))))))))))))) key75
                  · try simp only [c74] at key75
                    refine OW.not rfl rfl rfl rfl rfl rfl ?_
                    refine OW.not rfl rfl rfl rfl rfl rfl ?_
                    refine OW.not rfl rfl rfl rfl rfl rfl ?_
                    refine OW.not rfl rfl rfl rfl rfl rfl ?_
                    refine OW.yes rfl rfl rfl ?_
                    refine OW.pick_t rfl rfl rfl rfl rfl rfl ?_
                    exact OW.sub (Sub.cons rfl (Sub.cons rfl (Sub.cons rfl (Sub.cons rfl (Sub.cons rfl (Sub.cons rfl (Sub.cons rfl (Sub.cons rfl (Sub.cons rfl (Sub.cons rfl (Sub.cons rfl (Sub.cons rfl (Sub.cons rfl (Sub.cons rfl (Sub.cons rfl (Sub.cons rfl Sub.nil)))))))))))))))) key75
          · intro key26
            cases c25 : (((decide (0 ≤ p0.gKind)) && (decide (p0.gKind < 5))) && ((decide (p0.gKind = 0)) || (decide (p0.gNum = 0))))
            · try simp only [c25] at key26
              refine OW.not rfl rfl rfl rfl rfl rfl ?_
              refine OW.not rfl rfl rfl rfl rfl rfl ?_
              refine OW.notU rfl rfl rfl rfl rfl ?_
              refine OW.notU rfl rfl rfl rfl rfl ?_
              refine OW.notU rfl rfl rfl rfl rfl ?_
              refine OW.not rfl rfl rfl rfl rfl rfl ?_
              refine OW.pick_f rfl rfl rfl rfl rfl rfl ?_
              exact OW.sub (Sub.cons rfl (Sub.cons rfl (Sub.cons rfl (Sub.cons rfl (Sub.cons rfl (Sub.cons rfl (Sub.cons rfl (Sub.cons rfl (Sub.cons rfl (Sub.cons rfl (Sub.cons rfl (Sub.cons rfl Sub.nil)))))))))))) key26
            · try simp only [c25] at key26
              refine OW.yes rfl rfl rfl ?_
              refine OW.move rfl rfl rfl rfl rfl ?_
              refine OW.yes rfl rfl rfl ?_
              refine OW.move rfl rfl rfl rfl rfl ?_
              refine OW.blk 4 (fun K => K [(45, Value.bool (((decide (p0.gKind = 1)) || (decide (p0.gKind = 2))) || (decide (p0.gText = ([] : List UInt8))))), (1, Value.pointer (some ⟨b3, 0, none⟩)), (3, Value.bool ((decide (p0.gKind = 3)) || (decide (p0.gKind = 4)))), (4, Value.bool ((decide (p0.gKind = 1)) || (decide (p0.gKind = 2)))), (21, Value.pointer (some ⟨b3, 0 + 0, none⟩)), (22, Value.int .i64 p0.gKind), (23, Value.bool (decide (0 ≤ p0.gKind))), (24, Value.bool (decide (0 ≤ p0.gKind))), (28, Value.bool ((decide (0 ≤ p0.gKind)) && (decide (p0.gKind < 5)))), (29, Value.bool ((decide (0 ≤ p0.gKind)) && (decide (p0.gKind < 5)))), (38, Value.bool true), (39, Value.bool true), (40, Value.bool ((decide (p0.gKind = 1)) || (decide (p0.gKind = 2)))), (41, Value.bool ((decide (p0.gKind = 1)) || (decide (p0.gKind = 2))))] w4) ?_ ?_
              · show OW _ _ _ _ _ _ _ _
                refine OW.pick_t rfl rfl rfl rfl rfl rfl ?_
                exact OW.sub (Sub.cons rfl (Sub.cons rfl (Sub.cons rfl (Sub.cons rfl (Sub.cons rfl (Sub.cons rfl (Sub.cons rfl (Sub.cons rfl (Sub.cons rfl (Sub.cons rfl (Sub.cons rfl (Sub.cons rfl Sub.nil)))))))))))) key26
              · intro key79
                cases c78 : ((decide (p0.gKind = 1)) || (decide (p0.gKind = 2)))
                · try simp only [c78] at key79
                  refine OW.yes rfl rfl rfl ?_
                  refine OW.fieldAddr rfl rfl rfl rfl fld_24_2 rfl ?_
                  refine OW.yes rfl rfl rfl ?_
                  refine OW.load1 rfl rfl rfl rfl shp_9 rfl hb5 rfl ?_
                  refine OW.yes rfl rfl rfl ?_
                  refine OW.binS rfl rfl rfl rfl rfl rfl rfl ?_
                  refine OW.yes rfl rfl rfl ?_
                  refine OW.pick_f rfl rfl rfl rfl rfl rfl ?_
                  exact OW.sub (Sub.cons rfl (Sub.cons rfl (Sub.cons rfl (Sub.cons rfl (Sub.cons rfl (Sub.cons rfl (Sub.cons rfl (Sub.cons rfl (Sub.cons rfl (Sub.cons rfl (Sub.cons rfl (Sub.cons rfl (Sub.cons rfl (Sub.cons rfl Sub.nil)))))))))))))) key79
                · try simp only [c78] at key79
                  refine OW.not rfl rfl rfl rfl rfl rfl ?_
                  refine OW.not rfl rfl rfl rfl rfl rfl ?_
                  refine OW.not rfl rfl rfl rfl rfl rfl ?_
                  refine OW.yes rfl rfl rfl ?_
                  refine OW.pick_t rfl rfl rfl rfl rfl rfl ?_
                  exact OW.sub (Sub.cons rfl (Sub.cons rfl (Sub.cons rfl (Sub.cons rfl (Sub.cons rfl (Sub.cons rfl (Sub.cons rfl (Sub.cons rfl (Sub.cons rfl (Sub.cons rfl (Sub.cons rfl (Sub.cons rfl (Sub.cons rfl (Sub.cons rfl Sub.nil)))))))))))))) key79
        · intro key23
          cases c22 : ((decide (0 ≤ p0.gKind)) && (decide (p0.gKind < 5)))
          · try simp only [c22] at key23
            refine OW.not rfl rfl rfl rfl rfl rfl ?_
            refine OW.not rfl rfl rfl rfl rfl rfl ?_
            refine OW.not rfl rfl rfl rfl rfl rfl ?_
            refine OW.not rfl rfl rfl rfl rfl rfl ?_
            refine OW.notU rfl rfl rfl rfl rfl ?_
            refine OW.notU rfl rfl rfl rfl rfl ?_
            refine OW.notU rfl rfl rfl rfl rfl ?_
            refine OW.not rfl rfl rfl rfl rfl rfl ?_
            refine OW.pick_f rfl rfl rfl rfl rfl rfl ?_
            exact OW.sub (Sub.cons rfl (Sub.cons rfl (Sub.cons rfl (Sub.cons rfl (Sub.cons rfl (Sub.cons rfl (Sub.cons rfl (Sub.cons rfl (Sub.cons rfl (Sub.cons rfl Sub.nil)))))))))) key23
          · try simp only [c22] at key23
            refine OW.yes rfl rfl rfl ?_
            refine OW.fieldAddr rfl rfl rfl rfl fld_24_0 rfl ?_
            refine OW.yes rfl rfl rfl ?_
            refine OW.load1 rfl rfl rfl rfl shp_3 rfl hb5 rfl ?_
            refine OW.yes rfl rfl rfl ?_
            refine OW.binI rfl rfl rfl rfl rfl rfl rfl ?_
            refine OW.yes rfl rfl rfl ?_
            refine OW.move rfl rfl rfl rfl rfl ?_
            refine OW.blk 4 (fun K => K [(37, Value.bool ((decide (p0.gKind = 0)) || (decide (p0.gNum = 0)))), (1, Value.pointer (some ⟨b3, 0, none⟩)), (3, Value.bool ((decide (p0.gKind = 3)) || (decide (p0.gKind = 4)))), (4, Value.bool ((decide (p0.gKind = 1)) || (decide (p0.gKind = 2)))), (21, Value.pointer (some ⟨b3, 0 + 0, none⟩)), (22, Value.int .i64 p0.gKind), (23, Value.bool (decide (0 ≤ p0.gKind))), (24, Value.bool (decide (0 ≤ p0.gKind))), (28, Value.bool true), (29, Value.bool true), (30, Value.pointer (some ⟨b3, 0 + 0, none⟩)), (31, Value.int .i64 p0.gKind), (32, Value.bool (decide (p0.gKind = 0))), (33, Value.bool (decide (p0.gKind = 0)))] w4) ?_ ?_
            · show OW _ _ _ _ _ _ _ _
              refine OW.pick_t rfl rfl rfl rfl rfl rfl ?_
              exact OW.sub (Sub.cons rfl (Sub.cons rfl (Sub.cons rfl (Sub.cons rfl (Sub.cons rfl (Sub.cons rfl (Sub.cons rfl (Sub.cons rfl (Sub.cons rfl (Sub.cons rfl Sub.nil)))))))))) key23
            · intro key82
              cases c81 : (decide (p0.gKind = 0))
              · try simp only [c81] at key82
                refine OW.yes rfl rfl rfl ?_
                refine OW.fieldAddr rfl rfl rfl rfl fld_24_1 rfl ?_
                refine OW.yes rfl rfl rfl ?_
                refine OW.load1 rfl rfl rfl rfl shp_3 rfl hb5 rfl ?_
                refine OW.yes rfl rfl rfl ?_
                refine OW.binI rfl rfl rfl rfl rfl rfl rfl ?_
                refine OW.yes rfl rfl rfl ?_
                refine OW.pick_f rfl rfl rfl rfl rfl rfl ?_
                exact OW.sub (Sub.cons rfl (Sub.cons rfl (Sub.cons rfl (Sub.cons rfl (Sub.cons rfl (Sub.cons rfl (Sub.cons rfl (Sub.cons rfl (Sub.cons rfl (Sub.cons rfl (Sub.cons rfl (Sub.cons rfl (Sub.cons rfl (Sub.cons rfl Sub.nil)))))))))))))) key82
              · try simp only [c81] at key82
                refine OW.not rfl rfl rfl rfl rfl rfl ?_
                refine OW.not rfl rfl rfl rfl rfl rfl ?_
                refine OW.not rfl rfl rfl rfl rfl rfl ?_
                refine OW.yes rfl rfl rfl ?_
                refine OW.pick_t rfl rfl rfl rfl rfl rfl ?_
                exact OW.sub (Sub.cons rfl (Sub.cons rfl (Sub.cons rfl (Sub.cons rfl (Sub.cons rfl (Sub.cons rfl (Sub.cons rfl (Sub.cons rfl (Sub.cons rfl (Sub.cons rfl (Sub.cons rfl (Sub.cons rfl (Sub.cons rfl (Sub.cons rfl Sub.nil)))))))))))))) key82
      · intro key20
        cases c19 : (decide (0 ≤ p0.gKind))
        · try simp only [c19] at key20
          refine OW.not rfl rfl rfl rfl rfl rfl ?_
          refine OW.not rfl rfl rfl rfl rfl rfl ?_
          refine OW.not rfl rfl rfl rfl rfl rfl ?_
          refine OW.pick_f rfl rfl rfl rfl rfl rfl ?_
          exact OW.sub (Sub.cons rfl (Sub.cons rfl (Sub.cons rfl (Sub.cons rfl (Sub.cons rfl (Sub.cons rfl (Sub.cons rfl (Sub.cons rfl Sub.nil)))))))) key20
        · try simp only [c19] at key20
          refine OW.yes rfl rfl rfl ?_
          refine OW.fieldAddr rfl rfl rfl rfl fld_24_0 rfl ?_
          refine OW.yes rfl rfl rfl ?_
          refine OW.load1 rfl rfl rfl rfl shp_3 rfl hb5 rfl ?_
          refine OW.yes rfl rfl rfl ?_
          refine OW.binI rfl rfl rfl rfl rfl rfl rfl ?_
          refine OW.pick_t rfl rfl rfl rfl rfl rfl ?_
          exact OW.sub (Sub.cons rfl (Sub.cons rfl (Sub.cons rfl (Sub.cons rfl (Sub.cons rfl (Sub.cons rfl (Sub.cons rfl (Sub.cons rfl Sub.nil)))))))) key20
    · intro key17
      cases c16 : (decide (p0.gKind = 1))
      · try simp only [c16] at key17
        refine OW.yes rfl rfl rfl ?_
        refine OW.fieldAddr rfl rfl rfl rfl fld_24_0 rfl ?_
        refine OW.yes rfl rfl rfl ?_
        refine OW.load1 rfl rfl rfl rfl shp_3 rfl hb5 rfl ?_
        refine OW.yes rfl rfl rfl ?_
        refine OW.binI rfl rfl rfl rfl rfl rfl rfl ?_
        refine OW.pick_f rfl rfl rfl rfl rfl rfl ?_
        exact OW.sub (Sub.cons rfl (Sub.cons rfl (Sub.cons rfl (Sub.cons rfl (Sub.cons rfl (Sub.cons rfl (Sub.cons rfl Sub.nil))))))) key17
      · try simp only [c16] at key17
        refine OW.not rfl rfl rfl rfl rfl rfl ?_
        refine OW.not rfl rfl rfl rfl rfl rfl ?_
        refine OW.not rfl rfl rfl rfl rfl rfl ?_
        refine OW.pick_t rfl rfl rfl rfl rfl rfl ?_
        exact OW.sub (Sub.cons rfl (Sub.cons rfl (Sub.cons rfl (Sub.cons rfl (Sub.cons rfl (Sub.cons rfl (Sub.cons rfl Sub.nil))))))) key17
  · intro key14
    cases c13 : (decide (p0.gKind = 3))
    · try simp only [c13] at key14
      refine OW.yes rfl rfl rfl ?_
      refine OW.fieldAddr rfl rfl rfl rfl fld_24_0 rfl ?_
      refine OW.yes rfl rfl rfl ?_
      refine OW.load1 rfl rfl rfl rfl shp_3 rfl hb5 rfl ?_
      refine OW.yes rfl rfl rfl ?_
      refine OW.binI rfl rfl rfl rfl rfl rfl rfl ?_
      refine OW.pick_f rfl rfl rfl rfl rfl rfl ?_
      exact OW.sub (Sub.cons rfl (Sub.cons rfl (Sub.cons rfl (Sub.cons rfl (Sub.cons rfl (Sub.cons rfl Sub.nil)))))) key14
    · try simp only [c13] at key14
      refine OW.not rfl rfl rfl rfl rfl rfl ?_
      refine OW.not rfl rfl rfl rfl rfl rfl ?_
      refine OW.not rfl rfl rfl rfl rfl rfl ?_
      refine OW.pick_t rfl rfl rfl rfl rfl rfl ?_
      exact OW.sub (Sub.cons rfl (Sub.cons rfl (Sub.cons rfl (Sub.cons rfl (Sub.cons rfl (Sub.cons rfl Sub.nil)))))) key14
set_option maxRecDepth 1000000 in
set_option maxHeartbeats 4000000 in
theorem C.cbor_big : ∀ (p0 : List Int) (p1 : Int) (p2 : Int) (r : (List Int)), M.cbor_big p0 p1 p2 = some r → ∀ (w0 : World) (O0 : Nat → Prop) (v0 : Value) (B0 : Bd O0 w0) (G0 : Glob w0 O0) (h0 : Own w0 O0 5 1 v0 (p0.map (eI .u8))), Calls Tryd.prog 42 (List.toArray [v0, Value.int .u64 p1, Value.int .i64 p2]) w0 (fun e w' => ∃ (u0 : Value), e = .returned (u0) ∧ Own w' (fun x => O0 x ∨ u0.ownBlock = some x) 5 1 u0 (r.map (eI .u8)) ∧ (∀ b, u0.ownBlock = some b → v0.ownBlock = some b ∨ w0.heap.size ≤ b) ∧ Ext (fun x => v0.ownBlock = some x) w0 w') := by
  intro p0 p1 p2 r hm w0 O0 v0 B0 G0 h0
  refine calls_of Tryd.func42 rfl 23 rfl rfl ?_
  unfold M.cbor_big at hm
  have X0 := Ext.refl (fun x => v0.ownBlock = some x) w0
  refine TW.seq (TW.region ?_)
  refine OW.assign rfl rfl rfl rfl rfl ?_
  refine OW.done (TW.seq (TW.seq (TW.region ?_)))
  refine OW.move rfl rfl rfl rfl rfl ?_
  refine OW.binI rfl rfl rfl rfl rfl rfl rfl ?_
  refine OW.assign rfl rfl rfl rfl rfl ?_
  refine OW.done (TW.block ?_)
  refine TW.lp (fun K => ∀ (x7 : List Int) (x11 : Int), M.cbor_big_k1 p1 x7 x11 = some r → ∀ (w1 : World) (O2 : Nat → Prop) (v8 : Value), Bd O2 w1 → Glob w1 O2 → Ext (fun x => v0.ownBlock = some x) w0 w1 → (∀ x, O0 x → O2 x) → (Own w1 O2 5 1 v8 (x7.map (eI .u8))) → (∀ b, v8.ownBlock = some b → b < w0.heap.size → (fun x => v0.ownBlock = some x) b) →  K [(0, v8), (1, Value.int .u64 p1), (7, Value.int .i64 x11)] w1) ?_ ?_
  · intro K hin12 hout13
    refine fun x7 x11 hm => M.cbor_big_k1.partial_correctness p1 (fun x7 x11 r38 => r38 = r → ∀ (w1 : World) (O2 : Nat → Prop) (v8 : Value), Bd O2 w1 → Glob w1 O2 → Ext (fun x => v0.ownBlock = some x) w0 w1 → (∀ x, O0 x → O2 x) → (Own w1 O2 5 1 v8 (x7.map (eI .u8))) → (∀ b, v8.ownBlock = some b → b < w0.heap.size → (fun x => v0.ownBlock = some x) b) →  K [(0, v8), (1, Value.int .u64 p1), (7, Value.int .i64 x11)] w1) ?_ x7 x11 r hm rfl
    intro self ih14 x7 x11 r38 hm hr39 w1 O2 v8 B3 G6 X4 lf5 h9 gv10
    rw [hr39] at hm
    refine hin12 _ _ ?_
    refine TW.seq (TW.seq (TW.region ?_))
    refine OW.move rfl rfl rfl rfl rfl ?_
    refine OW.binI rfl rfl rfl rfl rfl rfl rfl ?_
    refine OW.done ?_
    refine TW.cond rfl (fun c15 => ?_) (fun c15 => ?_)
    · have hm := ite_t c15 hm
      refine TW.skip (TW.seq (TW.block (TW.region ?_)))
      refine OW.move rfl rfl rfl rfl rfl ?_
      refine OW.move rfl rfl rfl rfl rfl ?_
      refine OW.move rfl rfl rfl rfl rfl ?_
      refine OW.binI rfl rfl rfl rfl rfl rfl rfl ?_
      obtain ⟨_, h16, hm⟩ := bnd hm
      refine OW.shiftI rfl rfl rfl rfl rfl rfl (by have := chk_some h16; simpa using this) rfl ?_
      refine OW.convI rfl rfl rfl rfl Tryd.underlying60 Tryd.underlying5 rfl ?_
      refine OW.buildSlice rfl rfl rfl rfl Tryd.underlying70 shp_5 zer_5 rfl rfl (cs := [Value.int .u8 (IntKind.wrap .u8 (shrI .u64 p1 (IntKind.wrap .i64 (8 * x11))))]) rfl rfl rfl ?_
      intro b17 w18 hb19 x20 l21
      have t23 := Tr.of_ext (O := O2) x20 (fun _ _ h => h.elim)
      have B25 := B3.ext x20
      have X24 := X4.step x20 (fun _ _ h => h.elim)
      have h22 : RD w18 O2 (D.sl 5 1 ([(IntKind.wrap .u8 (shrI .u64 p1 (IntKind.wrap .i64 (8 * x11))))].map (eI .u8))) (Value.slice (some ⟨b17, 0, none⟩) 1 1) := RD.of_new hb19 B3 l21 rfl (Nat.le_of_ble_eq_true rfl) rfl ⟨⟨_, _, rfl, (by simp only [RD]), rfl⟩, trivial⟩
      have ho26 := (h9.keep x20 (fun _ _ h => h) t23 (fun _ h => h))
      obtain ⟨l27, h28, hm⟩ := bnd hm
      obtain ⟨hx29, hl30⟩ := app_some h28
      refine OW.appendL' rfl rfl rfl rfl Tryd.underlying70 inf_5 rfl rfl rfl rfl rfl ho26 B25 h22 hl30 ?_
      intro v31 w32 O33 G34
      rw [← hx29] at G34
      have X35 := X24.step G34.ext (fun y hy h => gv10 y h hy)
      have gv36 : ∀ b, v31.ownBlock = some b → b < w0.heap.size → (fun x => v0.ownBlock = some x) b := fun b h hl => (G34.at_ b h).elim (fun h => gv10 b h hl) (fun h => absurd hl (by have := X24.size; omega))
      refine OW.assign rfl rfl rfl rfl rfl ?_
      refine OW.done (TW.inBlock (TW.region ?_))
      refine OW.move rfl rfl rfl rfl rfl ?_
      refine OW.binI rfl rfl rfl rfl rfl rfl rfl ?_
      refine OW.assign rfl rfl rfl rfl rfl ?_
      refine OW.done ?_
      have h37 := G6.tr (t23.trans G34.tr)
      exact TW.sub (Sub.cons rfl (Sub.cons rfl (Sub.cons rfl Sub.nil))) (hout13 _ _ (ih14 l27 (IntKind.wrap .i64 (x11 - 1)) _ hm rfl w32 O33 v31 G34.bd h37 X35 (fun x h => (G34.more _ (lf5 _ h))) G34.own gv36))
    · have hm := ite_f c15 hm
      refine TW.exit rfl (TW.seq (TW.region ?_))
      refine OW.move rfl rfl rfl rfl rfl ?_
      refine OW.assign rfl rfl rfl rfl rfl ?_
      refine OW.done ?_
      cases hm
      exact TW.ret (Out.one rfl rfl) ⟨_, rfl, (h9.down (fun x h => h.elim (fun h => (lf5 _ h)) (fun h => h9.mem x h)) (fun b h => Or.inr h)), (fun b h => (Nat.lt_or_ge b w0.heap.size).elim (fun hl => Or.inl (gv10 b h hl)) Or.inr), X4⟩
  · intro key40
    exact TW.sub (Sub.cons rfl (Sub.cons rfl (Sub.cons rfl Sub.nil))) (key40 p0 (IntKind.wrap .i64 (p2 - 1)) hm w0 O0 v0 B0 G0 X0 (fun x h => h) h0 (fun b h _ => h))
set_option maxRecDepth 1000000 in
set_option maxHeartbeats 4000000 in
theorem C.cbor_head : ∀ (p0 : Int) (p1 : Int) (r : (List Int)), M.cbor_head p0 p1 = some r → ∀ (w0 : World) (O0 : Nat → Prop) (B0 : Bd O0 w0) (G0 : Glob w0 O0), Calls Tryd.prog 37 (List.toArray [Value.int .u8 p0, Value.int .u64 p1]) w0 (fun e w' => ∃ (u0 : Value), e = .returned (u0) ∧ RD w' O0 (D.sl 5 1 (r.map (eI .u8))) u0 ∧ Ext Nowhere w0 w') := by
  intro p0 p1 r hm w0 O0  B0 G0 
  refine calls_of Tryd.func37 rfl 44 rfl rfl ?_
  unfold M.cbor_head at hm
  have X0 := Ext.refl Nowhere w0
  refine TW.seq (TW.region ?_)
  refine OW.assign rfl rfl rfl rfl rfl ?_
  refine OW.done (TW.seq (TW.region ?_))
  refine OW.move rfl rfl rfl rfl rfl ?_
  refine OW.shiftI rfl rfl rfl rfl rfl rfl (by decide) rfl ?_
  refine OW.assign rfl rfl rfl rfl rfl ?_
  refine OW.done (TW.seq (TW.block (TW.seq (TW.region ?_))))
  refine OW.move rfl rfl rfl rfl rfl ?_
  refine OW.binI rfl rfl rfl rfl rfl rfl rfl ?_
  refine OW.assign rfl rfl rfl rfl rfl ?_
  refine OW.done ?_
  refine TW.cond rfl (fun c1 => ?_) (fun c1 => ?_)
  · have hm := ite_t c1 hm
    refine TW.seq (TW.region ?_)
    refine OW.move rfl rfl rfl rfl rfl ?_
    refine OW.move rfl rfl rfl rfl rfl ?_
    refine OW.convI rfl rfl rfl rfl Tryd.underlying60 Tryd.underlying5 rfl ?_
    refine OW.binI rfl rfl rfl rfl rfl rfl rfl ?_
    refine OW.buildSlice rfl rfl rfl rfl Tryd.underlying70 shp_5 zer_5 rfl rfl (cs := [Value.int .u8 (orI .u8 (shlI .u8 p0 5) (IntKind.wrap .u8 p1))]) rfl rfl rfl ?_
    intro b2 w3 hb4 x5 l6
    have t8 := Tr.of_new (O := O0) x5 (fun _ _ h => h.elim) l6
    have B10 := (B0.ext x5).ins hb4.lt
    have X9 := X0.step x5 (fun _ _ h => h.elim)
    have g11 : w0.heap.size ≤ b2 := Nat.le_trans X0.size l6
    have h7 : Own w3 (Ins O0 b2) 5 1 (Value.slice (some ⟨b2, 0, none⟩) 1 1) ([(orI .u8 (shlI .u8 p0 5) (IntKind.wrap .u8 p1))].map (eI .u8)) := Own.of_new hb4 rfl (Nat.le_of_ble_eq_true rfl) rfl ⟨⟨_, _, rfl, (by simp only [RD]), rfl⟩, trivial⟩ (Or.inl rfl)
    have gv12 : ∀ b, (Value.slice (some ⟨b2, 0, none⟩) 1 1).ownBlock = some b → b < w0.heap.size → Nowhere b := fun c h hl => absurd hl (by simp only [Value.ownBlock, Option.some.injEq] at h; have := g11; omega)
    refine OW.assign rfl rfl rfl rfl rfl ?_
    refine OW.done ?_
    cases hm
    exact TW.ret (Out.one rfl rfl) ⟨_, rfl, (h7.data.tr (Tr.drop _ fun x h => ⟨(Or.inr h), fun e => (Nat.lt_or_ge x w0.heap.size).elim (fun hl => (gv12 x e hl).elim) (fun hg => by have := B0 x h; omega)⟩)), X9⟩
  · have hm := ite_f c1 hm
    refine TW.seq (TW.region ?_)
    refine OW.move rfl rfl rfl rfl rfl ?_
    refine OW.binI rfl rfl rfl rfl rfl rfl rfl ?_
    refine OW.assign rfl rfl rfl rfl rfl ?_
    refine OW.done ?_
    refine TW.cond rfl (fun c13 => ?_) (fun c13 => ?_)
    · have hm := ite_t c13 hm
      refine TW.seq (TW.region ?_)
      refine OW.move rfl rfl rfl rfl rfl ?_
      refine OW.binI rfl rfl rfl rfl rfl rfl rfl ?_
      refine OW.move rfl rfl rfl rfl rfl ?_
      refine OW.convI rfl rfl rfl rfl Tryd.underlying60 Tryd.underlying5 rfl ?_
      refine OW.buildSlice rfl rfl rfl rfl Tryd.underlying70 shp_5 zer_5 rfl rfl (cs := [Value.int .u8 (orI .u8 (shlI .u8 p0 5) 24), Value.int .u8 (IntKind.wrap .u8 p1)]) rfl rfl rfl ?_
      intro b14 w15 hb16 x17 l18
      have t20 := Tr.of_new (O := O0) x17 (fun _ _ h => h.elim) l18
      have B22 := (B0.ext x17).ins hb16.lt
      have X21 := X0.step x17 (fun _ _ h => h.elim)
      have g23 : w0.heap.size ≤ b14 := Nat.le_trans X0.size l18
      have h19 : Own w15 (Ins O0 b14) 5 1 (Value.slice (some ⟨b14, 0, none⟩) 2 2) ([(orI .u8 (shlI .u8 p0 5) 24), (IntKind.wrap .u8 p1)].map (eI .u8)) := Own.of_new hb16 rfl (Nat.le_of_ble_eq_true rfl) rfl ⟨⟨_, _, rfl, (by simp only [RD]), rfl⟩, ⟨⟨_, _, rfl, (by simp only [RD]), rfl⟩, trivial⟩⟩ (Or.inl rfl)
      have gv24 : ∀ b, (Value.slice (some ⟨b14, 0, none⟩) 2 2).ownBlock = some b → b < w0.heap.size → Nowhere b := fun c h hl => absurd hl (by simp only [Value.ownBlock, Option.some.injEq] at h; have := g23; omega)
      refine OW.assign rfl rfl rfl rfl rfl ?_
      refine OW.done ?_
      cases hm
      exact TW.ret (Out.one rfl rfl) ⟨_, rfl, (h19.data.tr (Tr.drop _ fun x h => ⟨(Or.inr h), fun e => (Nat.lt_or_ge x w0.heap.size).elim (fun hl => (gv24 x e hl).elim) (fun hg => by have := B0 x h; omega)⟩)), X21⟩
    · have hm := ite_f c13 hm
      refine TW.seq (TW.region ?_)
      refine OW.move rfl rfl rfl rfl rfl ?_
      refine OW.binI rfl rfl rfl rfl rfl rfl rfl ?_
      refine OW.assign rfl rfl rfl rfl rfl ?_
      refine OW.done ?_
      refine TW.cond rfl (fun c25 => ?_) (fun c25 => ?_)
      · have hm := ite_t c25 hm
        refine TW.seq (TW.region ?_)
        refine OW.move rfl rfl rfl rfl rfl ?_
        refine OW.binI rfl rfl rfl rfl rfl rfl rfl ?_
        refine OW.buildSlice rfl rfl rfl rfl Tryd.underlying70 shp_5 zer_5 rfl rfl (cs := [Value.int .u8 (orI .u8 (shlI .u8 p0 5) 25)]) rfl rfl rfl ?_
        intro b26 w27 hb28 x29 l30
        have t32 := Tr.of_new (O := O0) x29 (fun _ _ h => h.elim) l30
        have B34 := (B0.ext x29).ins hb28.lt
        have X33 := X0.step x29 (fun _ _ h => h.elim)
        have g35 : w0.heap.size ≤ b26 := Nat.le_trans X0.size l30
        have h31 : Own w27 (Ins O0 b26) 5 1 (Value.slice (some ⟨b26, 0, none⟩) 1 1) ([(orI .u8 (shlI .u8 p0 5) 25)].map (eI .u8)) := Own.of_new hb28 rfl (Nat.le_of_ble_eq_true rfl) rfl ⟨⟨_, _, rfl, (by simp only [RD]), rfl⟩, trivial⟩ (Or.inl rfl)
        have gv36 : ∀ b, (Value.slice (some ⟨b26, 0, none⟩) 1 1).ownBlock = some b → b < w0.heap.size → Nowhere b := fun c h hl => absurd hl (by simp only [Value.ownBlock, Option.some.injEq] at h; have := g35; omega)
        refine OW.move rfl rfl rfl rfl rfl ?_
        have h37 := G0.tr t32
        obtain ⟨y38, hy39, hm⟩ := bnd hm
        refine OW.call rfl rfl rfl rfl rfl rfl Tryd.call42 ((C.cbor_big _ _ _ _ hy39 _ (Ins O0 b26) _ B34 h37 h31).mono ?_)
        rintro e w43 ⟨v40, rfl, h41, h42, x44⟩
        refine CallK.ret ?_
        have t45 := Tr.of_own (O := (Ins O0 b26)) x44 (fun b _ h => h31.mem b h) (fun b h => (h42 b h).imp (fun h => h31.mem b h) id)
        have X46 := X33.step x44 (fun y hy h => gv36 y h hy)
        have B47 : Bd (fun x => (Ins O0 b26) x ∨ v40.ownBlock = some x) w43 := Bd.own (B34.ext x44) h41.lt
        have gv48 : ∀ b, v40.ownBlock = some b → b < w0.heap.size → Nowhere b := fun b h hl => (h42 b h).elim (fun h => gv36 b h hl) (fun h => absurd hl (by have := X33.size; omega))
        have ho49 : Own w43 (fun x => (Ins O0 b26) x ∨ v40.ownBlock = some x) 5 1 v40 (y38.map (eI .u8)) := h41
        refine OW.assign rfl rfl rfl rfl rfl ?_
        refine OW.done ?_
        cases hm
        exact TW.ret (Out.one rfl rfl) ⟨_, rfl, (ho49.data.tr (Tr.drop _ fun x h => ⟨(Or.inl (Or.inr h)), fun e => (Nat.lt_or_ge x w0.heap.size).elim (fun hl => (gv48 x e hl).elim) (fun hg => by have := B0 x h; omega)⟩)), X46⟩
      · have hm := ite_f c25 hm
        refine TW.seq (TW.region ?_)
        refine OW.move rfl rfl rfl rfl rfl ?_
        refine OW.binI rfl rfl rfl rfl rfl rfl rfl ?_
        refine OW.assign rfl rfl rfl rfl rfl ?_
        refine OW.done ?_
        refine TW.cond rfl (fun c50 => ?_) (fun c50 => ?_)
        · have hm := ite_t c50 hm
          refine TW.seq (TW.region ?_)
          refine OW.move rfl rfl rfl rfl rfl ?_
          refine OW.binI rfl rfl rfl rfl rfl rfl rfl ?_
          refine OW.buildSlice rfl rfl rfl rfl Tryd.underlying70 shp_5 zer_5 rfl rfl (cs := [Value.int .u8 (orI .u8 (shlI .u8 p0 5) 26)]) rfl rfl rfl ?_
          intro b51 w52 hb53 x54 l55
          have t57 := Tr.of_new (O := O0) x54 (fun _ _ h => h.elim) l55
          have B59 := (B0.ext x54).ins hb53.lt
          have X58 := X0.step x54 (fun _ _ h => h.elim)
          have g60 : w0.heap.size ≤ b51 := Nat.le_trans X0.size l55
          have h56 : Own w52 (Ins O0 b51) 5 1 (Value.slice (some ⟨b51, 0, none⟩) 1 1) ([(orI .u8 (shlI .u8 p0 5) 26)].map (eI .u8)) := Own.of_new hb53 rfl (Nat.le_of_ble_eq_true rfl) rfl ⟨⟨_, _, rfl, (by simp only [RD]), rfl⟩, trivial⟩ (Or.inl rfl)
          have gv61 : ∀ b, (Value.slice (some ⟨b51, 0, none⟩) 1 1).ownBlock = some b → b < w0.heap.size → Nowhere b := fun c h hl => absurd hl (by simp only [Value.ownBlock, Option.some.injEq] at h; have := g60; omega)
          refine OW.move rfl rfl rfl rfl rfl ?_
          have h62 := G0.tr t57
          obtain ⟨y63, hy64, hm⟩ := bnd hm
          refine OW.call rfl rfl rfl rfl rfl rfl Tryd.call42 ((C.cbor_big _ _ _ _ hy64 _ (Ins O0 b51) _ B59 h62 h56).mono ?_)
          rintro e w68 ⟨v65, rfl, h66, h67, x69⟩
          refine CallK.ret ?_
          have t70 := Tr.of_own (O := (Ins O0 b51)) x69 (fun b _ h => h56.mem b h) (fun b h => (h67 b h).imp (fun h => h56.mem b h) id)
          have X71 := X58.step x69 (fun y hy h => gv61 y h hy)
          have B72 : Bd (fun x => (Ins O0 b51) x ∨ v65.ownBlock = some x) w68 := Bd.own (B59.ext x69) h66.lt
          have gv73 : ∀ b, v65.ownBlock = some b → b < w0.heap.size → Nowhere b := fun b h hl => (h67 b h).elim (fun h => gv61 b h hl) (fun h => absurd hl (by have := X58.size; omega))
          have ho74 : Own w68 (fun x => (Ins O0 b51) x ∨ v65.ownBlock = some x) 5 1 v65 (y63.map (eI .u8)) := h66
          refine OW.assign rfl rfl rfl rfl rfl ?_
          refine OW.done ?_
          cases hm
          exact TW.ret (Out.one rfl rfl) ⟨_, rfl, (ho74.data.tr (Tr.drop _ fun x h => ⟨(Or.inl (Or.inr h)), fun e => (Nat.lt_or_ge x w0.heap.size).elim (fun hl => (gv73 x e hl).elim) (fun hg => by have := B0 x h; omega)⟩)), X71⟩
        · have hm := ite_f c50 hm
          refine TW.skip (TW.inBlock (TW.seq (TW.region ?_)))
          refine OW.move rfl rfl rfl rfl rfl ?_
          refine OW.binI rfl rfl rfl rfl rfl rfl rfl ?_
          refine OW.buildSlice rfl rfl rfl rfl Tryd.underlying70 shp_5 zer_5 rfl rfl (cs := [Value.int .u8 (orI .u8 (shlI .u8 p0 5) 27)]) rfl rfl rfl ?_
          intro b75 w76 hb77 x78 l79
          have t81 := Tr.of_new (O := O0) x78 (fun _ _ h => h.elim) l79
          have B83 := (B0.ext x78).ins hb77.lt
          have X82 := X0.step x78 (fun _ _ h => h.elim)
          have g84 : w0.heap.size ≤ b75 := Nat.le_trans X0.size l79
          have h80 : Own w76 (Ins O0 b75) 5 1 (Value.slice (some ⟨b75, 0, none⟩) 1 1) ([(orI .u8 (shlI .u8 p0 5) 27)].map (eI .u8)) := Own.of_new hb77 rfl (Nat.le_of_ble_eq_true rfl) rfl ⟨⟨_, _, rfl, (by simp only [RD]), rfl⟩, trivial⟩ (Or.inl rfl)
          have gv85 : ∀ b, (Value.slice (some ⟨b75, 0, none⟩) 1 1).ownBlock = some b → b < w0.heap.size → Nowhere b := fun c h hl => absurd hl (by simp only [Value.ownBlock, Option.some.injEq] at h; have := g84; omega)
          refine OW.move rfl rfl rfl rfl rfl ?_
          have h86 := G0.tr t81
          obtain ⟨y87, hy88, hm⟩ := bnd hm
          refine OW.call rfl rfl rfl rfl rfl rfl Tryd.call42 ((C.cbor_big _ _ _ _ hy88 _ (Ins O0 b75) _ B83 h86 h80).mono ?_)
          rintro e w92 ⟨v89, rfl, h90, h91, x93⟩
          refine CallK.ret ?_
          have t94 := Tr.of_own (O := (Ins O0 b75)) x93 (fun b _ h => h80.mem b h) (fun b h => (h91 b h).imp (fun h => h80.mem b h) id)
          have X95 := X82.step x93 (fun y hy h => gv85 y h hy)
          have B96 : Bd (fun x => (Ins O0 b75) x ∨ v89.ownBlock = some x) w92 := Bd.own (B83.ext x93) h90.lt
          have gv97 : ∀ b, v89.ownBlock = some b → b < w0.heap.size → Nowhere b := fun b h hl => (h91 b h).elim (fun h => gv85 b h hl) (fun h => absurd hl (by have := X82.size; omega))
          have ho98 : Own w92 (fun x => (Ins O0 b75) x ∨ v89.ownBlock = some x) 5 1 v89 (y87.map (eI .u8)) := h90
          refine OW.assign rfl rfl rfl rfl rfl ?_
          refine OW.done ?_
          cases hm
          exact TW.ret (Out.one rfl rfl) ⟨_, rfl, (ho98.data.tr (Tr.drop _ fun x h => ⟨(Or.inl (Or.inr h)), fun e => (Nat.lt_or_ge x w0.heap.size).elim (fun hl => (gv97 x e hl).elim) (fun hg => by have := B0 x h; omega)⟩)), X95⟩
set_option maxRecDepth 1000000 in
set_option maxHeartbeats 4000000 in
theorem C.r03_head : ∀ (p0 : Int) (p1 : Int) (r : (List Int)), M.r03_head p0 p1 = some r → ∀ (w0 : World) (O0 : Nat → Prop) (B0 : Bd O0 w0) (G0 : Glob w0 O0), Calls Tryd.prog 39 (List.toArray [Value.int .i64 p0, Value.int .i64 p1]) w0 (fun e w' => ∃ (u0 : Value), e = .returned (u0) ∧ Own w' (fun x => O0 x ∨ u0.ownBlock = some x) 5 1 u0 (r.map (eI .u8)) ∧ (∀ b, u0.ownBlock = some b → w0.heap.size ≤ b) ∧ Ext Nowhere w0 w') := by
  intro p0 p1 r hm w0 O0  B0 G0 
  refine calls_of Tryd.func39 rfl 44 rfl rfl ?_
  unfold M.r03_head at hm
  have X0 := Ext.refl Nowhere w0
  refine TW.seq (TW.region ?_)
  refine OW.assign rfl rfl rfl rfl rfl ?_
  refine OW.done (TW.seq (TW.region ?_))
  refine OW.move rfl rfl rfl rfl rfl ?_
  refine OW.assign rfl rfl rfl rfl rfl ?_
  refine OW.assign rfl rfl rfl rfl rfl ?_
  refine OW.done (TW.seq (TW.block (TW.seq (TW.region ?_))))
  refine OW.move rfl rfl rfl rfl rfl ?_
  refine OW.binI rfl rfl rfl rfl rfl rfl rfl ?_
  refine OW.assign rfl rfl rfl rfl rfl ?_
  refine OW.done ?_
  refine TW.blk (fun K => ∀ (x7 : Int) (x8 : Int), M.r03_head_k1 p0 p1 x7 x8 = some r → ∀ (w1 : World) (O2 : Nat → Prop), Bd O2 w1 → Glob w1 O2 → Ext Nowhere w0 w1 → (∀ x, O0 x → O2 x) →  K [(0, Value.int .i64 p0), (1, Value.int .i64 p1), (5, Value.int .i64 x7), (6, Value.int .i64 x8)] w1) ?_ ?_
  · intro x7 x8 hm w1 O2 B3 G6 X4 lf5
    unfold M.r03_head_k1 at hm
    refine TW.inBlock (TW.seq (TW.region ?_))
    refine OW.move rfl rfl rfl rfl rfl ?_
    refine OW.binI rfl rfl rfl rfl rfl rfl rfl ?_
    refine OW.move rfl rfl rfl rfl rfl ?_
    refine OW.binI rfl rfl rfl rfl rfl rfl rfl ?_
    refine OW.convI rfl rfl rfl rfl Tryd.underlying3 Tryd.underlying5 rfl ?_
    refine OW.buildSlice rfl rfl rfl rfl Tryd.underlying70 shp_5 zer_5 rfl rfl (cs := [Value.int .u8 (IntKind.wrap .u8 (IntKind.wrap .i64 ((IntKind.wrap .i64 (32 * p0)) + x8)))]) rfl rfl rfl ?_
    intro b10 w11 hb12 x13 l14
    have t16 := Tr.of_new (O := O2) x13 (fun _ _ h => h.elim) l14
    have B18 := (B3.ext x13).ins hb12.lt
    have X17 := X4.step x13 (fun _ _ h => h.elim)
    have g19 : w0.heap.size ≤ b10 := Nat.le_trans X4.size l14
    have h15 : Own w11 (Ins O2 b10) 5 1 (Value.slice (some ⟨b10, 0, none⟩) 1 1) ([(IntKind.wrap .u8 (IntKind.wrap .i64 ((IntKind.wrap .i64 (32 * p0)) + x8)))].map (eI .u8)) := Own.of_new hb12 rfl (Nat.le_of_ble_eq_true rfl) rfl ⟨⟨_, _, rfl, (by simp only [RD]), rfl⟩, trivial⟩ (Or.inl rfl)
    have gv20 : ∀ b, (Value.slice (some ⟨b10, 0, none⟩) 1 1).ownBlock = some b → b < w0.heap.size → Nowhere b := fun c h hl => absurd hl (by simp only [Value.ownBlock, Option.some.injEq] at h; have := g19; omega)
    refine OW.assign rfl rfl rfl rfl rfl ?_
    refine OW.done (TW.seq (TW.seq (TW.region ?_)))
    refine OW.move rfl rfl rfl rfl rfl ?_
    refine OW.binI rfl rfl rfl rfl rfl rfl rfl ?_
    refine OW.assign rfl rfl rfl rfl rfl ?_
    refine OW.done (TW.block ?_)
    refine TW.lp (fun K => ∀ (x27 : List Int) (x31 : Int), M.r03_head_k2 p1 x27 x31 = some r → ∀ (w21 : World) (O22 : Nat → Prop) (v28 : Value), Bd O22 w21 → Glob w21 O22 → Ext Nowhere w0 w21 → (∀ x, O0 x → O22 x) → (Own w21 O22 5 1 v28 (x27.map (eI .u8))) → (∀ b, v28.ownBlock = some b → b < w0.heap.size → Nowhere b) →  K [(1, Value.int .i64 p1), (7, v28), (8, Value.int .i64 x31)] w21) ?_ ?_
    · intro K hin32 hout33
      refine fun x27 x31 hm => M.r03_head_k2.partial_correctness p1 (fun x27 x31 r58 => r58 = r → ∀ (w21 : World) (O22 : Nat → Prop) (v28 : Value), Bd O22 w21 → Glob w21 O22 → Ext Nowhere w0 w21 → (∀ x, O0 x → O22 x) → (Own w21 O22 5 1 v28 (x27.map (eI .u8))) → (∀ b, v28.ownBlock = some b → b < w0.heap.size → Nowhere b) →  K [(1, Value.int .i64 p1), (7, v28), (8, Value.int .i64 x31)] w21) ?_ x27 x31 r hm rfl
      intro self ih34 x27 x31 r58 hm hr59 w21 O22 v28 B23 G26 X24 lf25 h29 gv30
      rw [hr59] at hm
      refine hin32 _ _ ?_
      refine TW.seq (TW.seq (TW.region ?_))
      refine OW.move rfl rfl rfl rfl rfl ?_
      refine OW.binI rfl rfl rfl rfl rfl rfl rfl ?_
      refine OW.done ?_
      refine TW.cond rfl (fun c35 => ?_) (fun c35 => ?_)
      · have hm := ite_t c35 hm
        refine TW.skip (TW.seq (TW.block (TW.region ?_)))
        refine OW.move rfl rfl rfl rfl rfl ?_
        refine OW.move rfl rfl rfl rfl rfl ?_
        refine OW.move rfl rfl rfl rfl rfl ?_
        refine OW.binI rfl rfl rfl rfl rfl rfl rfl ?_
        obtain ⟨_, h36, hm⟩ := bnd hm
        refine OW.shiftI rfl rfl rfl rfl rfl rfl (by have := chk_some h36; simpa using this) rfl ?_
        refine OW.binI rfl rfl rfl rfl rfl rfl rfl ?_
        refine OW.convI rfl rfl rfl rfl Tryd.underlying3 Tryd.underlying5 rfl ?_
        refine OW.buildSlice rfl rfl rfl rfl Tryd.underlying70 shp_5 zer_5 rfl rfl (cs := [Value.int .u8 (IntKind.wrap .u8 (andI .i64 (shrI .i64 p1 (IntKind.wrap .i64 (8 * x31))) 255))]) rfl rfl rfl ?_
        intro b37 w38 hb39 x40 l41
        have t43 := Tr.of_ext (O := O22) x40 (fun _ _ h => h.elim)
        have B45 := B23.ext x40
        have X44 := X24.step x40 (fun _ _ h => h.elim)
        have h42 : RD w38 O22 (D.sl 5 1 ([(IntKind.wrap .u8 (andI .i64 (shrI .i64 p1 (IntKind.wrap .i64 (8 * x31))) 255))].map (eI .u8))) (Value.slice (some ⟨b37, 0, none⟩) 1 1) := RD.of_new hb39 B23 l41 rfl (Nat.le_of_ble_eq_true rfl) rfl ⟨⟨_, _, rfl, (by simp only [RD]), rfl⟩, trivial⟩
        have ho46 := (h29.keep x40 (fun _ _ h => h) t43 (fun _ h => h))
        obtain ⟨l47, h48, hm⟩ := bnd hm
        obtain ⟨hx49, hl50⟩ := app_some h48
        refine OW.appendL' rfl rfl rfl rfl Tryd.underlying70 inf_5 rfl rfl rfl rfl rfl ho46 B45 h42 hl50 ?_
        intro v51 w52 O53 G54
        rw [← hx49] at G54
        have X55 := X44.step G54.ext (fun y hy h => gv30 y h hy)
        have gv56 : ∀ b, v51.ownBlock = some b → b < w0.heap.size → Nowhere b := fun b h hl => (G54.at_ b h).elim (fun h => gv30 b h hl) (fun h => absurd hl (by have := X44.size; omega))
        refine OW.assign rfl rfl rfl rfl rfl ?_
        refine OW.done (TW.inBlock (TW.region ?_))
        refine OW.move rfl rfl rfl rfl rfl ?_
        refine OW.binI rfl rfl rfl rfl rfl rfl rfl ?_
        refine OW.assign rfl rfl rfl rfl rfl ?_
        refine OW.done ?_
        have h57 := G26.tr (t43.trans G54.tr)
        exact TW.sub (Sub.cons rfl (Sub.cons rfl (Sub.cons rfl Sub.nil))) (hout33 _ _ (ih34 l47 (IntKind.wrap .i64 (x31 - 1)) _ hm rfl w52 O53 v51 G54.bd h57 X55 (fun x h => (G54.more _ (lf25 _ h))) G54.own gv56))
      · have hm := ite_f c35 hm
        refine TW.exit rfl (TW.seq (TW.region ?_))
        refine OW.move rfl rfl rfl rfl rfl ?_
        refine OW.assign rfl rfl rfl rfl rfl ?_
        refine OW.done ?_
        cases hm
        exact TW.ret (Out.one rfl rfl) ⟨_, rfl, (h29.down (fun x h => h.elim (fun h => (lf25 _ h)) (fun h => h29.mem x h)) (fun b h => Or.inr h)), (fun b h => (Nat.lt_or_ge b w0.heap.size).elim (fun hl => (gv30 b h hl).elim) id), X24⟩
    · intro key60
      have h61 := G6.tr t16
      exact TW.sub (Sub.cons rfl (Sub.cons rfl (Sub.cons rfl Sub.nil))) (key60 [(IntKind.wrap .u8 (IntKind.wrap .i64 ((IntKind.wrap .i64 (32 * p0)) + x8)))] (IntKind.wrap .i64 (x7 - 1)) hm w11 (Ins O2 b10) (Value.slice (some ⟨b10, 0, none⟩) 1 1) B18 h61 X17 (fun x h => (Or.inr (lf5 _ h))) h15 gv20)
  · intro key9
    refine TW.cond rfl (fun c62 => ?_) (fun c62 => ?_)
    · have hm := ite_t c62 hm
      refine TW.skip ?_
      exact TW.sub (Sub.cons rfl (Sub.cons rfl (Sub.cons rfl (Sub.cons rfl Sub.nil)))) (key9 0 p1 hm w0 O0 B0 G0 X0 (fun x h => h))
    · have hm := ite_f c62 hm
      refine TW.seq (TW.region ?_)
      refine OW.move rfl rfl rfl rfl rfl ?_
      refine OW.binI rfl rfl rfl rfl rfl rfl rfl ?_
      refine OW.assign rfl rfl rfl rfl rfl ?_
      refine OW.done ?_
      refine TW.cond rfl (fun c63 => ?_) (fun c63 => ?_)
      · have hm := ite_t c63 hm
        refine TW.region ?_
        refine OW.assign rfl rfl rfl rfl rfl ?_
        refine OW.assign rfl rfl rfl rfl rfl ?_
        refine OW.done ?_
        exact TW.sub (Sub.cons rfl (Sub.cons rfl (Sub.cons rfl (Sub.cons rfl Sub.nil)))) (key9 1 24 hm w0 O0 B0 G0 X0 (fun x h => h))
      · have hm := ite_f c63 hm
        refine TW.seq (TW.region ?_)
        refine OW.move rfl rfl rfl rfl rfl ?_
        refine OW.binI rfl rfl rfl rfl rfl rfl rfl ?_
        refine OW.assign rfl rfl rfl rfl rfl ?_
        refine OW.done ?_
        refine TW.cond rfl (fun c64 => ?_) (fun c64 => ?_)
        · have hm := ite_t c64 hm
          refine TW.region ?_
          refine OW.assign rfl rfl rfl rfl rfl ?_
          refine OW.assign rfl rfl rfl rfl rfl ?_
          refine OW.done ?_
          exact TW.sub (Sub.cons rfl (Sub.cons rfl (Sub.cons rfl (Sub.cons rfl Sub.nil)))) (key9 2 25 hm w0 O0 B0 G0 X0 (fun x h => h))
        · have hm := ite_f c64 hm
          refine TW.seq (TW.region ?_)
          refine OW.move rfl rfl rfl rfl rfl ?_
          refine OW.binI rfl rfl rfl rfl rfl rfl rfl ?_
          refine OW.assign rfl rfl rfl rfl rfl ?_
          refine OW.done ?_
          refine TW.cond rfl (fun c65 => ?_) (fun c65 => ?_)
          · have hm := ite_t c65 hm
            refine TW.region ?_
            refine OW.assign rfl rfl rfl rfl rfl ?_
            refine OW.assign rfl rfl rfl rfl rfl ?_
            refine OW.done ?_
            exact TW.sub (Sub.cons rfl (Sub.cons rfl (Sub.cons rfl (Sub.cons rfl Sub.nil)))) (key9 4 26 hm w0 O0 B0 G0 X0 (fun x h => h))
          · have hm := ite_f c65 hm
            refine TW.region ?_
            refine OW.assign rfl rfl rfl rfl rfl ?_
            refine OW.assign rfl rfl rfl rfl rfl ?_
            refine OW.done ?_
            exact TW.sub (Sub.cons rfl (Sub.cons rfl (Sub.cons rfl (Sub.cons rfl Sub.nil)))) (key9 8 27 hm w0 O0 B0 G0 X0 (fun x h => h))
set_option maxRecDepth 1000000 in
set_option maxHeartbeats 4000000 in
theorem C.cbor_reader_take : ∀ (p0 : T_cbor_reader) (p1 : Int) (r : Res ((List UInt8) × T_cbor_reader)), M.cbor_reader_take p0 p1 = some r → ∀ (w0 : World) (O0 : Nat → Prop) (b0 : Nat) (cs0 : List Value) (B0 : Bd O0 w0) (G0 : Glob w0 O0) (hb0 : BoxAt w0 b0 44 cs0) (h0 : RDs w0 O0 (T_cbor_reader.enc p0) cs0) (m0 : O0 b0), Calls Tryd.prog 29 (List.toArray [Value.pointer (some ⟨b0, 0, none⟩), Value.int .u64 p1]) w0 (PR (At b0) w0 (fun a e w' => ∃ (ds0 : List Value), e = .returned (Value.string ⟨List.toArray a.1⟩) ∧ BoxAt w' b0 44 ds0 ∧ RDs w' O0 (T_cbor_reader.enc a.2) ds0 ∧ Ext (At b0) w0 w') r) := by
  intro p0 p1 r hm w0 O0 b0 cs0 B0 G0 hb0 h0 m0
  refine calls_of Tryd.func29 rfl 31 rfl rfl ?_
  unfold M.cbor_reader_take at hm
  have X0 := Ext.refl (At b0) w0
  obtain rfl := T_cbor_reader.opn h0
  refine TW.seq (TW.region ?_)
  refine OW.assign rfl rfl rfl rfl rfl ?_
  refine OW.done (TW.seq (TW.region ?_))
  refine OW.move rfl rfl rfl rfl rfl ?_
  refine OW.move rfl rfl rfl rfl rfl ?_
  refine OW.nilCheck rfl rfl rfl rfl rfl ?_
  refine OW.fieldAddr rfl rfl rfl rfl fld_44_0 rfl ?_
  refine OW.load1 rfl rfl rfl rfl shp_9 rfl hb0 rfl ?_
  refine OW.lenS rfl rfl rfl rfl Tryd.underlying9 rfl ?_
  refine OW.convI rfl rfl rfl rfl Tryd.underlying3 Tryd.underlying60 rfl ?_
  refine OW.binI rfl rfl rfl rfl rfl rfl rfl ?_
  obtain ⟨y1, hy2, hm⟩ := bnd hm
  rcases y1 with a3 | pv4
  · dsimp only at hm
    refine OW.call rfl rfl rfl rfl rfl rfl Tryd.call30 ((C.cbor_must _ _ _ hy2 _ O0  B0 G0).mono ?_)
    rintro e w5 ⟨rfl, x6⟩
    refine CallK.ret ?_
    have t7 := Tr.of_ext (O := O0) x6 (fun _ _ h => h.elim)
    have B9 := B0.ext x6
    have X8 := X0.step x6 (fun _ _ h => h.elim)
    refine OW.done (TW.seq (TW.region ?_))
    refine OW.move rfl rfl rfl rfl rfl ?_
    refine OW.nilCheck rfl rfl rfl rfl rfl ?_
    refine OW.fieldAddr rfl rfl rfl rfl fld_44_0 rfl ?_
    have hb10 := (hb0.keep x6 (fun h => h))
    refine OW.load1 rfl rfl rfl rfl shp_9 rfl hb10 rfl ?_
    refine OW.move rfl rfl rfl rfl rfl ?_
    obtain ⟨s11, h12, hm⟩ := bnd hm
    obtain ⟨p13, q14, h15, h16, h17, h18, h19⟩ := sub_some h12
    refine OW.sliceS rfl rfl rfl rfl Tryd.underlying9 rfl (a := p13) (b := q14) (by show _ = 0; omega) ⟨_, _, rfl, h16⟩ h17 h18 ?_
    rw [← h19]
    refine OW.assign rfl rfl rfl rfl rfl ?_
    refine OW.done (TW.seq (TW.region ?_))
    refine OW.move rfl rfl rfl rfl rfl ?_
    refine OW.move rfl rfl rfl rfl rfl ?_
    refine OW.nilCheck rfl rfl rfl rfl rfl ?_
    refine OW.fieldAddr rfl rfl rfl rfl fld_44_0 rfl ?_
    refine OW.load1 rfl rfl rfl rfl shp_9 rfl hb10 rfl ?_
    refine OW.move rfl rfl rfl rfl rfl ?_
    obtain ⟨s20, h21, hm⟩ := bnd hm
    obtain ⟨p22, q23, h24, h25, h26, h27, h28⟩ := sub_some h21
    refine OW.sliceS rfl rfl rfl rfl Tryd.underlying9 rfl (a := p22) (b := q23) ⟨_, _, rfl, h24⟩ (by show _ = List.length _; omega) h26 h27 ?_
    rw [← h28]
    refine OW.nilCheck rfl rfl rfl rfl rfl ?_
    refine OW.fieldAddr rfl rfl rfl rfl fld_44_0 rfl ?_
    refine OW.store rfl rfl rfl shp_9 rfl rfl (vs := [Value.string ⟨List.toArray s20⟩]) rfl rfl hb10 rfl (one_cons rfl one_nil) (cs' := [Value.string ⟨List.toArray s20⟩]) rfl ?_
    intro w29 hb30 x31
    have t32 := Tr.of_ext (O := O0) x31 (fun _ _ h => by cases h; exact m0)
    have B34 := B9.ext x31
    have X33 := X8.step x31 (fun y hy h => h)
    refine OW.done (TW.seq (TW.region ?_))
    refine OW.move rfl rfl rfl rfl rfl ?_
    refine OW.assign rfl rfl rfl rfl rfl ?_
    refine OW.done ?_
    cases hm
    exact TW.ret (Out.one rfl rfl) ⟨_, rfl, hb30, (T_cbor_reader.shut (x := (T_cbor_reader.mk s20))), X33⟩
  · dsimp only at hm
    cases hm
    refine OW.call rfl rfl rfl rfl rfl rfl Tryd.call30 ((C.cbor_must _ _ _ hy2 _ O0  B0 G0).mono ?_)
    rintro e w35 ⟨rfl, x36⟩
    exact CallK.pan ⟨rfl, X0.step x36 (fun _ _ h => h.elim)⟩
set_option maxRecDepth 1000000 in
set_option maxHeartbeats 4000000 in
theorem C.cbor_reader_head : ∀ (p0 : T_cbor_reader) (r : Res (Int × Int × T_cbor_reader)), M.cbor_reader_head p0 = some r → ∀ (w0 : World) (O0 : Nat → Prop) (b0 : Nat) (cs0 : List Value) (B0 : Bd O0 w0) (G0 : Glob w0 O0) (hb0 : BoxAt w0 b0 44 cs0) (h0 : RDs w0 O0 (T_cbor_reader.enc p0) cs0) (m0 : O0 b0), Calls Tryd.prog 28 (List.toArray [Value.pointer (some ⟨b0, 0, none⟩)]) w0 (PR (At b0) w0 (fun a e w' => ∃ (ds0 : List Value), e = .returned (Value.tuple (List.toArray [Value.int .u8 a.1, Value.int .u64 a.2.1])) ∧ BoxAt w' b0 44 ds0 ∧ RDs w' O0 (T_cbor_reader.enc a.2.2) ds0 ∧ Ext (At b0) w0 w') r) := by
  intro p0 r hm w0 O0 b0 cs0 B0 G0 hb0 h0 m0
  refine calls_of Tryd.func28 rfl 65 rfl rfl ?_
  unfold M.cbor_reader_head at hm
  have X0 := Ext.refl (At b0) w0
  obtain rfl := T_cbor_reader.opn h0
  refine TW.seq (TW.region ?_)
  refine OW.assign rfl rfl rfl rfl rfl ?_
  refine OW.assign rfl rfl rfl rfl rfl ?_
  refine OW.done (TW.seq (TW.region ?_))
  refine OW.move rfl rfl rfl rfl rfl ?_
  refine OW.mkFunc rfl rfl rfl rfl rfl rfl ?_
  refine OW.assign rfl rfl rfl rfl rfl ?_
  refine OW.done (TW.seq (TW.region ?_))
  refine OW.move rfl rfl rfl rfl rfl ?_
  obtain ⟨y1, hy2, hm⟩ := bnd hm
  rcases y1 with a3 | pv4
  · dsimp only at hm
    refine OW.callM rfl rfl rfl rfl rfl rfl Tryd.call29 ((C.cbor_reader_take _ _ _ hy2 _ O0 _ _ B0 G0 hb0 (T_cbor_reader.shut (x := p0)) m0).mono ?_)
    rintro e w8 ⟨cs5, rfl, hb6, h7, x9⟩
    obtain rfl := T_cbor_reader.opn h7
    refine CallK.ret ?_
    have t10 := Tr.of_ext (O := O0) x9 (fun _ _ h => by cases h; exact m0)
    have B12 := B0.ext x9
    have X11 := X0.step x9 (fun y hy h => h)
    obtain ⟨c13, h14, hm⟩ := bnd hm
    obtain ⟨j15, hj16, hc17⟩ := ix_some h14
    refine OW.indexS rfl rfl rfl rfl Tryd.underlying9 rfl rfl hj16 hc17 ?_
    refine OW.assign rfl rfl rfl rfl rfl ?_
    refine OW.done (TW.seq (TW.region ?_))
    refine OW.move rfl rfl rfl rfl rfl ?_
    refine OW.shiftI rfl rfl rfl rfl rfl rfl (by decide) rfl ?_
    refine OW.move rfl rfl rfl rfl rfl ?_
    refine OW.binI rfl rfl rfl rfl rfl rfl rfl ?_
    refine OW.convI rfl rfl rfl rfl Tryd.underlying5 Tryd.underlying60 rfl ?_
    refine OW.assign rfl rfl rfl rfl rfl ?_
    refine OW.assign rfl rfl rfl rfl rfl ?_
    refine OW.done (TW.seq (TW.region ?_))
    refine OW.move rfl rfl rfl rfl rfl ?_
    refine OW.binI rfl rfl rfl rfl rfl rfl rfl ?_
    refine OW.move rfl rfl rfl rfl rfl ?_
    refine OW.blk 3 (fun K => K [(26, Value.bool ((decide ((shrI .u8 (c13.toNat : Int) 5) ≤ 5)) && (decide ((IntKind.wrap .u64 (andI .u8 (c13.toNat : Int) 31)) < 28)))), (4, Value.func (.func 29) (List.toArray [Value.pointer (some ⟨b0, 0, none⟩)]) (List.toArray [])), (6, Value.int .u8 (shrI .u8 (c13.toNat : Int) 5)), (7, Value.int .u64 (IntKind.wrap .u64 (andI .u8 (c13.toNat : Int) 31))), (21, Value.int .u8 (shrI .u8 (c13.toNat : Int) 5)), (22, Value.bool (decide ((shrI .u8 (c13.toNat : Int) 5) ≤ 5))), (23, Value.bool (decide ((shrI .u8 (c13.toNat : Int) 5) ≤ 5)))] w8) ?_ ?_
    · show OW _ _ _ _ _ _ _ _
      have h21 := G0.tr t10
      obtain ⟨y22, hy23, hm⟩ := bnd hm
      rcases y22 with a24 | pv25
      · dsimp only at hm
        refine OW.call rfl rfl rfl rfl rfl rfl Tryd.call30 ((C.cbor_must _ _ _ hy23 _ O0  B12 h21).mono ?_)
        rintro e w26 ⟨rfl, x27⟩
        refine CallK.ret ?_
        have t28 := Tr.of_ext (O := O0) x27 (fun _ _ h => h.elim)
        have B30 := B12.ext x27
        have X29 := X11.step x27 (fun _ _ h => h.elim)
        refine OW.done (TW.seq (TW.seq (TW.region ?_)))
        refine OW.move rfl rfl rfl rfl rfl ?_
        refine OW.binI rfl rfl rfl rfl rfl rfl rfl ?_
        refine OW.done ?_
        refine TW.cond rfl (fun c31 => ?_) (fun c31 => ?_)
        · have hm := ite_t c31 hm
          refine TW.seq (TW.region ?_)
          refine OW.move rfl rfl rfl rfl rfl ?_
          refine OW.move rfl rfl rfl rfl rfl ?_
          refine OW.assign rfl rfl rfl rfl rfl ?_
          refine OW.assign rfl rfl rfl rfl rfl ?_
          refine OW.done ?_
          have hb32 := (hb6.keep x27 (fun h => h))
          cases hm
          exact TW.ret (Out.many rfl ⟨_, _, rfl, rfl, ⟨_, _, rfl, rfl, rfl⟩⟩ rfl) ⟨_, rfl, hb32, (T_cbor_reader.shut (x := a3.2)), X29⟩
        · have hm := ite_f c31 hm
          refine TW.skip (TW.seq (TW.region ?_))
          refine OW.move rfl rfl rfl rfl rfl ?_
          refine OW.move rfl rfl rfl rfl rfl ?_
          refine OW.binI rfl rfl rfl rfl rfl rfl rfl ?_
          obtain ⟨_, h33, hm⟩ := bnd hm
          refine OW.shiftI rfl rfl rfl rfl rfl rfl (by have := chk_some h33; simpa using this) rfl ?_
          have hb34 := (hb6.keep x27 (fun h => h))
          have h35 := h21.tr t28
          obtain ⟨y36, hy37, hm⟩ := bnd hm
          rcases y36 with a38 | pv39
          · dsimp only at hm
            refine OW.callM rfl rfl rfl rfl rfl rfl Tryd.call29 ((C.cbor_reader_take _ _ _ hy37 _ O0 _ _ B30 h35 hb34 (T_cbor_reader.shut (x := a3.2)) m0).mono ?_)
            rintro e w43 ⟨cs40, rfl, hb41, h42, x44⟩
            obtain rfl := T_cbor_reader.opn h42
            refine CallK.ret ?_
            have t45 := Tr.of_ext (O := O0) x44 (fun _ _ h => by cases h; exact m0)
            have B47 := B30.ext x44
            have X46 := X29.step x44 (fun y hy h => h)
            refine OW.assign rfl rfl rfl rfl rfl ?_
            refine OW.done (TW.seq (TW.region ?_))
            refine OW.assign rfl rfl rfl rfl rfl ?_
            refine OW.done (TW.seq (TW.seq (TW.region ?_)))
            refine OW.move rfl rfl rfl rfl rfl ?_
            obtain ⟨_, h52, hm⟩ := bnd hm
            refine OW.toBytes rfl rfl rfl rfl Tryd.underlying9 Tryd.underlying70 Tryd.underlying5 rfl B47 (by have := chk_some h52; simpa using this) ?_
            intro v48 w49 x50 h51
            have t53 := Tr.of_ext (O := O0) x50 (fun _ _ h => h.elim)
            have B55 := B47.ext x50
            have X54 := X46.step x50 (fun _ _ h => h.elim)
            refine OW.lenV rfl rfl rfl rfl Tryd.underlying70 rfl (RD.len' h51) ?_
            refine OW.move rfl rfl rfl rfl rfl ?_
            refine OW.done (TW.block ?_)
            refine TW.lp (fun K => ∀ (x64 : Int) (x66 : Int), M.cbor_reader_head_k1 c13 a38 x64 x66 = some r → ∀ (w56 : World) (O57 : Nat → Prop), Bd O57 w56 → Glob w56 O57 → Ext (At b0) w0 w56 → (∀ x, O0 x → O57 x) → (O57 b0) → (BoxAt w56 b0 44 [Value.string ⟨List.toArray a38.2.gs⟩]) → (RD w56 O57 (D.sl 5 1 ((unb a38.1).map (eI .u8))) v48) →  K [(6, Value.int .u8 (shrI .u8 (c13.toNat : Int) 5)), (7, Value.int .u64 x64), (8, Value.string ⟨List.toArray a38.1⟩), (38, v48), (39, Value.int .i64 ((unb a38.1).length : Int)), (40, Value.int .i64 x66)] w56) ?_ ?_
            · intro K hin67 hout68
              refine fun x64 x66 hm => M.cbor_reader_head_k1.partial_correctness c13 a38 (fun x64 x66 r121 => r121 = r → ∀ (w56 : World) (O57 : Nat → Prop), Bd O57 w56 → Glob w56 O57 → Ext (At b0) w0 w56 → (∀ x, O0 x → O57 x) → (O57 b0) → (BoxAt w56 b0 44 [Value.string ⟨List.toArray a38.2.gs⟩]) → (RD w56 O57 (D.sl 5 1 ((unb a38.1).map (eI .u8))) v48) →  K [(6, Value.int .u8 (shrI .u8 (c13.toNat : Int) 5)), (7, Value.int .u64 x64), (8, Value.string ⟨List.toArray a38.1⟩), (38, v48), (39, Value.int .i64 ((unb a38.1).length : Int)), (40, Value.int .i64 x66)] w56) ?_ x64 x66 r hm rfl
              intro self ih69 x64 x66 r121 hm hr122 w56 O57 B58 G61 X59 lf60 m62 hb63 h65
              rw [hr122] at hm
              refine hin67 _ _ ?_
              refine TW.seq (TW.region ?_)
              refine OW.binI rfl rfl rfl rfl rfl rfl rfl ?_
              refine OW.done (TW.seq ?_)
              refine TW.cond rfl (fun c70 => ?_) (fun c70 => ?_)
              · have hm := ite_t c70 hm
                refine TW.skip (TW.seq (TW.block (TW.seq (TW.region ?_))))
                obtain ⟨x71, h72, hm⟩ := bnd hm
                obtain ⟨j73, hj74, hc75⟩ := ix_some h72
                obtain ⟨b76, q77, cap78, hv79, hlt80, cs81, hl82, hcc83, hr84⟩ := RD.elem' h65 hc75
                obtain rfl := one_int hr84
                refine OW.indexAddrV rfl rfl rfl rfl Tryd.underlying70 shp_5 rfl hv79 rfl hj74 hlt80 ?_
                refine OW.loadC rfl rfl rfl rfl shp_5 rfl (hcc83.at_ 0 _ rfl) ?_
                refine OW.assign rfl rfl rfl rfl rfl ?_
                refine OW.done (TW.region ?_)
                refine OW.move rfl rfl rfl rfl rfl ?_
                refine OW.shiftI rfl rfl rfl rfl rfl rfl (by decide) rfl ?_
                refine OW.move rfl rfl rfl rfl rfl ?_
                refine OW.convI rfl rfl rfl rfl Tryd.underlying5 Tryd.underlying60 rfl ?_
                refine OW.binI rfl rfl rfl rfl rfl rfl rfl ?_
                refine OW.assign rfl rfl rfl rfl rfl ?_
                refine OW.done (TW.inBlock (TW.region ?_))
                refine OW.binI rfl rfl rfl rfl rfl rfl rfl ?_
                refine OW.move rfl rfl rfl rfl rfl ?_
                refine OW.done ?_
                exact TW.sub (Sub.cons rfl (Sub.cons rfl (Sub.cons rfl (Sub.cons rfl (Sub.cons rfl (Sub.cons rfl Sub.nil)))))) (hout68 _ _ (ih69 (orI .u64 (shlI .u64 x64 8) (IntKind.wrap .u64 x71)) (IntKind.wrap .i64 (x66 + 1)) _ hm rfl w56 O57 B58 G61 X59 (fun x h => (lf60 _ h)) m62 hb63 h65))
              · have hm := ite_f c70 hm
                refine TW.exit rfl (TW.seq (TW.region ?_))
                refine OW.move rfl rfl rfl rfl rfl ?_
                refine OW.binI rfl rfl rfl rfl rfl rfl rfl ?_
                refine OW.move rfl rfl rfl rfl rfl ?_
                obtain ⟨x94, hx95, hm⟩ := bnd hm
                refine OW.blk 9 (fun K => ∀ (w86 : World) (O87 : Nat → Prop), Bd O87 w86 → Glob w86 O87 → Ext (At b0) w0 w86 → (∀ x, O0 x → O87 x) → (O87 b0) → (BoxAt w86 b0 44 [Value.string ⟨List.toArray a38.2.gs⟩]) →  K [(6, Value.int .u8 (shrI .u8 (c13.toNat : Int) 5)), (7, Value.int .u64 x64), (8, Value.string ⟨List.toArray a38.1⟩), (50, Value.int .u64 x64), (51, Value.bool (decide (x64 < 9223372036854775808))), (52, Value.bool (decide (x64 < 9223372036854775808))), (61, Value.bool x94)] w86) ?_ ?_
                · intro w86 O87 B88 G91 X89 lf90 m92 hb93
                  show OW _ _ _ _ _ _ _ _
                  obtain ⟨y109, hy110, hm⟩ := bnd hm
                  rcases y109 with a111 | pv112
                  · dsimp only at hm
                    refine OW.call rfl rfl rfl rfl rfl rfl Tryd.call30 ((C.cbor_must _ _ _ hy110 _ O87  B88 G91).mono ?_)
                    rintro e w113 ⟨rfl, x114⟩
                    refine CallK.ret ?_
                    have t115 := Tr.of_ext (O := O87) x114 (fun _ _ h => h.elim)
                    have B117 := B88.ext x114
                    have X116 := X89.step x114 (fun _ _ h => h.elim)
                    refine OW.done (TW.seq (TW.region ?_))
                    refine OW.move rfl rfl rfl rfl rfl ?_
                    refine OW.move rfl rfl rfl rfl rfl ?_
                    refine OW.assign rfl rfl rfl rfl rfl ?_
                    refine OW.assign rfl rfl rfl rfl rfl ?_
                    refine OW.done ?_
                    have hb118 := (hb93.keep x114 (fun h => h))
                    cases hm
                    exact TW.ret (Out.many rfl ⟨_, _, rfl, rfl, ⟨_, _, rfl, rfl, rfl⟩⟩ rfl) ⟨_, rfl, hb118, (T_cbor_reader.shut (x := a38.2)), X116⟩
                  · dsimp only at hm
                    cases hm
                    refine OW.call rfl rfl rfl rfl rfl rfl Tryd.call30 ((C.cbor_must _ _ _ hy110 _ O87  B88 G91).mono ?_)
                    rintro e w119 ⟨rfl, x120⟩
                    exact CallK.pan ⟨rfl, X89.step x120 (fun _ _ h => h.elim)⟩
                · intro key96
                  rcases c97 : (decide (x64 < 9223372036854775808)) with _ | _
                  · have hm := ite_f c97 hx95
                    try simp only [c97] at key96
                    refine OW.not rfl rfl rfl rfl rfl rfl ?_
                    refine OW.not rfl rfl rfl rfl rfl rfl ?_
                    refine OW.not rfl rfl rfl rfl rfl rfl ?_
                    refine OW.not rfl rfl rfl rfl rfl rfl ?_
                    refine OW.not rfl rfl rfl rfl rfl rfl ?_
                    refine OW.not rfl rfl rfl rfl rfl rfl ?_
                    refine OW.not rfl rfl rfl rfl rfl rfl ?_
                    refine OW.not rfl rfl rfl rfl rfl rfl ?_
                    refine OW.pick_f rfl rfl rfl rfl rfl rfl ?_
                    cases hm
                    exact OW.sub (Sub.cons rfl (Sub.cons rfl (Sub.cons rfl (Sub.cons rfl (Sub.cons rfl (Sub.cons rfl (Sub.cons rfl Sub.nil))))))) (key96 w56 O57 B58 G61 X59 (fun x h => (lf60 _ h)) m62 hb63)
                  · have hm := ite_t c97 hx95
                    try simp only [c97] at key96
                    refine OW.yes rfl rfl rfl ?_
                    refine OW.move rfl rfl rfl rfl rfl ?_
                    refine OW.yes rfl rfl rfl ?_
                    refine OW.move rfl rfl rfl rfl rfl ?_
                    refine OW.yes rfl rfl rfl ?_
                    obtain ⟨y98, hy99, hm⟩ := bnd hm
                    refine OW.call rfl rfl rfl rfl rfl rfl Tryd.call37 ((C.cbor_head _ _ _ hy99 _ O57  B58 G61).mono ?_)
                    rintro e w102 ⟨v100, rfl, h101, x103⟩
                    refine CallK.ret ?_
                    have t104 := Tr.of_ext (O := O57) x103 (fun _ _ h => h.elim)
                    have B106 := B58.ext x103
                    have X105 := X59.step x103 (fun _ _ h => h.elim)
                    refine OW.yes rfl rfl rfl ?_
                    refine OW.lenV rfl rfl rfl rfl Tryd.underlying70 rfl (RD.len' h101) ?_
                    refine OW.yes rfl rfl rfl ?_
                    refine OW.move rfl rfl rfl rfl rfl ?_
                    refine OW.yes rfl rfl rfl ?_
                    refine OW.lenS rfl rfl rfl rfl Tryd.underlying9 rfl ?_
                    refine OW.yes rfl rfl rfl ?_
                    refine OW.binI rfl rfl rfl rfl rfl rfl rfl ?_
                    refine OW.yes rfl rfl rfl ?_
                    refine OW.binI rfl rfl rfl rfl rfl rfl rfl ?_
                    refine OW.pick_t rfl rfl rfl rfl rfl rfl ?_
                    cases hm
                    have hb107 := (hb63.keep x103 (fun h => h))
                    have h108 := G61.tr t104
                    exact OW.sub (Sub.cons rfl (Sub.cons rfl (Sub.cons rfl (Sub.cons rfl (Sub.cons rfl (Sub.cons rfl (Sub.cons rfl Sub.nil))))))) (key96 w102 O57 B106 h108 X105 (fun x h => (lf60 _ h)) m62 hb107)
            · intro key123
              have hb124 := (hb41.keep x50 (fun h => h))
              have h125 := h35.tr (t45.trans t53)
              exact TW.sub (Sub.cons rfl (Sub.cons rfl (Sub.cons rfl (Sub.cons rfl (Sub.cons rfl (Sub.cons rfl Sub.nil)))))) (key123 0 0 hm w49 O0 B55 h125 X54 (fun x h => h) m0 hb124 h51)
          · dsimp only at hm
            cases hm
            refine OW.callM rfl rfl rfl rfl rfl rfl Tryd.call29 ((C.cbor_reader_take _ _ _ hy37 _ O0 _ _ B30 h35 hb34 (T_cbor_reader.shut (x := a3.2)) m0).mono ?_)
            rintro e w126 ⟨rfl, x127⟩
            exact CallK.pan ⟨rfl, X29.step x127 (fun y hy h => h)⟩
      · dsimp only at hm
        cases hm
        refine OW.call rfl rfl rfl rfl rfl rfl Tryd.call30 ((C.cbor_must _ _ _ hy23 _ O0  B12 h21).mono ?_)
        rintro e w128 ⟨rfl, x129⟩
        exact CallK.pan ⟨rfl, X11.step x129 (fun _ _ h => h.elim)⟩
    · intro key20
      cases c19 : (decide ((shrI .u8 (c13.toNat : Int) 5) ≤ 5))
      · try simp only [c19] at key20
        refine OW.not rfl rfl rfl rfl rfl rfl ?_
        refine OW.not rfl rfl rfl rfl rfl rfl ?_
        refine OW.pick_f rfl rfl rfl rfl rfl rfl ?_
        exact OW.sub (Sub.cons rfl (Sub.cons rfl (Sub.cons rfl (Sub.cons rfl (Sub.cons rfl (Sub.cons rfl (Sub.cons rfl Sub.nil))))))) key20
      · try simp only [c19] at key20
        refine OW.yes rfl rfl rfl ?_
        refine OW.move rfl rfl rfl rfl rfl ?_
        refine OW.yes rfl rfl rfl ?_
        refine OW.binI rfl rfl rfl rfl rfl rfl rfl ?_
        refine OW.pick_t rfl rfl rfl rfl rfl rfl ?_
        exact OW.sub (Sub.cons rfl (Sub.cons rfl (Sub.cons rfl (Sub.cons rfl (Sub.cons rfl (Sub.cons rfl (Sub.cons rfl Sub.nil))))))) key20
  · dsimp only at hm
    cases hm
    refine OW.callM rfl rfl rfl rfl rfl rfl Tryd.call29 ((C.cbor_reader_take _ _ _ hy2 _ O0 _ _ B0 G0 hb0 (T_cbor_reader.shut (x := p0)) m0).mono ?_)
    rintro e w130 ⟨rfl, x131⟩
    exact CallK.pan ⟨rfl, X0.step x131 (fun y hy h => h)⟩
set_option maxRecDepth 1000000 in
set_option maxHeartbeats 4000000 in
theorem C.cbor_laid (fuel : Nat) : ∀ (p0 : List Int) (p1 : T_api_Cbor) (r : (List Int)), M.cbor_laid fuel p0 p1 = some r → ∀ (w0 : World) (O0 : Nat → Prop) (b0 : Nat) (a0 : Value) (v0 : Value) (cs1 : List Value) (B0 : Bd O0 w0) (G0 : Glob w0 O0) (hb0 : BoxAt w0 b0 72 [a0, v0]) (hs0 : Slf b0 a0) (h0 : Own w0 O0 5 1 v0 (p0.map (eI .u8))) (m0 : O0 b0) (no0 : v0.ownBlock ≠ some b0) (h1 : RDs w0 O0 (T_api_Cbor.enc p1) cs1), Calls Tryd.prog 34 (List.toArray [Value.pointer (some ⟨b0, 0, none⟩), Value.agg cs1.toArray]) w0 (fun e w' => ∃ (aa0 uu0 : Value), e = .returned (Value.tuple (List.toArray [])) ∧ BoxAt w' b0 72 [aa0, uu0] ∧ Slf b0 aa0 ∧ Own w' (fun x => O0 x ∨ uu0.ownBlock = some x) 5 1 uu0 (r.map (eI .u8)) ∧ (∀ b, uu0.ownBlock = some b → v0.ownBlock = some b ∨ w0.heap.size ≤ b) ∧ Ext (fun x => At b0 x ∨ (fun x => v0.ownBlock = some x) x) w0 w') := by
  induction fuel with
  | zero => intro p0 p1 r hm w0 O0 b0 a0 v0 cs1 B0 G0 hb0 hs0 h0 m0 no0 h1; cases hm
  | succ fuel ih =>
    intro p0 p1 r hm w0 O0 b0 a0 v0 cs1 B0 G0 hb0 hs0 h0 m0 no0 h1
    refine calls_of Tryd.func34 rfl 74 rfl rfl ?_
    simp only [M.cbor_laid] at hm
    have X0 := Ext.refl (fun x => At b0 x ∨ (fun x => v0.ownBlock = some x) x) w0
    obtain ⟨v1, rfl, h2⟩ := T_api_Cbor.opn h1
    refine TW.seq (TW.region ?_)
    refine OW.box rfl rfl rfl rfl rfl (cs := [Value.int .i64 p1.gKind, Value.int .i64 p1.gNum, Value.string ⟨List.toArray p1.gText⟩, v1]) rfl ?_
    intro b3 w4 hb5 x6 l7
    have t8 := Tr.of_new (O := O0) x6 (fun _ _ h => h.elim) l7
    have B10 := (B0.ext x6).ins hb5.lt
    have X9 := X0.step x6 (fun _ _ h => h.elim)
    have g11 : w0.heap.size ≤ b3 := Nat.le_trans X0.size l7
    have n12 : b0 ≠ b3 := by have := hb0.lt; omega
    have n13 : v0.ownBlock ≠ some b3 := fun h => by have := h0.lt _ h; omega
    refine OW.done (TW.seq (TW.seq (TW.region ?_)))
    refine OW.fieldAddr rfl rfl rfl rfl fld_24_0 rfl ?_
    refine OW.load1 rfl rfl rfl rfl shp_3 rfl hb5 rfl ?_
    refine OW.done (TW.block (TW.seq (TW.region ?_)))
    refine OW.binI rfl rfl rfl rfl rfl rfl rfl ?_
    refine OW.assign rfl rfl rfl rfl rfl ?_
    refine OW.done ?_
    refine TW.blk (fun K => ∀ (x25 : List Int), M.cbor_laid_k1 (fuel + 1) (M.cbor_laid fuel) p1 x25 = some r → ∀ (w14 : World) (O15 : Nat → Prop) (v23 : Value) (v26 : Value), Bd O15 w14 → Glob w14 O15 → Ext (fun x => At b0 x ∨ (fun x => v0.ownBlock = some x) x) w0 w14 → (∀ x, O0 x → O15 x) → (O15 b0) → (O15 b3) → (Slf b0 v23) → (Own w14 O15 5 1 v26 (x25.map (eI .u8))) → (∀ b, v26.ownBlock = some b → b < w0.heap.size → (fun x => At b0 x ∨ (fun x => v0.ownBlock = some x) x) b) → (BoxAt w14 b0 72 [v23, v26]) → (RD w14 O15 (D.sl 24 4 (p1.gList.map T_api_Cbor.enc)) v1) → (BoxAt w14 b3 24 [Value.int .i64 p1.gKind, Value.int .i64 p1.gNum, Value.string ⟨List.toArray p1.gText⟩, v1]) → (v26.ownBlock ≠ some b0) → (v26.ownBlock ≠ some b3) →  K [(0, Value.pointer (some ⟨b0, 0, none⟩)), (3, Value.pointer (some ⟨b3, 0, none⟩))] w14) ?_ ?_
    · intro x25 hm w14 O15 v23 v26 B16 G19 X17 lf18 m20 m21 hs24 h27 gv28 hb29 h30 hb31 n32 n33
      unfold M.cbor_laid_k1 at hm
      refine TW.inBlock (TW.seq (TW.region ?_))
      refine OW.fieldAddr rfl rfl rfl rfl fld_24_3 rfl ?_
      refine OW.load1 rfl rfl rfl rfl shp_22 rfl hb31 rfl ?_
      refine OW.lenV rfl rfl rfl rfl Tryd.underlying22 rfl (RD.len' h30) ?_
      refine OW.move rfl rfl rfl rfl rfl ?_
      refine OW.done (TW.block ?_)
      refine TW.lp (fun K => ∀ (x45 : List Int) (x51 : Int), M.cbor_laid_k2 (fuel + 1) (M.cbor_laid fuel) p1 x45 x51 = some r → ∀ (w35 : World) (O36 : Nat → Prop) (v43 : Value) (v46 : Value), Bd O36 w35 → Glob w35 O36 → Ext (fun x => At b0 x ∨ (fun x => v0.ownBlock = some x) x) w0 w35 → (∀ x, O0 x → O36 x) → (O36 b0) → (Slf b0 v43) → (Own w35 O36 5 1 v46 (x45.map (eI .u8))) → (∀ b, v46.ownBlock = some b → b < w0.heap.size → (fun x => At b0 x ∨ (fun x => v0.ownBlock = some x) x) b) → (BoxAt w35 b0 72 [v43, v46]) → (RD w35 O36 (D.sl 24 4 (p1.gList.map T_api_Cbor.enc)) v1) → (v46.ownBlock ≠ some b0) →  K [(0, Value.pointer (some ⟨b0, 0, none⟩)), (64, v1), (65, Value.int .i64 (p1.gList.length : Int)), (66, Value.int .i64 x51)] w35) ?_ ?_
      · intro K hin53 hout54
        refine fun x45 x51 hm => M.cbor_laid_k2.partial_correctness (fuel + 1) (M.cbor_laid fuel) p1 (fun x45 x51 r115 => r115 = r → ∀ (w35 : World) (O36 : Nat → Prop) (v43 : Value) (v46 : Value), Bd O36 w35 → Glob w35 O36 → Ext (fun x => At b0 x ∨ (fun x => v0.ownBlock = some x) x) w0 w35 → (∀ x, O0 x → O36 x) → (O36 b0) → (Slf b0 v43) → (Own w35 O36 5 1 v46 (x45.map (eI .u8))) → (∀ b, v46.ownBlock = some b → b < w0.heap.size → (fun x => At b0 x ∨ (fun x => v0.ownBlock = some x) x) b) → (BoxAt w35 b0 72 [v43, v46]) → (RD w35 O36 (D.sl 24 4 (p1.gList.map T_api_Cbor.enc)) v1) → (v46.ownBlock ≠ some b0) →  K [(0, Value.pointer (some ⟨b0, 0, none⟩)), (64, v1), (65, Value.int .i64 (p1.gList.length : Int)), (66, Value.int .i64 x51)] w35) ?_ x45 x51 r hm rfl
        intro self ih55 x45 x51 r115 hm hr116 w35 O36 v43 v46 B37 G40 X38 lf39 m41 hs44 h47 gv48 hb49 h50 n52
        rw [hr116] at hm
        refine hin53 _ _ ?_
        refine TW.seq (TW.region ?_)
        refine OW.binI rfl rfl rfl rfl rfl rfl rfl ?_
        refine OW.done (TW.seq ?_)
        refine TW.cond rfl (fun c56 => ?_) (fun c56 => ?_)
        · have hm := ite_t c56 hm
          refine TW.skip (TW.seq (TW.block (TW.seq (TW.region ?_))))
          obtain ⟨x57, h58, hm⟩ := bnd hm
          obtain ⟨j59, hj60, hc61⟩ := ix_some h58
          obtain ⟨b62, q63, cap64, hv65, hlt66, cs67, hl68, hcc69, hr70⟩ := RD.elem' h50 hc61
          obtain ⟨v71, rfl, h72⟩ := T_api_Cbor.opn hr70
          refine OW.indexAddrV rfl rfl rfl rfl Tryd.underlying22 shp_24 rfl hv65 rfl hj60 hlt66 ?_
          refine OW.loadCs rfl rfl rfl rfl shp_24 rfl rfl hcc69.at_ ?_
          refine OW.alloc rfl rfl rfl rfl zer_24 (cs := [Value.int .i64 0, Value.int .i64 0, Value.string ⟨List.toArray ([] : List UInt8)⟩, Value.slice none 0 0]) rfl ?_
          intro b73 w74 hb75 x76 l77
          have t78 := Tr.of_new (O := O36) x76 (fun _ _ h => h.elim) l77
          have B80 := (B37.ext x76).ins hb75.lt
          have X79 := X38.step x76 (fun _ _ h => h.elim)
          have g81 : w0.heap.size ≤ b73 := Nat.le_trans X38.size l77
          have n82 : b0 ≠ b73 := by have := hb49.lt; omega
          have n83 : v46.ownBlock ≠ some b73 := fun h => by have := h47.lt _ h; omega
          have hb84 := (hb49.keep x76 (fun h => h))
          have ho85 := (h47.keep x76 (fun _ _ h => h) t78 (fun _ h => Or.inr h))
          refine OW.store rfl rfl rfl shp_24 rfl rfl (vs := [Value.int .i64 x57.gKind, Value.int .i64 x57.gNum, Value.string ⟨List.toArray x57.gText⟩, v71]) rfl rfl hb75 rfl (one_cons rfl (one_cons rfl (one_cons rfl (one_cons (RD.one _ _ h72) one_nil)))) (cs' := [Value.int .i64 x57.gKind, Value.int .i64 x57.gNum, Value.string ⟨List.toArray x57.gText⟩, v71]) rfl ?_
          intro w86 hb87 x88
          have t89 := Tr.of_ext (O := (Ins O36 b73)) x88 (fun _ _ h => by cases h; exact (Or.inl rfl))
          have B91 := B80.ext x88
          have X90 := X79.step x88 (fun y hy h => absurd hy (by cases h; have := g81; omega))
          refine OW.done (TW.region ?_)
          refine OW.move rfl rfl rfl rfl rfl ?_
          refine OW.loadN rfl rfl rfl rfl shp_24 rfl hb87 (vs := [Value.int .i64 x57.gKind, Value.int .i64 x57.gNum, Value.string ⟨List.toArray x57.gText⟩, v71]) rfl rfl ?_
          have hb92 := (hb84.keep x88 n82)
          have ho93 := (ho85.keep x88 (fun b h e => n83 (e ▸ h)) t89 (fun _ h => h))
          have h94 := G40.tr (t78.trans t89)
          have h95 := h72.tr (t78.trans t89)
          obtain ⟨y96, hy97, hm⟩ := bnd hm
          refine OW.call rfl rfl rfl rfl rfl rfl Tryd.call34 ((ih _ _ _ hy97 _ (Ins O36 b73) _ _ _ _ B91 h94 hb92 hs44 ho93 (Or.inr m41) n52 (T_api_Cbor.shut (x := x57) h95)).mono ?_)
          rintro e w104 ⟨a98, v99, rfl, hb100, hs101, h102, h103, x105⟩
          refine CallK.ret ?_
          have t106 := Tr.of_own (O := (Ins O36 b73)) x105 (fun x hx h => h.elim (fun h => (fun _ _ h => by cases h; exact (Or.inr m41)) x hx h) (fun h => (fun b _ h => ho93.mem b h) x hx h)) (fun b h => (h103 b h).imp (fun h => ho93.mem b h) id)
          have X107 := X90.step x105 (fun x hx h => h.elim (fun h => (fun y hy h => (Or.inl h)) x hx h) (fun h => (fun y hy h => gv48 y h hy) x hx h))
          have B108 : Bd (fun x => (Ins O36 b73) x ∨ v99.ownBlock = some x) w104 := Bd.own (B91.ext x105) h102.lt
          have gv109 : ∀ b, v99.ownBlock = some b → b < w0.heap.size → (fun x => At b0 x ∨ (fun x => v0.ownBlock = some x) x) b := fun b h hl => (h103 b h).elim (fun h => gv48 b h hl) (fun h => absurd hl (by have := X90.size; omega))
          have n110 : v99.ownBlock ≠ some b0 := fun h => (h103 _ h).elim n52 (fun h => by have := hb92.lt; omega)
          have n111 : v99.ownBlock ≠ some b73 := fun h => (h103 _ h).elim n83 (fun h => by have := hb87.lt; omega)
          have ho112 : Own w104 (fun x => (Ins O36 b73) x ∨ v99.ownBlock = some x) 5 1 v99 (y96.map (eI .u8)) := h102
          refine OW.done (TW.inBlock (TW.region ?_))
          refine OW.binI rfl rfl rfl rfl rfl rfl rfl ?_
          refine OW.move rfl rfl rfl rfl rfl ?_
          refine OW.done ?_
          have h113 := h50.tr (t78.trans (t89.trans t106))
          have h114 := h94.tr t106
          exact TW.sub (Sub.cons rfl (Sub.cons rfl (Sub.cons rfl (Sub.cons rfl Sub.nil)))) (hout54 _ _ (ih55 y96 (IntKind.wrap .i64 (x51 + 1)) _ hm rfl w104 (fun x => (Ins O36 b73) x ∨ v99.ownBlock = some x) a98 v99 B108 h114 X107 (fun x h => (Or.inl (Or.inr (lf39 _ h)))) (Or.inl (Or.inr m41)) hs101 ho112 gv109 hb100 h113 n110))
        · have hm := ite_f c56 hm
          refine TW.exit rfl ?_
          cases hm
          exact TW.fin (Out.unit rfl) ⟨_, _, rfl, hb49, hs44, (h47.down (fun x h => h.elim (fun h => (lf39 _ h)) (fun h => h47.mem x h)) (fun b h => Or.inr h)), (fun c h => (Nat.lt_or_ge c w0.heap.size).elim (fun hl => Or.inl (by rcases gv48 c h hl with rfl | h2 <;> first | exact h2 | exact absurd h n52)) Or.inr), X38⟩
      · intro key117
        exact TW.sub (Sub.cons rfl (Sub.cons rfl (Sub.cons rfl (Sub.cons rfl Sub.nil)))) (key117 x25 0 hm w14 O15 v23 v26 B16 G19 X17 (fun x h => (lf18 _ h)) m20 hs24 h27 gv28 hb29 h30 n32)
    · intro key34
      refine TW.cond rfl (fun c118 => ?_) (fun c118 => ?_)
      · have hm := ite_t c118 hm
        refine TW.seq (TW.region ?_)
        refine OW.fieldAddr rfl rfl rfl rfl fld_24_1 rfl ?_
        refine OW.load1 rfl rfl rfl rfl shp_3 rfl hb5 rfl ?_
        refine OW.binI rfl rfl rfl rfl rfl rfl rfl ?_
        refine OW.done ?_
        refine TW.cond rfl (fun c119 => ?_) (fun c119 => ?_)
        · have hm := ite_t c119 hm
          refine TW.region ?_
          refine OW.move rfl rfl rfl rfl rfl ?_
          refine OW.fieldAddr rfl rfl rfl rfl fld_24_1 rfl ?_
          refine OW.load1 rfl rfl rfl rfl shp_3 rfl hb5 rfl ?_
          refine OW.unI rfl rfl rfl rfl rfl rfl ?_
          refine OW.convI rfl rfl rfl rfl Tryd.underlying3 Tryd.underlying60 rfl ?_
          have hb120 := (hb0.keep x6 (fun h => h))
          have ho121 := (h0.keep x6 (fun _ _ h => h) t8 (fun _ h => Or.inr h))
          have h122 := G0.tr t8
          obtain ⟨y123, hy124, hm⟩ := bnd hm
          refine OW.call rfl rfl rfl rfl rfl rfl Tryd.call37 ((C.cbor_head _ _ _ hy124 _ (Ins O0 b3)  B10 h122).mono ?_)
          rintro e w127 ⟨v125, rfl, h126, x128⟩
          refine CallK.ret ?_
          have t129 := Tr.of_ext (O := (Ins O0 b3)) x128 (fun _ _ h => h.elim)
          have B131 := B10.ext x128
          have X130 := X9.step x128 (fun _ _ h => h.elim)
          have hb132 := (hb120.keep x128 (fun h => h))
          have hb133 := (hb5.keep x128 (fun h => h))
          have ho134 := (ho121.keep x128 (fun _ _ h => h) t129 (fun _ h => h))
          have h135 := h122.tr t129
          obtain ⟨y136, hy137, hm⟩ := bnd hm
          refine OW.call rfl rfl rfl rfl rfl rfl Tryd.call40 ((C.strings_Builder_Write _ _ _ hy137 _ (Ins O0 b3) _ _ _ _ B131 h135 hb132 hs0 ho134 (Or.inr m0) no0 h126).mono ?_)
          rintro e w144 ⟨a138, v139, rfl, hb140, hs141, h142, h143, x145⟩
          refine CallK.ret ?_
          have t146 := Tr.of_own (O := (Ins O0 b3)) x145 (fun x hx h => h.elim (fun h => (fun _ _ h => by cases h; exact (Or.inr m0)) x hx h) (fun h => (fun b _ h => ho134.mem b h) x hx h)) (fun b h => (h143 b h).imp (fun h => ho134.mem b h) id)
          have X147 := X130.step x145 (fun x hx h => h.elim (fun h => (fun y hy h => (Or.inl h)) x hx h) (fun h => (fun y hy h => (fun b h _ => (Or.inr h)) y h hy) x hx h))
          have B148 : Bd (fun x => (Ins O0 b3) x ∨ v139.ownBlock = some x) w144 := Bd.own (B131.ext x145) h142.lt
          have gv149 : ∀ b, v139.ownBlock = some b → b < w0.heap.size → (fun x => At b0 x ∨ (fun x => v0.ownBlock = some x) x) b := fun b h hl => (h143 b h).elim (fun h => (fun b h _ => (Or.inr h)) b h hl) (fun h => absurd hl (by have := X130.size; omega))
          have n150 : v139.ownBlock ≠ some b0 := fun h => (h143 _ h).elim no0 (fun h => by have := hb132.lt; omega)
          have n151 : v139.ownBlock ≠ some b3 := fun h => (h143 _ h).elim n13 (fun h => by have := hb133.lt; omega)
          have ho152 : Own w144 (fun x => (Ins O0 b3) x ∨ v139.ownBlock = some x) 5 1 v139 (y136.2.map (eI .u8)) := h142
          refine OW.done ?_
          have h153 := h2.tr (t8.trans (t129.trans t146))
          have hb154 := (hb133.keep x145 (fun h => h.elim (fun h => (Ne.symm n12) h) (fun h => (n13) h)))
          have h155 := h135.tr t146
          exact TW.sub (Sub.cons rfl (Sub.cons rfl Sub.nil)) (key34 y136.2 hm w144 (fun x => (Ins O0 b3) x ∨ v139.ownBlock = some x) a138 v139 B148 h155 X147 (fun x h => (Or.inl (Or.inr h))) (Or.inl (Or.inr m0)) (Or.inl (Or.inl rfl)) hs141 ho152 gv149 hb140 h153 hb154 n150 n151)
        · have hm := ite_f c119 hm
          refine TW.region ?_
          refine OW.move rfl rfl rfl rfl rfl ?_
          refine OW.fieldAddr rfl rfl rfl rfl fld_24_1 rfl ?_
          refine OW.load1 rfl rfl rfl rfl shp_3 rfl hb5 rfl ?_
          refine OW.convI rfl rfl rfl rfl Tryd.underlying3 Tryd.underlying60 rfl ?_
          have hb156 := (hb0.keep x6 (fun h => h))
          have ho157 := (h0.keep x6 (fun _ _ h => h) t8 (fun _ h => Or.inr h))
          have h158 := G0.tr t8
          obtain ⟨y159, hy160, hm⟩ := bnd hm
          refine OW.call rfl rfl rfl rfl rfl rfl Tryd.call37 ((C.cbor_head _ _ _ hy160 _ (Ins O0 b3)  B10 h158).mono ?_)
          rintro e w163 ⟨v161, rfl, h162, x164⟩
          refine CallK.ret ?_
          have t165 := Tr.of_ext (O := (Ins O0 b3)) x164 (fun _ _ h => h.elim)
          have B167 := B10.ext x164
          have X166 := X9.step x164 (fun _ _ h => h.elim)
          have hb168 := (hb156.keep x164 (fun h => h))
          have hb169 := (hb5.keep x164 (fun h => h))
          have ho170 := (ho157.keep x164 (fun _ _ h => h) t165 (fun _ h => h))
          have h171 := h158.tr t165
          obtain ⟨y172, hy173, hm⟩ := bnd hm
          refine OW.call rfl rfl rfl rfl rfl rfl Tryd.call40 ((C.strings_Builder_Write _ _ _ hy173 _ (Ins O0 b3) _ _ _ _ B167 h171 hb168 hs0 ho170 (Or.inr m0) no0 h162).mono ?_)
          rintro e w180 ⟨a174, v175, rfl, hb176, hs177, h178, h179, x181⟩
          refine CallK.ret ?_
          have t182 := Tr.of_own (O := (Ins O0 b3)) x181 (fun x hx h => h.elim (fun h => (fun _ _ h => by cases h; exact (Or.inr m0)) x hx h) (fun h => (fun b _ h => ho170.mem b h) x hx h)) (fun b h => (h179 b h).imp (fun h => ho170.mem b h) id)
          have X183 := X166.step x181 (fun x hx h => h.elim (fun h => (fun y hy h => (Or.inl h)) x hx h) (fun h => (fun y hy h => (fun b h _ => (Or.inr h)) y h hy) x hx h))
          have B184 : Bd (fun x => (Ins O0 b3) x ∨ v175.ownBlock = some x) w180 := Bd.own (B167.ext x181) h178.lt
          have gv185 : ∀ b, v175.ownBlock = some b → b < w0.heap.size → (fun x => At b0 x ∨ (fun x => v0.ownBlock = some x) x) b := fun b h hl => (h179 b h).elim (fun h => (fun b h _ => (Or.inr h)) b h hl) (fun h => absurd hl (by have := X166.size; omega))
          have n186 : v175.ownBlock ≠ some b0 := fun h => (h179 _ h).elim no0 (fun h => by have := hb168.lt; omega)
          have n187 : v175.ownBlock ≠ some b3 := fun h => (h179 _ h).elim n13 (fun h => by have := hb169.lt; omega)
          have ho188 : Own w180 (fun x => (Ins O0 b3) x ∨ v175.ownBlock = some x) 5 1 v175 (y172.2.map (eI .u8)) := h178
          refine OW.done ?_
          have h189 := h2.tr (t8.trans (t165.trans t182))
          have hb190 := (hb169.keep x181 (fun h => h.elim (fun h => (Ne.symm n12) h) (fun h => (n13) h)))
          have h191 := h171.tr t182
          exact TW.sub (Sub.cons rfl (Sub.cons rfl Sub.nil)) (key34 y172.2 hm w180 (fun x => (Ins O0 b3) x ∨ v175.ownBlock = some x) a174 v175 B184 h191 X183 (fun x h => (Or.inl (Or.inr h))) (Or.inl (Or.inr m0)) (Or.inl (Or.inl rfl)) hs177 ho188 gv185 hb176 h189 hb190 n186 n187)
      · have hm := ite_f c118 hm
        refine TW.seq (TW.seq (TW.region ?_))
        refine OW.binI rfl rfl rfl rfl rfl rfl rfl ?_
        refine OW.assign rfl rfl rfl rfl rfl ?_
        refine OW.done ?_
        refine TW.blk (fun K => ∀ (x204 : Bool), M.cbor_laid_k3 (fuel + 1) (M.cbor_laid fuel) p1 p0 x204 = some r → ∀ (w192 : World) (O193 : Nat → Prop), Bd O193 w192 → Glob w192 O193 → Ext (fun x => At b0 x ∨ (fun x => v0.ownBlock = some x) x) w0 w192 → (∀ x, O0 x → O193 x) → (O193 b0) → (O193 b3) → (Own w192 O193 5 1 v0 (p0.map (eI .u8))) → (BoxAt w192 b0 72 [a0, v0]) → (RD w192 O193 (D.sl 24 4 (p1.gList.map T_api_Cbor.enc)) v1) → (BoxAt w192 b3 24 [Value.int .i64 p1.gKind, Value.int .i64 p1.gNum, Value.string ⟨List.toArray p1.gText⟩, v1]) →  K [(0, Value.pointer (some ⟨b0, 0, none⟩)), (3, Value.pointer (some ⟨b3, 0, none⟩)), (7, Value.int .i64 p1.gKind), (26, Value.bool x204)] w192) ?_ ?_
        · intro x204 hm w192 O193 B194 G197 X195 lf196 m198 m199 h200 hb201 h202 hb203
          unfold M.cbor_laid_k3 at hm
          refine TW.cond rfl (fun c206 => ?_) (fun c206 => ?_)
          · have hm := ite_t c206 hm
            refine TW.seq (TW.region ?_)
            refine OW.move rfl rfl rfl rfl rfl ?_
            refine OW.fieldAddr rfl rfl rfl rfl fld_24_0 rfl ?_
            refine OW.load1 rfl rfl rfl rfl shp_3 rfl hb203 rfl ?_
            refine OW.convI rfl rfl rfl rfl Tryd.underlying3 Tryd.underlying5 rfl ?_
            refine OW.binI rfl rfl rfl rfl rfl rfl rfl ?_
            refine OW.fieldAddr rfl rfl rfl rfl fld_24_2 rfl ?_
            refine OW.load1 rfl rfl rfl rfl shp_9 rfl hb203 rfl ?_
            refine OW.lenS rfl rfl rfl rfl Tryd.underlying9 rfl ?_
            refine OW.convI rfl rfl rfl rfl Tryd.underlying3 Tryd.underlying60 rfl ?_
            obtain ⟨y207, hy208, hm⟩ := bnd hm
            refine OW.call rfl rfl rfl rfl rfl rfl Tryd.call37 ((C.cbor_head _ _ _ hy208 _ O193  B194 G197).mono ?_)
            rintro e w211 ⟨v209, rfl, h210, x212⟩
            refine CallK.ret ?_
            have t213 := Tr.of_ext (O := O193) x212 (fun _ _ h => h.elim)
            have B215 := B194.ext x212
            have X214 := X195.step x212 (fun _ _ h => h.elim)
            have hb216 := (hb201.keep x212 (fun h => h))
            have hb217 := (hb203.keep x212 (fun h => h))
            have ho218 := (h200.keep x212 (fun _ _ h => h) t213 (fun _ h => h))
            have h219 := G197.tr t213
            obtain ⟨y220, hy221, hm⟩ := bnd hm
            refine OW.call rfl rfl rfl rfl rfl rfl Tryd.call40 ((C.strings_Builder_Write _ _ _ hy221 _ O193 _ _ _ _ B215 h219 hb216 hs0 ho218 m198 no0 h210).mono ?_)
            rintro e w228 ⟨a222, v223, rfl, hb224, hs225, h226, h227, x229⟩
            refine CallK.ret ?_
            have t230 := Tr.of_own (O := O193) x229 (fun x hx h => h.elim (fun h => (fun _ _ h => by cases h; exact m198) x hx h) (fun h => (fun b _ h => ho218.mem b h) x hx h)) (fun b h => (h227 b h).imp (fun h => ho218.mem b h) id)
            have X231 := X214.step x229 (fun x hx h => h.elim (fun h => (fun y hy h => (Or.inl h)) x hx h) (fun h => (fun y hy h => (fun b h _ => (Or.inr h)) y h hy) x hx h))
            have B232 : Bd (fun x => O193 x ∨ v223.ownBlock = some x) w228 := Bd.own (B215.ext x229) h226.lt
            have gv233 : ∀ b, v223.ownBlock = some b → b < w0.heap.size → (fun x => At b0 x ∨ (fun x => v0.ownBlock = some x) x) b := fun b h hl => (h227 b h).elim (fun h => (fun b h _ => (Or.inr h)) b h hl) (fun h => absurd hl (by have := X214.size; omega))
            have n234 : v223.ownBlock ≠ some b0 := fun h => (h227 _ h).elim no0 (fun h => by have := hb216.lt; omega)
            have n235 : v223.ownBlock ≠ some b3 := fun h => (h227 _ h).elim n13 (fun h => by have := hb217.lt; omega)
            have ho236 : Own w228 (fun x => O193 x ∨ v223.ownBlock = some x) 5 1 v223 (y220.2.map (eI .u8)) := h226
            refine OW.done (TW.region ?_)
            refine OW.move rfl rfl rfl rfl rfl ?_
            refine OW.fieldAddr rfl rfl rfl rfl fld_24_2 rfl ?_
            have hb237 := (hb217.keep x229 (fun h => h.elim (fun h => (Ne.symm n12) h) (fun h => (n13) h)))
            refine OW.load1 rfl rfl rfl rfl shp_9 rfl hb237 rfl ?_
            have h238 := h219.tr t230
            obtain ⟨y239, hy240, hm⟩ := bnd hm
            refine OW.call rfl rfl rfl rfl rfl rfl Tryd.call41 ((C.strings_Builder_WriteString _ _ _ hy240 _ (fun x => O193 x ∨ v223.ownBlock = some x) _ _ _ B232 h238 hb224 hs225 ho236 (Or.inl m198) n234).mono ?_)
            rintro e w247 ⟨a241, v242, rfl, hb243, hs244, h245, h246, x248⟩
            refine CallK.ret ?_
            have t249 := Tr.of_own (O := (fun x => O193 x ∨ v223.ownBlock = some x)) x248 (fun x hx h => h.elim (fun h => (fun _ _ h => by cases h; exact (Or.inl m198)) x hx h) (fun h => (fun b _ h => ho236.mem b h) x hx h)) (fun b h => (h246 b h).imp (fun h => ho236.mem b h) id)
            have X250 := X231.step x248 (fun x hx h => h.elim (fun h => (fun y hy h => (Or.inl h)) x hx h) (fun h => (fun y hy h => gv233 y h hy) x hx h))
            have B251 : Bd (fun x => (fun x => O193 x ∨ v223.ownBlock = some x) x ∨ v242.ownBlock = some x) w247 := Bd.own (B232.ext x248) h245.lt
            have gv252 : ∀ b, v242.ownBlock = some b → b < w0.heap.size → (fun x => At b0 x ∨ (fun x => v0.ownBlock = some x) x) b := fun b h hl => (h246 b h).elim (fun h => gv233 b h hl) (fun h => absurd hl (by have := X231.size; omega))
            have n253 : v242.ownBlock ≠ some b0 := fun h => (h246 _ h).elim n234 (fun h => by have := hb224.lt; omega)
            have n254 : v242.ownBlock ≠ some b3 := fun h => (h246 _ h).elim n235 (fun h => by have := hb237.lt; omega)
            have ho255 : Own w247 (fun x => (fun x => O193 x ∨ v223.ownBlock = some x) x ∨ v242.ownBlock = some x) 5 1 v242 (y239.2.map (eI .u8)) := h245
            refine OW.done ?_
            have h256 := h202.tr (t213.trans (t230.trans t249))
            have hb257 := (hb237.keep x248 (fun h => h.elim (fun h => (Ne.symm n12) h) (fun h => (n235) h)))
            have h258 := h238.tr t249
            exact TW.sub (Sub.cons rfl (Sub.cons rfl Sub.nil)) (key34 y239.2 hm w247 (fun x => (fun x => O193 x ∨ v223.ownBlock = some x) x ∨ v242.ownBlock = some x) a241 v242 B251 h258 X250 (fun x h => (Or.inl (Or.inl (lf196 _ h)))) (Or.inl (Or.inl m198)) (Or.inl (Or.inl m199)) hs244 ho255 gv252 hb243 h256 hb257 n253 n254)
          · have hm := ite_f c206 hm
            refine TW.seq (TW.region ?_)
            refine OW.binI rfl rfl rfl rfl rfl rfl rfl ?_
            refine OW.assign rfl rfl rfl rfl rfl ?_
            refine OW.done ?_
            refine TW.cond rfl (fun c259 => ?_) (fun c259 => ?_)
            · have hm := ite_t c259 hm
              refine TW.region ?_
              refine OW.move rfl rfl rfl rfl rfl ?_
              refine OW.fieldAddr rfl rfl rfl rfl fld_24_3 rfl ?_
              refine OW.load1 rfl rfl rfl rfl shp_22 rfl hb203 rfl ?_
              refine OW.lenV rfl rfl rfl rfl Tryd.underlying22 rfl (RD.len' h202) ?_
              refine OW.convI rfl rfl rfl rfl Tryd.underlying3 Tryd.underlying60 rfl ?_
              obtain ⟨y260, hy261, hm⟩ := bnd hm
              refine OW.call rfl rfl rfl rfl rfl rfl Tryd.call37 ((C.cbor_head _ _ _ hy261 _ O193  B194 G197).mono ?_)
              rintro e w264 ⟨v262, rfl, h263, x265⟩
              refine CallK.ret ?_
              have t266 := Tr.of_ext (O := O193) x265 (fun _ _ h => h.elim)
              have B268 := B194.ext x265
              have X267 := X195.step x265 (fun _ _ h => h.elim)
              have hb269 := (hb201.keep x265 (fun h => h))
              have hb270 := (hb203.keep x265 (fun h => h))
              have ho271 := (h200.keep x265 (fun _ _ h => h) t266 (fun _ h => h))
              have h272 := G197.tr t266
              obtain ⟨y273, hy274, hm⟩ := bnd hm
              refine OW.call rfl rfl rfl rfl rfl rfl Tryd.call40 ((C.strings_Builder_Write _ _ _ hy274 _ O193 _ _ _ _ B268 h272 hb269 hs0 ho271 m198 no0 h263).mono ?_)
              rintro e w281 ⟨a275, v276, rfl, hb277, hs278, h279, h280, x282⟩
              refine CallK.ret ?_
              have t283 := Tr.of_own (O := O193) x282 (fun x hx h => h.elim (fun h => (fun _ _ h => by cases h; exact m198) x hx h) (fun h => (fun b _ h => ho271.mem b h) x hx h)) (fun b h => (h280 b h).imp (fun h => ho271.mem b h) id)
              have X284 := X267.step x282 (fun x hx h => h.elim (fun h => (fun y hy h => (Or.inl h)) x hx h) (fun h => (fun y hy h => (fun b h _ => (Or.inr h)) y h hy) x hx h))
              have B285 : Bd (fun x => O193 x ∨ v276.ownBlock = some x) w281 := Bd.own (B268.ext x282) h279.lt
              have gv286 : ∀ b, v276.ownBlock = some b → b < w0.heap.size → (fun x => At b0 x ∨ (fun x => v0.ownBlock = some x) x) b := fun b h hl => (h280 b h).elim (fun h => (fun b h _ => (Or.inr h)) b h hl) (fun h => absurd hl (by have := X267.size; omega))
              have n287 : v276.ownBlock ≠ some b0 := fun h => (h280 _ h).elim no0 (fun h => by have := hb269.lt; omega)
              have n288 : v276.ownBlock ≠ some b3 := fun h => (h280 _ h).elim n13 (fun h => by have := hb270.lt; omega)
              have ho289 : Own w281 (fun x => O193 x ∨ v276.ownBlock = some x) 5 1 v276 (y273.2.map (eI .u8)) := h279
              refine OW.done ?_
              have h290 := h202.tr (t266.trans t283)
              have hb291 := (hb270.keep x282 (fun h => h.elim (fun h => (Ne.symm n12) h) (fun h => (n13) h)))
              have h292 := h272.tr t283
              exact TW.sub (Sub.cons rfl (Sub.cons rfl Sub.nil)) (key34 y273.2 hm w281 (fun x => O193 x ∨ v276.ownBlock = some x) a275 v276 B285 h292 X284 (fun x h => (Or.inl (lf196 _ h))) (Or.inl m198) (Or.inl m199) hs278 ho289 gv286 hb277 h290 hb291 n287 n288)
            · have hm := ite_f c259 hm
              refine TW.seq (TW.region ?_)
              refine OW.binI rfl rfl rfl rfl rfl rfl rfl ?_
              refine OW.assign rfl rfl rfl rfl rfl ?_
              refine OW.done ?_
              refine TW.cond rfl (fun c293 => ?_) (fun c293 => ?_)
              · have hm := ite_t c293 hm
                refine TW.region ?_
                refine OW.move rfl rfl rfl rfl rfl ?_
                refine OW.fieldAddr rfl rfl rfl rfl fld_24_3 rfl ?_
                refine OW.load1 rfl rfl rfl rfl shp_22 rfl hb203 rfl ?_
                refine OW.lenV rfl rfl rfl rfl Tryd.underlying22 rfl (RD.len' h202) ?_
                refine OW.quoI rfl rfl rfl rfl rfl rfl (by decide) rfl ?_
                refine OW.convI rfl rfl rfl rfl Tryd.underlying3 Tryd.underlying60 rfl ?_
                obtain ⟨y294, hy295, hm⟩ := bnd hm
                refine OW.call rfl rfl rfl rfl rfl rfl Tryd.call37 ((C.cbor_head _ _ _ hy295 _ O193  B194 G197).mono ?_)
                rintro e w298 ⟨v296, rfl, h297, x299⟩
                refine CallK.ret ?_
                have t300 := Tr.of_ext (O := O193) x299 (fun _ _ h => h.elim)
                have B302 := B194.ext x299
                have X301 := X195.step x299 (fun _ _ h => h.elim)
                have hb303 := (hb201.keep x299 (fun h => h))
                have hb304 := (hb203.keep x299 (fun h => h))
                have ho305 := (h200.keep x299 (fun _ _ h => h) t300 (fun _ h => h))
                have h306 := G197.tr t300
                obtain ⟨y307, hy308, hm⟩ := bnd hm
                refine OW.call rfl rfl rfl rfl rfl rfl Tryd.call40 ((C.strings_Builder_Write _ _ _ hy308 _ O193 _ _ _ _ B302 h306 hb303 hs0 ho305 m198 no0 h297).mono ?_)
                rintro e w315 ⟨a309, v310, rfl, hb311, hs312, h313, h314, x316⟩
                refine CallK.ret ?_
                have t317 := Tr.of_own (O := O193) x316 (fun x hx h => h.elim (fun h => (fun _ _ h => by cases h; exact m198) x hx h) (fun h => (fun b _ h => ho305.mem b h) x hx h)) (fun b h => (h314 b h).imp (fun h => ho305.mem b h) id)
                have X318 := X301.step x316 (fun x hx h => h.elim (fun h => (fun y hy h => (Or.inl h)) x hx h) (fun h => (fun y hy h => (fun b h _ => (Or.inr h)) y h hy) x hx h))
                have B319 : Bd (fun x => O193 x ∨ v310.ownBlock = some x) w315 := Bd.own (B302.ext x316) h313.lt
                have gv320 : ∀ b, v310.ownBlock = some b → b < w0.heap.size → (fun x => At b0 x ∨ (fun x => v0.ownBlock = some x) x) b := fun b h hl => (h314 b h).elim (fun h => (fun b h _ => (Or.inr h)) b h hl) (fun h => absurd hl (by have := X301.size; omega))
                have n321 : v310.ownBlock ≠ some b0 := fun h => (h314 _ h).elim no0 (fun h => by have := hb303.lt; omega)
                have n322 : v310.ownBlock ≠ some b3 := fun h => (h314 _ h).elim n13 (fun h => by have := hb304.lt; omega)
                have ho323 : Own w315 (fun x => O193 x ∨ v310.ownBlock = some x) 5 1 v310 (y307.2.map (eI .u8)) := h313
                refine OW.done ?_
                have h324 := h202.tr (t300.trans t317)
                have hb325 := (hb304.keep x316 (fun h => h.elim (fun h => (Ne.symm n12) h) (fun h => (n13) h)))
                have h326 := h306.tr t317
                exact TW.sub (Sub.cons rfl (Sub.cons rfl Sub.nil)) (key34 y307.2 hm w315 (fun x => O193 x ∨ v310.ownBlock = some x) a309 v310 B319 h326 X318 (fun x h => (Or.inl (lf196 _ h))) (Or.inl m198) (Or.inl m199) hs312 ho323 gv320 hb311 h324 hb325 n321 n322)
              · have hm := ite_f c293 hm
                refine TW.skip ?_
                exact TW.sub (Sub.cons rfl (Sub.cons rfl Sub.nil)) (key34 p0 hm w192 O193 a0 v0 B194 G197 X195 (fun x h => (lf196 _ h)) m198 m199 hs0 h200 (fun b h _ => (Or.inr h)) hb201 h202 hb203 no0 n13)
        · intro key205
          refine TW.cond rfl (fun c327 => ?_) (fun c327 => ?_)
          · have hm := ite_t c327 hm
            refine TW.skip ?_
            have ho328 := (h0.keep x6 (fun _ _ h => h) t8 (fun _ h => Or.inr h))
            have hb329 := (hb0.keep x6 (fun h => h))
            have h330 := h2.tr t8
            have h331 := G0.tr t8
            exact TW.sub (Sub.cons rfl (Sub.cons rfl (Sub.cons rfl (Sub.cons rfl Sub.nil)))) (key205 (decide (p1.gKind = 1)) hm w4 (Ins O0 b3) B10 h331 X9 (fun x h => (Or.inr h)) (Or.inr m0) (Or.inl rfl) ho328 hb329 h330 hb5)
          · have hm := ite_f c327 hm
            refine TW.region ?_
            refine OW.binI rfl rfl rfl rfl rfl rfl rfl ?_
            refine OW.assign rfl rfl rfl rfl rfl ?_
            refine OW.done ?_
            have ho332 := (h0.keep x6 (fun _ _ h => h) t8 (fun _ h => Or.inr h))
            have hb333 := (hb0.keep x6 (fun h => h))
            have h334 := h2.tr t8
            have h335 := G0.tr t8
            exact TW.sub (Sub.cons rfl (Sub.cons rfl (Sub.cons rfl (Sub.cons rfl Sub.nil)))) (key205 (decide (p1.gKind = 2)) hm w4 (Ins O0 b3) B10 h335 X9 (fun x h => (Or.inr h)) (Or.inr m0) (Or.inl rfl) ho332 hb333 h334 hb5)
set_option maxRecDepth 1000000 in
set_option maxHeartbeats 4000000 in
theorem C.cbor_told (fuel : Nat) : ∀ (p0 : T_api_Cbor) (r : (List UInt8)), M.cbor_told fuel p0 = some r → ∀ (w0 : World) (O0 : Nat → Prop) (cs0 : List Value) (B0 : Bd O0 w0) (G0 : Glob w0 O0) (h0 : RDs w0 O0 (T_api_Cbor.enc p0) cs0), Calls Tryd.prog 26 (List.toArray [Value.agg cs0.toArray]) w0 (fun e w' => e = .returned (Value.string ⟨List.toArray r⟩) ∧ Ext Nowhere w0 w') := by
  intro p0 r hm w0 O0 cs0 B0 G0 h0
  refine calls_of Tryd.func26 rfl 7 rfl rfl ?_
  unfold M.cbor_told at hm
  have X0 := Ext.refl Nowhere w0
  obtain ⟨v1, rfl, h2⟩ := T_api_Cbor.opn h0
  refine TW.seq (TW.region ?_)
  refine OW.box rfl rfl rfl rfl rfl (cs := [Value.int .i64 p0.gKind, Value.int .i64 p0.gNum, Value.string ⟨List.toArray p0.gText⟩, v1]) rfl ?_
  intro b3 w4 hb5 x6 l7
  have t8 := Tr.of_new (O := O0) x6 (fun _ _ h => h.elim) l7
  have B10 := (B0.ext x6).ins hb5.lt
  have X9 := X0.step x6 (fun _ _ h => h.elim)
  have g11 : w0.heap.size ≤ b3 := Nat.le_trans X0.size l7
  refine OW.assign rfl rfl rfl rfl rfl ?_
  refine OW.done (TW.seq (TW.region ?_))
  refine OW.alloc rfl rfl rfl rfl zer_72 (cs := [Value.pointer none, Value.slice none 0 0]) rfl ?_
  intro b12 w13 hb14 x15 l16
  have t17 := Tr.of_new (O := (Ins O0 b3)) x15 (fun _ _ h => h.elim) l16
  have B19 := (B10.ext x15).ins hb14.lt
  have X18 := X9.step x15 (fun _ _ h => h.elim)
  have g20 : w0.heap.size ≤ b12 := Nat.le_trans X9.size l16
  have n21 : b3 ≠ b12 := by have := hb5.lt; omega
  refine OW.done (TW.seq (TW.region ?_))
  have hb22 := (hb5.keep x15 (fun h => h))
  refine OW.loadN rfl rfl rfl rfl shp_24 rfl hb22 (vs := [Value.int .i64 p0.gKind, Value.int .i64 p0.gNum, Value.string ⟨List.toArray p0.gText⟩, v1]) rfl rfl ?_
  have ho23 := Own.nil' (α := Int) (f := (eI .u8)) w13 (Ins (Ins O0 b3) b12) 5 1
  have h24 := G0.tr (t8.trans t17)
  have h25 := h2.tr (t8.trans t17)
  obtain ⟨y26, hy27, hm⟩ := bnd hm
  refine OW.call rfl rfl rfl rfl rfl rfl Tryd.call34 ((C.cbor_laid _ _ _ _ hy27 _ (Ins (Ins O0 b3) b12) _ _ _ _ B19 h24 hb14 (Or.inl rfl) ho23 (Or.inl rfl) (fun h => by cases h) (T_api_Cbor.shut (x := p0) h25)).mono ?_)
  rintro e w34 ⟨a28, v29, rfl, hb30, hs31, h32, h33, x35⟩
  refine CallK.ret ?_
  have t36 := Tr.of_own (O := (Ins (Ins O0 b3) b12)) x35 (fun x hx h => h.elim (fun h => (fun _ _ h => by cases h; exact (Or.inl rfl)) x hx h) (fun h => (fun b _ h => ho23.mem b h) x hx h)) (fun b h => (h33 b h).imp (fun h => ho23.mem b h) id)
  have X37 := X18.step x35 (fun x hx h => h.elim (fun h => (fun y hy h => absurd hy (by cases h; have := g20; omega)) x hx h) (fun h => (fun y hy h => (fun b h _ => by cases h) y h hy) x hx h))
  have B38 : Bd (fun x => (Ins (Ins O0 b3) b12) x ∨ v29.ownBlock = some x) w34 := Bd.own (B19.ext x35) h32.lt
  have gv39 : ∀ b, v29.ownBlock = some b → b < w0.heap.size → Nowhere b := fun b h hl => (h33 b h).elim (fun h => (fun b h _ => by cases h) b h hl) (fun h => absurd hl (by have := X18.size; omega))
  have n40 : v29.ownBlock ≠ some b3 := fun h => (h33 _ h).elim (fun h => by cases h) (fun h => by have := hb22.lt; omega)
  have n41 : v29.ownBlock ≠ some b12 := fun h => (h33 _ h).elim (fun h => by cases h) (fun h => by have := hb14.lt; omega)
  have ho42 : Own w34 (fun x => (Ins (Ins O0 b3) b12) x ∨ v29.ownBlock = some x) 5 1 v29 (y26.map (eI .u8)) := h32
  refine OW.done (TW.seq (TW.region ?_))
  have hb43 := (hb22.keep x35 (fun h => h.elim (fun h => n21 h) (fun h => ((fun h => by cases h)) h)))
  have h44 := h24.tr t36
  obtain ⟨y45, hy46, hm⟩ := bnd hm
  refine OW.call rfl rfl rfl rfl rfl rfl Tryd.call35 ((C.strings_Builder_String _ _ hy46 _ (fun x => (Ins (Ins O0 b3) b12) x ∨ v29.ownBlock = some x) _ _ _ B38 h44 hb30 hs31 ho42 (Or.inl (Or.inl rfl)) n41).mono ?_)
  rintro e w47 ⟨rfl, x48⟩
  refine CallK.ret ?_
  have t49 := Tr.of_ext (O := (fun x => (Ins (Ins O0 b3) b12) x ∨ v29.ownBlock = some x)) x48 (fun x hx h => h.elim (fun h => (fun _ _ h => by cases h; exact (Or.inl (Or.inl rfl))) x hx h) (fun h => (fun b _ h => ho42.mem b h) x hx h))
  have B51 := B38.ext x48
  have X50 := X37.step x48 (fun x hx h => h.elim (fun h => (fun y hy h => absurd hy (by cases h; have := g20; omega)) x hx h) (fun h => (fun y hy h => gv39 y h hy) x hx h))
  refine OW.assign rfl rfl rfl rfl rfl ?_
  refine OW.done ?_
  cases hm
  exact TW.ret (Out.one rfl rfl) ⟨rfl, X50⟩
set_option maxRecDepth 1000000 in
set_option maxHeartbeats 4000000 in
theorem C.cbor_key (fuel : Nat) : ∀ (p0 : T_api_Cbor) (p1 : List UInt8) (r : (List UInt8) × Bool), M.cbor_key fuel p0 p1 = some r → ∀ (w0 : World) (O0 : Nat → Prop) (cs0 : List Value) (B0 : Bd O0 w0) (G0 : Glob w0 O0) (h0 : RDs w0 O0 (T_api_Cbor.enc p0) cs0), Calls Tryd.prog 32 (List.toArray [Value.agg cs0.toArray, Value.string ⟨List.toArray p1⟩]) w0 (fun e w' => e = .returned (Value.tuple (List.toArray [Value.string ⟨List.toArray r.1⟩, Value.bool r.2])) ∧ Ext Nowhere w0 w') := by
  intro p0 p1 r hm w0 O0 cs0 B0 G0 h0
  refine calls_of Tryd.func32 rfl 26 rfl rfl ?_
  unfold M.cbor_key at hm
  have X0 := Ext.refl Nowhere w0
  obtain ⟨v1, rfl, h2⟩ := T_api_Cbor.opn h0
  refine TW.seq (TW.region ?_)
  refine OW.box rfl rfl rfl rfl rfl (cs := [Value.int .i64 p0.gKind, Value.int .i64 p0.gNum, Value.string ⟨List.toArray p0.gText⟩, v1]) rfl ?_
  intro b3 w4 hb5 x6 l7
  have t8 := Tr.of_new (O := O0) x6 (fun _ _ h => h.elim) l7
  have B10 := (B0.ext x6).ins hb5.lt
  have X9 := X0.step x6 (fun _ _ h => h.elim)
  have g11 : w0.heap.size ≤ b3 := Nat.le_trans X0.size l7
  refine OW.assign rfl rfl rfl rfl rfl ?_
  refine OW.assign rfl rfl rfl rfl rfl ?_
  refine OW.done (TW.seq (TW.seq (TW.region ?_)))
  refine OW.fieldAddr rfl rfl rfl rfl fld_24_0 rfl ?_
  refine OW.load1 rfl rfl rfl rfl shp_3 rfl hb5 rfl ?_
  refine OW.binI rfl rfl rfl rfl rfl rfl rfl ?_
  refine OW.move rfl rfl rfl rfl rfl ?_
  refine OW.blk 4 (fun K => K [(14, Value.bool ((!decide (p0.gKind = 0)) && (!decide (p0.gKind = 2)))), (1, Value.string ⟨List.toArray p1⟩), (2, Value.pointer (some ⟨b3, 0, none⟩)), (7, Value.pointer (some ⟨b3, 0 + 0, none⟩)), (8, Value.int .i64 p0.gKind), (9, Value.bool (!decide (p0.gKind = 0))), (10, Value.bool (!decide (p0.gKind = 0)))] w4) ?_ ?_
  · show OW _ _ _ _ _ _ _ _
    refine OW.move rfl rfl rfl rfl rfl ?_
    obtain ⟨x25, hx26, hm⟩ := bnd hm
    refine OW.blk 4 (fun K => ∀ (w16 : World) (O17 : Nat → Prop), Bd O17 w16 → Glob w16 O17 → Ext Nowhere w0 w16 → (∀ x, O0 x → O17 x) → (O17 b3) → (RD w16 O17 (D.sl 24 4 (p0.gList.map T_api_Cbor.enc)) v1) → (BoxAt w16 b3 24 [Value.int .i64 p0.gKind, Value.int .i64 p0.gNum, Value.string ⟨List.toArray p0.gText⟩, v1]) →  K [(1, Value.string ⟨List.toArray p1⟩), (2, Value.pointer (some ⟨b3, 0, none⟩)), (7, Value.pointer (some ⟨b3, 0 + 0, none⟩)), (8, Value.int .i64 p0.gKind), (9, Value.bool (!decide (p0.gKind = 0))), (10, Value.bool (!decide (p0.gKind = 0))), (14, Value.bool ((!decide (p0.gKind = 0)) && (!decide (p0.gKind = 2)))), (15, Value.bool ((!decide (p0.gKind = 0)) && (!decide (p0.gKind = 2)))), (19, Value.bool x25)] w16) ?_ ?_
    · intro w16 O17 B18 G21 X19 lf20 m22 h23 hb24
      show OW _ _ _ _ _ _ _ _
      refine OW.done ?_
      refine TW.cond rfl (fun c43 => ?_) (fun c43 => ?_)
      · have hm := ite_t c43 hm
        refine TW.seq (TW.region ?_)
        refine OW.assign rfl rfl rfl rfl rfl ?_
        refine OW.assign rfl rfl rfl rfl rfl ?_
        refine OW.done ?_
        cases hm
        exact TW.ret (Out.many rfl ⟨_, _, rfl, rfl, ⟨_, _, rfl, rfl, rfl⟩⟩ rfl) ⟨rfl, X19⟩
      · have hm := ite_f c43 hm
        refine TW.skip (TW.seq (TW.region ?_))
        refine OW.loadN rfl rfl rfl rfl shp_24 rfl hb24 (vs := [Value.int .i64 p0.gKind, Value.int .i64 p0.gNum, Value.string ⟨List.toArray p0.gText⟩, v1]) rfl rfl ?_
        obtain ⟨y44, hy45, hm⟩ := bnd hm
        refine OW.call rfl rfl rfl rfl rfl rfl Tryd.call26 ((C.cbor_told _ _ _ hy45 _ O17 _ B18 G21 (T_api_Cbor.shut (x := p0) h23)).mono ?_)
        rintro e w46 ⟨rfl, x47⟩
        refine CallK.ret ?_
        have t48 := Tr.of_ext (O := O17) x47 (fun _ _ h => h.elim)
        have B50 := B18.ext x47
        have X49 := X19.step x47 (fun _ _ h => h.elim)
        refine OW.assign rfl rfl rfl rfl rfl ?_
        refine OW.done (TW.seq (TW.region ?_))
        refine OW.move rfl rfl rfl rfl rfl ?_
        refine OW.move rfl rfl rfl rfl rfl ?_
        refine OW.move rfl rfl rfl rfl rfl ?_
        refine OW.binS rfl rfl rfl rfl rfl rfl rfl ?_
        refine OW.assign rfl rfl rfl rfl rfl ?_
        refine OW.assign rfl rfl rfl rfl rfl ?_
        refine OW.done ?_
        cases hm
        exact TW.ret (Out.many rfl ⟨_, _, rfl, rfl, ⟨_, _, rfl, rfl, rfl⟩⟩ rfl) ⟨rfl, X49⟩
    · intro key27
      rcases c28 : ((!decide (p0.gKind = 0)) && (!decide (p0.gKind = 2))) with _ | _
      · have hm := ite_f c28 hx26
        try simp only [c28] at key27
        refine OW.yes rfl rfl rfl ?_
        refine OW.loadN rfl rfl rfl rfl shp_24 rfl hb5 (vs := [Value.int .i64 p0.gKind, Value.int .i64 p0.gNum, Value.string ⟨List.toArray p0.gText⟩, v1]) rfl rfl ?_
        refine OW.yes rfl rfl rfl ?_
        have h31 := G0.tr t8
        have h32 := h2.tr t8
        obtain ⟨y33, hy34, hm⟩ := bnd hm
        refine OW.call rfl rfl rfl rfl rfl rfl Tryd.call36 ((C.cbor_fields _ _ hy34 _ (Ins O0 b3) _ B10 h31 (T_api_Cbor.shut (x := p0) h32)).mono ?_)
        rintro e w35 ⟨rfl, x36⟩
        refine CallK.ret ?_
        have t37 := Tr.of_ext (O := (Ins O0 b3)) x36 (fun _ _ h => h.elim)
        have B39 := B10.ext x36
        have X38 := X9.step x36 (fun _ _ h => h.elim)
        refine OW.yes rfl rfl rfl ?_
        refine OW.notB rfl rfl rfl rfl rfl ?_
        refine OW.pick_f rfl rfl rfl rfl rfl rfl ?_
        cases hm
        have h40 := h32.tr t37
        have hb41 := (hb5.keep x36 (fun h => h))
        have h42 := h31.tr t37
        exact OW.sub (Sub.cons rfl (Sub.cons rfl (Sub.cons rfl (Sub.cons rfl (Sub.cons rfl (Sub.cons rfl (Sub.cons rfl (Sub.cons rfl (Sub.cons rfl Sub.nil))))))))) (key27 w35 (Ins O0 b3) B39 h42 X38 (fun x h => (Or.inr h)) (Or.inl rfl) h40 hb41)
      · have hm := ite_t c28 hx26
        try simp only [c28] at key27
        refine OW.not rfl rfl rfl rfl rfl rfl ?_
        refine OW.not rfl rfl rfl rfl rfl rfl ?_
        refine OW.not rfl rfl rfl rfl rfl rfl ?_
        refine OW.pick_t rfl rfl rfl rfl rfl rfl ?_
        cases hm
        have h29 := h2.tr t8
        have h30 := G0.tr t8
        exact OW.sub (Sub.cons rfl (Sub.cons rfl (Sub.cons rfl (Sub.cons rfl (Sub.cons rfl (Sub.cons rfl (Sub.cons rfl (Sub.cons rfl (Sub.cons rfl Sub.nil))))))))) (key27 w4 (Ins O0 b3) B10 h30 X9 (fun x h => (Or.inr h)) (Or.inl rfl) h29 hb5)
  · intro key14
    cases c13 : (!decide (p0.gKind = 0))
    · try simp only [c13] at key14
      refine OW.not rfl rfl rfl rfl rfl rfl ?_
      refine OW.not rfl rfl rfl rfl rfl rfl ?_
      refine OW.not rfl rfl rfl rfl rfl rfl ?_
      refine OW.pick_f rfl rfl rfl rfl rfl rfl ?_
      exact OW.sub (Sub.cons rfl (Sub.cons rfl (Sub.cons rfl (Sub.cons rfl (Sub.cons rfl (Sub.cons rfl (Sub.cons rfl Sub.nil))))))) key14
    · try simp only [c13] at key14
      refine OW.yes rfl rfl rfl ?_
      refine OW.fieldAddr rfl rfl rfl rfl fld_24_0 rfl ?_
      refine OW.yes rfl rfl rfl ?_
      refine OW.load1 rfl rfl rfl rfl shp_3 rfl hb5 rfl ?_
      refine OW.yes rfl rfl rfl ?_
      refine OW.binI rfl rfl rfl rfl rfl rfl rfl ?_
      refine OW.pick_t rfl rfl rfl rfl rfl rfl ?_
      exact OW.sub (Sub.cons rfl (Sub.cons rfl (Sub.cons rfl (Sub.cons rfl (Sub.cons rfl (Sub.cons rfl (Sub.cons rfl Sub.nil))))))) key14
set_option maxRecDepth 1000000 in
set_option maxHeartbeats 4000000 in
theorem C.cbor_reader_item (fuel : Nat) : ∀ (p0 : T_cbor_reader) (p1 : Int) (r : Res (T_api_Cbor × T_cbor_reader)), M.cbor_reader_item fuel p0 p1 = some r → ∀ (w0 : World) (O0 : Nat → Prop) (b0 : Nat) (cs0 : List Value) (B0 : Bd O0 w0) (G0 : Glob w0 O0) (hb0 : BoxAt w0 b0 44 cs0) (h0 : RDs w0 O0 (T_cbor_reader.enc p0) cs0) (m0 : O0 b0), Calls Tryd.prog 18 (List.toArray [Value.pointer (some ⟨b0, 0, none⟩), Value.int .i64 p1]) w0 (PR (At b0) w0 (fun a e w' => ∃ (us0 : List Value) (ds0 : List Value), e = .returned (Value.agg us0.toArray) ∧ RDs w' O0 (T_api_Cbor.enc a.1) us0 ∧ BoxAt w' b0 44 ds0 ∧ RDs w' O0 (T_cbor_reader.enc a.2) ds0 ∧ Ext (At b0) w0 w') r) := by
  induction fuel with
  | zero => intro p0 p1 r hm w0 O0 b0 cs0 B0 G0 hb0 h0 m0; cases hm
  | succ fuel ih =>
    intro p0 p1 r hm w0 O0 b0 cs0 B0 G0 hb0 h0 m0
    refine calls_of Tryd.func18 rfl 89 rfl rfl ?_
    simp only [M.cbor_reader_item] at hm
    have X0 := Ext.refl (At b0) w0
    obtain rfl := T_cbor_reader.opn h0
    refine TW.seq (TW.region ?_)
    refine OW.alloc rfl rfl rfl rfl zer_24 (cs := [Value.int .i64 0, Value.int .i64 0, Value.string ⟨List.toArray ([] : List UInt8)⟩, Value.slice none 0 0]) rfl ?_
    intro b1 w2 hb3 x4 l5
    have t6 := Tr.of_new (O := O0) x4 (fun _ _ h => h.elim) l5
    have B8 := (B0.ext x4).ins hb3.lt
    have X7 := X0.step x4 (fun _ _ h => h.elim)
    have g9 : w0.heap.size ≤ b1 := Nat.le_trans X0.size l5
    have n10 : b0 ≠ b1 := by have := hb0.lt; omega
    refine OW.done (TW.seq (TW.region ?_))
    refine OW.move rfl rfl rfl rfl rfl ?_
    have hb11 := (hb0.keep x4 (fun h => h))
    have h12 := G0.tr t6
    obtain ⟨y13, hy14, hm⟩ := bnd hm
    rcases y13 with a15 | pv16
    · dsimp only at hm
      refine OW.call rfl rfl rfl rfl rfl rfl Tryd.call28 ((C.cbor_reader_head _ _ hy14 _ (Ins O0 b1) _ _ B8 h12 hb11 (T_cbor_reader.shut (x := p0)) (Or.inr m0)).mono ?_)
      rintro e w20 ⟨cs17, rfl, hb18, h19, x21⟩
      obtain rfl := T_cbor_reader.opn h19
      refine CallK.ret ?_
      have t22 := Tr.of_ext (O := (Ins O0 b1)) x21 (fun _ _ h => by cases h; exact (Or.inr m0))
      have B24 := B8.ext x21
      have X23 := X7.step x21 (fun y hy h => h)
      refine OW.move rfl rfl rfl rfl rfl ?_
      refine OW.extract rfl rfl rfl rfl rfl rfl ?_
      refine OW.extract rfl rfl rfl rfl rfl rfl ?_
      refine OW.assign rfl rfl rfl rfl rfl ?_
      refine OW.assign rfl rfl rfl rfl rfl ?_
      refine OW.done (TW.seq (TW.seq (TW.region ?_)))
      refine OW.move rfl rfl rfl rfl rfl ?_
      refine OW.done (TW.block (TW.seq (TW.region ?_)))
      refine OW.binI rfl rfl rfl rfl rfl rfl rfl ?_
      refine OW.assign rfl rfl rfl rfl rfl ?_
      refine OW.done ?_
      refine TW.cond rfl (fun c25 => ?_) (fun c25 => ?_)
      · have hm := ite_t c25 hm
        refine TW.seq (TW.region ?_)
        refine OW.move rfl rfl rfl rfl rfl ?_
        refine OW.convI rfl rfl rfl rfl Tryd.underlying60 Tryd.underlying3 rfl ?_
        refine OW.build rfl rfl rfl rfl rfl (cs := [Value.int .i64 0, Value.int .i64 (IntKind.wrap .i64 a15.2.1), Value.string ⟨List.toArray ([] : List UInt8)⟩, Value.slice none 0 0]) rfl ?_
        have hb26 := (hb3.keep x21 (Ne.symm n10))
        refine OW.store rfl rfl rfl shp_24 rfl rfl (vs := [Value.int .i64 0, Value.int .i64 (IntKind.wrap .i64 a15.2.1), Value.string ⟨List.toArray ([] : List UInt8)⟩, Value.slice none 0 0]) rfl rfl hb26 rfl (one_cons rfl (one_cons rfl (one_cons rfl (one_cons rfl one_nil)))) (cs' := [Value.int .i64 0, Value.int .i64 (IntKind.wrap .i64 a15.2.1), Value.string ⟨List.toArray ([] : List UInt8)⟩, Value.slice none 0 0]) rfl ?_
        intro w27 hb28 x29
        have t30 := Tr.of_ext (O := (Ins O0 b1)) x29 (fun _ _ h => by cases h; exact (Or.inl rfl))
        have B32 := B24.ext x29
        have X31 := X23.step x29 (fun y hy h => absurd hy (by cases h; have := g9; omega))
        refine OW.done ?_
        have hb33 := (hb18.keep x29 n10)
        cases hm
        exact TW.ret (Out.cell rfl rfl shp_24 hb28 rfl) ⟨_, _, rfl, (T_api_Cbor.shut (x := (T_api_Cbor.mk 0 (IntKind.wrap .i64 a15.2.1) ([] : List UInt8) [])) RD.nil), hb33, (T_cbor_reader.shut (x := a15.2.2)), X31⟩
      · have hm := ite_f c25 hm
        refine TW.seq (TW.region ?_)
        refine OW.binI rfl rfl rfl rfl rfl rfl rfl ?_
        refine OW.assign rfl rfl rfl rfl rfl ?_
        refine OW.done ?_
        refine TW.cond rfl (fun c34 => ?_) (fun c34 => ?_)
        · have hm := ite_t c34 hm
          refine TW.seq (TW.region ?_)
          refine OW.move rfl rfl rfl rfl rfl ?_
          refine OW.convI rfl rfl rfl rfl Tryd.underlying60 Tryd.underlying3 rfl ?_
          refine OW.unI rfl rfl rfl rfl rfl rfl ?_
          refine OW.build rfl rfl rfl rfl rfl (cs := [Value.int .i64 0, Value.int .i64 (notI .i64 (IntKind.wrap .i64 a15.2.1)), Value.string ⟨List.toArray ([] : List UInt8)⟩, Value.slice none 0 0]) rfl ?_
          have hb35 := (hb3.keep x21 (Ne.symm n10))
          refine OW.store rfl rfl rfl shp_24 rfl rfl (vs := [Value.int .i64 0, Value.int .i64 (notI .i64 (IntKind.wrap .i64 a15.2.1)), Value.string ⟨List.toArray ([] : List UInt8)⟩, Value.slice none 0 0]) rfl rfl hb35 rfl (one_cons rfl (one_cons rfl (one_cons rfl (one_cons rfl one_nil)))) (cs' := [Value.int .i64 0, Value.int .i64 (notI .i64 (IntKind.wrap .i64 a15.2.1)), Value.string ⟨List.toArray ([] : List UInt8)⟩, Value.slice none 0 0]) rfl ?_
          intro w36 hb37 x38
          have t39 := Tr.of_ext (O := (Ins O0 b1)) x38 (fun _ _ h => by cases h; exact (Or.inl rfl))
          have B41 := B24.ext x38
          have X40 := X23.step x38 (fun y hy h => absurd hy (by cases h; have := g9; omega))
          refine OW.done ?_
          have hb42 := (hb18.keep x38 n10)
          cases hm
          exact TW.ret (Out.cell rfl rfl shp_24 hb37 rfl) ⟨_, _, rfl, (T_api_Cbor.shut (x := (T_api_Cbor.mk 0 (notI .i64 (IntKind.wrap .i64 a15.2.1)) ([] : List UInt8) [])) RD.nil), hb42, (T_cbor_reader.shut (x := a15.2.2)), X40⟩
        · have hm := ite_f c34 hm
          refine TW.seq (TW.region ?_)
          refine OW.binI rfl rfl rfl rfl rfl rfl rfl ?_
          refine OW.assign rfl rfl rfl rfl rfl ?_
          refine OW.done ?_
          refine TW.cond rfl (fun c43 => ?_) (fun c43 => ?_)
          · have hm := ite_t c43 hm
            refine TW.seq (TW.region ?_)
            refine OW.move rfl rfl rfl rfl rfl ?_
            refine OW.move rfl rfl rfl rfl rfl ?_
            have hb44 := (hb3.keep x21 (Ne.symm n10))
            have h45 := h12.tr t22
            obtain ⟨y46, hy47, hm⟩ := bnd hm
            rcases y46 with a48 | pv49
            · dsimp only at hm
              refine OW.call rfl rfl rfl rfl rfl rfl Tryd.call29 ((C.cbor_reader_take _ _ _ hy47 _ (Ins O0 b1) _ _ B24 h45 hb18 (T_cbor_reader.shut (x := a15.2.2)) (Or.inr m0)).mono ?_)
              rintro e w53 ⟨cs50, rfl, hb51, h52, x54⟩
              obtain rfl := T_cbor_reader.opn h52
              refine CallK.ret ?_
              have t55 := Tr.of_ext (O := (Ins O0 b1)) x54 (fun _ _ h => by cases h; exact (Or.inr m0))
              have B57 := B24.ext x54
              have X56 := X23.step x54 (fun y hy h => h)
              refine OW.build rfl rfl rfl rfl rfl (cs := [Value.int .i64 1, Value.int .i64 0, Value.string ⟨List.toArray a48.1⟩, Value.slice none 0 0]) rfl ?_
              have hb58 := (hb44.keep x54 (Ne.symm n10))
              refine OW.store rfl rfl rfl shp_24 rfl rfl (vs := [Value.int .i64 1, Value.int .i64 0, Value.string ⟨List.toArray a48.1⟩, Value.slice none 0 0]) rfl rfl hb58 rfl (one_cons rfl (one_cons rfl (one_cons rfl (one_cons rfl one_nil)))) (cs' := [Value.int .i64 1, Value.int .i64 0, Value.string ⟨List.toArray a48.1⟩, Value.slice none 0 0]) rfl ?_
              intro w59 hb60 x61
              have t62 := Tr.of_ext (O := (Ins O0 b1)) x61 (fun _ _ h => by cases h; exact (Or.inl rfl))
              have B64 := B57.ext x61
              have X63 := X56.step x61 (fun y hy h => absurd hy (by cases h; have := g9; omega))
              refine OW.done ?_
              have hb65 := (hb51.keep x61 n10)
              cases hm
              exact TW.ret (Out.cell rfl rfl shp_24 hb60 rfl) ⟨_, _, rfl, (T_api_Cbor.shut (x := (T_api_Cbor.mk 1 0 a48.1 [])) RD.nil), hb65, (T_cbor_reader.shut (x := a48.2)), X63⟩
            · dsimp only at hm
              cases hm
              refine OW.call rfl rfl rfl rfl rfl rfl Tryd.call29 ((C.cbor_reader_take _ _ _ hy47 _ (Ins O0 b1) _ _ B24 h45 hb18 (T_cbor_reader.shut (x := a15.2.2)) (Or.inr m0)).mono ?_)
              rintro e w66 ⟨rfl, x67⟩
              exact CallK.pan ⟨rfl, X23.step x67 (fun y hy h => h)⟩
          · have hm := ite_f c43 hm
            refine TW.seq (TW.region ?_)
            refine OW.binI rfl rfl rfl rfl rfl rfl rfl ?_
            refine OW.assign rfl rfl rfl rfl rfl ?_
            refine OW.done ?_
            refine TW.cond rfl (fun c68 => ?_) (fun c68 => ?_)
            · have hm := ite_t c68 hm
              refine TW.seq (TW.region ?_)
              refine OW.move rfl rfl rfl rfl rfl ?_
              refine OW.move rfl rfl rfl rfl rfl ?_
              have hb69 := (hb3.keep x21 (Ne.symm n10))
              have h70 := h12.tr t22
              obtain ⟨y71, hy72, hm⟩ := bnd hm
              rcases y71 with a73 | pv74
              · dsimp only at hm
                refine OW.call rfl rfl rfl rfl rfl rfl Tryd.call29 ((C.cbor_reader_take _ _ _ hy72 _ (Ins O0 b1) _ _ B24 h70 hb18 (T_cbor_reader.shut (x := a15.2.2)) (Or.inr m0)).mono ?_)
                rintro e w78 ⟨cs75, rfl, hb76, h77, x79⟩
                obtain rfl := T_cbor_reader.opn h77
                refine CallK.ret ?_
                have t80 := Tr.of_ext (O := (Ins O0 b1)) x79 (fun _ _ h => by cases h; exact (Or.inr m0))
                have B82 := B24.ext x79
                have X81 := X23.step x79 (fun y hy h => h)
                refine OW.build rfl rfl rfl rfl rfl (cs := [Value.int .i64 2, Value.int .i64 0, Value.string ⟨List.toArray a73.1⟩, Value.slice none 0 0]) rfl ?_
                have hb88 := (hb69.keep x79 (Ne.symm n10))
                refine OW.alloc rfl rfl rfl rfl zer_24 (cs := [Value.int .i64 0, Value.int .i64 0, Value.string ⟨List.toArray ([] : List UInt8)⟩, Value.slice none 0 0]) rfl ?_
                intro b83 w84 hb85 x86 l87
                have t89 := Tr.of_new (O := (Ins O0 b1)) x86 (fun _ _ h => h.elim) l87
                have B91 := (B82.ext x86).ins hb85.lt
                have X90 := X81.step x86 (fun _ _ h => h.elim)
                have g92 : w0.heap.size ≤ b83 := Nat.le_trans X81.size l87
                have n93 : b0 ≠ b83 := by have := hb76.lt; omega
                have n94 : b1 ≠ b83 := by have := hb88.lt; omega
                have hb95 := (hb76.keep x86 (fun h => h))
                have hb96 := (hb88.keep x86 (fun h => h))
                refine OW.store rfl rfl rfl shp_24 rfl rfl (vs := [Value.int .i64 2, Value.int .i64 0, Value.string ⟨List.toArray a73.1⟩, Value.slice none 0 0]) rfl rfl hb85 rfl (one_cons rfl (one_cons rfl (one_cons rfl (one_cons rfl one_nil)))) (cs' := [Value.int .i64 2, Value.int .i64 0, Value.string ⟨List.toArray a73.1⟩, Value.slice none 0 0]) rfl ?_
                intro w97 hb98 x99
                have t100 := Tr.of_ext (O := (Ins (Ins O0 b1) b83)) x99 (fun _ _ h => by cases h; exact (Or.inl rfl))
                have B102 := B91.ext x99
                have X101 := X90.step x99 (fun y hy h => absurd hy (by cases h; have := g92; omega))
                refine OW.done (TW.seq (TW.region ?_))
                refine OW.fieldAddr rfl rfl rfl rfl fld_24_2 rfl ?_
                refine OW.load1 rfl rfl rfl rfl shp_9 rfl hb98 rfl ?_
                have hb103 := (hb95.keep x99 n93)
                have hb104 := (hb96.keep x99 n94)
                have h105 := h70.tr (t80.trans (t89.trans t100))
                obtain ⟨y106, hy107, hm⟩ := bnd hm
                refine OW.call rfl rfl rfl rfl rfl rfl Tryd.call31 ((C.validString _ _ hy107 _ (Ins (Ins O0 b1) b83)  B102 h105).mono ?_)
                rintro e w108 ⟨rfl, x109⟩
                refine CallK.ret ?_
                have t110 := Tr.of_ext (O := (Ins (Ins O0 b1) b83)) x109 (fun _ _ h => h.elim)
                have B112 := B102.ext x109
                have X111 := X101.step x109 (fun _ _ h => h.elim)
                have hb113 := (hb103.keep x109 (fun h => h))
                have hb114 := (hb104.keep x109 (fun h => h))
                have hb115 := (hb98.keep x109 (fun h => h))
                have h116 := h105.tr t110
                obtain ⟨y117, hy118, hm⟩ := bnd hm
                rcases y117 with a119 | pv120
                · dsimp only at hm
                  refine OW.call rfl rfl rfl rfl rfl rfl Tryd.call30 ((C.cbor_must _ _ _ hy118 _ (Ins (Ins O0 b1) b83)  B112 h116).mono ?_)
                  rintro e w121 ⟨rfl, x122⟩
                  refine CallK.ret ?_
                  have t123 := Tr.of_ext (O := (Ins (Ins O0 b1) b83)) x122 (fun _ _ h => h.elim)
                  have B125 := B112.ext x122
                  have X124 := X111.step x122 (fun _ _ h => h.elim)
                  refine OW.done (TW.seq (TW.region ?_))
                  have hb126 := (hb115.keep x122 (fun h => h))
                  refine OW.loadN rfl rfl rfl rfl shp_24 rfl hb126 (vs := [Value.int .i64 2, Value.int .i64 0, Value.string ⟨List.toArray a73.1⟩, Value.slice none 0 0]) rfl rfl ?_
                  have hb127 := (hb114.keep x122 (fun h => h))
                  have hb128 := (hb113.keep x122 (fun h => h))
                  refine OW.store rfl rfl rfl shp_24 rfl rfl (vs := [Value.int .i64 2, Value.int .i64 0, Value.string ⟨List.toArray a73.1⟩, Value.slice none 0 0]) rfl rfl hb127 rfl (one_cons rfl (one_cons rfl (one_cons rfl (one_cons rfl one_nil)))) (cs' := [Value.int .i64 2, Value.int .i64 0, Value.string ⟨List.toArray a73.1⟩, Value.slice none 0 0]) rfl ?_
                  intro w129 hb130 x131
                  have t132 := Tr.of_ext (O := (Ins (Ins O0 b1) b83)) x131 (fun _ _ h => by cases h; exact (Or.inr (Or.inl rfl)))
                  have B134 := B125.ext x131
                  have X133 := X124.step x131 (fun y hy h => absurd hy (by cases h; have := g9; omega))
                  refine OW.done ?_
                  have hb135 := (hb128.keep x131 n10)
                  cases hm
                  exact TW.ret (Out.cell rfl rfl shp_24 hb130 rfl) ⟨_, _, rfl, (T_api_Cbor.shut (x := (T_api_Cbor.mk 2 0 a73.1 [])) RD.nil), hb135, (T_cbor_reader.shut (x := a73.2)), X133⟩
                · dsimp only at hm
                  cases hm
                  refine OW.call rfl rfl rfl rfl rfl rfl Tryd.call30 ((C.cbor_must _ _ _ hy118 _ (Ins (Ins O0 b1) b83)  B112 h116).mono ?_)
                  rintro e w136 ⟨rfl, x137⟩
                  exact CallK.pan ⟨rfl, X111.step x137 (fun _ _ h => h.elim)⟩
              · dsimp only at hm
                cases hm
                refine OW.call rfl rfl rfl rfl rfl rfl Tryd.call29 ((C.cbor_reader_take _ _ _ hy72 _ (Ins O0 b1) _ _ B24 h70 hb18 (T_cbor_reader.shut (x := a15.2.2)) (Or.inr m0)).mono ?_)
                rintro e w138 ⟨rfl, x139⟩
                exact CallK.pan ⟨rfl, X23.step x139 (fun y hy h => h)⟩
            · have hm := ite_f c68 hm
              refine TW.skip (TW.inBlock (TW.seq (TW.region ?_)))
              refine OW.move rfl rfl rfl rfl rfl ?_
              refine OW.binI rfl rfl rfl rfl rfl rfl rfl ?_
              have hb140 := (hb3.keep x21 (Ne.symm n10))
              have h141 := h12.tr t22
              obtain ⟨y142, hy143, hm⟩ := bnd hm
              rcases y142 with a144 | pv145
              · dsimp only at hm
                refine OW.call rfl rfl rfl rfl rfl rfl Tryd.call30 ((C.cbor_must _ _ _ hy143 _ (Ins O0 b1)  B24 h141).mono ?_)
                rintro e w146 ⟨rfl, x147⟩
                refine CallK.ret ?_
                have t148 := Tr.of_ext (O := (Ins O0 b1)) x147 (fun _ _ h => h.elim)
                have B150 := B24.ext x147
                have X149 := X23.step x147 (fun _ _ h => h.elim)
                refine OW.done (TW.seq (TW.region ?_))
                refine OW.move rfl rfl rfl rfl rfl ?_
                refine OW.convI rfl rfl rfl rfl Tryd.underlying5 Tryd.underlying3 rfl ?_
                refine OW.binI rfl rfl rfl rfl rfl rfl rfl ?_
                refine OW.build rfl rfl rfl rfl rfl (cs := [Value.int .i64 (IntKind.wrap .i64 ((IntKind.wrap .i64 a15.1) - 1)), Value.int .i64 0, Value.string ⟨List.toArray ([] : List UInt8)⟩, Value.slice none 0 0]) rfl ?_
                have hb156 := (hb18.keep x147 (fun h => h))
                have hb157 := (hb140.keep x147 (fun h => h))
                refine OW.alloc rfl rfl rfl rfl zer_24 (cs := [Value.int .i64 0, Value.int .i64 0, Value.string ⟨List.toArray ([] : List UInt8)⟩, Value.slice none 0 0]) rfl ?_
                intro b151 w152 hb153 x154 l155
                have t158 := Tr.of_new (O := (Ins O0 b1)) x154 (fun _ _ h => h.elim) l155
                have B160 := (B150.ext x154).ins hb153.lt
                have X159 := X149.step x154 (fun _ _ h => h.elim)
                have g161 : w0.heap.size ≤ b151 := Nat.le_trans X149.size l155
                have n162 : b0 ≠ b151 := by have := hb156.lt; omega
                have n163 : b1 ≠ b151 := by have := hb157.lt; omega
                have hb164 := (hb156.keep x154 (fun h => h))
                have hb165 := (hb157.keep x154 (fun h => h))
                refine OW.store rfl rfl rfl shp_24 rfl rfl (vs := [Value.int .i64 (IntKind.wrap .i64 ((IntKind.wrap .i64 a15.1) - 1)), Value.int .i64 0, Value.string ⟨List.toArray ([] : List UInt8)⟩, Value.slice none 0 0]) rfl rfl hb153 rfl (one_cons rfl (one_cons rfl (one_cons rfl (one_cons rfl one_nil)))) (cs' := [Value.int .i64 (IntKind.wrap .i64 ((IntKind.wrap .i64 a15.1) - 1)), Value.int .i64 0, Value.string ⟨List.toArray ([] : List UInt8)⟩, Value.slice none 0 0]) rfl ?_
                intro w166 hb167 x168
                have t169 := Tr.of_ext (O := (Ins (Ins O0 b1) b151)) x168 (fun _ _ h => by cases h; exact (Or.inl rfl))
                have B171 := B160.ext x168
                have X170 := X159.step x168 (fun y hy h => absurd hy (by cases h; have := g161; omega))
                refine OW.done (TW.seq (TW.region ?_))
                refine OW.assign rfl rfl rfl rfl rfl ?_
                refine OW.done (TW.seq (TW.block ?_))
                refine TW.lp (fun K => ∀ (x181 : List UInt8) (x184 : Int) (x185 : Int) (x186 : List UInt8) (x187 : List T_api_Cbor) (x192 : Int) (x193 : List UInt8), M.cbor_reader_item_k1 (fuel + 1) (M.cbor_reader_item fuel) p1 a15 x181 x184 x185 x186 x187 x192 x193 = some r → ∀ (w172 : World) (O173 : Nat → Prop) (v188 : Value), Bd O173 w172 → Glob w172 O173 → Ext (At b0) w0 w172 → (∀ x, O0 x → O173 x) → (O173 b0) → (O173 b1) → (O173 b151) → (BoxAt w172 b0 44 [Value.string ⟨List.toArray x181⟩]) → (BoxAt w172 b1 24 [Value.int .i64 0, Value.int .i64 0, Value.string ⟨List.toArray ([] : List UInt8)⟩, Value.slice none 0 0]) → (Own w172 O173 24 4 v188 (x187.map T_api_Cbor.enc)) → (∀ b, v188.ownBlock = some b → b < w0.heap.size → (At b0) b) → (BoxAt w172 b151 24 [Value.int .i64 x184, Value.int .i64 x185, Value.string ⟨List.toArray x186⟩, v188]) → (v188.ownBlock ≠ some b0) → (v188.ownBlock ≠ some b1) → (v188.ownBlock ≠ some b151) →  K [(0, Value.pointer (some ⟨b0, 0, none⟩)), (1, Value.int .i64 p1), (4, Value.pointer (some ⟨b1, 0, none⟩)), (5, Value.int .u8 a15.1), (6, Value.int .u64 x192), (8, Value.pointer (some ⟨b151, 0, none⟩)), (9, Value.string ⟨List.toArray x193⟩)] w172) ?_ ?_
                · intro K hin197 hout198
                  refine fun x181 x184 x185 x186 x187 x192 x193 hm => M.cbor_reader_item_k1.partial_correctness (fuel + 1) (M.cbor_reader_item fuel) p1 a15 x184 x185 x186 (fun x181 x187 x192 x193 r476 => r476 = r → ∀ (w172 : World) (O173 : Nat → Prop) (v188 : Value), Bd O173 w172 → Glob w172 O173 → Ext (At b0) w0 w172 → (∀ x, O0 x → O173 x) → (O173 b0) → (O173 b1) → (O173 b151) → (BoxAt w172 b0 44 [Value.string ⟨List.toArray x181⟩]) → (BoxAt w172 b1 24 [Value.int .i64 0, Value.int .i64 0, Value.string ⟨List.toArray ([] : List UInt8)⟩, Value.slice none 0 0]) → (Own w172 O173 24 4 v188 (x187.map T_api_Cbor.enc)) → (∀ b, v188.ownBlock = some b → b < w0.heap.size → (At b0) b) → (BoxAt w172 b151 24 [Value.int .i64 x184, Value.int .i64 x185, Value.string ⟨List.toArray x186⟩, v188]) → (v188.ownBlock ≠ some b0) → (v188.ownBlock ≠ some b1) → (v188.ownBlock ≠ some b151) →  K [(0, Value.pointer (some ⟨b0, 0, none⟩)), (1, Value.int .i64 p1), (4, Value.pointer (some ⟨b1, 0, none⟩)), (5, Value.int .u8 a15.1), (6, Value.int .u64 x192), (8, Value.pointer (some ⟨b151, 0, none⟩)), (9, Value.string ⟨List.toArray x193⟩)] w172) ?_ x181 x187 x192 x193 r hm rfl
                  intro self ih199 x181 x187 x192 x193 r476 hm hr477 w172 O173 v188 B174 G177 X175 lf176 m178 m179 m180 hb182 hb183 h189 gv190 hb191 n194 n195 n196
                  rw [hr477] at hm
                  refine hin197 _ _ ?_
                  refine TW.seq (TW.seq (TW.region ?_))
                  refine OW.move rfl rfl rfl rfl rfl ?_
                  refine OW.binI rfl rfl rfl rfl rfl rfl rfl ?_
                  refine OW.done ?_
                  refine TW.cond rfl (fun c200 => ?_) (fun c200 => ?_)
                  · have hm := ite_t c200 hm
                    refine TW.skip (TW.seq (TW.block (TW.seq (TW.seq (TW.region ?_)))))
                    refine OW.move rfl rfl rfl rfl rfl ?_
                    refine OW.binI rfl rfl rfl rfl rfl rfl rfl ?_
                    refine OW.done ?_
                    refine TW.cond rfl (fun c201 => ?_) (fun c201 => ?_)
                    · have hm := ite_t c201 hm
                      refine TW.seq (TW.region ?_)
                      refine OW.move rfl rfl rfl rfl rfl ?_
                      refine OW.move rfl rfl rfl rfl rfl ?_
                      refine OW.binI rfl rfl rfl rfl rfl rfl rfl ?_
                      obtain ⟨y202, hy203, hm⟩ := bnd hm
                      rcases y202 with a204 | pv205
                      · dsimp only at hm
                        refine OW.call rfl rfl rfl rfl rfl rfl Tryd.call18 ((ih _ _ _ hy203 _ O173 _ _ B174 G177 hb182 (T_cbor_reader.shut (x := (T_cbor_reader.mk x181))) m178).mono ?_)
                        rintro e w211 ⟨cs206, cs208, rfl, h207, hb209, h210, x212⟩
                        obtain ⟨v213, rfl, h214⟩ := T_api_Cbor.opn h207
                        obtain rfl := T_cbor_reader.opn h210
                        refine CallK.ret ?_
                        have t215 := Tr.of_ext (O := O173) x212 (fun _ _ h => by cases h; exact m178)
                        have B217 := B174.ext x212
                        have X216 := X175.step x212 (fun y hy h => h)
                        have hb223 := (hb183.keep x212 (Ne.symm n10))
                        have hb224 := (hb191.keep x212 (Ne.symm n162))
                        have ho225 := (h189.keep x212 (fun b h e => n194 (e ▸ h)) t215 (fun _ h => h))
                        refine OW.alloc rfl rfl rfl rfl zer_24 (cs := [Value.int .i64 0, Value.int .i64 0, Value.string ⟨List.toArray ([] : List UInt8)⟩, Value.slice none 0 0]) rfl ?_
                        intro b218 w219 hb220 x221 l222
                        have t226 := Tr.of_new (O := O173) x221 (fun _ _ h => h.elim) l222
                        have B228 := (B217.ext x221).ins hb220.lt
                        have X227 := X216.step x221 (fun _ _ h => h.elim)
                        have g229 : w0.heap.size ≤ b218 := Nat.le_trans X216.size l222
                        have n230 : b0 ≠ b218 := by have := hb209.lt; omega
                        have n231 : b1 ≠ b218 := by have := hb223.lt; omega
                        have n232 : b151 ≠ b218 := by have := hb224.lt; omega
                        have n233 : v188.ownBlock ≠ some b218 := fun h => by have := ho225.lt _ h; omega
                        have hb234 := (hb209.keep x221 (fun h => h))
                        have hb235 := (hb223.keep x221 (fun h => h))
                        have hb236 := (hb224.keep x221 (fun h => h))
                        have ho237 := (ho225.keep x221 (fun _ _ h => h) t226 (fun _ h => Or.inr h))
                        refine OW.store rfl rfl rfl shp_24 rfl rfl (vs := [Value.int .i64 a204.1.gKind, Value.int .i64 a204.1.gNum, Value.string ⟨List.toArray a204.1.gText⟩, v213]) rfl rfl hb220 rfl (one_cons rfl (one_cons rfl (one_cons rfl (one_cons (RD.one _ _ h214) one_nil)))) (cs' := [Value.int .i64 a204.1.gKind, Value.int .i64 a204.1.gNum, Value.string ⟨List.toArray a204.1.gText⟩, v213]) rfl ?_
                        intro w238 hb239 x240
                        have t241 := Tr.of_ext (O := (Ins O173 b218)) x240 (fun _ _ h => by cases h; exact (Or.inl rfl))
                        have B243 := B228.ext x240
                        have X242 := X227.step x240 (fun y hy h => absurd hy (by cases h; have := g229; omega))
                        refine OW.done (TW.seq (TW.region ?_))
                        refine OW.loadN rfl rfl rfl rfl shp_24 rfl hb239 (vs := [Value.int .i64 a204.1.gKind, Value.int .i64 a204.1.gNum, Value.string ⟨List.toArray a204.1.gText⟩, v213]) rfl rfl ?_
                        refine OW.move rfl rfl rfl rfl rfl ?_
                        have hb244 := (hb234.keep x240 n230)
                        have hb245 := (hb235.keep x240 n231)
                        have hb246 := (hb236.keep x240 n232)
                        have ho247 := (ho237.keep x240 (fun b h e => n233 (e ▸ h)) t241 (fun _ h => h))
                        have h248 := G177.tr (t215.trans (t226.trans t241))
                        have h249 := h214.tr (t226.trans t241)
                        obtain ⟨y250, hy251, hm⟩ := bnd hm
                        refine OW.call rfl rfl rfl rfl rfl rfl Tryd.call32 ((C.cbor_key _ _ _ _ hy251 _ (Ins O173 b218) _ B243 h248 (T_api_Cbor.shut (x := a204.1) h249)).mono ?_)
                        rintro e w252 ⟨rfl, x253⟩
                        refine CallK.ret ?_
                        have t254 := Tr.of_ext (O := (Ins O173 b218)) x253 (fun _ _ h => h.elim)
                        have B256 := B243.ext x253
                        have X255 := X242.step x253 (fun _ _ h => h.elim)
                        refine OW.move rfl rfl rfl rfl rfl ?_
                        refine OW.extract rfl rfl rfl rfl rfl rfl ?_
                        refine OW.extract rfl rfl rfl rfl rfl rfl ?_
                        refine OW.assign rfl rfl rfl rfl rfl ?_
                        refine OW.assign rfl rfl rfl rfl rfl ?_
                        refine OW.done (TW.seq (TW.region ?_))
                        refine OW.move rfl rfl rfl rfl rfl ?_
                        have hb257 := (hb244.keep x253 (fun h => h))
                        have hb258 := (hb245.keep x253 (fun h => h))
                        have hb259 := (hb246.keep x253 (fun h => h))
                        have hb260 := (hb239.keep x253 (fun h => h))
                        have ho261 := (ho247.keep x253 (fun _ _ h => h) t254 (fun _ h => h))
                        have h262 := h248.tr t254
                        obtain ⟨y263, hy264, hm⟩ := bnd hm
                        rcases y263 with a265 | pv266
                        · dsimp only at hm
                          refine OW.call rfl rfl rfl rfl rfl rfl Tryd.call30 ((C.cbor_must _ _ _ hy264 _ (Ins O173 b218)  B256 h262).mono ?_)
                          rintro e w267 ⟨rfl, x268⟩
                          refine CallK.ret ?_
                          have t269 := Tr.of_ext (O := (Ins O173 b218)) x268 (fun _ _ h => h.elim)
                          have B271 := B256.ext x268
                          have X270 := X255.step x268 (fun _ _ h => h.elim)
                          refine OW.done (TW.seq (TW.region ?_))
                          refine OW.move rfl rfl rfl rfl rfl ?_
                          refine OW.assign rfl rfl rfl rfl rfl ?_
                          refine OW.done (TW.region ?_)
                          refine OW.fieldAddr rfl rfl rfl rfl fld_24_3 rfl ?_
                          have hb272 := (hb259.keep x268 (fun h => h))
                          refine OW.load1 rfl rfl rfl rfl shp_22 rfl hb272 rfl ?_
                          have hb273 := (hb260.keep x268 (fun h => h))
                          refine OW.loadN rfl rfl rfl rfl shp_24 rfl hb273 (vs := [Value.int .i64 a204.1.gKind, Value.int .i64 a204.1.gNum, Value.string ⟨List.toArray a204.1.gText⟩, v213]) rfl rfl ?_
                          have h274 := h249.tr (t254.trans t269)
                          have hb275 := (hb257.keep x268 (fun h => h))
                          have hb276 := (hb258.keep x268 (fun h => h))
                          have ho277 := (ho261.keep x268 (fun _ _ h => h) t269 (fun _ h => h))
                          refine OW.buildSlice rfl rfl rfl rfl Tryd.underlying22 shp_24 zer_24 rfl rfl (cs := [Value.int .i64 a204.1.gKind, Value.int .i64 a204.1.gNum, Value.string ⟨List.toArray a204.1.gText⟩, v213]) rfl rfl rfl ?_
                          intro b278 w279 hb280 x281 l282
                          have t284 := Tr.of_ext (O := (Ins O173 b218)) x281 (fun _ _ h => h.elim)
                          have B286 := B271.ext x281
                          have X285 := X270.step x281 (fun _ _ h => h.elim)
                          have h287 := h274.tr t284
                          have h283 : RD w279 (Ins O173 b218) (D.sl 24 4 ([a204.1].map T_api_Cbor.enc)) (Value.slice (some ⟨b278, 0, none⟩) 1 1) := RD.of_new hb280 B271 l282 rfl (Nat.le_of_ble_eq_true rfl) rfl ⟨(T_api_Cbor.shut (x := a204.1) h287), trivial⟩
                          have hb288 := (hb275.keep x281 (fun h => h))
                          have hb289 := (hb276.keep x281 (fun h => h))
                          have hb290 := (hb272.keep x281 (fun h => h))
                          have hb291 := (hb273.keep x281 (fun h => h))
                          have ho292 := (ho277.keep x281 (fun _ _ h => h) t284 (fun _ h => h))
                          obtain ⟨l293, h294, hm⟩ := bnd hm
                          obtain ⟨hx295, hl296⟩ := app_some h294
                          refine OW.appendL' rfl rfl rfl rfl Tryd.underlying22 inf_24 rfl rfl rfl rfl rfl ho292 B286 h283 hl296 ?_
                          intro v297 w298 O299 G300
                          rw [← hx295] at G300
                          have X301 := X285.step G300.ext (fun y hy h => gv190 y h hy)
                          have gv302 : ∀ b, v297.ownBlock = some b → b < w0.heap.size → (At b0) b := fun b h hl => (G300.at_ b h).elim (fun h => gv190 b h hl) (fun h => absurd hl (by have := X285.size; omega))
                          have n303 : v297.ownBlock ≠ some b0 := fun h => (G300.at_ _ h).elim n194 (fun h => by have := hb288.lt; omega)
                          have n304 : v297.ownBlock ≠ some b1 := fun h => (G300.at_ _ h).elim n195 (fun h => by have := hb289.lt; omega)
                          have n305 : v297.ownBlock ≠ some b151 := fun h => (G300.at_ _ h).elim n196 (fun h => by have := hb290.lt; omega)
                          have n306 : v297.ownBlock ≠ some b218 := fun h => (G300.at_ _ h).elim n233 (fun h => by have := hb291.lt; omega)
                          refine OW.fieldAddr rfl rfl rfl rfl fld_24_3 rfl ?_
                          have hb307 := (hb290.keep G300.ext (n196))
                          have hb308 := (hb288.keep G300.ext (n194))
                          have hb309 := (hb289.keep G300.ext (n195))
                          have hb310 := (hb291.keep G300.ext (n233))
                          refine OW.store rfl rfl rfl shp_22 rfl rfl (vs := [v297]) (cells_one G300.own.one) rfl hb307 rfl (one_cons G300.own.one one_nil) (cs' := [Value.int .i64 x184, Value.int .i64 x185, Value.string ⟨List.toArray x186⟩, v297]) rfl ?_
                          intro w311 hb312 x313
                          have t314 := Tr.of_ext (O := O299) x313 (fun _ _ h => by cases h; exact (G300.more _ (Or.inr m180)))
                          have B316 := G300.bd.ext x313
                          have X315 := X301.step x313 (fun y hy h => absurd hy (by cases h; have := g161; omega))
                          refine OW.done ?_
                          refine TW.drawP [0, 1, 0, 0, 8, 28, 60, 127, 255, 511] [0, 1, 2, 3, 4] [(5, [0, 1], []), (6, [0, 1], []), (7, [], [8]), (9, [], [])] mix (by kernel_rfl) ?_
                          intro w317 x318
                          have t319 := Tr.of_ext (O := O299) x318 (fun _ _ h => h.elim)
                          have B321 := B316.ext x318
                          have X320 := X315.step x318 (fun _ _ h => h.elim)
                          have hb322 := (hb312.keep x318 (fun h => h))
                          refine DP.put [(79, Value.pointer (some ⟨b151, 0 + 3, none⟩)), (80, v297), (81, Value.pointer (some ⟨b0, 0, none⟩)), (82, Value.int .i64 p1), (83, Value.int .i64 (IntKind.wrap .i64 (p1 + 1)))] rfl ?_
                          refine DW.next (StabE.cons rfl rfl rfl rfl (EX.fieldAddr rfl fld_24_3 rfl) (StabE.cons rfl rfl rfl rfl (EX.load1 rfl shp_22 rfl hb322 rfl) (StabE.cons rfl rfl rfl rfl (EX.move rfl rfl) (StabE.cons rfl rfl rfl rfl (EX.move rfl rfl) (StabE.cons rfl rfl rfl rfl (EX.binI rfl rfl rfl rfl) StabE.nil))))) rfl ?_
                          have hb323 := ((hb308.keep x313 n162).keep x318 (fun h => h))
                          have hb324 := ((hb309.keep x313 n163).keep x318 (fun h => h))
                          have hb325 := ((hb310.keep x313 (Ne.symm n232)).keep x318 (fun h => h))
                          have ho326 := ((G300.own.keep x313 (fun b h e => n305 (e ▸ h)) t314 (fun _ h => h)).keep x318 (fun _ _ h => h) t319 (fun _ h => h))
                          have h327 := h262.tr (t269.trans (t284.trans (G300.tr.trans (t314.trans t319))))
                          obtain ⟨y328, hy329, hm⟩ := bnd hm
                          rcases y328 with a330 | pv331
                          · dsimp only at hm
                            refine OW.call rfl rfl rfl rfl rfl rfl Tryd.call18 ((ih _ _ _ hy329 _ O299 _ _ B321 h327 hb323 (T_cbor_reader.shut (x := a204.2)) (G300.more _ (Or.inr m178))).mono ?_)
                            rintro e w337 ⟨cs332, cs334, rfl, h333, hb335, h336, x338⟩
                            obtain ⟨v339, rfl, h340⟩ := T_api_Cbor.opn h333
                            obtain rfl := T_cbor_reader.opn h336
                            refine CallK.ret ?_
                            have t341 := Tr.of_ext (O := O299) x338 (fun _ _ h => by cases h; exact (G300.more _ (Or.inr m178)))
                            have B343 := B321.ext x338
                            have X342 := X320.step x338 (fun y hy h => h)
                            refine DP.ow ?_
                            refine DP.put [] rfl ?_
                            have hb344 := (hb322.keep x338 (Ne.symm n162))
                            refine DW.next (StabE.cons rfl rfl rfl rfl (EX.fieldAddr rfl fld_24_3 rfl) (StabE.cons rfl rfl rfl rfl (EX.load1 rfl shp_22 rfl hb344 rfl) StabE.nil)) rfl ?_
                            have hb345 := (hb324.keep x338 (Ne.symm n10))
                            have hb346 := (hb325.keep x338 (Ne.symm n230))
                            have ho347 := (ho326.keep x338 (fun b h e => n303 (e ▸ h)) t341 (fun _ h => h))
                            refine OW.buildSlice rfl rfl rfl rfl Tryd.underlying22 shp_24 zer_24 rfl rfl (cs := [Value.int .i64 a330.1.gKind, Value.int .i64 a330.1.gNum, Value.string ⟨List.toArray a330.1.gText⟩, v339]) rfl rfl rfl ?_
                            intro b348 w349 hb350 x351 l352
                            have t354 := Tr.of_ext (O := O299) x351 (fun _ _ h => h.elim)
                            have B356 := B343.ext x351
                            have X355 := X342.step x351 (fun _ _ h => h.elim)
                            have h357 := h340.tr t354
                            have h353 : RD w349 O299 (D.sl 24 4 ([a330.1].map T_api_Cbor.enc)) (Value.slice (some ⟨b348, 0, none⟩) 1 1) := RD.of_new hb350 B343 l352 rfl (Nat.le_of_ble_eq_true rfl) rfl ⟨(T_api_Cbor.shut (x := a330.1) h357), trivial⟩
                            refine DP.ow ?_
                            refine DP.put [] rfl ?_
                            have hb358 := (hb344.keep x351 (fun h => h))
                            refine DW.next (StabE.cons rfl rfl rfl rfl (EX.fieldAddr rfl fld_24_3 rfl) (StabE.cons rfl rfl rfl rfl (EX.load1 rfl shp_22 rfl hb358 rfl) StabE.nil)) rfl ?_
                            have hb359 := (hb335.keep x351 (fun h => h))
                            have hb360 := (hb345.keep x351 (fun h => h))
                            have hb361 := (hb346.keep x351 (fun h => h))
                            have ho362 := (ho347.keep x351 (fun _ _ h => h) t354 (fun _ h => h))
                            obtain ⟨l363, h364, hm⟩ := bnd hm
                            obtain ⟨hx365, hl366⟩ := app_some h364
                            refine OW.appendL' rfl rfl rfl rfl Tryd.underlying22 inf_24 rfl rfl rfl rfl rfl ho362 B356 h353 hl366 ?_
                            intro v367 w368 O369 G370
                            rw [← hx365] at G370
                            have X371 := X355.step G370.ext (fun y hy h => gv302 y h hy)
                            have gv372 : ∀ b, v367.ownBlock = some b → b < w0.heap.size → (At b0) b := fun b h hl => (G370.at_ b h).elim (fun h => gv302 b h hl) (fun h => absurd hl (by have := X355.size; omega))
                            have n373 : v367.ownBlock ≠ some b0 := fun h => (G370.at_ _ h).elim n303 (fun h => by have := hb359.lt; omega)
                            have n374 : v367.ownBlock ≠ some b1 := fun h => (G370.at_ _ h).elim n304 (fun h => by have := hb360.lt; omega)
                            have n375 : v367.ownBlock ≠ some b151 := fun h => (G370.at_ _ h).elim n305 (fun h => by have := hb358.lt; omega)
                            have n376 : v367.ownBlock ≠ some b218 := fun h => (G370.at_ _ h).elim n306 (fun h => by have := hb361.lt; omega)
                            refine DP.ow ?_
                            refine DP.put [(87, Value.pointer (some ⟨b151, 0 + 3, none⟩))] rfl ?_
                            refine DW.next (StabE.cons rfl rfl rfl rfl (EX.fieldAddr rfl fld_24_3 rfl) StabE.nil) rfl ?_
                            have hb377 := (hb358.keep G370.ext (n305))
                            have hb378 := (hb359.keep G370.ext (n303))
                            have hb379 := (hb360.keep G370.ext (n304))
                            have hb380 := (hb361.keep G370.ext (n306))
                            refine OW.store rfl rfl rfl shp_22 rfl rfl (vs := [v367]) (cells_one G370.own.one) rfl hb377 rfl (one_cons G370.own.one one_nil) (cs' := [Value.int .i64 x184, Value.int .i64 x185, Value.string ⟨List.toArray x186⟩, v367]) rfl ?_
                            intro w381 hb382 x383
                            have t384 := Tr.of_ext (O := O369) x383 (fun _ _ h => by cases h; exact (G370.more _ (G300.more _ (Or.inr m180))))
                            have B386 := G370.bd.ext x383
                            have X385 := X371.step x383 (fun y hy h => absurd hy (by cases h; have := g161; omega))
                            refine DP.ow ?_
                            refine DP.put [] rfl ?_
                            refine DW.end' StabE.nil ?_
                            refine TW.inBlock (TW.region ?_)
                            refine OW.move rfl rfl rfl rfl rfl ?_
                            refine OW.binI rfl rfl rfl rfl rfl rfl rfl ?_
                            refine OW.assign rfl rfl rfl rfl rfl ?_
                            refine OW.done ?_
                            have hb387 := (hb378.keep x383 n162)
                            have hb388 := (hb379.keep x383 n163)
                            have ho389 := (G370.own.keep x383 (fun b h e => n375 (e ▸ h)) t384 (fun _ h => h))
                            have h390 := h327.tr (t341.trans (t354.trans (G370.tr.trans t384)))
                            exact TW.sub (Sub.cons rfl (Sub.cons rfl (Sub.cons rfl (Sub.cons rfl (Sub.cons rfl (Sub.cons rfl (Sub.cons rfl Sub.nil))))))) (hout198 _ _ (ih199 a330.2.gs l363 (IntKind.wrap .u64 (x192 - 1)) y250.1 _ hm rfl w381 O369 v367 B386 h390 X385 (fun x h => (G370.more _ (G300.more _ (Or.inr (lf176 _ h))))) (G370.more _ (G300.more _ (Or.inr m178))) (G370.more _ (G300.more _ (Or.inr m179))) (G370.more _ (G300.more _ (Or.inr m180))) hb387 hb388 ho389 gv372 hb382 n373 n374 n375))
                          · dsimp only at hm
                            cases hm
                            refine OW.call rfl rfl rfl rfl rfl rfl Tryd.call18 ((ih _ _ _ hy329 _ O299 _ _ B321 h327 hb323 (T_cbor_reader.shut (x := a204.2)) (G300.more _ (Or.inr m178))).mono ?_)
                            rintro e w391 ⟨rfl, x392⟩
                            exact CallK.pan ⟨rfl, X320.step x392 (fun y hy h => h)⟩
                        · dsimp only at hm
                          cases hm
                          refine OW.call rfl rfl rfl rfl rfl rfl Tryd.call30 ((C.cbor_must _ _ _ hy264 _ (Ins O173 b218)  B256 h262).mono ?_)
                          rintro e w393 ⟨rfl, x394⟩
                          exact CallK.pan ⟨rfl, X255.step x394 (fun _ _ h => h.elim)⟩
                      · dsimp only at hm
                        cases hm
                        refine OW.call rfl rfl rfl rfl rfl rfl Tryd.call18 ((ih _ _ _ hy203 _ O173 _ _ B174 G177 hb182 (T_cbor_reader.shut (x := (T_cbor_reader.mk x181))) m178).mono ?_)
                        rintro e w395 ⟨rfl, x396⟩
                        exact CallK.pan ⟨rfl, X175.step x396 (fun y hy h => h)⟩
                    · have hm := ite_f c201 hm
                      refine TW.skip ?_
                      refine TW.drawP [0, 1, 0, 0, 8, 28, 60, 127, 255, 511] [0, 1, 2, 3, 4] [(5, [0, 1], []), (6, [0, 1], []), (7, [], [8]), (9, [], [])] mix (by kernel_rfl) ?_
                      intro w397 x398
                      have t399 := Tr.of_ext (O := O173) x398 (fun _ _ h => h.elim)
                      have B401 := B174.ext x398
                      have X400 := X175.step x398 (fun _ _ h => h.elim)
                      have hb402 := (hb191.keep x398 (fun h => h))
                      refine DP.put [(79, Value.pointer (some ⟨b151, 0 + 3, none⟩)), (80, v188), (81, Value.pointer (some ⟨b0, 0, none⟩)), (82, Value.int .i64 p1), (83, Value.int .i64 (IntKind.wrap .i64 (p1 + 1)))] rfl ?_
                      refine DW.next (StabE.cons rfl rfl rfl rfl (EX.fieldAddr rfl fld_24_3 rfl) (StabE.cons rfl rfl rfl rfl (EX.load1 rfl shp_22 rfl hb402 rfl) (StabE.cons rfl rfl rfl rfl (EX.move rfl rfl) (StabE.cons rfl rfl rfl rfl (EX.move rfl rfl) (StabE.cons rfl rfl rfl rfl (EX.binI rfl rfl rfl rfl) StabE.nil))))) rfl ?_
                      have hb403 := (hb182.keep x398 (fun h => h))
                      have hb404 := (hb183.keep x398 (fun h => h))
                      have ho405 := (h189.keep x398 (fun _ _ h => h) t399 (fun _ h => h))
                      have h406 := G177.tr t399
                      obtain ⟨y407, hy408, hm⟩ := bnd hm
                      rcases y407 with a409 | pv410
                      · dsimp only at hm
                        refine OW.call rfl rfl rfl rfl rfl rfl Tryd.call18 ((ih _ _ _ hy408 _ O173 _ _ B401 h406 hb403 (T_cbor_reader.shut (x := (T_cbor_reader.mk x181))) m178).mono ?_)
                        rintro e w416 ⟨cs411, cs413, rfl, h412, hb414, h415, x417⟩
                        obtain ⟨v418, rfl, h419⟩ := T_api_Cbor.opn h412
                        obtain rfl := T_cbor_reader.opn h415
                        refine CallK.ret ?_
                        have t420 := Tr.of_ext (O := O173) x417 (fun _ _ h => by cases h; exact m178)
                        have B422 := B401.ext x417
                        have X421 := X400.step x417 (fun y hy h => h)
                        refine DP.ow ?_
                        refine DP.put [] rfl ?_
                        have hb423 := (hb402.keep x417 (Ne.symm n162))
                        refine DW.next (StabE.cons rfl rfl rfl rfl (EX.fieldAddr rfl fld_24_3 rfl) (StabE.cons rfl rfl rfl rfl (EX.load1 rfl shp_22 rfl hb423 rfl) StabE.nil)) rfl ?_
                        have hb424 := (hb404.keep x417 (Ne.symm n10))
                        have ho425 := (ho405.keep x417 (fun b h e => n194 (e ▸ h)) t420 (fun _ h => h))
                        refine OW.buildSlice rfl rfl rfl rfl Tryd.underlying22 shp_24 zer_24 rfl rfl (cs := [Value.int .i64 a409.1.gKind, Value.int .i64 a409.1.gNum, Value.string ⟨List.toArray a409.1.gText⟩, v418]) rfl rfl rfl ?_
                        intro b426 w427 hb428 x429 l430
                        have t432 := Tr.of_ext (O := O173) x429 (fun _ _ h => h.elim)
                        have B434 := B422.ext x429
                        have X433 := X421.step x429 (fun _ _ h => h.elim)
                        have h435 := h419.tr t432
                        have h431 : RD w427 O173 (D.sl 24 4 ([a409.1].map T_api_Cbor.enc)) (Value.slice (some ⟨b426, 0, none⟩) 1 1) := RD.of_new hb428 B422 l430 rfl (Nat.le_of_ble_eq_true rfl) rfl ⟨(T_api_Cbor.shut (x := a409.1) h435), trivial⟩
                        refine DP.ow ?_
                        refine DP.put [] rfl ?_
                        have hb436 := (hb423.keep x429 (fun h => h))
                        refine DW.next (StabE.cons rfl rfl rfl rfl (EX.fieldAddr rfl fld_24_3 rfl) (StabE.cons rfl rfl rfl rfl (EX.load1 rfl shp_22 rfl hb436 rfl) StabE.nil)) rfl ?_
                        have hb437 := (hb414.keep x429 (fun h => h))
                        have hb438 := (hb424.keep x429 (fun h => h))
                        have ho439 := (ho425.keep x429 (fun _ _ h => h) t432 (fun _ h => h))
                        obtain ⟨l440, h441, hm⟩ := bnd hm
                        obtain ⟨hx442, hl443⟩ := app_some h441
                        refine OW.appendL' rfl rfl rfl rfl Tryd.underlying22 inf_24 rfl rfl rfl rfl rfl ho439 B434 h431 hl443 ?_
                        intro v444 w445 O446 G447
                        rw [← hx442] at G447
                        have X448 := X433.step G447.ext (fun y hy h => gv190 y h hy)
                        have gv449 : ∀ b, v444.ownBlock = some b → b < w0.heap.size → (At b0) b := fun b h hl => (G447.at_ b h).elim (fun h => gv190 b h hl) (fun h => absurd hl (by have := X433.size; omega))
                        have n450 : v444.ownBlock ≠ some b0 := fun h => (G447.at_ _ h).elim n194 (fun h => by have := hb437.lt; omega)
                        have n451 : v444.ownBlock ≠ some b1 := fun h => (G447.at_ _ h).elim n195 (fun h => by have := hb438.lt; omega)
                        have n452 : v444.ownBlock ≠ some b151 := fun h => (G447.at_ _ h).elim n196 (fun h => by have := hb436.lt; omega)
                        refine DP.ow ?_
                        refine DP.put [(87, Value.pointer (some ⟨b151, 0 + 3, none⟩))] rfl ?_
                        refine DW.next (StabE.cons rfl rfl rfl rfl (EX.fieldAddr rfl fld_24_3 rfl) StabE.nil) rfl ?_
                        have hb453 := (hb436.keep G447.ext (n196))
                        have hb454 := (hb437.keep G447.ext (n194))
                        have hb455 := (hb438.keep G447.ext (n195))
                        refine OW.store rfl rfl rfl shp_22 rfl rfl (vs := [v444]) (cells_one G447.own.one) rfl hb453 rfl (one_cons G447.own.one one_nil) (cs' := [Value.int .i64 x184, Value.int .i64 x185, Value.string ⟨List.toArray x186⟩, v444]) rfl ?_
                        intro w456 hb457 x458
                        have t459 := Tr.of_ext (O := O446) x458 (fun _ _ h => by cases h; exact (G447.more _ m180))
                        have B461 := G447.bd.ext x458
                        have X460 := X448.step x458 (fun y hy h => absurd hy (by cases h; have := g161; omega))
                        refine DP.ow ?_
                        refine DP.put [] rfl ?_
                        refine DW.end' StabE.nil ?_
                        refine TW.inBlock (TW.region ?_)
                        refine OW.move rfl rfl rfl rfl rfl ?_
                        refine OW.binI rfl rfl rfl rfl rfl rfl rfl ?_
                        refine OW.assign rfl rfl rfl rfl rfl ?_
                        refine OW.done ?_
                        have hb462 := (hb454.keep x458 n162)
                        have hb463 := (hb455.keep x458 n163)
                        have ho464 := (G447.own.keep x458 (fun b h e => n452 (e ▸ h)) t459 (fun _ h => h))
                        have h465 := h406.tr (t420.trans (t432.trans (G447.tr.trans t459)))
                        exact TW.sub (Sub.cons rfl (Sub.cons rfl (Sub.cons rfl (Sub.cons rfl (Sub.cons rfl (Sub.cons rfl (Sub.cons rfl Sub.nil))))))) (hout198 _ _ (ih199 a409.2.gs l440 (IntKind.wrap .u64 (x192 - 1)) x193 _ hm rfl w456 O446 v444 B461 h465 X460 (fun x h => (G447.more _ (lf176 _ h))) (G447.more _ m178) (G447.more _ m179) (G447.more _ m180) hb462 hb463 ho464 gv449 hb457 n450 n451 n452))
                      · dsimp only at hm
                        cases hm
                        refine OW.call rfl rfl rfl rfl rfl rfl Tryd.call18 ((ih _ _ _ hy408 _ O173 _ _ B401 h406 hb403 (T_cbor_reader.shut (x := (T_cbor_reader.mk x181))) m178).mono ?_)
                        rintro e w466 ⟨rfl, x467⟩
                        exact CallK.pan ⟨rfl, X400.step x467 (fun y hy h => h)⟩
                  · have hm := ite_f c200 hm
                    refine TW.exit rfl (TW.seq (TW.region ?_))
                    refine OW.loadN rfl rfl rfl rfl shp_24 rfl hb191 (vs := [Value.int .i64 x184, Value.int .i64 x185, Value.string ⟨List.toArray x186⟩, v188]) rfl rfl ?_
                    refine OW.store rfl rfl rfl shp_24 rfl rfl (vs := [Value.int .i64 x184, Value.int .i64 x185, Value.string ⟨List.toArray x186⟩, v188]) rfl rfl hb183 rfl (one_cons rfl (one_cons rfl (one_cons rfl (one_cons h189.one one_nil)))) (cs' := [Value.int .i64 x184, Value.int .i64 x185, Value.string ⟨List.toArray x186⟩, v188]) rfl ?_
                    intro w468 hb469 x470
                    have t471 := Tr.of_ext (O := O173) x470 (fun _ _ h => by cases h; exact m179)
                    have B473 := B174.ext x470
                    have X472 := X175.step x470 (fun y hy h => absurd hy (by cases h; have := g9; omega))
                    refine OW.done ?_
                    have hb474 := (hb182.keep x470 n10)
                    have ho475 := (h189.keep x470 (fun b h e => n195 (e ▸ h)) t471 (fun _ h => h))
                    cases hm
                    exact TW.ret (Out.cell rfl rfl shp_24 hb469 rfl) ⟨_, _, rfl, (T_api_Cbor.shut (x := (T_api_Cbor.mk x184 x185 x186 x187)) (ho475.data.tr (Tr.drop _ fun x h => ⟨(lf176 _ h), fun e => (Nat.lt_or_ge x w0.heap.size).elim (fun hl => (by rcases gv190 x e hl with rfl <;> first | exact n194 e)) (fun hg => by have := B0 x h; omega)⟩))), hb474, (T_cbor_reader.shut (x := (T_cbor_reader.mk x181))), X472⟩
                · intro key478
                  have hb479 := (hb164.keep x168 n162)
                  have hb480 := (hb165.keep x168 n163)
                  have h481 := h141.tr (t148.trans (t158.trans t169))
                  exact TW.sub (Sub.cons rfl (Sub.cons rfl (Sub.cons rfl (Sub.cons rfl (Sub.cons rfl (Sub.cons rfl (Sub.cons rfl Sub.nil))))))) (key478 a15.2.2.gs (IntKind.wrap .i64 ((IntKind.wrap .i64 a15.1) - 1)) 0 ([] : List UInt8) [] a15.2.1 ([] : List UInt8) hm w166 (Ins (Ins O0 b1) b151) (Value.slice none 0 0) B171 h481 X170 (fun x h => (Or.inr (Or.inr h))) (Or.inr (Or.inr m0)) (Or.inr (Or.inl rfl)) (Or.inl rfl) hb479 hb480 (Own.nil' _ _ _ _) (fun b h => by cases h) hb167 (fun h => by cases h) (fun h => by cases h) (fun h => by cases h))
              · dsimp only at hm
                cases hm
                refine OW.call rfl rfl rfl rfl rfl rfl Tryd.call30 ((C.cbor_must _ _ _ hy143 _ (Ins O0 b1)  B24 h141).mono ?_)
                rintro e w482 ⟨rfl, x483⟩
                exact CallK.pan ⟨rfl, X23.step x483 (fun _ _ h => h.elim)⟩
    · dsimp only at hm
      cases hm
      refine OW.call rfl rfl rfl rfl rfl rfl Tryd.call28 ((C.cbor_reader_head _ _ hy14 _ (Ins O0 b1) _ _ B8 h12 hb11 (T_cbor_reader.shut (x := p0)) (Or.inr m0)).mono ?_)
      rintro e w484 ⟨rfl, x485⟩
      exact CallK.pan ⟨rfl, X7.step x485 (fun y hy h => h)⟩
set_option maxRecDepth 1000000 in
set_option maxHeartbeats 4000000 in
theorem C.cbor_reader_item_own (fuel : Nat) : ∀ (p0 : T_cbor_reader) (p1 : Int) (r : Res (T_api_Cbor × T_cbor_reader)), M.cbor_reader_item fuel p0 p1 = some r → ∀ (w0 : World) (O0 : Nat → Prop) (b0 : Nat) (cs0 : List Value) (B0 : Bd O0 w0) (G0 : Glob w0 O0) (hb0 : BoxAt w0 b0 44 cs0) (h0 : RDs w0 O0 (T_cbor_reader.enc p0) cs0) (m0 : O0 b0), Calls Tryd.prog 18 (List.toArray [Value.pointer (some ⟨b0, 0, none⟩), Value.int .i64 p1]) w0 (PR (At b0) w0 (fun a e w' => ∃ (u0_3 : Value) (ds0 : List Value), e = .returned (Value.agg (List.toArray [Value.int .i64 a.1.gKind, Value.int .i64 a.1.gNum, Value.string ⟨List.toArray a.1.gText⟩, u0_3])) ∧ Own w' (fun x => O0 x ∨ u0_3.ownBlock = some x) 24 4 u0_3 (a.1.gList.map T_api_Cbor.enc) ∧ (∀ b, u0_3.ownBlock = some b → w0.heap.size ≤ b) ∧ BoxAt w' b0 44 ds0 ∧ RDs w' O0 (T_cbor_reader.enc a.2) ds0 ∧ Ext (At b0) w0 w') r) := by
  cases fuel with
  | zero => intro p0 p1 r hm w0 O0 b0 cs0 B0 G0 hb0 h0 m0; cases hm
  | succ fuel =>
    have ih := C.cbor_reader_item fuel
    intro p0 p1 r hm w0 O0 b0 cs0 B0 G0 hb0 h0 m0
    refine calls_of Tryd.func18 rfl 89 rfl rfl ?_
    simp only [M.cbor_reader_item] at hm
    have X0 := Ext.refl (At b0) w0
    obtain rfl := T_cbor_reader.opn h0
    refine TW.seq (TW.region ?_)
    refine OW.alloc rfl rfl rfl rfl zer_24 (cs := [Value.int .i64 0, Value.int .i64 0, Value.string ⟨List.toArray ([] : List UInt8)⟩, Value.slice none 0 0]) rfl ?_
    intro b1 w2 hb3 x4 l5
    have t6 := Tr.of_new (O := O0) x4 (fun _ _ h => h.elim) l5
    have B8 := (B0.ext x4).ins hb3.lt
    have X7 := X0.step x4 (fun _ _ h => h.elim)
    have g9 : w0.heap.size ≤ b1 := Nat.le_trans X0.size l5
    have n10 : b0 ≠ b1 := by have := hb0.lt; omega
    refine OW.done (TW.seq (TW.region ?_))
    refine OW.move rfl rfl rfl rfl rfl ?_
    have hb11 := (hb0.keep x4 (fun h => h))
    have h12 := G0.tr t6
    obtain ⟨y13, hy14, hm⟩ := bnd hm
    rcases y13 with a15 | pv16
    · dsimp only at hm
      refine OW.call rfl rfl rfl rfl rfl rfl Tryd.call28 ((C.cbor_reader_head _ _ hy14 _ (Ins O0 b1) _ _ B8 h12 hb11 (T_cbor_reader.shut (x := p0)) (Or.inr m0)).mono ?_)
      rintro e w20 ⟨cs17, rfl, hb18, h19, x21⟩
      obtain rfl := T_cbor_reader.opn h19
      refine CallK.ret ?_
      have t22 := Tr.of_ext (O := (Ins O0 b1)) x21 (fun _ _ h => by cases h; exact (Or.inr m0))
      have B24 := B8.ext x21
      have X23 := X7.step x21 (fun y hy h => h)
      refine OW.move rfl rfl rfl rfl rfl ?_
      refine OW.extract rfl rfl rfl rfl rfl rfl ?_
      refine OW.extract rfl rfl rfl rfl rfl rfl ?_
      refine OW.assign rfl rfl rfl rfl rfl ?_
      refine OW.assign rfl rfl rfl rfl rfl ?_
      refine OW.done (TW.seq (TW.seq (TW.region ?_)))
      refine OW.move rfl rfl rfl rfl rfl ?_
      refine OW.done (TW.block (TW.seq (TW.region ?_)))
      refine OW.binI rfl rfl rfl rfl rfl rfl rfl ?_
      refine OW.assign rfl rfl rfl rfl rfl ?_
      refine OW.done ?_
      refine TW.cond rfl (fun c25 => ?_) (fun c25 => ?_)
      · have hm := ite_t c25 hm
        refine TW.seq (TW.region ?_)
        refine OW.move rfl rfl rfl rfl rfl ?_
        refine OW.convI rfl rfl rfl rfl Tryd.underlying60 Tryd.underlying3 rfl ?_
        refine OW.build rfl rfl rfl rfl rfl (cs := [Value.int .i64 0, Value.int .i64 (IntKind.wrap .i64 a15.2.1), Value.string ⟨List.toArray ([] : List UInt8)⟩, Value.slice none 0 0]) rfl ?_
        have hb26 := (hb3.keep x21 (Ne.symm n10))
        refine OW.store rfl rfl rfl shp_24 rfl rfl (vs := [Value.int .i64 0, Value.int .i64 (IntKind.wrap .i64 a15.2.1), Value.string ⟨List.toArray ([] : List UInt8)⟩, Value.slice none 0 0]) rfl rfl hb26 rfl (one_cons rfl (one_cons rfl (one_cons rfl (one_cons rfl one_nil)))) (cs' := [Value.int .i64 0, Value.int .i64 (IntKind.wrap .i64 a15.2.1), Value.string ⟨List.toArray ([] : List UInt8)⟩, Value.slice none 0 0]) rfl ?_
        intro w27 hb28 x29
        have t30 := Tr.of_ext (O := (Ins O0 b1)) x29 (fun _ _ h => by cases h; exact (Or.inl rfl))
        have B32 := B24.ext x29
        have X31 := X23.step x29 (fun y hy h => absurd hy (by cases h; have := g9; omega))
        refine OW.done ?_
        have hb33 := (hb18.keep x29 n10)
        cases hm
        exact TW.ret (Out.cell rfl rfl shp_24 hb28 rfl) ⟨_, _, rfl, (Own.nil' _ _ _ _), (fun b h => by cases h), hb33, (T_cbor_reader.shut (x := a15.2.2)), X31⟩
      · have hm := ite_f c25 hm
        refine TW.seq (TW.region ?_)
        refine OW.binI rfl rfl rfl rfl rfl rfl rfl ?_
        refine OW.assign rfl rfl rfl rfl rfl ?_
        refine OW.done ?_
        refine TW.cond rfl (fun c34 => ?_) (fun c34 => ?_)
        · have hm := ite_t c34 hm
          refine TW.seq (TW.region ?_)
          refine OW.move rfl rfl rfl rfl rfl ?_
          refine OW.convI rfl rfl rfl rfl Tryd.underlying60 Tryd.underlying3 rfl ?_
          refine OW.unI rfl rfl rfl rfl rfl rfl ?_
          refine OW.build rfl rfl rfl rfl rfl (cs := [Value.int .i64 0, Value.int .i64 (notI .i64 (IntKind.wrap .i64 a15.2.1)), Value.string ⟨List.toArray ([] : List UInt8)⟩, Value.slice none 0 0]) rfl ?_
          have hb35 := (hb3.keep x21 (Ne.symm n10))
          refine OW.store rfl rfl rfl shp_24 rfl rfl (vs := [Value.int .i64 0, Value.int .i64 (notI .i64 (IntKind.wrap .i64 a15.2.1)), Value.string ⟨List.toArray ([] : List UInt8)⟩, Value.slice none 0 0]) rfl rfl hb35 rfl (one_cons rfl (one_cons rfl (one_cons rfl (one_cons rfl one_nil)))) (cs' := [Value.int .i64 0, Value.int .i64 (notI .i64 (IntKind.wrap .i64 a15.2.1)), Value.string ⟨List.toArray ([] : List UInt8)⟩, Value.slice none 0 0]) rfl ?_
          intro w36 hb37 x38
          have t39 := Tr.of_ext (O := (Ins O0 b1)) x38 (fun _ _ h => by cases h; exact (Or.inl rfl))
          have B41 := B24.ext x38
          have X40 := X23.step x38 (fun y hy h => absurd hy (by cases h; have := g9; omega))
          refine OW.done ?_
          have hb42 := (hb18.keep x38 n10)
          cases hm
          exact TW.ret (Out.cell rfl rfl shp_24 hb37 rfl) ⟨_, _, rfl, (Own.nil' _ _ _ _), (fun b h => by cases h), hb42, (T_cbor_reader.shut (x := a15.2.2)), X40⟩
        · have hm := ite_f c34 hm
          refine TW.seq (TW.region ?_)
          refine OW.binI rfl rfl rfl rfl rfl rfl rfl ?_
          refine OW.assign rfl rfl rfl rfl rfl ?_
          refine OW.done ?_
          refine TW.cond rfl (fun c43 => ?_) (fun c43 => ?_)
          · have hm := ite_t c43 hm
            refine TW.seq (TW.region ?_)
            refine OW.move rfl rfl rfl rfl rfl ?_
            refine OW.move rfl rfl rfl rfl rfl ?_
            have hb44 := (hb3.keep x21 (Ne.symm n10))
            have h45 := h12.tr t22
            obtain ⟨y46, hy47, hm⟩ := bnd hm
            rcases y46 with a48 | pv49
            · dsimp only at hm
              refine OW.call rfl rfl rfl rfl rfl rfl Tryd.call29 ((C.cbor_reader_take _ _ _ hy47 _ (Ins O0 b1) _ _ B24 h45 hb18 (T_cbor_reader.shut (x := a15.2.2)) (Or.inr m0)).mono ?_)
              rintro e w53 ⟨cs50, rfl, hb51, h52, x54⟩
              obtain rfl := T_cbor_reader.opn h52
              refine CallK.ret ?_
              have t55 := Tr.of_ext (O := (Ins O0 b1)) x54 (fun _ _ h => by cases h; exact (Or.inr m0))
              have B57 := B24.ext x54
              have X56 := X23.step x54 (fun y hy h => h)
              refine OW.build rfl rfl rfl rfl rfl (cs := [Value.int .i64 1, Value.int .i64 0, Value.string ⟨List.toArray a48.1⟩, Value.slice none 0 0]) rfl ?_
              have hb58 := (hb44.keep x54 (Ne.symm n10))
              refine OW.store rfl rfl rfl shp_24 rfl rfl (vs := [Value.int .i64 1, Value.int .i64 0, Value.string ⟨List.toArray a48.1⟩, Value.slice none 0 0]) rfl rfl hb58 rfl (one_cons rfl (one_cons rfl (one_cons rfl (one_cons rfl one_nil)))) (cs' := [Value.int .i64 1, Value.int .i64 0, Value.string ⟨List.toArray a48.1⟩, Value.slice none 0 0]) rfl ?_
              intro w59 hb60 x61
              have t62 := Tr.of_ext (O := (Ins O0 b1)) x61 (fun _ _ h => by cases h; exact (Or.inl rfl))
              have B64 := B57.ext x61
              have X63 := X56.step x61 (fun y hy h => absurd hy (by cases h; have := g9; omega))
              refine OW.done ?_
              have hb65 := (hb51.keep x61 n10)
              cases hm
              exact TW.ret (Out.cell rfl rfl shp_24 hb60 rfl) ⟨_, _, rfl, (Own.nil' _ _ _ _), (fun b h => by cases h), hb65, (T_cbor_reader.shut (x := a48.2)), X63⟩
            · dsimp only at hm
              cases hm
              refine OW.call rfl rfl rfl rfl rfl rfl Tryd.call29 ((C.cbor_reader_take _ _ _ hy47 _ (Ins O0 b1) _ _ B24 h45 hb18 (T_cbor_reader.shut (x := a15.2.2)) (Or.inr m0)).mono ?_)
              rintro e w66 ⟨rfl, x67⟩
              exact CallK.pan ⟨rfl, X23.step x67 (fun y hy h => h)⟩
          · have hm := ite_f c43 hm
            refine TW.seq (TW.region ?_)
            refine OW.binI rfl rfl rfl rfl rfl rfl rfl ?_
            refine OW.assign rfl rfl rfl rfl rfl ?_
            refine OW.done ?_
            refine TW.cond rfl (fun c68 => ?_) (fun c68 => ?_)
            · have hm := ite_t c68 hm
              refine TW.seq (TW.region ?_)
              refine OW.move rfl rfl rfl rfl rfl ?_
              refine OW.move rfl rfl rfl rfl rfl ?_
              have hb69 := (hb3.keep x21 (Ne.symm n10))
              have h70 := h12.tr t22
              obtain ⟨y71, hy72, hm⟩ := bnd hm
              rcases y71 with a73 | pv74
              · dsimp only at hm
                refine OW.call rfl rfl rfl rfl rfl rfl Tryd.call29 ((C.cbor_reader_take _ _ _ hy72 _ (Ins O0 b1) _ _ B24 h70 hb18 (T_cbor_reader.shut (x := a15.2.2)) (Or.inr m0)).mono ?_)
                rintro e w78 ⟨cs75, rfl, hb76, h77, x79⟩
                obtain rfl := T_cbor_reader.opn h77
                refine CallK.ret ?_
                have t80 := Tr.of_ext (O := (Ins O0 b1)) x79 (fun _ _ h => by cases h; exact (Or.inr m0))
                have B82 := B24.ext x79
                have X81 := X23.step x79 (fun y hy h => h)
                refine OW.build rfl rfl rfl rfl rfl (cs := [Value.int .i64 2, Value.int .i64 0, Value.string ⟨List.toArray a73.1⟩, Value.slice none 0 0]) rfl ?_
                have hb88 := (hb69.keep x79 (Ne.symm n10))
                refine OW.alloc rfl rfl rfl rfl zer_24 (cs := [Value.int .i64 0, Value.int .i64 0, Value.string ⟨List.toArray ([] : List UInt8)⟩, Value.slice none 0 0]) rfl ?_
                intro b83 w84 hb85 x86 l87
                have t89 := Tr.of_new (O := (Ins O0 b1)) x86 (fun _ _ h => h.elim) l87
                have B91 := (B82.ext x86).ins hb85.lt
                have X90 := X81.step x86 (fun _ _ h => h.elim)
                have g92 : w0.heap.size ≤ b83 := Nat.le_trans X81.size l87
                have n93 : b0 ≠ b83 := by have := hb76.lt; omega
                have n94 : b1 ≠ b83 := by have := hb88.lt; omega
                have hb95 := (hb76.keep x86 (fun h => h))
                have hb96 := (hb88.keep x86 (fun h => h))
                refine OW.store rfl rfl rfl shp_24 rfl rfl (vs := [Value.int .i64 2, Value.int .i64 0, Value.string ⟨List.toArray a73.1⟩, Value.slice none 0 0]) rfl rfl hb85 rfl (one_cons rfl (one_cons rfl (one_cons rfl (one_cons rfl one_nil)))) (cs' := [Value.int .i64 2, Value.int .i64 0, Value.string ⟨List.toArray a73.1⟩, Value.slice none 0 0]) rfl ?_
                intro w97 hb98 x99
                have t100 := Tr.of_ext (O := (Ins (Ins O0 b1) b83)) x99 (fun _ _ h => by cases h; exact (Or.inl rfl))
                have B102 := B91.ext x99
                have X101 := X90.step x99 (fun y hy h => absurd hy (by cases h; have := g92; omega))
                refine OW.done (TW.seq (TW.region ?_))
                refine OW.fieldAddr rfl rfl rfl rfl fld_24_2 rfl ?_
                refine OW.load1 rfl rfl rfl rfl shp_9 rfl hb98 rfl ?_
                have hb103 := (hb95.keep x99 n93)
                have hb104 := (hb96.keep x99 n94)
                have h105 := h70.tr (t80.trans (t89.trans t100))
                obtain ⟨y106, hy107, hm⟩ := bnd hm
                refine OW.call rfl rfl rfl rfl rfl rfl Tryd.call31 ((C.validString _ _ hy107 _ (Ins (Ins O0 b1) b83)  B102 h105).mono ?_)
                rintro e w108 ⟨rfl, x109⟩
                refine CallK.ret ?_
                have t110 := Tr.of_ext (O := (Ins (Ins O0 b1) b83)) x109 (fun _ _ h => h.elim)
                have B112 := B102.ext x109
                have X111 := X101.step x109 (fun _ _ h => h.elim)
                have hb113 := (hb103.keep x109 (fun h => h))
                have hb114 := (hb104.keep x109 (fun h => h))
                have hb115 := (hb98.keep x109 (fun h => h))
                have h116 := h105.tr t110
                obtain ⟨y117, hy118, hm⟩ := bnd hm
                rcases y117 with a119 | pv120
                · dsimp only at hm
                  refine OW.call rfl rfl rfl rfl rfl rfl Tryd.call30 ((C.cbor_must _ _ _ hy118 _ (Ins (Ins O0 b1) b83)  B112 h116).mono ?_)
                  rintro e w121 ⟨rfl, x122⟩
                  refine CallK.ret ?_
                  have t123 := Tr.of_ext (O := (Ins (Ins O0 b1) b83)) x122 (fun _ _ h => h.elim)
                  have B125 := B112.ext x122
                  have X124 := X111.step x122 (fun _ _ h => h.elim)
                  refine OW.done (TW.seq (TW.region ?_))
                  have hb126 := (hb115.keep x122 (fun h => h))
                  refine OW.loadN rfl rfl rfl rfl shp_24 rfl hb126 (vs := [Value.int .i64 2, Value.int .i64 0, Value.string ⟨List.toArray a73.1⟩, Value.slice none 0 0]) rfl rfl ?_
                  have hb127 := (hb114.keep x122 (fun h => h))
                  have hb128 := (hb113.keep x122 (fun h => h))
                  refine OW.store rfl rfl rfl shp_24 rfl rfl (vs := [Value.int .i64 2, Value.int .i64 0, Value.string ⟨List.toArray a73.1⟩, Value.slice none 0 0]) rfl rfl hb127 rfl (one_cons rfl (one_cons rfl (one_cons rfl (one_cons rfl one_nil)))) (cs' := [Value.int .i64 2, Value.int .i64 0, Value.string ⟨List.toArray a73.1⟩, Value.slice none 0 0]) rfl ?_
                  intro w129 hb130 x131
                  have t132 := Tr.of_ext (O := (Ins (Ins O0 b1) b83)) x131 (fun _ _ h => by cases h; exact (Or.inr (Or.inl rfl)))
                  have B134 := B125.ext x131
                  have X133 := X124.step x131 (fun y hy h => absurd hy (by cases h; have := g9; omega))
                  refine OW.done ?_
                  have hb135 := (hb128.keep x131 n10)
                  cases hm
                  exact TW.ret (Out.cell rfl rfl shp_24 hb130 rfl) ⟨_, _, rfl, (Own.nil' _ _ _ _), (fun b h => by cases h), hb135, (T_cbor_reader.shut (x := a73.2)), X133⟩
                · dsimp only at hm
                  cases hm
                  refine OW.call rfl rfl rfl rfl rfl rfl Tryd.call30 ((C.cbor_must _ _ _ hy118 _ (Ins (Ins O0 b1) b83)  B112 h116).mono ?_)
                  rintro e w136 ⟨rfl, x137⟩
                  exact CallK.pan ⟨rfl, X111.step x137 (fun _ _ h => h.elim)⟩
              · dsimp only at hm
                cases hm
                refine OW.call rfl rfl rfl rfl rfl rfl Tryd.call29 ((C.cbor_reader_take _ _ _ hy72 _ (Ins O0 b1) _ _ B24 h70 hb18 (T_cbor_reader.shut (x := a15.2.2)) (Or.inr m0)).mono ?_)
                rintro e w138 ⟨rfl, x139⟩
                exact CallK.pan ⟨rfl, X23.step x139 (fun y hy h => h)⟩
            · have hm := ite_f c68 hm
              refine TW.skip (TW.inBlock (TW.seq (TW.region ?_)))
              refine OW.move rfl rfl rfl rfl rfl ?_
              refine OW.binI rfl rfl rfl rfl rfl rfl rfl ?_
              have hb140 := (hb3.keep x21 (Ne.symm n10))
              have h141 := h12.tr t22
              obtain ⟨y142, hy143, hm⟩ := bnd hm
              rcases y142 with a144 | pv145
              · dsimp only at hm
                refine OW.call rfl rfl rfl rfl rfl rfl Tryd.call30 ((C.cbor_must _ _ _ hy143 _ (Ins O0 b1)  B24 h141).mono ?_)
                rintro e w146 ⟨rfl, x147⟩
                refine CallK.ret ?_
                have t148 := Tr.of_ext (O := (Ins O0 b1)) x147 (fun _ _ h => h.elim)
                have B150 := B24.ext x147
                have X149 := X23.step x147 (fun _ _ h => h.elim)
                refine OW.done (TW.seq (TW.region ?_))
                refine OW.move rfl rfl rfl rfl rfl ?_
                refine OW.convI rfl rfl rfl rfl Tryd.underlying5 Tryd.underlying3 rfl ?_
                refine OW.binI rfl rfl rfl rfl rfl rfl rfl ?_
                refine OW.build rfl rfl rfl rfl rfl (cs := [Value.int .i64 (IntKind.wrap .i64 ((IntKind.wrap .i64 a15.1) - 1)), Value.int .i64 0, Value.string ⟨List.toArray ([] : List UInt8)⟩, Value.slice none 0 0]) rfl ?_
                have hb156 := (hb18.keep x147 (fun h => h))
                have hb157 := (hb140.keep x147 (fun h => h))
                refine OW.alloc rfl rfl rfl rfl zer_24 (cs := [Value.int .i64 0, Value.int .i64 0, Value.string ⟨List.toArray ([] : List UInt8)⟩, Value.slice none 0 0]) rfl ?_
                intro b151 w152 hb153 x154 l155
                have t158 := Tr.of_new (O := (Ins O0 b1)) x154 (fun _ _ h => h.elim) l155
                have B160 := (B150.ext x154).ins hb153.lt
                have X159 := X149.step x154 (fun _ _ h => h.elim)
                have g161 : w0.heap.size ≤ b151 := Nat.le_trans X149.size l155
                have n162 : b0 ≠ b151 := by have := hb156.lt; omega
                have n163 : b1 ≠ b151 := by have := hb157.lt; omega
                have hb164 := (hb156.keep x154 (fun h => h))
                have hb165 := (hb157.keep x154 (fun h => h))
                refine OW.store rfl rfl rfl shp_24 rfl rfl (vs := [Value.int .i64 (IntKind.wrap .i64 ((IntKind.wrap .i64 a15.1) - 1)), Value.int .i64 0, Value.string ⟨List.toArray ([] : List UInt8)⟩, Value.slice none 0 0]) rfl rfl hb153 rfl (one_cons rfl (one_cons rfl (one_cons rfl (one_cons rfl one_nil)))) (cs' := [Value.int .i64 (IntKind.wrap .i64 ((IntKind.wrap .i64 a15.1) - 1)), Value.int .i64 0, Value.string ⟨List.toArray ([] : List UInt8)⟩, Value.slice none 0 0]) rfl ?_
                intro w166 hb167 x168
                have t169 := Tr.of_ext (O := (Ins (Ins O0 b1) b151)) x168 (fun _ _ h => by cases h; exact (Or.inl rfl))
                have B171 := B160.ext x168
                have X170 := X159.step x168 (fun y hy h => absurd hy (by cases h; have := g161; omega))
                refine OW.done (TW.seq (TW.region ?_))
                refine OW.assign rfl rfl rfl rfl rfl ?_
                refine OW.done (TW.seq (TW.block ?_))
                refine TW.lp (fun K => ∀ (x181 : List UInt8) (x184 : Int) (x185 : Int) (x186 : List UInt8) (x187 : List T_api_Cbor) (x192 : Int) (x193 : List UInt8), M.cbor_reader_item_k1 (fuel + 1) (M.cbor_reader_item fuel) p1 a15 x181 x184 x185 x186 x187 x192 x193 = some r → ∀ (w172 : World) (O173 : Nat → Prop) (v188 : Value), Bd O173 w172 → Glob w172 O173 → Ext (At b0) w0 w172 → (∀ x, O0 x → O173 x) → (O173 b0) → (O173 b1) → (O173 b151) → (BoxAt w172 b0 44 [Value.string ⟨List.toArray x181⟩]) → (BoxAt w172 b1 24 [Value.int .i64 0, Value.int .i64 0, Value.string ⟨List.toArray ([] : List UInt8)⟩, Value.slice none 0 0]) → (Own w172 O173 24 4 v188 (x187.map T_api_Cbor.enc)) → (∀ b, v188.ownBlock = some b → b < w0.heap.size → (At b0) b) → (BoxAt w172 b151 24 [Value.int .i64 x184, Value.int .i64 x185, Value.string ⟨List.toArray x186⟩, v188]) → (v188.ownBlock ≠ some b0) → (v188.ownBlock ≠ some b1) → (v188.ownBlock ≠ some b151) →  K [(0, Value.pointer (some ⟨b0, 0, none⟩)), (1, Value.int .i64 p1), (4, Value.pointer (some ⟨b1, 0, none⟩)), (5, Value.int .u8 a15.1), (6, Value.int .u64 x192), (8, Value.pointer (some ⟨b151, 0, none⟩)), (9, Value.string ⟨List.toArray x193⟩)] w172) ?_ ?_
                · intro K hin197 hout198
                  refine fun x181 x184 x185 x186 x187 x192 x193 hm => M.cbor_reader_item_k1.partial_correctness (fuel + 1) (M.cbor_reader_item fuel) p1 a15 x184 x185 x186 (fun x181 x187 x192 x193 r476 => r476 = r → ∀ (w172 : World) (O173 : Nat → Prop) (v188 : Value), Bd O173 w172 → Glob w172 O173 → Ext (At b0) w0 w172 → (∀ x, O0 x → O173 x) → (O173 b0) → (O173 b1) → (O173 b151) → (BoxAt w172 b0 44 [Value.string ⟨List.toArray x181⟩]) → (BoxAt w172 b1 24 [Value.int .i64 0, Value.int .i64 0, Value.string ⟨List.toArray ([] : List UInt8)⟩, Value.slice none 0 0]) → (Own w172 O173 24 4 v188 (x187.map T_api_Cbor.enc)) → (∀ b, v188.ownBlock = some b → b < w0.heap.size → (At b0) b) → (BoxAt w172 b151 24 [Value.int .i64 x184, Value.int .i64 x185, Value.string ⟨List.toArray x186⟩, v188]) → (v188.ownBlock ≠ some b0) → (v188.ownBlock ≠ some b1) → (v188.ownBlock ≠ some b151) →  K [(0, Value.pointer (some ⟨b0, 0, none⟩)), (1, Value.int .i64 p1), (4, Value.pointer (some ⟨b1, 0, none⟩)), (5, Value.int .u8 a15.1), (6, Value.int .u64 x192), (8, Value.pointer (some ⟨b151, 0, none⟩)), (9, Value.string ⟨List.toArray x193⟩)] w172) ?_ x181 x187 x192 x193 r hm rfl
                  intro self ih199 x181 x187 x192 x193 r476 hm hr477 w172 O173 v188 B174 G177 X175 lf176 m178 m179 m180 hb182 hb183 h189 gv190 hb191 n194 n195 n196
                  rw [hr477] at hm
                  refine hin197 _ _ ?_
                  refine TW.seq (TW.seq (TW.region ?_))
                  refine OW.move rfl rfl rfl rfl rfl ?_
                  refine OW.binI rfl rfl rfl rfl rfl rfl rfl ?_
                  refine OW.done ?_
                  refine TW.cond rfl (fun c200 => ?_) (fun c200 => ?_)
                  · have hm := ite_t c200 hm
                    refine TW.skip (TW.seq (TW.block (TW.seq (TW.seq (TW.region ?_)))))
                    refine OW.move rfl rfl rfl rfl rfl ?_
                    refine OW.binI rfl rfl rfl rfl rfl rfl rfl ?_
                    refine OW.done ?_
                    refine TW.cond rfl (fun c201 => ?_) (fun c201 => ?_)
                    · have hm := ite_t c201 hm
                      refine TW.seq (TW.region ?_)
                      refine OW.move rfl rfl rfl rfl rfl ?_
                      refine OW.move rfl rfl rfl rfl rfl ?_
                      refine OW.binI rfl rfl rfl rfl rfl rfl rfl ?_
                      obtain ⟨y202, hy203, hm⟩ := bnd hm
                      rcases y202 with a204 | pv205
                      · dsimp only at hm
                        refine OW.call rfl rfl rfl rfl rfl rfl Tryd.call18 ((ih _ _ _ hy203 _ O173 _ _ B174 G177 hb182 (T_cbor_reader.shut (x := (T_cbor_reader.mk x181))) m178).mono ?_)
                        rintro e w211 ⟨cs206, cs208, rfl, h207, hb209, h210, x212⟩
                        obtain ⟨v213, rfl, h214⟩ := T_api_Cbor.opn h207
                        obtain rfl := T_cbor_reader.opn h210
                        refine CallK.ret ?_
                        have t215 := Tr.of_ext (O := O173) x212 (fun _ _ h => by cases h; exact m178)
                        have B217 := B174.ext x212
                        have X216 := X175.step x212 (fun y hy h => h)
                        have hb223 := (hb183.keep x212 (Ne.symm n10))
                        have hb224 := (hb191.keep x212 (Ne.symm n162))
                        have ho225 := (h189.keep x212 (fun b h e => n194 (e ▸ h)) t215 (fun _ h => h))
                        refine OW.alloc rfl rfl rfl rfl zer_24 (cs := [Value.int .i64 0, Value.int .i64 0, Value.string ⟨List.toArray ([] : List UInt8)⟩, Value.slice none 0 0]) rfl ?_
                        intro b218 w219 hb220 x221 l222
                        have t226 := Tr.of_new (O := O173) x221 (fun _ _ h => h.elim) l222
                        have B228 := (B217.ext x221).ins hb220.lt
                        have X227 := X216.step x221 (fun _ _ h => h.elim)
                        have g229 : w0.heap.size ≤ b218 := Nat.le_trans X216.size l222
                        have n230 : b0 ≠ b218 := by have := hb209.lt; omega
                        have n231 : b1 ≠ b218 := by have := hb223.lt; omega
                        have n232 : b151 ≠ b218 := by have := hb224.lt; omega
                        have n233 : v188.ownBlock ≠ some b218 := fun h => by have := ho225.lt _ h; omega
                        have hb234 := (hb209.keep x221 (fun h => h))
                        have hb235 := (hb223.keep x221 (fun h => h))
                        have hb236 := (hb224.keep x221 (fun h => h))
                        have ho237 := (ho225.keep x221 (fun _ _ h => h) t226 (fun _ h => Or.inr h))
                        refine OW.store rfl rfl rfl shp_24 rfl rfl (vs := [Value.int .i64 a204.1.gKind, Value.int .i64 a204.1.gNum, Value.string ⟨List.toArray a204.1.gText⟩, v213]) rfl rfl hb220 rfl (one_cons rfl (one_cons rfl (one_cons rfl (one_cons (RD.one _ _ h214) one_nil)))) (cs' := [Value.int .i64 a204.1.gKind, Value.int .i64 a204.1.gNum, Value.string ⟨List.toArray a204.1.gText⟩, v213]) rfl ?_
                        intro w238 hb239 x240
                        have t241 := Tr.of_ext (O := (Ins O173 b218)) x240 (fun _ _ h => by cases h; exact (Or.inl rfl))
                        have B243 := B228.ext x240
                        have X242 := X227.step x240 (fun y hy h => absurd hy (by cases h; have := g229; omega))
                        refine OW.done (TW.seq (TW.region ?_))
                        refine OW.loadN rfl rfl rfl rfl shp_24 rfl hb239 (vs := [Value.int .i64 a204.1.gKind, Value.int .i64 a204.1.gNum, Value.string ⟨List.toArray a204.1.gText⟩, v213]) rfl rfl ?_
                        refine OW.move rfl rfl rfl rfl rfl ?_
                        have hb244 := (hb234.keep x240 n230)
                        have hb245 := (hb235.keep x240 n231)
                        have hb246 := (hb236.keep x240 n232)
                        have ho247 := (ho237.keep x240 (fun b h e => n233 (e ▸ h)) t241 (fun _ h => h))
                        have h248 := G177.tr (t215.trans (t226.trans t241))
                        have h249 := h214.tr (t226.trans t241)
                        obtain ⟨y250, hy251, hm⟩ := bnd hm
                        refine OW.call rfl rfl rfl rfl rfl rfl Tryd.call32 ((C.cbor_key _ _ _ _ hy251 _ (Ins O173 b218) _ B243 h248 (T_api_Cbor.shut (x := a204.1) h249)).mono ?_)
                        rintro e w252 ⟨rfl, x253⟩
                        refine CallK.ret ?_
                        have t254 := Tr.of_ext (O := (Ins O173 b218)) x253 (fun _ _ h => h.elim)
                        have B256 := B243.ext x253
                        have X255 := X242.step x253 (fun _ _ h => h.elim)
                        refine OW.move rfl rfl rfl rfl rfl ?_
                        refine OW.extract rfl rfl rfl rfl rfl rfl ?_
                        refine OW.extract rfl rfl rfl rfl rfl rfl ?_
                        refine OW.assign rfl rfl rfl rfl rfl ?_
                        refine OW.assign rfl rfl rfl rfl rfl ?_
                        refine OW.done (TW.seq (TW.region ?_))
                        refine OW.move rfl rfl rfl rfl rfl ?_
                        have hb257 := (hb244.keep x253 (fun h => h))
                        have hb258 := (hb245.keep x253 (fun h => h))
                        have hb259 := (hb246.keep x253 (fun h => h))
                        have hb260 := (hb239.keep x253 (fun h => h))
                        have ho261 := (ho247.keep x253 (fun _ _ h => h) t254 (fun _ h => h))
                        have h262 := h248.tr t254
                        obtain ⟨y263, hy264, hm⟩ := bnd hm
                        rcases y263 with a265 | pv266
                        · dsimp only at hm
                          refine OW.call rfl rfl rfl rfl rfl rfl Tryd.call30 ((C.cbor_must _ _ _ hy264 _ (Ins O173 b218)  B256 h262).mono ?_)
                          rintro e w267 ⟨rfl, x268⟩
                          refine CallK.ret ?_
                          have t269 := Tr.of_ext (O := (Ins O173 b218)) x268 (fun _ _ h => h.elim)
                          have B271 := B256.ext x268
                          have X270 := X255.step x268 (fun _ _ h => h.elim)
                          refine OW.done (TW.seq (TW.region ?_))
                          refine OW.move rfl rfl rfl rfl rfl ?_
                          refine OW.assign rfl rfl rfl rfl rfl ?_
                          refine OW.done (TW.region ?_)
                          refine OW.fieldAddr rfl rfl rfl rfl fld_24_3 rfl ?_
                          have hb272 := (hb259.keep x268 (fun h => h))
                          refine OW.load1 rfl rfl rfl rfl shp_22 rfl hb272 rfl ?_
                          have hb273 := (hb260.keep x268 (fun h => h))
                          refine OW.loadN rfl rfl rfl rfl shp_24 rfl hb273 (vs := [Value.int .i64 a204.1.gKind, Value.int .i64 a204.1.gNum, Value.string ⟨List.toArray a204.1.gText⟩, v213]) rfl rfl ?_
                          have h274 := h249.tr (t254.trans t269)
                          have hb275 := (hb257.keep x268 (fun h => h))
                          have hb276 := (hb258.keep x268 (fun h => h))
                          have ho277 := (ho261.keep x268 (fun _ _ h => h) t269 (fun _ h => h))
                          refine OW.buildSlice rfl rfl rfl rfl Tryd.underlying22 shp_24 zer_24 rfl rfl (cs := [Value.int .i64 a204.1.gKind, Value.int .i64 a204.1.gNum, Value.string ⟨List.toArray a204.1.gText⟩, v213]) rfl rfl rfl ?_
                          intro b278 w279 hb280 x281 l282
                          have t284 := Tr.of_ext (O := (Ins O173 b218)) x281 (fun _ _ h => h.elim)
                          have B286 := B271.ext x281
                          have X285 := X270.step x281 (fun _ _ h => h.elim)
                          have h287 := h274.tr t284
                          have h283 : RD w279 (Ins O173 b218) (D.sl 24 4 ([a204.1].map T_api_Cbor.enc)) (Value.slice (some ⟨b278, 0, none⟩) 1 1) := RD.of_new hb280 B271 l282 rfl (Nat.le_of_ble_eq_true rfl) rfl ⟨(T_api_Cbor.shut (x := a204.1) h287), trivial⟩
                          have hb288 := (hb275.keep x281 (fun h => h))
                          have hb289 := (hb276.keep x281 (fun h => h))
                          have hb290 := (hb272.keep x281 (fun h => h))
                          have hb291 := (hb273.keep x281 (fun h => h))
                          have ho292 := (ho277.keep x281 (fun _ _ h => h) t284 (fun _ h => h))
                          obtain ⟨l293, h294, hm⟩ := bnd hm
                          obtain ⟨hx295, hl296⟩ := app_some h294
                          refine OW.appendL' rfl rfl rfl rfl Tryd.underlying22 inf_24 rfl rfl rfl rfl rfl ho292 B286 h283 hl296 ?_
                          intro v297 w298 O299 G300
                          rw [← hx295] at G300
                          have X301 := X285.step G300.ext (fun y hy h => gv190 y h hy)
                          have gv302 : ∀ b, v297.ownBlock = some b → b < w0.heap.size → (At b0) b := fun b h hl => (G300.at_ b h).elim (fun h => gv190 b h hl) (fun h => absurd hl (by have := X285.size; omega))
                          have n303 : v297.ownBlock ≠ some b0 := fun h => (G300.at_ _ h).elim n194 (fun h => by have := hb288.lt; omega)
                          have n304 : v297.ownBlock ≠ some b1 := fun h => (G300.at_ _ h).elim n195 (fun h => by have := hb289.lt; omega)
                          have n305 : v297.ownBlock ≠ some b151 := fun h => (G300.at_ _ h).elim n196 (fun h => by have := hb290.lt; omega)
                          have n306 : v297.ownBlock ≠ some b218 := fun h => (G300.at_ _ h).elim n233 (fun h => by have := hb291.lt; omega)
                          refine OW.fieldAddr rfl rfl rfl rfl fld_24_3 rfl ?_
                          have hb307 := (hb290.keep G300.ext (n196))
                          have hb308 := (hb288.keep G300.ext (n194))
                          have hb309 := (hb289.keep G300.ext (n195))
                          have hb310 := (hb291.keep G300.ext (n233))
                          refine OW.store rfl rfl rfl shp_22 rfl rfl (vs := [v297]) (cells_one G300.own.one) rfl hb307 rfl (one_cons G300.own.one one_nil) (cs' := [Value.int .i64 x184, Value.int .i64 x185, Value.string ⟨List.toArray x186⟩, v297]) rfl ?_
                          intro w311 hb312 x313
                          have t314 := Tr.of_ext (O := O299) x313 (fun _ _ h => by cases h; exact (G300.more _ (Or.inr m180)))
                          have B316 := G300.bd.ext x313
                          have X315 := X301.step x313 (fun y hy h => absurd hy (by cases h; have := g161; omega))
                          refine OW.done ?_
                          refine TW.drawP [0, 1, 0, 0, 8, 28, 60, 127, 255, 511] [0, 1, 2, 3, 4] [(5, [0, 1], []), (6, [0, 1], []), (7, [], [8]), (9, [], [])] mix (by kernel_rfl) ?_
                          intro w317 x318
                          have t319 := Tr.of_ext (O := O299) x318 (fun _ _ h => h.elim)
                          have B321 := B316.ext x318
                          have X320 := X315.step x318 (fun _ _ h => h.elim)
                          have hb322 := (hb312.keep x318 (fun h => h))
                          refine DP.put [(79, Value.pointer (some ⟨b151, 0 + 3, none⟩)), (80, v297), (81, Value.pointer (some ⟨b0, 0, none⟩)), (82, Value.int .i64 p1), (83, Value.int .i64 (IntKind.wrap .i64 (p1 + 1)))] rfl ?_
                          refine DW.next (StabE.cons rfl rfl rfl rfl (EX.fieldAddr rfl fld_24_3 rfl) (StabE.cons rfl rfl rfl rfl (EX.load1 rfl shp_22 rfl hb322 rfl) (StabE.cons rfl rfl rfl rfl (EX.move rfl rfl) (StabE.cons rfl rfl rfl rfl (EX.move rfl rfl) (StabE.cons rfl rfl rfl rfl (EX.binI rfl rfl rfl rfl) StabE.nil))))) rfl ?_
                          have hb323 := ((hb308.keep x313 n162).keep x318 (fun h => h))
                          have hb324 := ((hb309.keep x313 n163).keep x318 (fun h => h))
                          have hb325 := ((hb310.keep x313 (Ne.symm n232)).keep x318 (fun h => h))
                          have ho326 := ((G300.own.keep x313 (fun b h e => n305 (e ▸ h)) t314 (fun _ h => h)).keep x318 (fun _ _ h => h) t319 (fun _ h => h))
                          have h327 := h262.tr (t269.trans (t284.trans (G300.tr.trans (t314.trans t319))))
                          obtain ⟨y328, hy329, hm⟩ := bnd hm
                          rcases y328 with a330 | pv331
                          · dsimp only at hm
                            refine OW.call rfl rfl rfl rfl rfl rfl Tryd.call18 ((ih _ _ _ hy329 _ O299 _ _ B321 h327 hb323 (T_cbor_reader.shut (x := a204.2)) (G300.more _ (Or.inr m178))).mono ?_)
                            rintro e w337 ⟨cs332, cs334, rfl, h333, hb335, h336, x338⟩
                            obtain ⟨v339, rfl, h340⟩ := T_api_Cbor.opn h333
                            obtain rfl := T_cbor_reader.opn h336
                            refine CallK.ret ?_
                            have t341 := Tr.of_ext (O := O299) x338 (fun _ _ h => by cases h; exact (G300.more _ (Or.inr m178)))
                            have B343 := B321.ext x338
                            have X342 := X320.step x338 (fun y hy h => h)
                            refine DP.ow ?_
                            refine DP.put [] rfl ?_
                            have hb344 := (hb322.keep x338 (Ne.symm n162))
                            refine DW.next (StabE.cons rfl rfl rfl rfl (EX.fieldAddr rfl fld_24_3 rfl) (StabE.cons rfl rfl rfl rfl (EX.load1 rfl shp_22 rfl hb344 rfl) StabE.nil)) rfl ?_
                            have hb345 := (hb324.keep x338 (Ne.symm n10))
                            have hb346 := (hb325.keep x338 (Ne.symm n230))
                            have ho347 := (ho326.keep x338 (fun b h e => n303 (e ▸ h)) t341 (fun _ h => h))
                            refine OW.buildSlice rfl rfl rfl rfl Tryd.underlying22 shp_24 zer_24 rfl rfl (cs := [Value.int .i64 a330.1.gKind, Value.int .i64 a330.1.gNum, Value.string ⟨List.toArray a330.1.gText⟩, v339]) rfl rfl rfl ?_
                            intro b348 w349 hb350 x351 l352
                            have t354 := Tr.of_ext (O := O299) x351 (fun _ _ h => h.elim)
                            have B356 := B343.ext x351
                            have X355 := X342.step x351 (fun _ _ h => h.elim)
                            have h357 := h340.tr t354
                            have h353 : RD w349 O299 (D.sl 24 4 ([a330.1].map T_api_Cbor.enc)) (Value.slice (some ⟨b348, 0, none⟩) 1 1) := RD.of_new hb350 B343 l352 rfl (Nat.le_of_ble_eq_true rfl) rfl ⟨(T_api_Cbor.shut (x := a330.1) h357), trivial⟩
                            refine DP.ow ?_
                            refine DP.put [] rfl ?_
                            have hb358 := (hb344.keep x351 (fun h => h))
                            refine DW.next (StabE.cons rfl rfl rfl rfl (EX.fieldAddr rfl fld_24_3 rfl) (StabE.cons rfl rfl rfl rfl (EX.load1 rfl shp_22 rfl hb358 rfl) StabE.nil)) rfl ?_
                            have hb359 := (hb335.keep x351 (fun h => h))
                            have hb360 := (hb345.keep x351 (fun h => h))
                            have hb361 := (hb346.keep x351 (fun h => h))
                            have ho362 := (ho347.keep x351 (fun _ _ h => h) t354 (fun _ h => h))
                            obtain ⟨l363, h364, hm⟩ := bnd hm
                            obtain ⟨hx365, hl366⟩ := app_some h364
                            refine OW.appendL' rfl rfl rfl rfl Tryd.underlying22 inf_24 rfl rfl rfl rfl rfl ho362 B356 h353 hl366 ?_
                            intro v367 w368 O369 G370
                            rw [← hx365] at G370
                            have X371 := X355.step G370.ext (fun y hy h => gv302 y h hy)
                            have gv372 : ∀ b, v367.ownBlock = some b → b < w0.heap.size → (At b0) b := fun b h hl => (G370.at_ b h).elim (fun h => gv302 b h hl) (fun h => absurd hl (by have := X355.size; omega))
                            have n373 : v367.ownBlock ≠ some b0 := fun h => (G370.at_ _ h).elim n303 (fun h => by have := hb359.lt; omega)
                            have n374 : v367.ownBlock ≠ some b1 := fun h => (G370.at_ _ h).elim n304 (fun h => by have := hb360.lt; omega)
                            have n375 : v367.ownBlock ≠ some b151 := fun h => (G370.at_ _ h).elim n305 (fun h => by have := hb358.lt; omega)
                            have n376 : v367.ownBlock ≠ some b218 := fun h => (G370.at_ _ h).elim n306 (fun h => by have := hb361.lt; omega)
                            refine DP.ow ?_
                            refine DP.put [(87, Value.pointer (some ⟨b151, 0 + 3, none⟩))] rfl ?_
                            refine DW.next (StabE.cons rfl rfl rfl rfl (EX.fieldAddr rfl fld_24_3 rfl) StabE.nil) rfl ?_
                            have hb377 := (hb358.keep G370.ext (n305))
                            have hb378 := (hb359.keep G370.ext (n303))
                            have hb379 := (hb360.keep G370.ext (n304))
                            have hb380 := (hb361.keep G370.ext (n306))
                            refine OW.store rfl rfl rfl shp_22 rfl rfl (vs := [v367]) (cells_one G370.own.one) rfl hb377 rfl (one_cons G370.own.one one_nil) (cs' := [Value.int .i64 x184, Value.int .i64 x185, Value.string ⟨List.toArray x186⟩, v367]) rfl ?_
                            intro w381 hb382 x383
                            have t384 := Tr.of_ext (O := O369) x383 (fun _ _ h => by cases h; exact (G370.more _ (G300.more _ (Or.inr m180))))
                            have B386 := G370.bd.ext x383
                            have X385 := X371.step x383 (fun y hy h => absurd hy (by cases h; have := g161; omega))
                            refine DP.ow ?_
                            refine DP.put [] rfl ?_
                            refine DW.end' StabE.nil ?_
                            refine TW.inBlock (TW.region ?_)
                            refine OW.move rfl rfl rfl rfl rfl ?_
                            refine OW.binI rfl rfl rfl rfl rfl rfl rfl ?_
                            refine OW.assign rfl rfl rfl rfl rfl ?_
                            refine OW.done ?_
                            have hb387 := (hb378.keep x383 n162)
                            have hb388 := (hb379.keep x383 n163)
                            have ho389 := (G370.own.keep x383 (fun b h e => n375 (e ▸ h)) t384 (fun _ h => h))
                            have h390 := h327.tr (t341.trans (t354.trans (G370.tr.trans t384)))
                            exact TW.sub (Sub.cons rfl (Sub.cons rfl (Sub.cons rfl (Sub.cons rfl (Sub.cons rfl (Sub.cons rfl (Sub.cons rfl Sub.nil))))))) (hout198 _ _ (ih199 a330.2.gs l363 (IntKind.wrap .u64 (x192 - 1)) y250.1 _ hm rfl w381 O369 v367 B386 h390 X385 (fun x h => (G370.more _ (G300.more _ (Or.inr (lf176 _ h))))) (G370.more _ (G300.more _ (Or.inr m178))) (G370.more _ (G300.more _ (Or.inr m179))) (G370.more _ (G300.more _ (Or.inr m180))) hb387 hb388 ho389 gv372 hb382 n373 n374 n375))
                          · dsimp only at hm
                            cases hm
                            refine OW.call rfl rfl rfl rfl rfl rfl Tryd.call18 ((ih _ _ _ hy329 _ O299 _ _ B321 h327 hb323 (T_cbor_reader.shut (x := a204.2)) (G300.more _ (Or.inr m178))).mono ?_)
                            rintro e w391 ⟨rfl, x392⟩
                            exact CallK.pan ⟨rfl, X320.step x392 (fun y hy h => h)⟩
                        · dsimp only at hm
                          cases hm
                          refine OW.call rfl rfl rfl rfl rfl rfl Tryd.call30 ((C.cbor_must _ _ _ hy264 _ (Ins O173 b218)  B256 h262).mono ?_)
                          rintro e w393 ⟨rfl, x394⟩
                          exact CallK.pan ⟨rfl, X255.step x394 (fun _ _ h => h.elim)⟩
                      · dsimp only at hm
                        cases hm
                        refine OW.call rfl rfl rfl rfl rfl rfl Tryd.call18 ((ih _ _ _ hy203 _ O173 _ _ B174 G177 hb182 (T_cbor_reader.shut (x := (T_cbor_reader.mk x181))) m178).mono ?_)
                        rintro e w395 ⟨rfl, x396⟩
                        exact CallK.pan ⟨rfl, X175.step x396 (fun y hy h => h)⟩
                    · have hm := ite_f c201 hm
                      refine TW.skip ?_
                      refine TW.drawP [0, 1, 0, 0, 8, 28, 60, 127, 255, 511] [0, 1, 2, 3, 4] [(5, [0, 1], []), (6, [0, 1], []), (7, [], [8]), (9, [], [])] mix (by kernel_rfl) ?_
                      intro w397 x398
                      have t399 := Tr.of_ext (O := O173) x398 (fun _ _ h => h.elim)
                      have B401 := B174.ext x398
                      have X400 := X175.step x398 (fun _ _ h => h.elim)
                      have hb402 := (hb191.keep x398 (fun h => h))
                      refine DP.put [(79, Value.pointer (some ⟨b151, 0 + 3, none⟩)), (80, v188), (81, Value.pointer (some ⟨b0, 0, none⟩)), (82, Value.int .i64 p1), (83, Value.int .i64 (IntKind.wrap .i64 (p1 + 1)))] rfl ?_
                      refine DW.next (StabE.cons rfl rfl rfl rfl (EX.fieldAddr rfl fld_24_3 rfl) (StabE.cons rfl rfl rfl rfl (EX.load1 rfl shp_22 rfl hb402 rfl) (StabE.cons rfl rfl rfl rfl (EX.move rfl rfl) (StabE.cons rfl rfl rfl rfl (EX.move rfl rfl) (StabE.cons rfl rfl rfl rfl (EX.binI rfl rfl rfl rfl) StabE.nil))))) rfl ?_
                      have hb403 := (hb182.keep x398 (fun h => h))
                      have hb404 := (hb183.keep x398 (fun h => h))
                      have ho405 := (h189.keep x398 (fun _ _ h => h) t399 (fun _ h => h))
                      have h406 := G177.tr t399
                      obtain ⟨y407, hy408, hm⟩ := bnd hm
                      rcases y407 with a409 | pv410
                      · dsimp only at hm
                        refine OW.call rfl rfl rfl rfl rfl rfl Tryd.call18 ((ih _ _ _ hy408 _ O173 _ _ B401 h406 hb403 (T_cbor_reader.shut (x := (T_cbor_reader.mk x181))) m178).mono ?_)
                        rintro e w416 ⟨cs411, cs413, rfl, h412, hb414, h415, x417⟩
                        obtain ⟨v418, rfl, h419⟩ := T_api_Cbor.opn h412
                        obtain rfl := T_cbor_reader.opn h415
                        refine CallK.ret ?_
                        have t420 := Tr.of_ext (O := O173) x417 (fun _ _ h => by cases h; exact m178)
                        have B422 := B401.ext x417
                        have X421 := X400.step x417 (fun y hy h => h)
                        refine DP.ow ?_
                        refine DP.put [] rfl ?_
                        have hb423 := (hb402.keep x417 (Ne.symm n162))
                        refine DW.next (StabE.cons rfl rfl rfl rfl (EX.fieldAddr rfl fld_24_3 rfl) (StabE.cons rfl rfl rfl rfl (EX.load1 rfl shp_22 rfl hb423 rfl) StabE.nil)) rfl ?_
                        have hb424 := (hb404.keep x417 (Ne.symm n10))
                        have ho425 := (ho405.keep x417 (fun b h e => n194 (e ▸ h)) t420 (fun _ h => h))
                        refine OW.buildSlice rfl rfl rfl rfl Tryd.underlying22 shp_24 zer_24 rfl rfl (cs := [Value.int .i64 a409.1.gKind, Value.int .i64 a409.1.gNum, Value.string ⟨List.toArray a409.1.gText⟩, v418]) rfl rfl rfl ?_
                        intro b426 w427 hb428 x429 l430
                        have t432 := Tr.of_ext (O := O173) x429 (fun _ _ h => h.elim)
                        have B434 := B422.ext x429
                        have X433 := X421.step x429 (fun _ _ h => h.elim)
                        have h435 := h419.tr t432
                        have h431 : RD w427 O173 (D.sl 24 4 ([a409.1].map T_api_Cbor.enc)) (Value.slice (some ⟨b426, 0, none⟩) 1 1) := RD.of_new hb428 B422 l430 rfl (Nat.le_of_ble_eq_true rfl) rfl ⟨(T_api_Cbor.shut (x := a409.1) h435), trivial⟩
                        refine DP.ow ?_
                        refine DP.put [] rfl ?_
                        have hb436 := (hb423.keep x429 (fun h => h))
                        refine DW.next (StabE.cons rfl rfl rfl rfl (EX.fieldAddr rfl fld_24_3 rfl) (StabE.cons rfl rfl rfl rfl (EX.load1 rfl shp_22 rfl hb436 rfl) StabE.nil)) rfl ?_
                        have hb437 := (hb414.keep x429 (fun h => h))
                        have hb438 := (hb424.keep x429 (fun h => h))
                        have ho439 := (ho425.keep x429 (fun _ _ h => h) t432 (fun _ h => h))
                        obtain ⟨l440, h441, hm⟩ := bnd hm
                        obtain ⟨hx442, hl443⟩ := app_some h441
                        refine OW.appendL' rfl rfl rfl rfl Tryd.underlying22 inf_24 rfl rfl rfl rfl rfl ho439 B434 h431 hl443 ?_
                        intro v444 w445 O446 G447
                        rw [← hx442] at G447
                        have X448 := X433.step G447.ext (fun y hy h => gv190 y h hy)
                        have gv449 : ∀ b, v444.ownBlock = some b → b < w0.heap.size → (At b0) b := fun b h hl => (G447.at_ b h).elim (fun h => gv190 b h hl) (fun h => absurd hl (by have := X433.size; omega))
                        have n450 : v444.ownBlock ≠ some b0 := fun h => (G447.at_ _ h).elim n194 (fun h => by have := hb437.lt; omega)
                        have n451 : v444.ownBlock ≠ some b1 := fun h => (G447.at_ _ h).elim n195 (fun h => by have := hb438.lt; omega)
                        have n452 : v444.ownBlock ≠ some b151 := fun h => (G447.at_ _ h).elim n196 (fun h => by have := hb436.lt; omega)
                        refine DP.ow ?_
                        refine DP.put [(87, Value.pointer (some ⟨b151, 0 + 3, none⟩))] rfl ?_
                        refine DW.next (StabE.cons rfl rfl rfl rfl (EX.fieldAddr rfl fld_24_3 rfl) StabE.nil) rfl ?_
                        have hb453 := (hb436.keep G447.ext (n196))
                        have hb454 := (hb437.keep G447.ext (n194))
                        have hb455 := (hb438.keep G447.ext (n195))
                        refine OW.store rfl rfl rfl shp_22 rfl rfl (vs := [v444]) (cells_one G447.own.one) rfl hb453 rfl (one_cons G447.own.one one_nil) (cs' := [Value.int .i64 x184, Value.int .i64 x185, Value.string ⟨List.toArray x186⟩, v444]) rfl ?_
                        intro w456 hb457 x458
                        have t459 := Tr.of_ext (O := O446) x458 (fun _ _ h => by cases h; exact (G447.more _ m180))
                        have B461 := G447.bd.ext x458
                        have X460 := X448.step x458 (fun y hy h => absurd hy (by cases h; have := g161; omega))
                        refine DP.ow ?_
                        refine DP.put [] rfl ?_
                        refine DW.end' StabE.nil ?_
                        refine TW.inBlock (TW.region ?_)
                        refine OW.move rfl rfl rfl rfl rfl ?_
                        refine OW.binI rfl rfl rfl rfl rfl rfl rfl ?_
                        refine OW.assign rfl rfl rfl rfl rfl ?_
                        refine OW.done ?_
                        have hb462 := (hb454.keep x458 n162)
                        have hb463 := (hb455.keep x458 n163)
                        have ho464 := (G447.own.keep x458 (fun b h e => n452 (e ▸ h)) t459 (fun _ h => h))
                        have h465 := h406.tr (t420.trans (t432.trans (G447.tr.trans t459)))
                        exact TW.sub (Sub.cons rfl (Sub.cons rfl (Sub.cons rfl (Sub.cons rfl (Sub.cons rfl (Sub.cons rfl (Sub.cons rfl Sub.nil))))))) (hout198 _ _ (ih199 a409.2.gs l440 (IntKind.wrap .u64 (x192 - 1)) x193 _ hm rfl w456 O446 v444 B461 h465 X460 (fun x h => (G447.more _ (lf176 _ h))) (G447.more _ m178) (G447.more _ m179) (G447.more _ m180) hb462 hb463 ho464 gv449 hb457 n450 n451 n452))
                      · dsimp only at hm
                        cases hm
                        refine OW.call rfl rfl rfl rfl rfl rfl Tryd.call18 ((ih _ _ _ hy408 _ O173 _ _ B401 h406 hb403 (T_cbor_reader.shut (x := (T_cbor_reader.mk x181))) m178).mono ?_)
                        rintro e w466 ⟨rfl, x467⟩
                        exact CallK.pan ⟨rfl, X400.step x467 (fun y hy h => h)⟩
                  · have hm := ite_f c200 hm
                    refine TW.exit rfl (TW.seq (TW.region ?_))
                    refine OW.loadN rfl rfl rfl rfl shp_24 rfl hb191 (vs := [Value.int .i64 x184, Value.int .i64 x185, Value.string ⟨List.toArray x186⟩, v188]) rfl rfl ?_
                    refine OW.store rfl rfl rfl shp_24 rfl rfl (vs := [Value.int .i64 x184, Value.int .i64 x185, Value.string ⟨List.toArray x186⟩, v188]) rfl rfl hb183 rfl (one_cons rfl (one_cons rfl (one_cons rfl (one_cons h189.one one_nil)))) (cs' := [Value.int .i64 x184, Value.int .i64 x185, Value.string ⟨List.toArray x186⟩, v188]) rfl ?_
                    intro w468 hb469 x470
                    have t471 := Tr.of_ext (O := O173) x470 (fun _ _ h => by cases h; exact m179)
                    have B473 := B174.ext x470
                    have X472 := X175.step x470 (fun y hy h => absurd hy (by cases h; have := g9; omega))
                    refine OW.done ?_
                    have hb474 := (hb182.keep x470 n10)
                    have ho475 := (h189.keep x470 (fun b h e => n195 (e ▸ h)) t471 (fun _ h => h))
                    cases hm
                    exact TW.ret (Out.cell rfl rfl shp_24 hb469 rfl) ⟨_, _, rfl, (ho475.down (fun x h => h.elim (fun h => (lf176 _ h)) (fun h => ho475.mem x h)) (fun b h => Or.inr h)), (fun b h => (Nat.lt_or_ge b w0.heap.size).elim (fun hl => (by rcases gv190 b h hl with rfl <;> first | exact absurd h n194)) id), hb474, (T_cbor_reader.shut (x := (T_cbor_reader.mk x181))), X472⟩
                · intro key478
                  have hb479 := (hb164.keep x168 n162)
                  have hb480 := (hb165.keep x168 n163)
                  have h481 := h141.tr (t148.trans (t158.trans t169))
                  exact TW.sub (Sub.cons rfl (Sub.cons rfl (Sub.cons rfl (Sub.cons rfl (Sub.cons rfl (Sub.cons rfl (Sub.cons rfl Sub.nil))))))) (key478 a15.2.2.gs (IntKind.wrap .i64 ((IntKind.wrap .i64 a15.1) - 1)) 0 ([] : List UInt8) [] a15.2.1 ([] : List UInt8) hm w166 (Ins (Ins O0 b1) b151) (Value.slice none 0 0) B171 h481 X170 (fun x h => (Or.inr (Or.inr h))) (Or.inr (Or.inr m0)) (Or.inr (Or.inl rfl)) (Or.inl rfl) hb479 hb480 (Own.nil' _ _ _ _) (fun b h => by cases h) hb167 (fun h => by cases h) (fun h => by cases h) (fun h => by cases h))
              · dsimp only at hm
                cases hm
                refine OW.call rfl rfl rfl rfl rfl rfl Tryd.call30 ((C.cbor_must _ _ _ hy143 _ (Ins O0 b1)  B24 h141).mono ?_)
                rintro e w482 ⟨rfl, x483⟩
                exact CallK.pan ⟨rfl, X23.step x483 (fun _ _ h => h.elim)⟩
    · dsimp only at hm
      cases hm
      refine OW.call rfl rfl rfl rfl rfl rfl Tryd.call28 ((C.cbor_reader_head _ _ hy14 _ (Ins O0 b1) _ _ B8 h12 hb11 (T_cbor_reader.shut (x := p0)) (Or.inr m0)).mono ?_)
      rintro e w484 ⟨rfl, x485⟩
      exact CallK.pan ⟨rfl, X7.step x485 (fun y hy h => h)⟩
set_option maxRecDepth 1000000 in
set_option maxHeartbeats 4000000 in
theorem C.cbor_Decode (fuel : Nat) : ∀ (p0 : List UInt8) (r : T_api_Cbor × Int × Int), M.cbor_Decode fuel p0 = some r → ∀ (w0 : World) (O0 : Nat → Prop) (B0 : Bd O0 w0) (G0 : Glob w0 O0), Calls Tryd.prog 7 (List.toArray [Value.string ⟨List.toArray p0⟩]) w0 (fun e w' => ∃ (us0 : List Value), e = .returned (Value.tuple (List.toArray [Value.agg us0.toArray, Value.int .i64 r.2.1, Value.int .i64 r.2.2])) ∧ RDs w' O0 (T_api_Cbor.enc r.1) us0 ∧ Ext Nowhere w0 w') := by
  intro p0 r hm w0 O0  B0 G0 
  refine calls_ofD Tryd.func7 rfl 25 rfl rfl ?_
  unfold M.cbor_Decode at hm
  have X0 := Ext.refl Nowhere w0
  refine TW.seq (TW.region ?_)
  refine OW.alloc rfl rfl rfl rfl zer_24 (cs := [Value.int .i64 0, Value.int .i64 0, Value.string ⟨List.toArray ([] : List UInt8)⟩, Value.slice none 0 0]) rfl ?_
  intro b1 w2 hb3 x4 l5
  have t6 := Tr.of_new (O := O0) x4 (fun _ _ h => h.elim) l5
  have B8 := (B0.ext x4).ins hb3.lt
  have X7 := X0.step x4 (fun _ _ h => h.elim)
  have g9 : w0.heap.size ≤ b1 := Nat.le_trans X0.size l5
  refine OW.assign rfl rfl rfl rfl rfl ?_
  refine OW.alloc rfl rfl rfl rfl zer_25 (cs := [Value.int .i64 0]) rfl ?_
  intro b10 w11 hb12 x13 l14
  have t15 := Tr.of_new (O := (Ins O0 b1)) x13 (fun _ _ h => h.elim) l14
  have B17 := (B8.ext x13).ins hb12.lt
  have X16 := X7.step x13 (fun _ _ h => h.elim)
  have g18 : w0.heap.size ≤ b10 := Nat.le_trans X7.size l14
  have n19 : b1 ≠ b10 := by have := hb3.lt; omega
  refine OW.done (TW.seq (TW.seq (TW.region ?_)))
  refine OW.move rfl rfl rfl rfl rfl ?_
  refine OW.lenS rfl rfl rfl rfl Tryd.underlying9 rfl ?_
  refine OW.binI rfl rfl rfl rfl rfl rfl rfl ?_
  refine OW.done ?_
  refine TW.cond rfl (fun c20 => ?_) (fun c20 => ?_)
  · have hm := ite_t c20 hm
    refine TW.seq (TW.region ?_)
    have hb21 := (hb3.keep x13 (fun h => h))
    refine OW.loadN rfl rfl rfl rfl shp_24 rfl hb21 (vs := [Value.int .i64 0, Value.int .i64 0, Value.string ⟨List.toArray ([] : List UInt8)⟩, Value.slice none 0 0]) rfl rfl ?_
    refine OW.store rfl rfl rfl shp_24 rfl rfl (vs := [Value.int .i64 0, Value.int .i64 0, Value.string ⟨List.toArray ([] : List UInt8)⟩, Value.slice none 0 0]) rfl rfl hb21 rfl (one_cons rfl (one_cons rfl (one_cons rfl (one_cons rfl one_nil)))) (cs' := [Value.int .i64 0, Value.int .i64 0, Value.string ⟨List.toArray ([] : List UInt8)⟩, Value.slice none 0 0]) rfl ?_
    intro w22 hb23 x24
    have t25 := Tr.of_ext (O := (Ins (Ins O0 b1) b10)) x24 (fun _ _ h => by cases h; exact (Or.inr (Or.inl rfl)))
    have B27 := B17.ext x24
    have X26 := X16.step x24 (fun y hy h => absurd hy (by cases h; have := g9; omega))
    refine OW.assign rfl rfl rfl rfl rfl ?_
    have hb28 := (hb12.keep x24 (Ne.symm n19))
    refine OW.store rfl rfl rfl shp_25 rfl rfl (vs := [Value.int .i64 32]) rfl rfl hb28 rfl (one_cons rfl one_nil) (cs' := [Value.int .i64 32]) rfl ?_
    intro w29 hb30 x31
    have t32 := Tr.of_ext (O := (Ins (Ins O0 b1) b10)) x31 (fun _ _ h => by cases h; exact (Or.inl rfl))
    have B34 := B27.ext x31
    have X33 := X26.step x31 (fun y hy h => absurd hy (by cases h; have := g18; omega))
    refine OW.done ?_
    have hb35 := (hb23.keep x31 n19)
    cases hm
    exact TW.ret (Out.many rfl ⟨_, _, rfl, ⟨_, _, _, _, _, rfl, shp_24, hb35, rfl, rfl⟩, ⟨_, _, rfl, rfl, ⟨_, _, rfl, ⟨_, _, _, _, _, rfl, shp_25, hb30, rfl, rfl⟩, rfl⟩⟩⟩ rfl) ⟨_, rfl, (T_api_Cbor.shut (x := (T_api_Cbor.mk 0 0 ([] : List UInt8) [])) RD.nil), X33⟩
  · have hm := ite_f c20 hm
    refine TW.skip (TW.seq (TW.deferR rfl rfl rfl rfl rfl ?_))
    refine TW.seq (TW.region ?_)
    refine OW.move rfl rfl rfl rfl rfl ?_
    refine OW.build rfl rfl rfl rfl rfl (cs := [Value.string ⟨List.toArray p0⟩]) rfl ?_
    have hb41 := (hb3.keep x13 (fun h => h))
    refine OW.box rfl rfl rfl rfl rfl (cs := [Value.string ⟨List.toArray p0⟩]) rfl ?_
    intro b36 w37 hb38 x39 l40
    have t42 := Tr.of_new (O := (Ins (Ins O0 b1) b10)) x39 (fun _ _ h => h.elim) l40
    have B44 := (B17.ext x39).ins hb38.lt
    have X43 := X16.step x39 (fun _ _ h => h.elim)
    have g45 : w0.heap.size ≤ b36 := Nat.le_trans X16.size l40
    have n46 : b1 ≠ b36 := by have := hb41.lt; omega
    have n47 : b10 ≠ b36 := by have := hb12.lt; omega
    refine OW.assign rfl rfl rfl rfl rfl ?_
    refine OW.done (TW.seq (TW.region ?_))
    refine OW.move rfl rfl rfl rfl rfl ?_
    have hb48 := (hb41.keep x39 (fun h => h))
    have hb49 := (hb12.keep x39 (fun h => h))
    have h50 := G0.tr (t6.trans (t15.trans t42))
    obtain ⟨y51, hy52, hm⟩ := bnd hm
    rcases y51 with a53 | pv54
    · dsimp only at hm
      refine OW.call rfl rfl rfl rfl rfl rfl Tryd.call18 ((C.cbor_reader_item _ _ _ _ hy52 _ (Ins (Ins (Ins O0 b1) b10) b36) _ _ B44 h50 hb38 (T_cbor_reader.shut (x := (T_cbor_reader.mk p0))) (Or.inl rfl)).mono ?_)
      rintro e w78 ⟨cs73, cs75, rfl, h74, hb76, h77, x79⟩
      obtain ⟨v80, rfl, h81⟩ := T_api_Cbor.opn h74
      obtain rfl := T_cbor_reader.opn h77
      refine CallK.ret ?_
      have t82 := Tr.of_ext (O := (Ins (Ins (Ins O0 b1) b10) b36)) x79 (fun _ _ h => by cases h; exact (Or.inl rfl))
      have B84 := B44.ext x79
      have X83 := X43.step x79 (fun y hy h => absurd hy (by cases h; have := g45; omega))
      have hb90 := (hb48.keep x79 n46)
      have hb91 := (hb49.keep x79 n47)
      refine OW.alloc rfl rfl rfl rfl zer_24 (cs := [Value.int .i64 0, Value.int .i64 0, Value.string ⟨List.toArray ([] : List UInt8)⟩, Value.slice none 0 0]) rfl ?_
      intro b85 w86 hb87 x88 l89
      have t92 := Tr.of_new (O := (Ins (Ins (Ins O0 b1) b10) b36)) x88 (fun _ _ h => h.elim) l89
      have B94 := (B84.ext x88).ins hb87.lt
      have X93 := X83.step x88 (fun _ _ h => h.elim)
      have g95 : w0.heap.size ≤ b85 := Nat.le_trans X83.size l89
      have n96 : b1 ≠ b85 := by have := hb90.lt; omega
      have n97 : b10 ≠ b85 := by have := hb91.lt; omega
      have n98 : b36 ≠ b85 := by have := hb76.lt; omega
      have hb99 := (hb90.keep x88 (fun h => h))
      have hb100 := (hb91.keep x88 (fun h => h))
      have hb101 := (hb76.keep x88 (fun h => h))
      refine OW.store rfl rfl rfl shp_24 rfl rfl (vs := [Value.int .i64 a53.1.gKind, Value.int .i64 a53.1.gNum, Value.string ⟨List.toArray a53.1.gText⟩, v80]) rfl rfl hb87 rfl (one_cons rfl (one_cons rfl (one_cons rfl (one_cons (RD.one _ _ h81) one_nil)))) (cs' := [Value.int .i64 a53.1.gKind, Value.int .i64 a53.1.gNum, Value.string ⟨List.toArray a53.1.gText⟩, v80]) rfl ?_
      intro w102 hb103 x104
      have t105 := Tr.of_ext (O := (Ins (Ins (Ins (Ins O0 b1) b10) b36) b85)) x104 (fun _ _ h => by cases h; exact (Or.inl rfl))
      have B107 := B94.ext x104
      have X106 := X93.step x104 (fun y hy h => absurd hy (by cases h; have := g95; omega))
      refine OW.done (TW.seq ?_)
      refine TW.drawP [0, 0, 2, 0, 8, 24, 56, 120, 254, 1, 1023, 2047] [0, 1, 2, 3, 4, 5, 6, 7, 8] [(9, [1, 2, 3, 4, 5, 6, 7, 8], [10]), (11, [], [])] mix (by kernel_rfl) ?_
      intro w108 x109
      have t110 := Tr.of_ext (O := (Ins (Ins (Ins (Ins O0 b1) b10) b36) b85)) x109 (fun _ _ h => h.elim)
      have B112 := B107.ext x109
      have X111 := X106.step x109 (fun _ _ h => h.elim)
      have hb113 := (hb103.keep x109 (fun h => h))
      have hb114 := ((hb101.keep x104 n98).keep x109 (fun h => h))
      refine DP.put [(16, Value.agg (List.toArray [Value.int .i64 a53.1.gKind, Value.int .i64 a53.1.gNum, Value.string ⟨List.toArray a53.1.gText⟩, v80])), (17, Value.string ⟨List.toArray p0⟩), (18, Value.int .i64 (p0.length : Int)), (19, Value.pointer (some ⟨b36, 0, none⟩)), (20, Value.pointer (some ⟨b36, 0, none⟩)), (21, Value.pointer (some ⟨b36, 0 + 0, none⟩)), (22, Value.string ⟨List.toArray a53.2.gs⟩), (23, Value.int .i64 (a53.2.gs.length : Int)), (24, Value.int .i64 (IntKind.wrap .i64 ((p0.length : Int) - (a53.2.gs.length : Int))))] rfl ?_
      refine DW.next (StabE.cons rfl rfl rfl rfl (EX.loadN rfl shp_24 rfl hb113 (vs := [Value.int .i64 a53.1.gKind, Value.int .i64 a53.1.gNum, Value.string ⟨List.toArray a53.1.gText⟩, v80]) rfl rfl) (StabE.cons rfl rfl rfl rfl (EX.move rfl rfl) (StabE.cons rfl rfl rfl rfl (EX.lenS rfl Tryd.underlying9 rfl) (StabE.cons rfl rfl rfl rfl (EX.move rfl rfl) (StabE.cons rfl rfl rfl rfl (EX.nilCheck rfl rfl) (StabE.cons rfl rfl rfl rfl (EX.fieldAddr rfl fld_44_0 rfl) (StabE.cons rfl rfl rfl rfl (EX.load1 rfl shp_9 rfl hb114 rfl) (StabE.cons rfl rfl rfl rfl (EX.lenS rfl Tryd.underlying9 rfl) (StabE.cons rfl rfl rfl rfl (EX.binI rfl rfl rfl rfl) StabE.nil))))))))) rfl ?_
      have hb115 := ((hb99.keep x104 n96).keep x109 (fun h => h))
      have hb116 := ((hb100.keep x104 n97).keep x109 (fun h => h))
      refine OW.store rfl rfl rfl shp_24 rfl rfl (vs := [Value.int .i64 a53.1.gKind, Value.int .i64 a53.1.gNum, Value.string ⟨List.toArray a53.1.gText⟩, v80]) rfl rfl hb115 rfl (one_cons rfl (one_cons rfl (one_cons rfl (one_cons (RD.one _ _ h81) one_nil)))) (cs' := [Value.int .i64 a53.1.gKind, Value.int .i64 a53.1.gNum, Value.string ⟨List.toArray a53.1.gText⟩, v80]) rfl ?_
      intro w117 hb118 x119
      have t120 := Tr.of_ext (O := (Ins (Ins (Ins (Ins O0 b1) b10) b36) b85)) x119 (fun _ _ h => by cases h; exact (Or.inr (Or.inr (Or.inr (Or.inl rfl)))))
      have B122 := B112.ext x119
      have X121 := X111.step x119 (fun y hy h => absurd hy (by cases h; have := g9; omega))
      refine DP.ow ?_
      refine DP.put [(3, Value.int .i64 (IntKind.wrap .i64 ((p0.length : Int) - (a53.2.gs.length : Int))))] rfl ?_
      have hb123 := (hb114.keep x119 (Ne.symm n46))
      refine DW.next (StabE.cons rfl rfl rfl rfl (EX.move rfl rfl) (StabE.cons rfl rfl rfl rfl (EX.lenS rfl Tryd.underlying9 rfl) (StabE.cons rfl rfl rfl rfl (EX.move rfl rfl) (StabE.cons rfl rfl rfl rfl (EX.nilCheck rfl rfl) (StabE.cons rfl rfl rfl rfl (EX.fieldAddr rfl fld_44_0 rfl) (StabE.cons rfl rfl rfl rfl (EX.load1 rfl shp_9 rfl hb123 rfl) (StabE.cons rfl rfl rfl rfl (EX.lenS rfl Tryd.underlying9 rfl) (StabE.cons rfl rfl rfl rfl (EX.binI rfl rfl rfl rfl) (StabE.cons rfl rfl rfl rfl (EX.assign rfl rfl) StabE.nil))))))))) rfl ?_
      have hb124 := (hb116.keep x119 (Ne.symm n19))
      have hb125 := (hb113.keep x119 (Ne.symm n96))
      refine OW.store rfl rfl rfl shp_25 rfl rfl (vs := [Value.int .i64 0]) rfl rfl hb124 rfl (one_cons rfl one_nil) (cs' := [Value.int .i64 0]) rfl ?_
      intro w126 hb127 x128
      have t129 := Tr.of_ext (O := (Ins (Ins (Ins (Ins O0 b1) b10) b36) b85)) x128 (fun _ _ h => by cases h; exact (Or.inr (Or.inr (Or.inl rfl))))
      have B131 := B122.ext x128
      have X130 := X121.step x128 (fun y hy h => absurd hy (by cases h; have := g18; omega))
      refine DP.ow ?_
      refine DP.put [] rfl ?_
      refine DW.end' StabE.nil ?_
      have hb132 := (hb118.keep x128 n19)
      have hb133 := (hb123.keep x128 (Ne.symm n47))
      have hb134 := (hb125.keep x128 (Ne.symm n97))
      refine TW.retD rfl (LV.ret2 Tryd.call17 (C.caught_ret _ _) ?_)
      intro w135 x136
      have t137 := Tr.of_ext (O := (Ins (Ins (Ins (Ins O0 b1) b10) b36) b85)) x136 (fun _ _ h => h.elim)
      have B139 := B131.ext x136
      have X138 := X130.step x136 (fun _ _ h => h.elim)
      have hb140 := (hb132.keep x136 (fun h => h))
      have hb141 := (hb127.keep x136 (fun h => h))
      have h142 := h81.tr (t92.trans (t105.trans (t110.trans (t120.trans (t129.trans t137)))))
      cases hm
      exact ⟨_, (Out.many rfl ⟨_, _, rfl, ⟨_, _, _, _, _, rfl, shp_24, hb140, rfl, rfl⟩, ⟨_, _, rfl, rfl, ⟨_, _, rfl, ⟨_, _, _, _, _, rfl, shp_25, hb141, rfl, rfl⟩, rfl⟩⟩⟩ rfl), ⟨_, rfl, (T_api_Cbor.shut (x := a53.1) (h142.tr (Tr.drop _ fun x h => (Or.inr (Or.inr (Or.inr (Or.inr h))))))), X138⟩⟩
    · dsimp only at hm
      obtain ⟨e55, he56, hm⟩ := bnd hm
      have hv57 := asErr_some he56
      subst hv57
      refine OW.call rfl rfl rfl rfl rfl rfl Tryd.call18 ((C.cbor_reader_item _ _ _ _ hy52 _ (Ins (Ins (Ins O0 b1) b10) b36) _ _ B44 h50 hb38 (T_cbor_reader.shut (x := (T_cbor_reader.mk p0))) (Or.inl rfl)).mono ?_)
      rintro e w58 ⟨rfl, x59⟩
      have t60 := Tr.of_ext (O := (Ins (Ins (Ins O0 b1) b10) b36)) x59 (fun _ _ h => by cases h; exact (Or.inl rfl))
      have B62 := B44.ext x59
      have X61 := X43.step x59 (fun y hy h => absurd hy (by cases h; have := g45; omega))
      have hb63 := (hb49.keep x59 n47)
      have h64 := h50.tr t60
      have hb65 := (hb48.keep x59 n46)
      refine CallK.panD rfl rfl (LV.pan2 _ Tryd.call17 (C.caught_pan _ _ _ _ hb63) ?_)
      rintro w66 ⟨hb67, x68⟩
      have t69 := Tr.of_ext (O := (Ins (Ins (Ins O0 b1) b10) b36)) x68 (fun _ _ h => by cases h; exact (Or.inr (Or.inl rfl)))
      have B71 := B62.ext x68
      have X70 := X61.step x68 (fun y hy h => absurd hy (by cases h; have := g18; omega))
      have hb72 := (hb65.keep x68 n19)
      cases hm
      exact ⟨_, (Out.many rfl ⟨_, _, rfl, ⟨_, _, _, _, _, rfl, shp_24, hb72, rfl, rfl⟩, ⟨_, _, rfl, rfl, ⟨_, _, rfl, ⟨_, _, _, _, _, rfl, shp_25, hb67, rfl, rfl⟩, rfl⟩⟩⟩ rfl), ⟨_, rfl, (T_api_Cbor.shut (x := (T_api_Cbor.mk 0 0 ([] : List UInt8) [])) RD.nil), X70⟩⟩
end Go.Proofs.YtmbckfhcljgniaaDoor
