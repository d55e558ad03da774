/- What the deferred function does. -/
import Derived.Test.YtcfkkgpnggdlnaaGreatDoorProg
import Derived.Test.YtcfkkgpnggdlnaaGreatDoorLkI
import Derived.Test.YtcfkkgpnggdlnaaGreatDoorPeE
set_option linter.all false
namespace Go.Proofs.YtcfkkgpnggdlnaaGreatDoor
open Go.Lk Go.Pe Go.RowKit
theorem fld_75_0 : fld Tryz.prog 75 0 = some (0, false, 1) := by kernel_rfl
theorem shp_27 : shp Tryz.prog 27 = some (false, 1) := by kernel_rfl
theorem shp_75 : shp Tryz.prog 75 = some (true, 1) := by kernel_rfl
theorem zer_75 : zer Tryz.prog 75 = some (Value.agg #[Value.int .i64 0]) := by kernel_rfl
set_option maxRecDepth 1000000
theorem C.caught_ret (w0 : World) (b0 : Nat) : CallsD Tryz.prog 25 (List.toArray [Value.pointer (some ⟨b0, 0, none⟩)]) .returning w0 (fun e u w' => e = .returned (.tuple #[]) ∧ u = .returning ∧ Ext Nowhere w0 w') := by
  have B0 : Bd Nowhere w0 := fun _ h => h.elim
  have X0 := Ext.refl Nowhere w0
  refine (callsD_of (R := fun e w' => e = .returned (.tuple #[]) ∧ Ext Nowhere w0 w') .returning .returning Tryz.func25 rfl 14 rfl rfl ?_).mono (fun e u w' h => ⟨h.2.1, h.1, h.2.2⟩)
  refine TWR.seq ?_
  refine TWR.recover rfl (.inl ⟨rfl, rfl, rfl⟩) rfl rfl rfl rfl ?_
  refine OW.val rfl rfl rfl (EX.taNil rfl Tryz.underlying75 rfl zer_75 rfl) ?_
  refine OW.move rfl rfl rfl rfl rfl ?_
  refine OW.extract rfl rfl rfl rfl rfl rfl ?_
  refine OW.extract rfl rfl rfl rfl rfl rfl ?_
  refine OW.alloc rfl rfl rfl rfl zer_75 (cs := [Value.int .i64 0]) rfl ?_
  intro b1 w2 hb3 x4 l5
  have t6 := Tr.of_new (O := Nowhere) x4 (fun _ _ h => h.elim) l5
  have B8 := (B0.ext x4).ins hb3.lt
  have X7 := X0.step x4 (fun _ _ h => h.elim)
  have g9 : w0.heap.size ≤ b1 := Nat.le_trans X0.size l5
  refine OW.store rfl rfl rfl shp_75 rfl rfl (vs := [Value.int .i64 0]) rfl rfl hb3 rfl (one_cons rfl one_nil) (cs' := [Value.int .i64 0]) rfl ?_
  intro w10 hb11 x12
  have t13 := Tr.of_ext (O := (Ins Nowhere b1)) x12 (fun _ _ h => by cases h; exact (Or.inl rfl))
  have B15 := B8.ext x12
  have X14 := X7.step x12 (fun y hy h => absurd hy (by cases h; have := g9; omega))
  refine OW.assign rfl rfl rfl rfl rfl ?_
  refine OW.done (TW.seq (TW.region ?_))
  refine OW.move rfl rfl rfl rfl rfl ?_
  refine OW.done (TW.cond_f rfl (TW.skip ?_))
  exact TW.fin (Out.unit rfl) ⟨rfl, X14⟩
theorem C.caught_pan (w0 : World) (b0 : Nat) (c0 : Value) (e0 : Int) (hb0 : BoxAt w0 b0 27 [c0]) : CallsD Tryz.prog 25 (List.toArray [Value.pointer (some ⟨b0, 0, none⟩)]) (.panicking [{ v := Value.iface 75 (Value.agg (List.toArray [Value.int .i64 e0])), recovered := false }]) w0 (fun e u w' => e = .returned (.tuple #[]) ∧ u = (.panicking [{ v := Value.iface 75 (Value.agg (List.toArray [Value.int .i64 e0])), recovered := true }]) ∧ BoxAt w' b0 27 [Value.int .i64 e0] ∧ Ext (At b0) w0 w') := by
  have B0 : Bd (At b0) w0 := fun x h => by cases h; exact hb0.lt
  have X0 := Ext.refl (At b0) w0
  refine (callsD_of (R := fun e w' => e = .returned (.tuple #[]) ∧ BoxAt w' b0 27 [Value.int .i64 e0] ∧ Ext (At b0) w0 w') (.panicking [{ v := Value.iface 75 (Value.agg (List.toArray [Value.int .i64 e0])), recovered := false }]) (.panicking [{ v := Value.iface 75 (Value.agg (List.toArray [Value.int .i64 e0])), recovered := true }]) Tryz.func25 rfl 14 rfl rfl ?_).mono (fun e u w' h => ⟨h.2.1, h.1, h.2.2⟩)
  refine TWR.seq ?_
  refine TWR.recover rfl (.inr ⟨[], rfl, rfl⟩) rfl rfl rfl rfl ?_
  refine OW.val rfl rfl rfl (EX.taYes rfl Tryz.underlying75 rfl rfl) ?_
  refine OW.move rfl rfl rfl rfl rfl ?_
  refine OW.extract rfl rfl rfl rfl rfl rfl ?_
  refine OW.extract rfl rfl rfl rfl rfl rfl ?_
  refine OW.alloc rfl rfl rfl rfl zer_75 (cs := [Value.int .i64 0]) rfl ?_
  intro b1 w2 hb3 x4 l5
  have t6 := Tr.of_new (O := (At b0)) x4 (fun _ _ h => h.elim) l5
  have B8 := (B0.ext x4).ins hb3.lt
  have X7 := X0.step x4 (fun _ _ h => h.elim)
  have g9 : w0.heap.size ≤ b1 := Nat.le_trans X0.size l5
  have n10 : b0 ≠ b1 := by have := hb0.lt; omega
  have hb11 := (hb0.keep x4 (fun h => h))
  refine OW.store rfl rfl rfl shp_75 rfl rfl (vs := [Value.int .i64 e0]) rfl rfl hb3 rfl (one_cons rfl one_nil) (cs' := [Value.int .i64 e0]) rfl ?_
  intro w12 hb13 x14
  have t15 := Tr.of_ext (O := (Ins (At b0) b1)) x14 (fun _ _ h => by cases h; exact (Or.inl rfl))
  have B17 := B8.ext x14
  have X16 := X7.step x14 (fun y hy h => absurd hy (by cases h; have := g9; omega))
  refine OW.assign rfl rfl rfl rfl rfl ?_
  refine OW.done (TW.seq (TW.region ?_))
  refine OW.move rfl rfl rfl rfl rfl ?_
  refine OW.done (TW.cond_t rfl (TW.region ?_))
  refine OW.move rfl rfl rfl rfl rfl ?_
  refine OW.fieldAddr rfl rfl rfl rfl fld_75_0 rfl ?_
  refine OW.load1 rfl rfl rfl rfl shp_27 rfl hb13 rfl ?_
  refine OW.nilCheck rfl rfl rfl rfl rfl ?_
  have hb18 := (hb11.keep x14 n10)
  refine OW.store rfl rfl rfl shp_27 rfl rfl (vs := [Value.int .i64 e0]) rfl rfl hb18 rfl (one_cons rfl one_nil) (cs' := [Value.int .i64 e0]) rfl ?_
  intro w19 hb20 x21
  have t22 := Tr.of_ext (O := (Ins (At b0) b1)) x21 (fun _ _ h => by cases h; exact (Or.inr (rfl : At b0 b0)))
  have B24 := B17.ext x21
  have X23 := X16.step x21 (fun y hy h => h)
  refine OW.done ?_
  have hb25 := (hb13.keep x21 (Ne.symm n10))
  exact TW.fin (Out.unit rfl) ⟨rfl, hb20, X23⟩
theorem C.caught : Caught Tryz.prog 25 75 .i64 27 := ⟨fun _ _ => rfl, C.caught_ret, C.caught_pan⟩
end Go.Proofs.YtcfkkgpnggdlnaaGreatDoor
