/- JsCC: what a program of ours printed of the program's functions. -/
import Derived.Test.YtcfkkgpnggdlnaaGreatDoorProg
import Derived.Test.YtcfkkgpnggdlnaaGreatDoorLkI
set_option linter.all false
namespace Go.Proofs.YtcfkkgpnggdlnaaGreatDoor
open Go.Lk Go.RowKit
theorem cc_shp : shp Tryz.prog 49 = some (false, 1) := by kernel_rfl
theorem cc_fld : fld Tryz.prog 52 0 = some (0, false, 1) := by kernel_rfl
theorem cc_size : (Tryz.prog.info? 52).map (·.size) = some 2 := by kernel_rfl
theorem cc_lies : liesAt Tryz.prog Tryz.prog.depth 52 (2 / Tryz.prog.cellsOf 52) 0 52 1 = true := by kernel_rfl
set_option maxRecDepth 1000000 in
theorem copyCheck_low (w0 : World) (b : Nat) (a v : Value) (hb : BoxAt w0 b 52 [a, v]) (hs : Slf b a) (h1 : v.oneCell' = true) :
    Calls Tryz.prog 73 (List.toArray [Value.pointer (some ⟨b, 0, none⟩)]) w0 (fun e w' => e = .returned (.tuple #[]) ∧ BoxAt w' b 52 [Value.pointer (some ⟨b, 0, none⟩), v] ∧ Ext (At b) w0 w') := by
  obtain ⟨j, hj, hjs⟩ := Option.map_eq_some_iff.1 cc_size
  have hsh : w0.shape? b = some (52, 2) := by
    have hb' := hb
    simp only [BoxAt] at hb'
    simp [World.shape?, hb']
  refine calls_of Tryz.func73 rfl 20 rfl rfl ?_
  rcases hs with rfl | rfl
  · refine TW.seq (TW.region ?_)
    refine OW.move rfl rfl rfl rfl rfl ?_
    refine OW.nilCheck rfl rfl rfl rfl rfl ?_
    refine OW.fieldAddr rfl rfl rfl rfl cc_fld rfl ?_
    refine OW.load1 rfl rfl rfl rfl cc_shp rfl hb rfl ?_
    refine OW.val rfl rfl rfl (EX.eqNN rfl Tryz.underlying49 hj rfl rfl) ?_
    refine OW.done (TW.cond_t rfl (TW.region ?_))
    refine OW.move rfl rfl rfl rfl rfl ?_
    refine OW.move rfl rfl rfl rfl rfl ?_
    refine OW.val rfl rfl rfl (EX.toU rfl Tryz.underlying49 Tryz.underlying122 hj (by rw [hjs]; decide) rfl hsh (by decide)) ?_
    refine OW.val rfl rfl rfl (EX.ext1 rfl rfl rfl (run_noEsc Tryz.func94 (by kernel_rfl) (by kernel_rfl) (by kernel_rfl) (by kernel_rfl) _)) ?_
    refine OW.val rfl rfl rfl (EX.fromU rfl Tryz.underlying122 Tryz.underlying49 hj rfl hsh cc_lies) ?_
    refine OW.nilCheck rfl rfl rfl rfl rfl ?_
    refine OW.fieldAddr rfl rfl rfl rfl cc_fld rfl ?_
    refine OW.store rfl rfl rfl cc_shp rfl rfl (vs := [Value.pointer (some ⟨b, 0, none⟩)]) rfl rfl hb rfl rfl (cs' := [Value.pointer (some ⟨b, 0, none⟩), v]) rfl ?_
    intro w' hb' x
    exact OW.done (TW.fin (Out.unit rfl) ⟨rfl, hb', x⟩)
  · refine TW.seq (TW.region ?_)
    refine OW.move rfl rfl rfl rfl rfl ?_
    refine OW.nilCheck rfl rfl rfl rfl rfl ?_
    refine OW.fieldAddr rfl rfl rfl rfl cc_fld rfl ?_
    refine OW.load1 rfl rfl rfl rfl cc_shp rfl hb rfl ?_
    refine OW.val rfl rfl rfl (EX.eqSN rfl Tryz.underlying49 hj rfl rfl) ?_
    refine OW.done (TW.cond_f rfl (TW.seq (TW.region ?_)))
    refine OW.move rfl rfl rfl rfl rfl ?_
    refine OW.nilCheck rfl rfl rfl rfl rfl ?_
    refine OW.fieldAddr rfl rfl rfl rfl cc_fld rfl ?_
    refine OW.load1 rfl rfl rfl rfl cc_shp rfl hb rfl ?_
    refine OW.move rfl rfl rfl rfl rfl ?_
    refine OW.val rfl rfl rfl (EX.neSS rfl Tryz.underlying49 hj rfl rfl) ?_
    refine OW.done (TW.cond_f rfl (TW.skip ?_))
    exact TW.fin (Out.unit rfl) ⟨rfl, hb, Ext.refl _ _⟩
end Go.Proofs.YtcfkkgpnggdlnaaGreatDoor
