import Derived.Test.YtfdoofnmjehecaaGreatDoorProg
import Derived.Test.YtfdoofnmjehecaaGreatDoorAPfS2
import Derived.Shelf.GgClosure.StringsIndexFunc
set_option linter.all false
namespace Go.Proofs.YtfdoofnmjehecaaGreatDoor
open _root_.List renaming toArray → ya
open _root_.Nat renaming le_trans → yb
section
open Go.Lk Go.Pe Go.RowKit
theorem zv2:fld Tryz.prog 244 0=some (0,false,1):=by kernel_rfl
theorem zrr:shp Tryz.prog 26=some (false,1):=by kernel_rfl
theorem zxn:shp Tryz.prog 244=some (true,1):=by kernel_rfl
theorem zps:zer Tryz.prog 244=some (Value.agg #[Value.int .i64 0]):=by kernel_rfl
theorem zz7:fld Tryz.prog 59 0=some (0,false,1):=by kernel_rfl
theorem zz02k:shp Tryz.prog 59=some (true,1):=by kernel_rfl
theorem zy3:zer Tryz.prog 59=some (Value.agg #[Value.int .i64 0]):=by kernel_rfl
set_option maxRecDepth 1000000
theorem C.zs2 (w0:World) (b0:Nat):CallsD Tryz.prog 185 (ya [Value.pointer (some ⟨b0,0,none⟩)]) .returning w0 (fun e u w'=>e = .returned (.tuple #[])∧u = .returning∧Ext z14 w0 w'):=by
 have B0:Bd z14 w0:=fun _ h=>h.elim
 have X0:=Ext.refl z14 w0
 refine (z9h (R:=fun e w'=>e = .returned (.tuple #[])∧Ext z14 w0 w') .returning .returning Tryz.func185 rfl 14 rfl rfl ?_).mono (fun e u w' h=>⟨h.2.1,h.1,h.2.2⟩)
 refine TWR.seq ?_
 refine TWR.recover rfl (.inl ⟨rfl,rfl,rfl⟩) rfl rfl rfl rfl ?_
 refine OW.val rfl rfl rfl (EX.taNil rfl Tryz.underlying244 rfl zps rfl) ?_
 refine OW.move rfl rfl rfl rfl rfl ?_
 refine OW.extract rfl rfl rfl rfl rfl rfl ?_
 refine OW.extract rfl rfl rfl rfl rfl rfl ?_
 refine OW.alloc rfl rfl rfl rfl zps (cs:=[Value.int .i64 0]) rfl ?_
 intro b1 w2 hb3 x4 l5
 have t6:=Tr.z9x (O:=z14) x4 (fun _ _ h=>h.elim) l5
 have B8:=(B0.ext x4).ins hb3.lt
 have X7:=X0.step x4 (fun _ _ h=>h.elim)
 have g9:w0.heap.size≤b1:=yb X0.size l5
 refine OW.store rfl rfl rfl zxn rfl rfl (vs:=[Value.int .i64 0]) rfl rfl hb3 rfl (zaj rfl zdi) (cs':=[Value.int .i64 0]) rfl ?_
 intro w10 hb11 x12
 have t13:=Tr.z5n (O:=(Ins z14 b1)) x12 (fun _ _ h=>by cases h;exact (Or.inl rfl))
 have B15:=B8.ext x12
 have X14:=X7.step x12 (fun y hy h=>absurd hy (by cases h;have:=g9;omega))
 refine OW.assign rfl rfl rfl rfl rfl ?_
 refine OW.done (TW.seq (TW.region ?_))
 refine OW.move rfl rfl rfl rfl rfl ?_
 refine OW.done (TW.zq3 rfl (TW.skip ?_))
 exact TW.fin (Out.unit rfl) ⟨rfl,X14⟩
theorem C.zs1 (w0:World) (b0:Nat) (c0:Value) (e0:Int) (hb0:z34 w0 b0 26 [c0]):CallsD Tryz.prog 185 (ya [Value.pointer (some ⟨b0,0,none⟩)]) (.panicking [{ v:=Value.iface 244 (Value.agg (ya [Value.int .i64 e0])),recovered:=false }]) w0 (fun e u w'=>e = .returned (.tuple #[])∧u=(.panicking [{ v:=Value.iface 244 (Value.agg (ya [Value.int .i64 e0])),recovered:=true }])∧z34 w' b0 26 [Value.int .i64 e0]∧Ext (At b0) w0 w'):=by
 have B0:Bd (At b0) w0:=fun x h=>by cases h;exact hb0.lt
 have X0:=Ext.refl (At b0) w0
 refine (z9h (R:=fun e w'=>e = .returned (.tuple #[])∧z34 w' b0 26 [Value.int .i64 e0]∧Ext (At b0) w0 w') (.panicking [{ v:=Value.iface 244 (Value.agg (ya [Value.int .i64 e0])),recovered:=false }]) (.panicking [{ v:=Value.iface 244 (Value.agg (ya [Value.int .i64 e0])),recovered:=true }]) Tryz.func185 rfl 14 rfl rfl ?_).mono (fun e u w' h=>⟨h.2.1,h.1,h.2.2⟩)
 refine TWR.seq ?_
 refine TWR.recover rfl (.inr ⟨[],rfl,rfl⟩) rfl rfl rfl rfl ?_
 refine OW.val rfl rfl rfl (EX.taYes rfl Tryz.underlying244 rfl rfl) ?_
 refine OW.move rfl rfl rfl rfl rfl ?_
 refine OW.extract rfl rfl rfl rfl rfl rfl ?_
 refine OW.extract rfl rfl rfl rfl rfl rfl ?_
 refine OW.alloc rfl rfl rfl rfl zps (cs:=[Value.int .i64 0]) rfl ?_
 intro b1 w2 hb3 x4 l5
 have t6:=Tr.z9x (O:=(At b0)) x4 (fun _ _ h=>h.elim) l5
 have B8:=(B0.ext x4).ins hb3.lt
 have X7:=X0.step x4 (fun _ _ h=>h.elim)
 have g9:w0.heap.size≤b1:=yb X0.size l5
 have n10:b0≠b1:=by have:=hb0.lt;omega
 have hb11:=(hb0.keep x4 (fun h=>h))
 refine OW.store rfl rfl rfl zxn rfl rfl (vs:=[Value.int .i64 e0]) rfl rfl hb3 rfl (zaj rfl zdi) (cs':=[Value.int .i64 e0]) rfl ?_
 intro w12 hb13 x14
 have t15:=Tr.z5n (O:=(Ins (At b0) b1)) x14 (fun _ _ h=>by cases h;exact (Or.inl rfl))
 have B17:=B8.ext x14
 have X16:=X7.step x14 (fun y hy h=>absurd hy (by cases h;have:=g9;omega))
 refine OW.assign rfl rfl rfl rfl rfl ?_
 refine OW.done (TW.seq (TW.region ?_))
 refine OW.move rfl rfl rfl rfl rfl ?_
 refine OW.done (TW.zue rfl (TW.region ?_))
 refine OW.move rfl rfl rfl rfl rfl ?_
 refine OW.fieldAddr rfl rfl rfl rfl zv2 rfl ?_
 refine OW.zoi rfl rfl rfl rfl zrr rfl hb13 rfl ?_
 refine OW.nilCheck rfl rfl rfl rfl rfl ?_
 have hb18:=(hb11.keep x14 n10)
 refine OW.store rfl rfl rfl zrr rfl rfl (vs:=[Value.int .i64 e0]) rfl rfl hb18 rfl (zaj rfl zdi) (cs':=[Value.int .i64 e0]) rfl ?_
 intro w19 hb20 x21
 have t22:=Tr.z5n (O:=(Ins (At b0) b1)) x21 (fun _ _ h=>by cases h;exact (Or.inr (rfl:At b0 b0)))
 have B24:=B17.ext x21
 have X23:=X16.step x21 (fun y hy h=>h)
 refine OW.done ?_
 have hb25:=(hb13.keep x21 (Ne.symm n10))
 exact TW.fin (Out.unit rfl) ⟨rfl,hb20,X23⟩
theorem C.zub:zki Tryz.prog 185 244 .i64 26:=⟨fun _ _=>rfl,C.zs2,C.zs1⟩
theorem C.zhd (w0:World) (b0:Nat):CallsD Tryz.prog 179 (ya [Value.pointer (some ⟨b0,0,none⟩)]) .returning w0 (fun e u w'=>e = .returned (.tuple #[])∧u = .returning∧Ext z14 w0 w'):=by
 have B0:Bd z14 w0:=fun _ h=>h.elim
 have X0:=Ext.refl z14 w0
 refine (z9h (R:=fun e w'=>e = .returned (.tuple #[])∧Ext z14 w0 w') .returning .returning Tryz.func179 rfl 14 rfl rfl ?_).mono (fun e u w' h=>⟨h.2.1,h.1,h.2.2⟩)
 refine TWR.seq ?_
 refine TWR.recover rfl (.inl ⟨rfl,rfl,rfl⟩) rfl rfl rfl rfl ?_
 refine OW.val rfl rfl rfl (EX.taNil rfl Tryz.underlying59 rfl zy3 rfl) ?_
 refine OW.move rfl rfl rfl rfl rfl ?_
 refine OW.extract rfl rfl rfl rfl rfl rfl ?_
 refine OW.extract rfl rfl rfl rfl rfl rfl ?_
 refine OW.alloc rfl rfl rfl rfl zy3 (cs:=[Value.int .i64 0]) rfl ?_
 intro b1 w2 hb3 x4 l5
 have t6:=Tr.z9x (O:=z14) x4 (fun _ _ h=>h.elim) l5
 have B8:=(B0.ext x4).ins hb3.lt
 have X7:=X0.step x4 (fun _ _ h=>h.elim)
 have g9:w0.heap.size≤b1:=yb X0.size l5
 refine OW.store rfl rfl rfl zz02k rfl rfl (vs:=[Value.int .i64 0]) rfl rfl hb3 rfl (zaj rfl zdi) (cs':=[Value.int .i64 0]) rfl ?_
 intro w10 hb11 x12
 have t13:=Tr.z5n (O:=(Ins z14 b1)) x12 (fun _ _ h=>by cases h;exact (Or.inl rfl))
 have B15:=B8.ext x12
 have X14:=X7.step x12 (fun y hy h=>absurd hy (by cases h;have:=g9;omega))
 refine OW.assign rfl rfl rfl rfl rfl ?_
 refine OW.done (TW.seq (TW.region ?_))
 refine OW.move rfl rfl rfl rfl rfl ?_
 refine OW.done (TW.zq3 rfl (TW.skip ?_))
 exact TW.fin (Out.unit rfl) ⟨rfl,X14⟩
theorem C.zhc (w0:World) (b0:Nat) (c0:Value) (e0:Int) (hb0:z34 w0 b0 26 [c0]):CallsD Tryz.prog 179 (ya [Value.pointer (some ⟨b0,0,none⟩)]) (.panicking [{ v:=Value.iface 59 (Value.agg (ya [Value.int .i64 e0])),recovered:=false }]) w0 (fun e u w'=>e = .returned (.tuple #[])∧u=(.panicking [{ v:=Value.iface 59 (Value.agg (ya [Value.int .i64 e0])),recovered:=true }])∧z34 w' b0 26 [Value.int .i64 e0]∧Ext (At b0) w0 w'):=by
 have B0:Bd (At b0) w0:=fun x h=>by cases h;exact hb0.lt
 have X0:=Ext.refl (At b0) w0
 refine (z9h (R:=fun e w'=>e = .returned (.tuple #[])∧z34 w' b0 26 [Value.int .i64 e0]∧Ext (At b0) w0 w') (.panicking [{ v:=Value.iface 59 (Value.agg (ya [Value.int .i64 e0])),recovered:=false }]) (.panicking [{ v:=Value.iface 59 (Value.agg (ya [Value.int .i64 e0])),recovered:=true }]) Tryz.func179 rfl 14 rfl rfl ?_).mono (fun e u w' h=>⟨h.2.1,h.1,h.2.2⟩)
 refine TWR.seq ?_
 refine TWR.recover rfl (.inr ⟨[],rfl,rfl⟩) rfl rfl rfl rfl ?_
 refine OW.val rfl rfl rfl (EX.taYes rfl Tryz.underlying59 rfl rfl) ?_
 refine OW.move rfl rfl rfl rfl rfl ?_
 refine OW.extract rfl rfl rfl rfl rfl rfl ?_
 refine OW.extract rfl rfl rfl rfl rfl rfl ?_
 refine OW.alloc rfl rfl rfl rfl zy3 (cs:=[Value.int .i64 0]) rfl ?_
 intro b1 w2 hb3 x4 l5
 have t6:=Tr.z9x (O:=(At b0)) x4 (fun _ _ h=>h.elim) l5
 have B8:=(B0.ext x4).ins hb3.lt
 have X7:=X0.step x4 (fun _ _ h=>h.elim)
 have g9:w0.heap.size≤b1:=yb X0.size l5
 have n10:b0≠b1:=by have:=hb0.lt;omega
 have hb11:=(hb0.keep x4 (fun h=>h))
 refine OW.store rfl rfl rfl zz02k rfl rfl (vs:=[Value.int .i64 e0]) rfl rfl hb3 rfl (zaj rfl zdi) (cs':=[Value.int .i64 e0]) rfl ?_
 intro w12 hb13 x14
 have t15:=Tr.z5n (O:=(Ins (At b0) b1)) x14 (fun _ _ h=>by cases h;exact (Or.inl rfl))
 have B17:=B8.ext x14
 have X16:=X7.step x14 (fun y hy h=>absurd hy (by cases h;have:=g9;omega))
 refine OW.assign rfl rfl rfl rfl rfl ?_
 refine OW.done (TW.seq (TW.region ?_))
 refine OW.move rfl rfl rfl rfl rfl ?_
 refine OW.done (TW.zue rfl (TW.region ?_))
 refine OW.move rfl rfl rfl rfl rfl ?_
 refine OW.fieldAddr rfl rfl rfl rfl zz7 rfl ?_
 refine OW.zoi rfl rfl rfl rfl zrr rfl hb13 rfl ?_
 refine OW.nilCheck rfl rfl rfl rfl rfl ?_
 have hb18:=(hb11.keep x14 n10)
 refine OW.store rfl rfl rfl zrr rfl rfl (vs:=[Value.int .i64 e0]) rfl rfl hb18 rfl (zaj rfl zdi) (cs':=[Value.int .i64 e0]) rfl ?_
 intro w19 hb20 x21
 have t22:=Tr.z5n (O:=(Ins (At b0) b1)) x21 (fun _ _ h=>by cases h;exact (Or.inr (rfl:At b0 b0)))
 have B24:=B17.ext x21
 have X23:=X16.step x21 (fun y hy h=>h)
 refine OW.done ?_
 have hb25:=(hb13.keep x21 (Ne.symm n10))
 exact TW.fin (Out.unit rfl) ⟨rfl,hb20,X23⟩
theorem C.zsi:zki Tryz.prog 179 59 .i64 26:=⟨fun _ _=>rfl,C.zhd,C.zhc⟩
end
section
open Go.Lk Go.RowKit
theorem zq1:shp Tryz.prog 86=some (false,1):=by kernel_rfl
theorem zq0:fld Tryz.prog 89 0=some (0,false,1):=by kernel_rfl
theorem zz038:(Tryz.prog.info? 89).map (·.size)=some 2:=by kernel_rfl
theorem zz037:liesAt Tryz.prog Tryz.prog.depth 89 (2 / Tryz.prog.cellsOf 89) 0 89 1=true:=by kernel_rfl
set_option maxRecDepth 1000000 in
theorem zj1 (w0:World) (b:Nat) (a v:Value) (hb:z34 w0 b 89 [a,v]) (hs:Slf b a) (h1:v.oneCell'=true) :
  Calls Tryz.prog 122 (ya [Value.pointer (some ⟨b,0,none⟩)]) w0 (fun e w'=>e = .returned (.tuple #[])∧z34 w' b 89 [Value.pointer (some ⟨b,0,none⟩),v]∧Ext (At b) w0 w'):=by
 obtain ⟨j,hj,hjs⟩:=Option.map_eq_some_iff.1 zz038
 have hsh:w0.shape? b=some (89,2):=by
  have hb':=hb
  simp only [z34] at hb'
  simp [World.shape?,hb']
 refine ziw Tryz.func122 rfl 20 rfl rfl ?_
 rcases hs with rfl|rfl
 ·refine TW.seq (TW.region ?_)
  refine OW.move rfl rfl rfl rfl rfl ?_
  refine OW.nilCheck rfl rfl rfl rfl rfl ?_
  refine OW.fieldAddr rfl rfl rfl rfl zq0 rfl ?_
  refine OW.zoi rfl rfl rfl rfl zq1 rfl hb rfl ?_
  refine OW.val rfl rfl rfl (EX.eqNN rfl Tryz.underlying86 hj rfl rfl) ?_
  refine OW.done (TW.zue rfl (TW.region ?_))
  refine OW.move rfl rfl rfl rfl rfl ?_
  refine OW.move rfl rfl rfl rfl rfl ?_
  refine OW.val rfl rfl rfl (EX.toU rfl Tryz.underlying86 Tryz.underlying228 hj (by rw [hjs];decide) rfl hsh (by decide)) ?_
  refine OW.val rfl rfl rfl (EX.ext1 rfl rfl rfl (zxf Tryz.func224 (by kernel_rfl) (by kernel_rfl) (by kernel_rfl) (by kernel_rfl) _)) ?_
  refine OW.val rfl rfl rfl (EX.fromU rfl Tryz.underlying228 Tryz.underlying86 hj rfl hsh zz037) ?_
  refine OW.nilCheck rfl rfl rfl rfl rfl ?_
  refine OW.fieldAddr rfl rfl rfl rfl zq0 rfl ?_
  refine OW.store rfl rfl rfl zq1 rfl rfl (vs:=[Value.pointer (some ⟨b,0,none⟩)]) rfl rfl hb rfl rfl (cs':=[Value.pointer (some ⟨b,0,none⟩),v]) rfl ?_
  intro w' hb' x
  exact OW.done (TW.fin (Out.unit rfl) ⟨rfl,hb',x⟩)
 ·refine TW.seq (TW.region ?_)
  refine OW.move rfl rfl rfl rfl rfl ?_
  refine OW.nilCheck rfl rfl rfl rfl rfl ?_
  refine OW.fieldAddr rfl rfl rfl rfl zq0 rfl ?_
  refine OW.zoi rfl rfl rfl rfl zq1 rfl hb rfl ?_
  refine OW.val rfl rfl rfl (EX.eqSN rfl Tryz.underlying86 hj rfl rfl) ?_
  refine OW.done (TW.zq3 rfl (TW.seq (TW.region ?_)))
  refine OW.move rfl rfl rfl rfl rfl ?_
  refine OW.nilCheck rfl rfl rfl rfl rfl ?_
  refine OW.fieldAddr rfl rfl rfl rfl zq0 rfl ?_
  refine OW.zoi rfl rfl rfl rfl zq1 rfl hb rfl ?_
  refine OW.move rfl rfl rfl rfl rfl ?_
  refine OW.val rfl rfl rfl (EX.neSS rfl Tryz.underlying86 hj rfl rfl) ?_
  refine OW.done (TW.zq3 rfl (TW.skip ?_))
  exact TW.fin (Out.unit rfl) ⟨rfl,hb,Ext.refl _ _⟩
end
section
open Go.Proofs Go.RowKit Go.Lib
set_option maxHeartbeats 2000000 in
set_option maxRecDepth 1000000 in
theorem zh6 (s:ByteArray) (c:Int) (w:World) :
  Calls Tryz.prog 223 #[.string s,.int .u8 c] w fun e w'=>e = .returned (.int .i64 (Lib.idxFunc (fun r=>decide ((r:Int) % 256=c)) true s))∧Below w.heap.size w w':=by
 obtain ⟨p,hp⟩:∃ p:Nat→Bool,(fun r:Nat=>decide ((r:Int) % 256=c))=p:=⟨_,rfl⟩
 rw [hp]
 go_enter Tryz.func223,Tryz.ntmps223
 go_wp2
 go_loopg [] s.size (fun gf wx=>∃ pos:Nat,wx.heap[w.heap.size]? = some (.stringIter s pos)∧Below w.heap.size w wx∧Lib.idxFuncFrom p true s gf pos=Lib.idxFunc p true s∧s.size≤pos+gf)
 case atStart=>exact ⟨0,World.iter_heap w s 0,(Below.refl _ w).alloc (Nat.le_refl _) _,rfl,by omega⟩
 case round =>
  obtain ⟨pos,hit,hbw,hleft,hfu⟩:=hrel
  by_cases hps:pos<s.size
  ·obtain ⟨g',rfl⟩:∃ g',gk=g'+1:=⟨gk - 1,by omega⟩
   have hnx:∀ ty,(Instr.next (.pointer (some ⟨w.heap.size,0,none⟩)) true ty).run Tryz.prog wr=_:=fun ty=>Lib.run_next_any_at wr w.heap.size s pos ty hit hps
   have hwd:=Lib.width_pos s pos
   obtain ⟨R,hR⟩:∃ R,(Utf8.decode s pos).1=R:=⟨_,rfl⟩
   obtain ⟨K,hK⟩:∃ K,(Utf8.decode s pos).2=K:=⟨_,rfl⟩
   simp only [Lib.idxFuncFrom,hps,if_true,hR,hK] at hleft
   rw [hR,hK] at hnx
   rw [hK] at hwd
   have hit2:=Lib.iterAt_heap wr w.heap.size s pos (pos+K) hit
   have hbw2:=Lib.below_iterAt hbw (k:=w.heap.size) (Nat.le_refl _) s (pos+K)
   obtain ⟨W,hWd⟩:∃ W,wr.iterAt w.heap.size s (pos+K)=W:=⟨_,rfl⟩
   rw [hWd] at hnx hit2 hbw2
   have hpR:p R=decide ((R:Int) % 256=c):=by rw [←hp]
   by_cases hsp:(R:Int) % 256=c
   ·rw [hpR,decide_eq_true hsp] at hleft
    simp only [if_true] at hleft
    go_wp2
    go_ret
    exact ⟨by rw [←hleft]<;>rfl,hbw2⟩
   ·rw [hpR,decide_eq_false hsp] at hleft
    simp only [Bool.false_eq_true,if_false] at hleft
    go_wp2
    go_roundg g'
    case measure=>omega
    case rel=>exact ⟨pos+K,hit2,hbw2,hleft,by omega⟩
  ·have hnx:∀ ty,(Instr.next (.pointer (some ⟨w.heap.size,0,none⟩)) true ty).run Tryz.prog wr=_:=fun ty=>Lib.run_next_end_at wr w.heap.size s pos ty hit hps
   rw [Lib.idxFuncFrom_end p true s gk pos hps] at hleft
   go_wp2
   go_ret
   exact ⟨by rw [←hleft]<;>rfl,hbw⟩
end
end Go.Proofs.YtfdoofnmjehecaaGreatDoor
