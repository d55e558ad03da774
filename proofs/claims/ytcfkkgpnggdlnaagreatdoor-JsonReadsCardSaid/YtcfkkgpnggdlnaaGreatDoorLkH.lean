/- The lockstep walk: strings.Builder's rows of bytes read as a string (unsafe.SliceData, unsafe.String). It speaks of no program. -/
import Derived.Test.YtcfkkgpnggdlnaaGreatDoorLkG
import Derived.Lib.UnsafeStr
set_option linter.all false
namespace Go.Lk
open Go.RowKit

theorem run_loadBytes' {P : Program} (w : World) : ∀ (l : List Int) (a : Addr) (acc : ByteArray), (∀ j x, l[j]? = some x → w.cell? (a.add j) = some (.int .u8 x)) →
    (Go.loadBytes a acc l.length).run P w = .ok ⟨acc.data ++ (byt l).toArray⟩ w
  | [], a, acc, _ => by simp [Go.loadBytes, byt]
  | x :: l, a, acc, h => by
    have h0 : w.cell? a = some (.int .u8 x) := by
      have := h 0 x rfl
      simpa [Addr.add] using this
    have ih := run_loadBytes' (P := P) w l (a.add 1) (acc.push x.toNat.toUInt8) (fun j y hy => by
      have := h (j + 1) y (by simpa using hy)
      have e : (a.add 1).add j = a.add (j + 1) := by
        unfold Addr.add
        by_cases hj : j = 0
        · subst hj; simp
        · simp [hj]; omega
      rw [e]; exact this)
    simp only [List.length_cons, Go.loadBytes, Sem.run_bind, run_load, h0, Result.andThen]
    rw [ih]
    congr 1
    apply ByteArray.ext
    simp [ByteArray.push, byt]
/-- A variable that nothing turns any more: data. -/
structure CAt (w : World) (O : Nat → Prop) (b : Nat) (T : TypeId) (cs : List Value) : Prop where
  out : ¬ O b
  box : BoxAt w b T cs
theorem CAt.tr {w w' : World} {O O' : Nat → Prop} {b : Nat} {T : TypeId} {cs : List Value} (h : CAt w O b T cs) (t : Tr O w O' w') : CAt w' O' b T cs :=
  ⟨t.owned b h.box.lt h.out, (t.block b h.box.lt h.out).trans h.box⟩
theorem cells_one {v : Value} (h : v.oneCell' = true) : v.cells = [v].toArray := by
  cases v <;> first | rfl | (simp [Value.oneCell'] at h)
theorem one_nil : ([] : List Value).all (·.oneCell') = true := rfl
theorem one_cons {v : Value} {vs : List Value} (h : v.oneCell' = true) (t : vs.all (·.oneCell') = true) : (v :: vs).all (·.oneCell') = true := by simp only [List.all_cons, h, t, Bool.and_self]
theorem Own.one {w : World} {O : Nat → Prop} {T m : Nat} {v : Value} {l : List (List D)} (h : Own w O T m v l) : v.oneCell' = true := by
  obtain ⟨xs, h1, _⟩ := h
  rcases h1.2 with ⟨rfl, _⟩ | ⟨g, cap, cur, rfl, _⟩ <;> rfl
/-- A pointer that is nil or the block's own. -/
def Slf (b : Nat) (a : Value) : Prop := a = .pointer none ∨ a = .pointer (some ⟨b, 0, none⟩)
/-- What unsafe.SliceData gives for a row that is owned. -/
def PtrOf (u : Value) (p : Option Addr) (n : Nat) : Prop := n = 0 ∨ ∃ g c, u = .slice (some ⟨g, 0, none⟩) n c ∧ p = some ⟨g, 0, none⟩
theorem Ext.freeze (w : World) (g n : Nat) : Ext (At g) w (w.freeze ⟨g, 0, none⟩ n) := by
  unfold World.freeze
  split
  · exact Ext.refl _ _
  · exact ⟨rfl, rfl, rfl, by simp, fun k hk hf => by
      simp only [Array.getElem?_modify]
      rw [if_neg (fun e => hf e.symm)]⟩
section
variable {C : Cx} {n : Nat} {ds : List Deferred} {k : Act → World → Prop} {L : Env} {w : World} {ops : Array Oper} {o : Oper} {rest : List Oper} {d : Nat} {v : Value}
theorem OW.sliceData {O : Nat → Prop} {T e : TypeId} {x : Operand} {ts : Array TypeId} {u : Value} {l : List Int} (hg : o.guard = none) (hd : o.dst = some d) (hn : Nat.blt d n = true) (ho : o.op = .call { callee := .builtin .unsafeSliceData, args := #[x], argTypes := ts })
    (ht : C.P.underlying o.type = some (.pointer e)) (hx : ev L x = some u) (hu : Own w O T 1 u (l.map (eI .u8)))
    (h : ∀ p w', Ext Nowhere w w' → PtrOf u p l.length → OW C n ds ops rest k ((d, .pointer p) :: L) w') : OW C n ds ops (o :: rest) k L w := by
  obtain ⟨xs, h1, _, _, _⟩ := hu
  rcases h1.2 with ⟨rfl, h0⟩ | ⟨g, cap, cur, rfl, _, h7, h8, h9, h10, h11⟩
  · refine OW.val hg hd hn (fun a ha => ?_) (h none w (Ext.refl _ _) (.inl (by simpa using h0)))
    simp [execOp, ho, resolve, invoke, builtin, ha.ev hx, Lib.run_unsafeSliceData_nil]
  · rcases Nat.eq_zero_or_pos cap with hc | hc
    · subst hc
      have hl : l.length = 0 := by simpa using h8
      refine OW.val hg hd hn (fun a ha => ?_) (h (some ⟨w.heap.size, 0, none⟩) (w.alloc (.view ⟨g, 0, none⟩ e)) (Ext.alloc _ _ _) (.inl hl))
      simp only [execOp, ho, resolve, invoke, builtin]
      simp [ha.ev hx, Lib.run_unsafeSliceData_zero w _ _ e ht ⟨g, 0, none⟩ _ (T, cur.size) (by simp [World.shape?, h7])]
    · refine OW.val hg hd hn (fun a ha => ?_) (h (some ⟨g, 0, none⟩) w (Ext.refl _ _) (.inr ⟨g, cap, by simp, rfl⟩))
      simp [execOp, ho, resolve, invoke, builtin, ha.ev hx, Lib.run_unsafeSliceData_row w _ _ ⟨g, 0, none⟩ _ cap (by omega)]
theorem run_unsafeString_own {P : Program} {w : World} {O : Nat → Prop} {T : TypeId} {u : Value} {l : List Int} (pt it ty : TypeId) (hp : P.underlying pt = some (.pointer T)) (hc : P.cellsOf T = 1) (hu : Own w O T 1 u (l.map (eI .u8))) {p : Option Addr} (hpt : PtrOf u p l.length) :
    ∃ w', (Builtin.unsafeString_ #[pt, it] ty #[.pointer p, .int .i64 l.length]).run P w = .ok (.string ⟨List.toArray (byt l)⟩) w' ∧ Ext (fun x => u.ownBlock = some x) w w' := by
  rcases Nat.eq_zero_or_pos l.length with hl | hl
  · have : l = [] := List.eq_nil_of_length_eq_zero hl
    subst this
    exact ⟨w, Lib.run_unsafeString_none w pt it ty p, Ext.refl _ _⟩
  · obtain ⟨g, c, rfl, rfl⟩ := hpt.resolve_left (by omega)
    obtain ⟨xs, h1, h2, _, _⟩ := hu
    rcases h1.2 with ⟨h0, _⟩ | ⟨g', cap, cur, hv, _, h7, h8, h9, h10, h11⟩
    · cases h0
    · simp only [Value.slice.injEq, Option.some.injEq, Addr.mk.injEq, and_true, List.length_map] at hv
      obtain ⟨rfl, _, rfl⟩ := hv
      simp only [List.length_map, Nat.mul_one] at h8 h10 h11
      have h12 : xs.take l.length = l.map (Value.int .u8) := RDl.u8 h2 (by rw [← h11]; simp; omega)
      have h13 : cur.toList.take l.length = l.map (Value.int .u8) := by rw [← h12, ← h11, List.take_take, Nat.min_self]
      refine ⟨w.freeze ⟨g, 0, none⟩ l.length, ?_, (Ext.freeze w g l.length).mono fun x _ hx => by simp [Value.ownBlock]; exact hx.symm⟩
      have hlb := run_loadBytes' (P := P) w l ⟨g, 0, none⟩ .empty (fun j x hx => by
        rw [Addr.add_lit, cell_of_row w g _ cur T (0, 0) h7]
        have := congrArg (·[j]?) h13
        simp only [List.getElem?_take, List.getElem?_map, hx, Option.map_some] at this
        split at this
        · simpa using this
        · cases this)
      have hlies := Lib.liesAt_bytes (P := P) hc (cur.size / P.cellsOf T) l.length (by rw [hc]; simp [h10]; omega)
      have h63' : ¬ (9223372036854775807 : Int) < (l.length : Int) := by unfold maxLen at h9; omega
      have hsh : w.shape? g = some (T, cur.size) := by simp [World.shape?, h7]
      have hdef : Builtin.unsafeString_ #[pt, it] ty #[.pointer (some ⟨g, 0, none⟩), .int .i64 l.length] =
          (do
            let n ← asInt (.int .i64 l.length)
            if n < 0 then runtimePanic (.error "unsafe.String: len out of range")
            if n > IntKind.i64.max then unsupported (.unsafePointer "String: a length above the largest int")
            if n = 0 then pure (.string .empty)
            else if ← variablesAt ⟨g, 0, none⟩ (← elemOf pt) n.toNat then do
              let s ← loadBytes ⟨g, 0, none⟩ .empty n.toNat
              freeze ⟨g, 0, none⟩ n.toNat
              pure (.string s)
            else unsupported (.unsafePointer "String: not so many bytes at ptr")) := rfl
      rw [hdef]
      have hmax : IntKind.i64.max = 9223372036854775807 := rfl
      have hneg : ¬ (l.length : Int) < 0 := by omega
      have hl0 : ¬ (l.length : Int) = 0 := by omega
      have hl1 : ¬ l = [] := by intro e; subst e; simp at hl
      simp [asInt, asIntOf, hmax, h63', hneg, hl1, variablesAt, hsh, elemOf, run_underlying hp, hlies, hlb]
theorem OW.unsafeStr {O : Nat → Prop} {T pt it : TypeId} {x y : Operand} {p : Option Addr} {u : Value} {l : List Int} (hg : o.guard = none) (hd : o.dst = some d) (hn : Nat.blt d n = true) (ho : o.op = .call { callee := .builtin .unsafeString, args := #[x, y], argTypes := #[pt, it] })
    (ht : C.P.underlying pt = some (.pointer T)) (hc : C.P.cellsOf T = 1) (hx : ev L x = some (.pointer p)) (hy : ev L y = some (.int .i64 l.length)) (hu : Own w O T 1 u (l.map (eI .u8))) (hp : PtrOf u p l.length)
    (h : ∀ w', Ext (fun x => u.ownBlock = some x) w w' → OW C n ds ops rest k ((d, .string ⟨List.toArray (byt l)⟩) :: L) w') : OW C n ds ops (o :: rest) k L w := by
  obtain ⟨w', hr, hx'⟩ := run_unsafeString_own (P := C.P) pt it o.type ht hc hu hp
  refine OW.val hg hd hn (fun a ha => ?_) (h w' hx')
  simp only [execOp, ho, resolve, invoke, builtin]
  simp [ha.ev hx, ha.ev hy, hr]
theorem OW.callM {x : Operand} {xs : Array Operand} {ts : Array TypeId} {g : FuncId} {vs fs caps : List Value} {dd : Option Nat} (hg : o.guard = none) (hd : o.dst = dd) (hn : dOk n dd = true) (ho : o.op = .call { callee := .value x, args := xs, argTypes := ts }) (hx : ev L x = some (.func (.func g) fs.toArray caps.toArray))
    (hxs : evs L xs.toList = some vs) (hent : ∀ args w, (callFunc g args).run C.P w = .ok (.enter g args) w) (h : Calls C.P g (fs ++ vs ++ caps).toArray w (CallK C n ds ops rest k L dd)) : OW C n ds ops (o :: rest) k L w :=
  OW.enter hg hd hn (fun a ha => by
    have e1 : xs.map a.eval = vs.toArray := by apply Array.toList_inj.1; simpa using ha.evs hxs
    have e2 : fs.toArray ++ vs.toArray ++ caps.toArray = (fs ++ vs ++ caps).toArray := by simp
    simp only [execOp, ho, resolve, ha.ev hx, e1, Deferred.ofValue, Sem.run_bind, Sem.run_pure, Result.andThen_ok]
    simp only [invoke, Sem.run_bind, Sem.run_pure, Result.andThen_ok, e2, hent]) h
end
/-- A region of one deferral. -/
theorem TW.deferR {C : Cx} {n : Nat} {ds : List Deferred} {k : List Item} {L : Env} {w : World} {id : Nat} {o : Oper} {x : Operand} {xs : Array Operand} {ts : Array TypeId} {g : FuncId} {vs caps : List Value} (hg : o.guard = none) (hd : o.dst = none) (ho : o.op = .defer { callee := .value x, args := xs, argTypes := ts })
    (hx : ev L x = some (.func (.func g) #[] caps.toArray)) (hxs : evs L xs.toList = some vs) (h : TW C n ({ target := .fn (.func g) caps.toArray, args := vs.toArray } :: ds) k L w) : TW C n ds (.code (.region id [o].toArray false) :: k) L w := fun a ha hds cs => by
  have e1 : xs.map a.eval = vs.toArray := by apply Array.toList_inj.1; simpa using ha.evs hxs
  have hrun : (execOp a.eval o).run C.P w = .ok (.defer { target := .fn (.func g) caps.toArray, args := vs.toArray }) w := by
    simp [execOp, ho, resolve, ha.ev hx, e1, Deferred.ofValue]
  have h' : wpList C.P [o].toArray (QT C ({ target := .fn (.func g) caps.toArray, args := vs.toArray } :: ds) (TWa C k)) [o] a w :=
    wpList_plain hg fun K hK => by
      unfold Oper.wp
      rw [hrun]
      simp only [Oper.upon, hd, Act.put]
      refine hK _ _ ⟨?_, h _ ⟨ha.size, ha.get⟩ ?_⟩ <;> simp [hds]
  have h2 : wpOps C.P [o].toArray (QT C ({ target := .fn (.func g) caps.toArray, args := vs.toArray } :: ds) (TWa C k)) (List.range [o].toArray.size) a w := by
    rw [List.range_eq_range', ← Array.length_toList, wpOps_eq_wpList [o].toArray.toList 0 (by simp)]; exact h'
  exact (twa_of_ops h2 cs).of_steps (.one step_region)
section
variable {C : Cx} {n : Nat} {L : Env} {w : World}
theorem LV.ret1 {g : FuncId} {args args' cap : Array Value} (hi : (invoke (.fn (.func g) cap) args).run C.P w = .ok (.enter g args') w)
    (hc : CallsD C.P g args' .returning w (fun e u w' => e = .returned (.tuple #[]) ∧ u = .returning ∧ Ext Nowhere w w'))
    (h : ∀ w', Ext Nowhere w w' → ∃ v, Out C n L w' v ∧ C.R (.returned v) w') : LV C n [{ target := .fn (.func g) cap, args := args }] L w .returning := fun a ha hd => by
  refine leaves_cons (by simp) hi (hc.mono ?_)
  rintro e u w' ⟨rfl, rfl, x⟩
  obtain ⟨v, h1, h2⟩ := h w' x
  exact ⟨v, h1 a ha, h2⟩
theorem LV.pan1 {g : FuncId} {args args' cap : Array Value} {pv : Value} (Q : World → Prop) (hi : (invoke (.fn (.func g) cap) args).run C.P w = .ok (.enter g args') w)
    (hc : CallsD C.P g args' (.panicking [{ v := pv, recovered := false }]) w (fun e u w' => e = .returned (.tuple #[]) ∧ u = .panicking [{ v := pv, recovered := true }] ∧ Q w'))
    (h : ∀ w', Q w' → ∃ v, Out C n L w' v ∧ C.R (.returned v) w') : LV C n [{ target := .fn (.func g) cap, args := args }] L w (.panicking [{ v := pv, recovered := false }]) := fun a ha hd => by
  refine leaves_cons (by simp) hi (hc.mono ?_)
  rintro e u w' ⟨rfl, rfl, x⟩
  obtain ⟨v, h1, h2⟩ := h w' x
  exact ⟨v, h1 a ha, h2⟩
end
end Go.Lk
