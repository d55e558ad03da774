/- The lockstep walk: deferred functions that recover. It speaks of no program. -/
import Derived.Test.YtmbckfhcljgniaaDoorLkH
namespace Go.Lk
open Go.RowKit

def notIfc : TypeDesc → Bool
  | .interface _ => false
  | _ => true
section
variable {C : Cx} {n : Nat} {ds : List Deferred} {k : Act → World → Prop} {L : Env} {w : World} {ops : Array Oper} {o : Oper} {rest : List Oper} {d : Nat} {v : Value}
theorem EX.taYes {x : Operand} {xt T : TypeId} {td : TypeDesc} {u : Value} (ho : o.op = .typeAssert x xt T true) (ht : C.P.underlying T = some td) (hi : notIfc td = true) (hx : ev L x = some (.iface T u)) : EX C n L w o (.tuple #[u, .bool true]) := fun a ha => by
  simp only [execOp, ho, ha.ev hx, Instr.typeAssert]
  cases td <;> first | (simp [notIfc] at hi; done) | simp [run_underlying ht]
theorem EX.taNil {x : Operand} {xt T : TypeId} {td : TypeDesc} {z : Value} (ho : o.op = .typeAssert x xt T true) (ht : C.P.underlying T = some td) (hi : notIfc td = true) (hz : zer C.P T = some z) (hx : ev L x = some .nilIface) : EX C n L w o (.tuple #[z, .bool false]) := fun a ha => by
  obtain ⟨i, h5, h6⟩ := Option.bind_eq_some_iff.1 hz
  simp only [execOp, ho, ha.ev hx, Instr.typeAssert]
  cases td <;> first | (simp [notIfc] at hi; done) | simp [run_underlying ht, zeroValue, typeInfo, h5, h6]
end
/-- The end of a deferred call, above the frame c. -/
def GoesR (C : Cx) (c : Frame) (cs : List Frame) (u1 : FrameMode) (m : Machine) : Prop := ∃ e w' fr, C.R e w' ∧ Comes C.P m (lone fr ({ c with mode := u1 } :: cs) w') e ∧ fr.fn = C.f ∧ leave C fr w' e
def TWR (C : Cx) (n : Nat) (u0 u1 : FrameMode) (todo : List Item) (L : Env) (w : World) : Prop := ∀ a, Has n L a → a.defers = [] → ∀ c cs, c.mode = u0 → GoesR C c cs u1 (lone ((base C).at a todo) (c :: cs) w)
/-- What recover gives, and how it leaves the frame below. -/
def Rec (u0 u1 : FrameMode) (v : Value) : Prop := (u0 = .returning ∧ u1 = .returning ∧ v = .nilIface) ∨ ∃ older, u0 = .panicking ({ v := v, recovered := false } :: older) ∧ u1 = .panicking ({ v := v, recovered := true } :: older)
section
variable {C : Cx} {n : Nat} {k : List Item} {L : Env} {w : World} {u0 u1 : FrameMode}
theorem TWR.seq {x y : Code} (h : TWR C n u0 u1 (.code x :: .code y :: k) L w) : TWR C n u0 u1 (.code (.seq x y) :: k) L w := fun a ha hd c cs hc => by
  obtain ⟨e, w', fr, h1, h2, h3, h4⟩ := h a ha hd c cs hc
  exact ⟨e, w', fr, h1, h2.of_steps (.one step_seq), h3, h4⟩
theorem TWR.recover {id : Nat} {o : Oper} {l : List Oper} {d : Nat} {v : Value} {ts : Array TypeId} (hN : C.dfr = true) (hr : Rec u0 u1 v) (hg : o.guard = none) (hd : o.dst = some d) (hn : Nat.blt d n = true) (ho : o.op = .call { callee := .builtin .recover, args := #[], argTypes := ts })
    (h : OW C n [] (o :: l).toArray l (TWa C k) ((d, v) :: L) w) : TWR C n u0 u1 (.code (.region id (o :: l).toArray false) :: k) L w := fun a ha hds c cs hc => by
  have hrun : (execOp a.eval o).run C.P w = .ok .recover w := by
    simp [execOp, ho, resolve, invoke, builtin]
  have h1 := h (a.put (some d) v) (ha.put (by simpa [Nat.blt_eq] using hn)) (by simpa [Act.put] using hds)
  have h2 : wpOps C.P (o :: l).toArray (QT C [] (TWa C k)) (List.range' 1 l.length) (a.put (some d) v) w := by
    rw [wpOps_eq_wpList l 1 (fun j => by simp [Nat.add_comm 1 j])]; exact h1
  obtain ⟨e, w', fr, k1, k2, k3, k4⟩ := twa_of_ops h2 ({ c with mode := u1 } :: cs)
  have hrange : List.range (o :: l).toArray.size = 0 :: List.range' 1 l.length := by
    rw [List.range_eq_range']; simp [List.range'_succ]
  have s1 := step_region (P := C.P) (b := base C) (a := a) (k := k) (cs := c :: cs) (w := w) (ops := (o :: l).toArray) (id := id)
  rw [hrange] at s1
  have hw : Region.wanted o (yielded (o :: l).toArray a.tmps) = true := by simp [Region.wanted, hg]
  have s2 : step C.P (lone ((base C).at a (.inRegion (o :: l).toArray (0 :: List.range' 1 l.length) :: k)) (c :: cs) w) = .next (lone ((base C).at (a.put (some d) v) (.inRegion (o :: l).toArray (List.range' 1 l.length) :: k)) ({ c with mode := u1 } :: cs) w) := by
    refine step_lone_go ?_
    have hgo := stepG_op (P := C.P) (b := base C) (a := a) (k := k) (cs := c :: cs) (w := w) (ops := (o :: l).toArray) (i := 0) (rest := List.range' 1 l.length) (o := o) (by simp) hw
    have hfin := Frame.finish_at (base C) a (o :: l).toArray 0 (List.range' 1 l.length) k v
    have hk : ((base C).at a (.inRegion (o :: l).toArray (0 :: List.range' 1 l.length) :: k)).kind = .deferred := by simp [base, hN, Frame.at]
    have htr := tryRecover_deferred hk (c :: cs)
    have ho0 : ((o :: l).toArray[0]?).bind (·.dst) = some d := by simp [hd]
    rw [ho0] at hfin
    rw [hgo, ← hfin]
    have hc' : { c with mode := c.mode } = c := rfl
    rcases hr with ⟨rfl, rfl, rfl⟩ | ⟨older, rfl, rfl⟩
    · have hrec : recoverD (c :: cs) = none := by simp [recoverD, hc]
      have hcc : ({ c with mode := .returning } : Frame) = c := by rw [← hc]
      simp only [Frame.at] at htr ⊢
      simp [stepG.apply, hrun, htr, hrec, hcc]
    · have hrec : recoverD (c :: cs) = some (v, { c with mode := .panicking ({ v := v, recovered := true } :: older) } :: cs) := by simp [recoverD, hc]
      simp only [Frame.at] at htr ⊢
      simp [stepG.apply, hrun, htr, hrec]
  exact ⟨e, w', fr, k1, k2.of_steps (.head s1 (.one s2)), k3, k4⟩
end
theorem callsD_of {P : Program} {f : FuncId} {fn : Func} {c : Code} {args : List Value} {w : World} {R : Ending → World → Prop} (u0 u1 : FrameMode) (hf : P.funcs[f]? = some fn) (hb : fn.body = some c)
    (n : Nat) (hn : fn.ntmps = n) (hl : Nat.ble args.length n = true) (h : TWR { P := P, f := f, fn := fn, R := R, hf := hf, dfr := true } n u0 u1 [.code c] (envOf 0 args) w) : CallsD P f args.toArray u0 w (fun e u w' => u = u1 ∧ R e w') := by
  intro c0 cs hu
  have hl' := Nat.le_of_ble_eq_true hl
  have henter : Frame.enter P f args.toArray .deferred = (base { P := P, f := f, fn := fn, R := R, hf := hf, dfr := true }).at { tmps := args.toArray ++ Array.replicate (fn.ntmps - args.toArray.size) undef, defers := [] } [.code c] := by
    simp [Frame.enter, Frame.at, hf, hb, base]
  have := h { tmps := args.toArray ++ Array.replicate (fn.ntmps - args.toArray.size) undef, defers := [] }
    ⟨by simp [hn]; omega, fun t v e => by
      have h1 : args[t]? = some v := by simpa using (envOf_get args 0 t v e).2
      have h2 : t < args.length := by
        rcases Nat.lt_or_ge t args.length with h2 | h2
        · exact h2
        · simp [List.getElem?_eq_none h2] at h1
      simp [Array.getElem?_append, h2]
      simpa [List.getElem?_eq_getElem h2] using h1⟩ rfl c0 cs hu
  rw [← henter] at this
  obtain ⟨e, w', fr, k1, k2, k3, k4⟩ := this
  exact ⟨e, u1, w', fr, ⟨rfl, k1⟩, k2, k4.1, k4.2⟩
/-- The error number that a panic's value carries. -/
def asErr (T : Nat) (k : IntKind) (v : Value) : Option Int := match v with
  | .iface t (.agg cs) => if t = T then (match cs.toList with
    | [.int k' e] => if k' = k then some e else none
    | _ => none) else none
  | _ => none
theorem asErr_some {T : Nat} {k : IntKind} {v : Value} {e : Int} (h : asErr T k v = some e) : v = .iface T (.agg (List.toArray [.int k e])) := by
  unfold asErr at h
  split at h
  · split at h
    · split at h
      · split at h
        · rename_i ht _ _ _ hl hk
          cases h
          subst hk ht
          congr 2
          exact Array.toList_inj.1 (by simpa using hl)
        · cases h
      · cases h
    · cases h
  · cases h
theorem asErr_mk (T : Nat) (k : IntKind) (e : Int) : asErr T k (.iface T (.agg (List.toArray [.int k e]))) = some e := by simp [asErr]
theorem run_invoke {P : Program} {w : World} {g : FuncId} {vs caps : List Value} (hent : ∀ args w, (callFunc g args).run P w = .ok (.enter g args) w) : (invoke (.fn (.func g) caps.toArray) vs.toArray).run P w = .ok (.enter g (vs ++ caps).toArray) w := by
  have e2 : vs.toArray ++ caps.toArray = (vs ++ caps).toArray := by simp
  simp [invoke, hent, e2]
section
variable {C : Cx} {n : Nat} {L : Env} {w : World}
theorem LV.ret2 {g : FuncId} {vs caps : List Value} (hent : ∀ args w, (callFunc g args).run C.P w = .ok (.enter g args) w)
    (hc : CallsD C.P g (vs ++ caps).toArray .returning w (fun e u w' => e = .returned (.tuple #[]) ∧ u = .returning ∧ Ext Nowhere w w'))
    (h : ∀ w', Ext Nowhere w w' → ∃ v, Out C n L w' v ∧ C.R (.returned v) w') : LV C n [{ target := .fn (.func g) caps.toArray, args := vs.toArray }] L w .returning :=
  LV.ret1 (run_invoke hent) hc h
theorem LV.pan2 {g : FuncId} {vs caps : List Value} {pv : Value} (Q : World → Prop) (hent : ∀ args w, (callFunc g args).run C.P w = .ok (.enter g args) w)
    (hc : CallsD C.P g (vs ++ caps).toArray (.panicking [{ v := pv, recovered := false }]) w (fun e u w' => e = .returned (.tuple #[]) ∧ u = .panicking [{ v := pv, recovered := true }] ∧ Q w'))
    (h : ∀ w', Q w' → ∃ v, Out C n L w' v ∧ C.R (.returned v) w') : LV C n [{ target := .fn (.func g) caps.toArray, args := vs.toArray }] L w (.panicking [{ v := pv, recovered := false }]) :=
  LV.pan1 Q (run_invoke hent) hc h
end
end Go.Lk
