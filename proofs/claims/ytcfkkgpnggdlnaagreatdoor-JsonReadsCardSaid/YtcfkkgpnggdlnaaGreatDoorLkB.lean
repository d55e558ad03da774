/- The lockstep walk: what is left of a function's text, run from slots that hold known values. It speaks of no program. -/
import Derived.Test.YtcfkkgpnggdlnaaGreatDoorLkA
import Derived.Recover
set_option linter.all false
namespace Go.Lk
open Go.RowKit

abbrev Env := List (Nat × Value)
def Env.get : Env → Nat → Option Value
  | [], _ => none
  | (s, v) :: r, t => match Nat.beq s t with
    | true => some v
    | false => Env.get r t

/-- The slots that L names hold what L says. -/
structure Has (n : Nat) (L : Env) (a : Act) : Prop where
  size : a.tmps.size = n
  get : ∀ t v, Env.get L t = some v → a.tmps[t]? = some v

theorem Has.put {n d : Nat} {L : Env} {a : Act} {v : Value} (h : Has n L a) (hd : d < n) : Has n ((d, v) :: L) (a.put (some d) v) := by
  refine ⟨by simp [Act.put, h.size], fun t u hu => ?_⟩
  simp only [Act.put]
  unfold Env.get at hu
  split at hu
  · rename_i e
    have e := Nat.eq_of_beq_eq_true e
    subst e
    cases hu
    simp [h.size, hd]
  · rename_i e
    have e := Nat.ne_of_beq_eq_false e
    rw [Array.getElem?_setIfInBounds_ne e]
    exact h.get t u hu
theorem Has.same {n : Nat} {L : Env} {a : Act} {v : Value} (h : Has n L a) : Has n L (a.put none v) := h
theorem Has.sub {n : Nat} {L L' : Env} {a : Act} (h : Has n L a) (hs : ∀ t v, Env.get L' t = some v → Env.get L t = some v) : Has n L' a :=
  ⟨h.size, fun t v e => h.get t v (hs t v e)⟩

def ev (L : Env) : Operand → Option Value
  | .tmp t => Env.get L t
  | .const v => some v
  | .global g => some (.pointer (some ⟨g, 0, none⟩))
  | .func f => some (.func (.func f) #[] #[])
def evs (L : Env) : List Operand → Option (List Value)
  | [] => some []
  | x :: xs => match ev L x, evs L xs with
    | some v, some vs => some (v :: vs)
    | _, _ => none
theorem Has.ev {n : Nat} {L : Env} {a : Act} (h : Has n L a) {x : Operand} {v : Value} (e : ev L x = some v) : a.eval x = v := by
  cases x with
  | tmp t => simp only [Lk.ev] at e; simp [Act.eval, h.get t v e]
  | const u => simpa [Lk.ev, Act.eval] using e
  | global g => simpa [Lk.ev, Act.eval] using e
  | func f => simpa [Lk.ev, Act.eval] using e
theorem Has.evs {n : Nat} {L : Env} {a : Act} (h : Has n L a) : ∀ {xs : List Operand} {vs : List Value}, evs L xs = some vs → xs.map a.eval = vs
  | [], vs, e => by simp [Lk.evs] at e; subst e; rfl
  | x :: xs, vs, e => by
    simp only [Lk.evs] at e
    split at e
    · rename_i v vs' h1 h2
      cases e
      simp [h.ev h1, h.evs h2]
    · cases e

/-- What a walk is about: the program, the function's number, its row, and what is to be shown of its end. -/
structure Cx where
  P : Program
  f : FuncId
  fn : Func
  R : Ending → World → Prop
  hf : P.funcs[f]? = some fn
  dfr : Bool := false     -- a deferred call
  lv : Bool := false      -- what it has deferred is run behind a panic

def base (C : Cx) : Frame := { (default : Frame) with fn := C.f, kind := match C.dfr with | true => .deferred | false => .normal }
def leave (C : Cx) (fr : Frame) (w : World) (e : Ending) : Prop := match C.dfr with
  | true => fr.kind = .deferred ∧ fr.going C.P w e
  | false => fr.leaving C.P w e
theorem leave_ret {C : Cx} {fr : Frame} {w : World} {v : Value} (hk : fr.kind = (base C).kind) (h1 : fr.mode = .returning) (h2 : fr.defers = []) (hf : fr.fn = C.f) (hr : (results C.fn fr.tmps).run C.P w = .ok v w) : leave C fr w (.returned v) := by
  unfold leave
  unfold base at hk
  cases hd : C.dfr <;> simp only [hd] at hk ⊢
  · exact ⟨h1, h2, hk, C.fn, hf ▸ C.hf, hr⟩
  · exact ⟨hk, h1, h2, C.fn, hf ▸ C.hf, hr⟩
theorem leave_pan {C : Cx} {fr : Frame} {w : World} {ch : List PanicEntry} (hk : fr.kind = (base C).kind) (h1 : fr.mode = .panicking ch) (h2 : fr.defers = []) (hf : fr.fn = C.f) : leave C fr w (.panicked ch) := by
  unfold leave
  unfold base at hk
  cases hd : C.dfr <;> simp only [hd] at hk ⊢
  · exact ⟨h1, h2, C.fn, hf ▸ C.hf⟩
  · exact ⟨hk, h1, h2, C.fn, hf ▸ C.hf⟩

/-- From this machine the function comes to an end as it should. -/
def Goes (C : Cx) (cs : List Frame) (m : Machine) : Prop :=
  ∃ e w' fr, C.R e w' ∧ Comes C.P m (lone fr cs w') e ∧ fr.fn = C.f ∧ leave C fr w' e
theorem Goes.of_steps {C : Cx} {cs : List Frame} {m m' : Machine} (s : Steps C.P m m') (h : Goes C cs m') : Goes C cs m := by
  obtain ⟨e, w', fr, h1, h2, h3⟩ := h
  exact ⟨e, w', fr, h1, h2.of_steps s, h3⟩

def TWa (C : Cx) (todo : List Item) (a : Act) (w : World) : Prop := ∀ cs, Goes C cs (lone ((base C).at a todo) cs w)
def TW (C : Cx) (n : Nat) (ds : List Deferred) (todo : List Item) (L : Env) (w : World) : Prop := ∀ a, Has n L a → a.defers = ds → TWa C todo a w

section
variable {C : Cx} {n : Nat} {ds : List Deferred} {k : List Item} {L : Env} {w : World}
theorem TW.sub {L' : Env} (hs : ∀ t v, Env.get L' t = some v → Env.get L t = some v) (h : TW C n ds k L' w) : TW C n ds k L w := fun a ha hd => h a (ha.sub hs) hd
theorem TW.skip (h : TW C n ds k L w) : TW C n ds (.code .skip :: k) L w := fun a ha hd cs => (h a ha hd cs).of_steps (.one step_skip)
theorem TW.label {l : Nat} (h : TW C n ds k L w) : TW C n ds (.code (.label l) :: k) L w := fun a ha hd cs => (h a ha hd cs).of_steps (.one step_label)
theorem TW.inBlock {i : Nat} (h : TW C n ds k L w) : TW C n ds (.inBlock i :: k) L w := fun a ha hd cs => (h a ha hd cs).of_steps (.one step_inBlock)
theorem TW.seq {x y : Code} (h : TW C n ds (.code x :: .code y :: k) L w) : TW C n ds (.code (.seq x y) :: k) L w := fun a ha hd cs => (h a ha hd cs).of_steps (.one step_seq)
theorem TW.block {i : Nat} {x : Code} (h : TW C n ds (.code x :: .inBlock i :: k) L w) : TW C n ds (.code (.block i x) :: k) L w := fun a ha hd cs => (h a ha hd cs).of_steps (.one step_block)
theorem TW.loop {x : Code} (h : TW C n ds (.code x :: .inLoop x :: k) L w) : TW C n ds (.code (.loop x) :: k) L w := fun a ha hd cs => (h a ha hd cs).of_steps (.one step_loop)
theorem TW.inLoop {x : Code} (h : TW C n ds (.code x :: .inLoop x :: k) L w) : TW C n ds (.inLoop x :: k) L w := fun a ha hd cs => (h a ha hd cs).of_steps (.one step_inLoop)
theorem TW.exit {i : Nat} {k' : List Item} (he : exitTo i k = some k') (h : TW C n ds k' L w) : TW C n ds (.code (.exit i) :: k) L w := fun a ha hd cs => (h a ha hd cs).of_steps (.one (step_exit he))
theorem TW.cond {c : Operand} {x y : Code} {b : Bool} (hc : ev L c = some (.bool b)) (ht : b = true → TW C n ds (.code x :: k) L w) (hf : b = false → TW C n ds (.code y :: k) L w) :
    TW C n ds (.code (.cond c x y) :: k) L w := fun a ha hd cs => by
  have s := step_cond (P := C.P) (b := base C) (a := a) (k := k) (cs := cs) (w := w) (x := x) (y := y) (ha.ev hc)
  cases b with
  | true => exact (ht rfl a ha hd cs).of_steps (.one s)
  | false => exact (hf rfl a ha hd cs).of_steps (.one s)
theorem TW.cond_t {c : Operand} {x y : Code} (hc : ev L c = some (.bool true)) (h : TW C n ds (.code x :: k) L w) : TW C n ds (.code (.cond c x y) :: k) L w :=
  TW.cond hc (fun _ => h) (fun e => by cases e)
theorem TW.cond_f {c : Operand} {x y : Code} (hc : ev L c = some (.bool false)) (h : TW C n ds (.code y :: k) L w) : TW C n ds (.code (.cond c x y) :: k) L w :=
  TW.cond hc (fun e => by cases e) (fun _ => h)
/-- A cut: what is shown of k under I serves on every way that comes to it. -/
theorem TW.cut {it : Item} (I : Env → World → Prop) (h1 : ∀ L w, I L w → TW C n ds k L w) (h2 : (∀ L w, I L w → TW C n ds k L w) → TW C n ds (it :: k) L w) : TW C n ds (it :: k) L w := h2 h1

/-- The function's results, read. -/
def Out (C : Cx) (n : Nat) (L : Env) (w : World) (v : Value) : Prop := ∀ a, Has n L a → (results C.fn a.tmps).run C.P w = .ok v w
theorem TW.ret {v : Value} (hr : Out C n L w v) (h : C.R (.returned v) w) : TW C n [] (.code .ret :: k) L w := fun a ha hd _ =>
  ⟨.returned v, w, _, h, .one step_ret, rfl, leave_ret rfl rfl hd rfl (hr a ha)⟩
theorem TW.fin {v : Value} (hr : Out C n L w v) (h : C.R (.returned v) w) : TW C n [] [] L w := fun a ha hd _ =>
  ⟨.returned v, w, _, h, .one step_end, rfl, leave_ret rfl rfl hd rfl (hr a ha)⟩
theorem Out.unit (h : C.fn.results = #[]) : Out C n L w (.tuple #[]) := fun _ _ => results_none h _ _ _
theorem Out.one {t : Tmp} {v : Value} (h : C.fn.results = #[.tmp t]) (e : Env.get L t = some v) : Out C n L w v := fun a ha => by
  rw [results_tmp h]; simp [ha.get t v e]

/-- What is to be shown where a panic goes through. -/
def PN (C : Cx) (a : Act) (ch : List PanicEntry) (w : World) : Prop := match C.lv, C.dfr with
  | true, false => Leaves C.P C.fn a.tmps C.R a.defers (.panicking ch) w
  | _, _ => a.defers = [] ∧ C.R (.panicked ch) w
theorem PN.nil {C : Cx} {a : Act} {ch : List PanicEntry} {w : World} (hd : a.defers = []) (h : C.R (.panicked ch) w) : PN C a ch w := by
  unfold PN
  split
  · rw [hd]; exact h
  · exact ⟨hd, h⟩
def LV (C : Cx) (n : Nat) (ds : List Deferred) (L : Env) (w : World) (u : FrameMode) : Prop := ∀ a, Has n L a → a.defers = ds → Leaves C.P C.fn a.tmps C.R ds u w
theorem TW.retD (hN : C.dfr = false) (h : LV C n ds L w .returning) : TW C n ds (.code .ret :: k) L w := fun a ha hd cs => by
  obtain ⟨e, w', fr, h1, h2, h3, h4⟩ := leaves_steps ds .returning w { (base C).at a (.code .ret :: k) with mode := .returning } cs rfl hd rfl C.hf (by simp [base, hN, Frame.at]) (h a ha hd)
  exact ⟨e, w', fr, h1, Comes.of_steps (.one step_ret) h2, h3, by unfold leave; rw [hN]; exact h4⟩
/-- What a region's operations lead to. -/
def QT (C : Cx) (ds : List Deferred) (K : Act → World → Prop) : Exit → Act → World → Prop
  | .normal, a, w => a.defers = ds ∧ K a w
  | .panic ch, a, w => PN C a ch w
  | _, _, _ => False
/-- The operations 'rest' of a region are still to be done. -/
def OW (C : Cx) (n : Nat) (ds : List Deferred) (ops : Array Oper) (rest : List Oper) (k : Act → World → Prop) (L : Env) (w : World) : Prop :=
  ∀ a, Has n L a → a.defers = ds → wpList C.P ops (QT C ds k) rest a w

theorem twa_of_ops {ops : Array Oper} {l : List Nat} {a : Act} (h : wpOps C.P ops (QT C ds (TWa C k)) l a w) (cs : List Frame) :
    Goes C cs (lone ((base C).at a (.inRegion ops l :: k)) cs w) := by
  obtain ⟨e, a', w', hq, harr⟩ := wp_ops l a w h (base C) k cs
  cases e with
  | normal => exact (hq.2 cs).of_steps harr
  | panic ch =>
    obtain ⟨todo, hs⟩ := harr
    have hq : PN C a' ch w' := hq
    unfold PN at hq
    split at hq
    · rename_i hl hN
      obtain ⟨e, w2, fr, h1, h2, h3, h4⟩ := leaves_steps a'.defers (.panicking ch) w' { (base C).at a' todo with mode := .panicking ch } cs rfl rfl rfl C.hf (by simp [base, hN, Frame.at]) hq
      exact ⟨e, w2, fr, h1, Comes.of_steps hs h2, h3, by unfold leave; rw [hN]; exact h4⟩
    · exact ⟨.panicked ch, w', _, hq.2, hs, rfl, leave_pan rfl rfl hq.1 rfl⟩
  | exit _ => exact hq.elim
  | goto _ => exact hq.elim
  | ret => exact hq.elim
  | outgrown => exact hq.elim
theorem TW.region {id : Nat} {l : List Oper} (h : OW C n ds l.toArray l (TWa C k) L w) : TW C n ds (.code (.region id l.toArray false) :: k) L w := fun a ha hd cs => by
  have h' := h a ha hd
  have h2 : wpOps C.P l.toArray (QT C ds (TWa C k)) (List.range l.toArray.size) a w := by
    rw [List.range_eq_range', ← Array.length_toList, wpOps_eq_wpList l.toArray.toList 0 (by simp)]; exact h'
  exact (twa_of_ops h2 cs).of_steps (.one step_region)
theorem OW.done {ops : Array Oper} (h : TW C n ds k L w) : OW C n ds ops [] (TWa C k) L w := fun a ha hd => ⟨hd, h a ha hd⟩
end
section
variable {C : Cx} {n : Nat} {ds : List Deferred} {k : Act → World → Prop} {L : Env} {w : World}
theorem OW.fin {ops : Array Oper} (h : ∀ a, Has n L a → a.defers = ds → k a w) : OW C n ds ops [] k L w := fun a ha hd => ⟨hd, h a ha hd⟩
/-- The operation gives the value v, and turns nothing. -/
def EX (C : Cx) (n : Nat) (L : Env) (w : World) (o : Oper) (v : Value) : Prop := ∀ a, Has n L a → (execOp a.eval o).run C.P w = .ok (.value v) w

/-- An operation that gives a value. -/
theorem OW.val {ops : Array Oper} {o : Oper} {rest : List Oper} {d : Nat} {v : Value} {w' : World} (hg : o.guard = none) (hd : o.dst = some d) (hn : Nat.blt d n = true)
    (hr : ∀ a, Has n L a → (execOp a.eval o).run C.P w = .ok (.value v) w') (h : OW C n ds ops rest k ((d, v) :: L) w') : OW C n ds ops (o :: rest) k L w := fun a ha hds =>
  wpList_plain hg fun K hK => by
    unfold Oper.wp
    rw [hr a ha, Oper.upon_value, hd]
    exact hK _ _ (h _ (ha.put (by simpa [Nat.blt_eq] using hn)) (by simpa [Act.put] using hds))
/-- An operation that gives none (a store). -/
theorem OW.unit {ops : Array Oper} {o : Oper} {rest : List Oper} {w' : World} (hg : o.guard = none) (hd : o.dst = none)
    (hr : ∀ a, Has n L a → (execOp a.eval o).run C.P w = .ok .skip w') (h : OW C n ds ops rest k L w') : OW C n ds ops (o :: rest) k L w := fun a ha hds =>
  wpList_plain hg fun K hK => by
    unfold Oper.wp
    rw [hr a ha, Oper.upon_skip, hd]
    exact hK _ _ (h _ ha.same (by simpa [Act.put] using hds))
/-- A panic of the text's own. -/
theorem OW.pan {ops : Array Oper} {o : Oper} {rest : List Oper} {v : Value} {w' : World} (hg : o.guard = none)
    (hr : ∀ a, Has n L a → (execOp a.eval o).run C.P w = .halt (.panic v) w') (h : C.R (.panicked [{ v, recovered := false }]) w') : OW C n [] ops (o :: rest) k L w := fun a ha hds =>
  wpList_plain hg fun K hK => by
    unfold Oper.wp
    rw [hr a ha, Oper.upon_panic]
    exact PN.nil hds h
/-- An operation whose guard says no. -/
theorem OW.not {ops : Array Oper} {o : Oper} {rest : List Oper} {d j s : Nat} {b c : Bool} (hg : o.guard = some (j, b)) (hj : (ops[j]?).bind (·.dst) = some s) (hs : Env.get L s = some (.bool c)) (hbc : (c == b) = false)
    (hd : o.dst = some d) (hn : Nat.blt d n = true) (h : OW C n ds ops rest k ((d, undef) :: L) w) : OW C n ds ops (o :: rest) k L w := fun a ha hds =>
  wpList_step fun K hK => by
    have hw : Region.wanted o (yielded ops a.tmps) = false := by
      simp [Region.wanted, hg, yielded, hj, ha.get s _ hs]
      simpa using hbc
    rw [if_neg (by simp [hw]), hd]
    exact hK _ _ (h _ (ha.put (by simpa [Nat.blt_eq] using hn)) (by simpa [Act.put] using hds))
/-- An operation whose guard says yes: as if it had none. -/
theorem OW.yes {ops : Array Oper} {o : Oper} {rest : List Oper} {j s : Nat} {b : Bool} (hg : o.guard = some (j, b)) (hj : (ops[j]?).bind (·.dst) = some s) (hs : Env.get L s = some (.bool b))
    (h : OW C n ds ops ({ o with guard := none } :: rest) k L w) : OW C n ds ops (o :: rest) k L w := fun a ha hds => by
  have h' := h a ha hds
  have hw : Region.wanted o (yielded ops a.tmps) = true := by
    simp [Region.wanted, hg, yielded, hj, ha.get s _ hs]
  unfold wpList at h' ⊢
  rw [if_pos (by simp [Region.wanted])] at h'
  rw [if_pos hw]
  exact h'
def dOk (n : Nat) : Option Nat → Bool
  | some d => Nat.blt d n
  | none => true
/-- What a call leads to. -/
def CallK (C : Cx) (n : Nat) (ds : List Deferred) (ops : Array Oper) (rest : List Oper) (k : Act → World → Prop) (L : Env) (d : Option Nat) : Ending → World → Prop
  | .returned v, w => OW C n ds ops rest k (match d with | some d => (d, v) :: L | none => L) w
  | .panicked ch, w => ∀ a, Has n L a → a.defers = ds → PN C a ch w
  | .outgrown, _ => False
theorem OW.enter {ops : Array Oper} {o : Oper} {rest : List Oper} {d : Option Nat} {g : FuncId} {args : Array Value} {w' : World} (hg : o.guard = none) (hd : o.dst = d) (hn : dOk n d = true)
    (hr : ∀ a, Has n L a → (execOp a.eval o).run C.P w = .ok (.enter g args) w') (h : Calls C.P g args w' (CallK C n ds ops rest k L d)) : OW C n ds ops (o :: rest) k L w := fun a ha hds =>
  wpList_plain hg fun K hK => by
    unfold Oper.wp
    rw [hr a ha, Oper.upon_enter]
    refine h.mono fun e w2 he => ?_
    cases e with
    | returned v =>
      refine hK _ _ ?_
      subst hd
      cases hdst : o.dst with
      | none => rw [hdst] at he; exact he _ ha.same (by simpa [Act.put] using hds)
      | some d => rw [hdst] at he hn; exact he _ (ha.put (by simpa [dOk, Nat.blt_eq] using hn)) (by simpa [Act.put] using hds)
    | panicked ch => exact he a ha hds
    | outgrown => exact he.elim
end

theorem calls_of_twD {P : Program} {f : FuncId} {fn : Func} {c : Code} {args : List Value} {w : World} {R : Ending → World → Prop} (lv : Bool) (hf : P.funcs[f]? = some fn) (hb : fn.body = some c)
    (L : Env) (n : Nat) (hn : fn.ntmps = n) (hl : Nat.ble args.length n = true) (hL : ∀ t v, Env.get L t = some v → args[t]? = some v)
    (h : TW { P := P, f := f, fn := fn, R := R, hf := hf, lv := lv } n [] [.code c] L w) : Calls P f args.toArray w R := by
  intro cs
  have hl' := Nat.le_of_ble_eq_true hl
  have henter : Frame.enter P f args.toArray .normal = (base { P := P, f := f, fn := fn, R := R, hf := hf, lv := lv }).at { tmps := args.toArray ++ Array.replicate (fn.ntmps - args.toArray.size) undef, defers := [] } [.code c] := by
    simp [Frame.enter, Frame.at, hf, hb, base]
  have := h { tmps := args.toArray ++ Array.replicate (fn.ntmps - args.toArray.size) undef, defers := [] }
    ⟨by simp [hn]; omega, fun t v e => by
      have h1 := hL t v e
      have h2 : t < args.length := by
        rcases Nat.lt_or_ge t args.length with h2 | h2
        · exact h2
        · simp [List.getElem?_eq_none h2] at h1
      simp [Array.getElem?_append, h2]
      simpa [List.getElem?_eq_getElem h2] using h1⟩ rfl cs
  rw [← henter] at this
  exact this
theorem calls_of_tw {P : Program} {f : FuncId} {fn : Func} {c : Code} {args : List Value} {w : World} {R : Ending → World → Prop} (hf : P.funcs[f]? = some fn) (hb : fn.body = some c)
    (L : Env) (n : Nat) (hn : fn.ntmps = n) (hl : Nat.ble args.length n = true) (hL : ∀ t v, Env.get L t = some v → args[t]? = some v)
    (h : TW { P := P, f := f, fn := fn, R := R, hf := hf } n [] [.code c] L w) : Calls P f args.toArray w R := calls_of_twD false hf hb L n hn hl hL h
end Go.Lk
